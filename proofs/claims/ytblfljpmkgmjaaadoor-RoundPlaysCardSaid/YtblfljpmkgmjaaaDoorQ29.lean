/- asks: what both rounds tell is the same. -/
import Derived.Test.YtblfljpmkgmjaaaDoorQ25
import Derived.RangeFuncBox
import Derived.Maps.OwnIn
namespace Go.Proofs.YtblfljpmkgmjaaaDoor
open Go.RowKit Go.Shelf
variable {K : Nat → Prop}

attribute [local go_sem] Oper.semAt_some

set_option maxRecDepth 100000 in
set_option maxHeartbeats 6400000 in
theorem asks_any {G : List Nat} {E : Nat → Addr} (W0 : World) (hE : EAt G E W0) (i6 : 6 ∈ G) (R : Rnd) (M : RnM) (w : World) (rb ab mb : Nat) (h : Pair K w rb ab mb R M) (g0 : Gr W0 w) :
    Calls Tryd.prog 30 #[.pointer (some ⟨rb, 0, none⟩), .pointer (some ⟨mb, 0, none⟩)] w fun e w' => e = .returned (.bool true) ∧ Gr w w' := by
  have hl1 := rledger_any M w mb h.m
  obtain ⟨la, lc, ML, hML, hLM, hmp⟩ : ∃ (la : Option Addr) (lc : Nat) (ML : List EntM), (if M.v.told then Value.slice M.la M.led.length M.lc else .slice none 0 0) = .slice la ML.length lc ∧ LedM Any w la ML ∧ ML.map (·.e) = M.v.ledger := by
    unfold RndV.ledger
    cases M.v.told with
    | true => exact ⟨M.la, M.lc, M.led, rfl, h.m.l.any, rfl⟩
    | false => exact ⟨none, 0, [], rfl, LedM.nil _ _ _, rfl⟩
  rw [hML] at hl1
  have hv := h.v
  have hvs : R.st = M.st := by rw [show R.st = R.v.st from rfl, hv]
  have hvb : R.bal = M.bal := by rw [show R.bal = R.v.bal from rfl, hv]
  have hvn : R.begun = M.begun := by rw [show R.begun = R.v.begun from rfl, hv]
  have hva : R.an.length = M.nd := by rw [show R.an = R.v.an from rfl, hv]; exact ansOf_len ..
  have k1 : ∀ w', Gr w w' → Calls Tryd.prog 16 #[.pointer (some ⟨rb, 0, none⟩)] w' fun e w'' => e = .returned (.int .i64 M.st) ∧ w' = w'' := fun w' g => by rw [← hvs]; exact stage_any R w' rb ab (h.r.gr g)
  have k2 : ∀ w', Gr w w' → Calls Tryd.prog 64 #[.pointer (some ⟨rb, 0, none⟩)] w' fun e w'' => e = .returned (.agg #[.int .i64 M.bal.r, .int .i64 M.bal.n]) ∧ Gr w' w'' := fun w' g => by rw [← hvb]; exact ballot_any R w' rb ab (h.r.gr g)
  have k3 : ∀ w', Gr w w' → Calls Tryd.prog 65 #[.pointer (some ⟨rb, 0, none⟩)] w' fun e w'' => e = .returned (.int .i64 M.begun) ∧ w' = w'' := fun w' g => by rw [← hvn]; exact begun_any R w' rb ab (h.r.gr g)
  have k4 : ∀ w', Gr w w' → Calls Tryd.prog 23 #[.pointer (some ⟨rb, 0, none⟩)] w' fun e w'' => e = .returned (.int .i64 M.v.place) ∧ Gr w' w'' := fun w' g => by rw [← hv]; exact place19_any W0 hE i6 R w' rb ab (h.r.gr g) (g0.trans g)
  have k5 : ∀ w', Gr w w' → Calls Tryd.prog 66 #[.pointer (some ⟨rb, 0, none⟩)] w' (OverP (ints (M.v.missTo M.nd)) w') := fun w' g => by rw [← hva, ← hv]; exact missing_any R w' rb ab (h.r.gr g)
  have k6 : ∀ w', Gr w w' → Calls Tryd.prog 68 #[.pointer (some ⟨mb, 0, none⟩)] w' (NumL (M.v.missTo M.nd) w') := fun w' g => rmissing_any M w' mb (h.m.gr g)
  have k7 : ∀ w', Gr w w' → Calls Tryd.prog 22 #[.pointer (some ⟨rb, 0, none⟩)] w' (NewW M.v.ledger w') := fun w' g => by rw [← hv]; exact ledgerW_any R w' rb ab (h.r.gr g)
  obtain ⟨Z, hZ⟩ : ∃ Z, Z = M.v.missTo M.nd := ⟨_, rfl⟩
  rw [← hZ] at k5 k6
  have hZ7 : Z.length ≤ 7 := by have := M.v.missTo_len M.nd; have := h.m.n7; rw [hZ]; omega
  obtain ⟨P, hP⟩ : ∃ P, P = M.v.place := ⟨_, rfl⟩
  rw [← hP] at k4 hl1
  have hom := h.m.o
  have hLc : ML.length * 96 ≤ 140737488351232 := by
    have := h.m.cap
    have h1 : ML.length = M.v.ledger.length := by rw [← hmp, List.length_map]
    have h2 : M.v.ledger.length ≤ M.led.length := by unfold RndV.ledger; split <;> simp
    omega
  replace hom := Lib.hid hom
  replace hZ := Lib.hid hZ
  replace hP := Lib.hid hP
  replace hl1 := Lib.hid hl1
  replace hLM := Lib.hid hLM
  replace hmp := Lib.hid hmp
  replace h := Lib.hid h
  replace k1 := Lib.hid k1
  replace k2 := Lib.hid k2
  replace k3 := Lib.hid k3
  replace k4 := Lib.hid k4
  replace k5 := Lib.hid k5
  replace k6 := Lib.hid k6
  replace k7 := Lib.hid k7
  clear hML hv hvs hvb hvn hva
  refine (callsIn_wide (n := 3)).1 ?_
  refine callsIn_of_wp_marks Tryd.func30 rfl trivial ?_ rfl
  simp only [Tryd.ntmps30, List.size_toArray, List.length_cons, List.length_nil, Nat.reduceAdd, Nat.reduceSub, Array.replicate_succ, Array.replicate_zero, List.push_toArray, List.append_toArray, List.nil_append, List.cons_append]
  refine (wpIn_wide (n := 3)).2 ?_
  go_wp2_with fail
  refine (hl1.out).mono ?_
  rintro e w1 ⟨rfl, g1⟩
  obtain ⟨c1, f1, s1⟩ := g1.cells
  try simp only [size_drewN] at c1 f1 s1
  try simp only [World.size_alloc] at c1 f1 s1
  try simp only [World.size_drew] at c1 f1 s1
  try simp only [World.size_setCell] at c1 f1 s1
  go_wp2_with fail
  refine (k7.out w1 g1).mono ?_
  rintro e w2 ⟨a2, c2, L2, rfl, m2, wl2, n2, q2, q3, g2⟩
  have gw2 : Gr w w2 := g1.trans g2
  have hL2 : L2.length = ML.length := by simpa using (congrArg List.length (m2.trans hmp.out.symm))
  have hO2 := hom.out.gr gw2
  have c14 := GrW.cell (hO2.cell (i := 14) (v := .int .i64 M.st) rfl)
  have c12 := GrW.cell (hO2.cell (i := 12) (v := .int .i64 M.bal.r) rfl)
  have c13 := GrW.cell (hO2.cell (i := 13) (v := .int .i64 M.bal.n) rfl)
  have c19 := GrW.cell (hO2.cell (i := 19) (v := .int .i64 M.begun) rfl)
  have hsl := fun w' (g : Gr w2 w') => sameLedger_eq a2 la c2 lc L2 ML w' (wl2.1.any.gr g) ((hLM.out.gr gw2).gr g) (m2.trans hmp.out.symm) (by rw [hL2]; unfold maxLen; omega)
  rw [hL2] at hsl
  rw [hL2]
  replace hL2 := Lib.hid hL2
  replace hO2 := Lib.hid hO2
  replace hsl := Lib.hid hsl
  replace m2 := Lib.hid m2
  replace wl2 := Lib.hid wl2
  replace n2 := Lib.hid n2
  replace q2 := Lib.hid q2
  replace q3 := Lib.hid q3
  go_upto_region 3 with fail
  refine wp_region_grows (by kernel_rfl) (by kernel_rfl) ?_
  repeat (any_goals (first | go_big_quiet_step (first | (go_at_call 16; exact Calls.grows_same (k1.out _ (gw2.trans (GrW.gr _)))) | (go_at_call 64; exact Calls.grows (k2.out _ (gw2.trans (GrW.gr _)))) | (go_at_call 65; exact Calls.grows_same (k3.out _ (gw2.trans (GrW.gr _)))) | (go_at_call 23; exact Calls.grows (k4.out _ (gw2.trans (GrW.gr _)))) | (go_at_call 21; exact Calls.grows (hsl.out _ (GrW.gr _))) | fail) | quiet_step (first | (go_at_call 16; exact Calls.grows_same (k1.out _ (gw2.trans (GrW.gr _)))) | (go_at_call 64; exact Calls.grows (k2.out _ (gw2.trans (GrW.gr _)))) | (go_at_call 65; exact Calls.grows_same (k3.out _ (gw2.trans (GrW.gr _)))) | (go_at_call 23; exact Calls.grows (k4.out _ (gw2.trans (GrW.gr _)))) | (go_at_call 21; exact Calls.grows (hsl.out _ (GrW.gr _))) | fail)))
  refine wpQuiet_nil ?_
  intro wz hwq
  have gz := GrW.of hwq
  clear hwq
  obtain ⟨cz, fz, sz⟩ := gz.cells
  try simp only [size_drewN] at cz fz sz
  try simp only [World.size_alloc] at cz fz sz
  try simp only [World.size_drew] at cz fz sz
  try simp only [World.size_setCell] at cz fz sz
  go_wp2_with fail
  obtain ⟨B, hB⟩ : ∃ B, w1.heap.size = B := ⟨_, rfl⟩
  obtain ⟨C, hC⟩ : ∃ C, w2.heap.size = C := ⟨_, rfl⟩
  have hs0 : L2 = [] ∨ ∃ g off, a2 = some ⟨g, off, none⟩ ∧ Scr B C wz g off L2 := by
    by_cases hne : L2 = []
    · exact .inl hne
    · obtain ⟨g, off, e, hscr⟩ := wl2.out.scr hne
      refine .inr ⟨g, off, e, ?_⟩
      rw [← hB, ← hC]
      exact hscr.grx (T := []) (Nat.le_refl _) (fun y hy => by cases hy) (gz.x [])
  have hwB : w.heap.size ≤ B := by have := g1.size; omega
  replace hs0 := Lib.hid hs0
  replace hB := Lib.hid hB
  replace hC := Lib.hid hC
  replace hwB := Lib.hid hwB
  clear c12 c13 c14 c19 cz fz sz c1 f1 s1
  go_loopw [58] (fun iv wr => ∃ k : Nat, k ≤ ML.length ∧ iv = .int .i64 k ∧ Hid (L2 = [] ∨ ∃ g off, a2 = some ⟨g, off, none⟩ ∧ Scr B C wr g off L2) ∧ GrX (upTo B C) wz wr) (fun iv _ => ML.length - (intOf iv).toNat)
  case atStart => exact ⟨0, Nat.zero_le _, rfl, hs0, GrX.refl _ _⟩
  case round =>
    obtain ⟨k, hk, rfl, hs, hgs⟩ := hrel
    by_cases hlt : k < ML.length
    · obtain ⟨g, off, rfl, hsx⟩ := hs.out.resolve_left (fun e => by have := hL2.out; rw [e] at this; simp at this; omega)
      replace hsx := Lib.hid hsx
      clear hs
      obtain ⟨x, hx⟩ := get_some L2 k (by rw [hL2.out]; exact hlt)
      have c8 := hsx.out.sl k x hx
      have tk : (k : Int) < ML.length := by omega
      have hxm := ent_cap (wl2.out.1.2 x (List.mem_of_getElem? hx))
      obtain ⟨wo, rfl⟩ : ∃ wo : World, wo = wr := ⟨_, rfl⟩
      replace hx := Lib.hid hx
      go_wp2_with fail
      go_loopw [68] (fun jv wr => ∃ j : Nat, j ≤ x.e.tasks.length ∧ jv = .int .i64 j ∧ Hid (Scr B C wr g off L2) ∧ GrX (upTo B C) wz wr) (fun jv _ => x.e.tasks.length - (intOf jv).toNat)
      case atStart => exact ⟨0, Nat.zero_le _, rfl, hsx, hgs⟩
      case round =>
        obtain ⟨j, hj, rfl, hs2, hgs2⟩ := hrel
        have e8 := hs2.out.sl k x hx.out
        by_cases hjl : j < x.e.tasks.length
        · obtain ⟨bb, oo, v, hxa, hbg, hbB, hcv, hfr⟩ := hs2.out.tk x (List.mem_of_getElem? hx.out) j hjl
          have tj : (j : Int) < x.e.tasks.length := by omega
          rw [hxa] at e8
          replace hxa := Lib.hid hxa
          replace hbg := Lib.hid hbg
          replace hbB := Lib.hid hbB
          go_wp2_with fail
          go_roundw
          case rel => exact ⟨j + 1, by omega, by go_num, Lib.hid (hs2.out.set _ _ (.inl hbg.out)), hgs2.set (.inl (mem_upTo.2 hbB.out)) _⟩
          case measure => simp [intOf]; omega
        · have tj : ¬ (j : Int) < x.e.tasks.length := by omega
          have tj2 : decide ((j : Int) < x.e.tasks.length) = false := decide_eq_false tj
          obtain ⟨v, hcv⟩ := hs2.out.cl k x hx.out
          have hfr := hs2.out.fr (off + k * 10)
          have hgb := hs2.out.hB
          replace hgb := Lib.hid hgb
          go_wp2_with fail
          go_roundw
          case rel => exact ⟨k + 1, by omega, by go_num, Lib.hid (.inr ⟨g, off, rfl, hs2.out.set _ _ (.inr ⟨k, rfl⟩)⟩), hgs2.set (.inl (mem_upTo.2 hgb.out)) _⟩
          case measure => simp [intOf]; omega
    · have tk : ¬ (k : Int) < ML.length := by omega
      have tk2 : decide ((k : Int) < ML.length) = false := decide_eq_false tk
      have gwr : Gr w wr := hgs.all (gw2.trans gz) (fun y hy => by have := (mem_upTo.1 hy).1; have := hwB.out; omega)
      have gw9 : Gr w ((wr.alloc (.cells #[] 3)).alloc (.cells #[.slice (some ⟨wr.heap.size, 0, none⟩) 0 0] 23)) := (gwr.alloc _).alloc _
      clear hgs hs
      replace gwr := Lib.hid gwr
      go_wp2_with fail
      refine (k5.out _ gw9).mono ?_
      rintro e w9 ⟨Bs, sv, b, rfl, hBs, hcs, hVA, hbl, hbw, g9⟩
      have hbox0 : Boxed w9 (wr.heap.size + 1) 23 (.slice (some ⟨wr.heap.size, 0, none⟩) 0 0) := by
        have h1 := (Blk.new (wr.alloc (.cells #[] 3)) #[.slice (some ⟨wr.heap.size, 0, none⟩) 0 0] 23).gr g9
        rw [World.size_alloc] at h1
        exact h1
      have hgz := gwr.out.size
      have hrow0 : w9.ownsRow w.heap.size 3 1 (.slice (some ⟨wr.heap.size, 0, none⟩) 0 0) ([] : List Int).length (([] : List Int).flatMap inC) := owns_gr (owns_gr (owns_empty (α := Int) (enc := inC) wr 3 1 (.cells #[] 3) rfl w.heap.size hgz) ((Gr.refl _).alloc _)) g9
      have gU : Gr w w9 := gw9.trans g9
      have hle9 := gU.size
      simp only [World.size_alloc] at hbl
      have hbn : (Value.slice (some ⟨wr.heap.size, 0, none⟩) 0 0).ownBlock ≠ some b := fun e => by
        injection e with e1
        have e2 : wr.heap.size = b := e1
        omega
      have hz7 : (ints Z).length = Z.length := List.length_map ..
      replace hVA := Lib.hid hVA
      replace hbox0 := Lib.hid hbox0
      replace hrow0 := Lib.hid hrow0
      replace hbn := Lib.hid hbn
      replace hz7 := Lib.hid hz7
      go_wp2_with fail
      obtain ⟨i0, hi, hz0, hz1, hz2⟩ := info_parts Tryd.infoI
      refine (wpIn_wide (n := 3)).1 ?_
      refine wpIn_rangeFunc_ownG (n := 3) rfl (by decide) (gf := 118) (lb := #[.pointer (some ⟨Bs, 0, none⟩)]) rfl trivial (enters_of Tryd.func118 (by kernel_rfl) rfl)
        (vk_values_stops Fence.wide 2 trivial rfl (by decide) Bs b sv (ints Z) (by rw [hz7.out]; omega) w9 hBs hbw hcs hVA.out) keepB_t (keepB_b hbw) (Below.refl _ _) (fun _ => rfl)
        (fun (pre : List Int) W => (∃ v, Boxed W (wr.heap.size + 1) 23 v ∧ W.ownsRow w.heap.size 3 1 v pre.length (pre.flatMap inC) ∧ v.ownBlock ≠ some b) ∧ Below w.heap.size w9 W)
        (fun _ _ _ => False)
        (OwnFrom.and (Own.from (holdsRow_own w.heap.size (wr.heap.size + 1) 23 3 1 (fun (pre : List Int) => pre.length) (fun pre => pre.flatMap inC) (fun pre v => v.ownBlock ≠ some b)) _) (ownFrom_below hle9 hle9))
        (fun _ _ _ _ _ hs _ _ => hs)
        ⟨⟨_, hbox0.out, hrow0.out, hbn.out⟩, Below.refl _ _⟩
        ?a1 ?assign ?body ?done ?stop
      case assign =>
        intro l x W K hK
        gi_wp2
        exact hK
      case body =>
        rintro l pre x W ⟨⟨v, hv, hrow, hnb⟩, hB⟩ hlt
        have hc := hv.cell
        have hne : (wr.heap.size + 1) ≠ b := by omega
        gi_wp2_with (gi_at_builtin; refine wpListIn_append_own_at _ rfl _ _ 23 rfl w.heap.size 3 i0 (.int .i64 0) 1 8 Tryd.underlying23 hi hz0 hz1 hz2 rfl (by decide) _ _ _ rfl (hrow.alloc _) ⟨W.heap.size, 0, none⟩ 1 1 [.int .i64 x] rfl rfl (cell_one_new _ _ _) (by simp [Value.oneCell']) (by rw [hz7.out] at hlt; unfold maxLen; omega) (by rw [hz7.out] at hlt; omega) (by have := hB.size; simp; omega) ?_; intro v' w1 hown' hgrow _ hat; obtain ⟨g', cap', rfl⟩ := ownsRow_succ hown'; obtain ⟨hv1, hv2, hr2, hk2, hb2⟩ := hv.appended (by decide) hrow (Nat.le_trans hle9 hB.size) (by omega) hown' hgrow; have hc1 := hv1.cell; have hf1 := hv1.frozen)
        have hbW : b < W.heap.size := Nat.lt_of_lt_of_le hbw hB.size
        refine ⟨hk2.from _, ?_, ⟨⟨_, hv2, ?_, ?_⟩, hB.trans hb2⟩⟩
        · unfold KeepB
          rw [heap_setCell_other _ _ _ _ (by show b ≠ wr.heap.size + 1; omega), hgrow.block b (by simp; omega) (fun e => hnb e.symm)]
          exact ((Gr.refl W).alloc _).block b hbW
        · rw [List.length_append, List.flatMap_append]
          exact hr2
        · rcases hat with h1 | h1
          · rw [h1]; exact hnb
          · rw [h1, World.size_alloc]
            intro e
            injection e with e1
            omega
      case done =>
        rintro D ys W hD rfl ⟨⟨v, hv, hrow, hnb⟩, hB⟩ hK
        obtain ⟨a8, c8, rfl, hr8, hn8, -⟩ := recs_of_owns inC_len hrow
        have gW : Gr w W := Below.trans gU hB
        have hc := hv.cell
        have hvl := hv.lt
        rw [hz7.out] at hc
        have gd : Gr W W.drew := (Gr.refl W).drew
        have hc2 := hc
        have hr9 : ∀ w', Gr W w' → RecsAt 1 inC w' a8 (ints Z) := fun w' g => (RecsIn.grx (K := Any) ⟨hr8, fun _ _ _ => trivial⟩ (g.x []) (fun _ h => by cases h)).1
        replace hr9 := Lib.hid hr9
        replace hr8 := Lib.hid hr8
        replace gd := Lib.hid gd
        clear hv hrow hnb
        go_upto_region 18 with fail
        go_region_held3 (fun w' => w'.cell? ⟨wr.heap.size + 1, 0, none⟩ = some (.slice a8 Z.length c8)) (simp (maxDischargeDepth := 8) [go_sem, *])
          (first
            | (go_at_call 68; (with_reducible refine (k6.out _ (gW.trans gd.out)).mono ?_); rintro e w3 ⟨a3, c3, rfl, hr3, g3⟩; have hc3 := ((gd.out.trans g3).cells.1 _ 0 hvl).trans hc; replace hr3 := Lib.hid hr3)
            | (go_at_call 67; (with_reducible refine (sameInts_eq a8 a3 c8 c3 Z.length (ints Z) w3 (hr9.out _ (gd.out.trans g3)) hr3.out hz7.out (by omega)).mono ?_); rintro e w4 ⟨rfl, g4⟩; have hc4 := ((gd.out.trans (g3.trans g4)).cells.1 _ 0 hvl).trans hc)
            | fail)
        go_wp2_with fail
        have g5 : Gr W w4 := gd.out.trans (g3.trans g4)
        have hDl : D < W.heap.size := (Array.getElem?_eq_some_iff.1 hK).1
        have hK5 : w4.heap[D]? = some (.deferred (some [])) := (g5.block D hDl).trans hK
        refine ⟨by simp, .inl ⟨_, _, rfl, run_takeDeferred hK5, ?_⟩⟩
        exact ⟨_, results_tmp rfl _ _ _, rfl, Below.trans (gW.trans g5) (belowK_b (w := w) (Nat.le_refl _) w4 D _ _ (by omega) hK5 rfl rfl)⟩
      case stop =>
        rintro D c pre W _ _ h _
        exact h.elim
end Go.Proofs.YtblfljpmkgmjaaaDoor
