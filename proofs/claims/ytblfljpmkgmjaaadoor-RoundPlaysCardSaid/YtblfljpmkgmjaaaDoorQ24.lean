/- play: Promise. Printed by gen_q24.py. -/
import Derived.Test.YtblfljpmkgmjaaaDoorQ23
namespace Go.Proofs.YtblfljpmkgmjaaaDoor
open Go.RowKit
variable {K : Nat → Prop}

theorem promise_begun (r : RndV) (fr : Int) (b acc : Bal) (l : List Ent) : (r.promise fr b acc l).2.begun = r.begun := by
  unfold RndV.promise RndV.hearNew RndV.note RndV.tell RndV.clr
  split
  · dsimp only
    repeat' split
    all_goals rfl
  · rfl
theorem grx_trans2 {S T : List Nat} {a b c : World} (h : GrX S a b) (g : GrX T b c) (hT : ∀ x, x ∈ T → x ∈ S ∨ a.heap.size ≤ x) : GrX S a c :=
  ⟨g.os.trans h.os, g.tape.trans h.tape, g.output.trans h.output, Nat.le_trans h.size g.size, fun k hk hn => (g.block k (Nat.lt_of_lt_of_le hk h.size) (fun hx => by rcases hT k hx with h1 | h1; exact hn h1; omega)).trans (h.block k hk hn)⟩
/-- Numbers from B up to C. -/
def upTo (B C : Nat) : List Nat := (List.range C).filter fun y => decide (B ≤ y)
theorem mem_upTo {B C y : Nat} : y ∈ upTo B C ↔ B ≤ y ∧ y < C := by simp [upTo]; omega
set_option maxRecDepth 100000 in
set_option maxHeartbeats 6400000 in
theorem play_promise {G : List Nat} {E : Nat → Addr} (W0 : World) (hE : EAt G E W0) (i6 : 6 ∈ G) (i8 : 8 ∈ G) (R : Rnd) (M : RnM) (w : World) (rb ab mb : Nat) (h : Pair K w rb ab mb R M) (g0 : Gr W0 w) (hrb : W0.heap.size ≤ rb) (hab : W0.heap.size ≤ ab) (hK : ∀ b, w.heap.size ≤ b → K b) (wh fr : Int) (b acc : Bal) (a : Option Addr) (c : Nat) (L : List EntM) (hL : LedM (fun b => b ∉ pairT rb ab mb M) w a L) (hcap : L.length * 96 ≤ 140737488351232) :
    Calls Tryd.prog 29 #[.pointer (some ⟨rb, 0, none⟩), .pointer (some ⟨mb, 0, none⟩), .agg #[.int .i64 2, .int .i64 wh, .int .i64 fr, .int .i64 b.r, .int .i64 b.n, .int .i64 acc.r, .int .i64 acc.n, .slice a L.length c]] w (PlayP K rb ab mb R M w) := by
  obtain ⟨W, hW⟩ : ∃ W, W = w.alloc (.cells #[.int .i64 2, .int .i64 wh, .int .i64 fr, .int .i64 b.r, .int .i64 b.n, .int .i64 acc.r, .int .i64 acc.n, .slice a L.length c] 67) := ⟨_, rfl⟩
  have g1 : Gr w W := by rw [hW]; exact (Gr.refl w).alloc _
  have hO : Blk W w.heap.size #[.int .i64 2, .int .i64 wh, .int .i64 fr, .int .i64 b.r, .int .i64 b.n, .int .i64 acc.r, .int .i64 acc.n, .slice a L.length c] 67 := by rw [hW]; exact Blk.new w _ _
  have h1 := h.gr g1
  have zr := h.r.o.lt
  have za := h.r.b.lt
  have hol := fun y (hy : y ∈ M.own mb) => h.m.ltOwn hy
  have hOg := fun T w' (g : GrX T W w') (hT : w.heap.size ∉ T) => hO.grx g hT
  have hLW := hL.gr g1
  have hcp := rcopyW_any a c L W hLW.any hcap
  have gW0 : Gr W0 W := g0.trans g1
  obtain ⟨V, hV⟩ : ∃ V, V = R.v.promise fr b acc (L.map (·.e)) := ⟨_, rfl⟩
  have hVb : V.2.begun = R.begun := by rw [hV, promise_begun]
  have hT1 : w.heap.size ∉ [rb, ab] := by simp; omega
  have hT2 : w.heap.size ∉ M.own mb := fun hm => by have := hol _ hm; omega
  have tt : (V.1 == V.1) = true := by simp
  have hWz : W.heap.size = w.heap.size + 1 := by rw [hW]; simp
  have c0 := hO.cell (i := 0) (v := .int .i64 2) rfl
  have c7 := hO.cell (i := 7) (v := .slice a L.length c) rfl
  replace hVb := Lib.hid hVb
  replace hV := Lib.hid hV
  replace hW := Lib.hid hW
  replace hO := Lib.hid hO
  replace hcp := Lib.hid hcp
  replace hT1 := Lib.hid hT1
  replace hT2 := Lib.hid hT2
  replace hWz := Lib.hid hWz
  replace hL := Lib.hid hL
  replace hLW := Lib.hid hLW
  replace hol := Lib.hid hol
  replace hOg := Lib.hid hOg
  go_enter Tryd.func29, Tryd.ntmps29
  go_upto_region 1 with fail
  rw [← hW.out]
  go_wp2_with fail
  refine hcp.out.mono ?_
  rintro e w2 ⟨a2, c2, L2, rfl, m2, wl2, n2, q2, q3, g2⟩
  have hL2 : L2.length = L.length := by simpa using congrArg List.length m2
  obtain ⟨B, hB⟩ : ∃ B, W.heap.size = B := ⟨_, rfl⟩
  obtain ⟨C, hC⟩ : ∃ C, w2.heap.size = C := ⟨_, rfl⟩
  have hBC : B ≤ C := by have := g2.size; omega
  have h2 : Pair (fun b => K b ∧ b ∉ upTo B C) w2 rb ab mb R M := (h1.mono (fun b hb hk => ⟨hk, fun hm => by have := mem_upTo.1 hm; omega⟩)).gr g2
  have gd : Gr w2 w2.drew := (Gr.refl w2).drew
  have hwB := hWz.out
  have hpr := promise_any W0 hE i6 i8 R fr b acc a2 c2 L2 w2.drew rb ab (K0 := fun b => b ∉ M.own mb ∧ K b ∧ b ∉ upTo B C) (fun b hb => ⟨fun hm => by have := hol.out b hm; simp at hb; omega, hK b (by simp at hb; omega), fun hm => by have := mem_upTo.1 hm; simp at hb; omega⟩) (h2.r.gr gd) ((gW0.trans g2).trans gd) hrb hab ((wl2.1.gr gd).mono (fun b _ hb => by constructor <;> omega)) (by rw [hL2]; exact hcap)
  rw [m2, ← hV.out] at hpr
  have hrp := fun w3 (g : GrX [rb, ab] w2.drew w3) (hm : RnAt (fun b => b ≠ rb ∧ b ≠ ab ∧ K b ∧ b ∉ upTo B C) w3 mb M) => rpromise_any M fr b acc a c L w3 mb (fun b hb => by
    have hs := g.size
    simp at hs
    exact ⟨by omega, by omega, hK b (by omega), fun hm => by have := mem_upTo.1 hm; omega⟩) hm (((hLW.out.gr (g2.trans gd)).grx g (fun y hy hk => hk (pairT_r y hy))).mono (fun b _ hk => fun hm => hk (List.mem_cons_of_mem _ (List.mem_cons_of_mem _ hm)))) hcap
  rw [← h.v, ← hV.out] at hrp
  have hbr := fun w3 R3 hr (g : GrX [rb, ab] w2.drew w3) => (h2.gr gd).byR (w' := w3) (R' := R3) hr g
  have hsl := fun w4 (g : GrX (pairT rb ab mb M) w2 w4) => sameLedger_eq a2 a c2 c L2 L w4 ((wl2.1.mono (K' := fun b => b ∉ pairT rb ab mb M) (fun b _ hb hm => by
    rcases List.mem_cons.1 hm with rfl | hm
    · omega
    · rcases List.mem_cons.1 hm with rfl | hm
      · omega
      · have := hol.out _ hm; omega)).grx g (fun y hy hk => hk hy)).any ((hLW.out.gr g2).grx g (fun y hy hk => hk hy)).any m2 (by rw [hL2]; unfold maxLen; omega)
  have hO2 := hO.out.gr g2
  rw [hL2] at hsl hpr
  have d2 := hO2.cell (i := 2) (v := .int .i64 fr) rfl
  have d3 := hO2.cell (i := 3) (v := .int .i64 b.r) rfl
  have d4 := hO2.cell (i := 4) (v := .int .i64 b.n) rfl
  have d5 := hO2.cell (i := 5) (v := .int .i64 acc.r) rfl
  have d6 := hO2.cell (i := 6) (v := .int .i64 acc.n) rfl
  have d7 := hO2.cell (i := 7) (v := .slice a L.length c) rfl
  replace hpr := Lib.hid hpr
  replace hrp := Lib.hid hrp
  replace hbr := Lib.hid hbr
  replace hsl := Lib.hid hsl
  replace h2 := Lib.hid h2
  replace h1 := Lib.hid h1
  replace h := Lib.hid h
  replace wl2 := Lib.hid wl2
  replace m2 := Lib.hid m2
  replace hB := Lib.hid hB
  replace hC := Lib.hid hC
  replace hL2 := Lib.hid hL2
  replace gd := Lib.hid gd
  replace hO2 := Lib.hid hO2
  replace hwB := Lib.hid hwB
  rw [hL2.out]
  clear c0 c7
  go_upto_region 6 with fail
  go_region_held3 (fun w' => w'.cell? ⟨w.heap.size, 2, none⟩ = some (.int .i64 fr) ∧ w'.cell? ⟨w.heap.size, 3, none⟩ = some (.int .i64 b.r) ∧ w'.cell? ⟨w.heap.size, 4, none⟩ = some (.int .i64 b.n) ∧ w'.cell? ⟨w.heap.size, 5, none⟩ = some (.int .i64 acc.r) ∧ w'.cell? ⟨w.heap.size, 6, none⟩ = some (.int .i64 acc.n) ∧ w'.cell? ⟨w.heap.size, 7, none⟩ = some (.slice a L.length c)) (simp (maxDischargeDepth := 8) [go_sem, *])
    (first
      | (go_at_call 18; (with_reducible refine hpr.out.mono ?_); rintro e w3 ⟨rfl, R3, hR3, hv3, gx3⟩; have hM3 := hbr.out w3 R3 hR3 gx3; have hO3 := (hO2.out.gr gd.out).grx gx3 hT1.out; have e_2 := hO3.cell (i := 2) (v := .int .i64 fr) rfl; have e_3 := hO3.cell (i := 3) (v := .int .i64 b.r) rfl; have e_4 := hO3.cell (i := 4) (v := .int .i64 b.n) rfl; have e_5 := hO3.cell (i := 5) (v := .int .i64 acc.r) rfl; have e_6 := hO3.cell (i := 6) (v := .int .i64 acc.n) rfl; have e_7 := hO3.cell (i := 7) (v := .slice a L.length c) rfl; replace hR3 := Lib.hid hR3; replace hv3 := Lib.hid hv3; replace hM3 := Lib.hid hM3; replace hO3 := Lib.hid hO3)
      | (go_at_call 61; (with_reducible refine (hrp.out w3 gx3 hM3.out).mono ?_); rintro e w4 ⟨rfl, M4, hM4, hv4, gx4, ho4⟩; have gp4 : GrX (pairT rb ab mb M) w2 w4 := ((gd.out.x _).trans (gx3.mono pairT_r)).trans (gx4.mono (fun x hx => List.mem_cons_of_mem _ (List.mem_cons_of_mem _ hx))); have hO4 := hO3.out.grx gx4 hT2.out; have j2 := hO4.cell (i := 2) (v := .int .i64 fr) rfl; have j3 := hO4.cell (i := 3) (v := .int .i64 b.r) rfl; have j4 := hO4.cell (i := 4) (v := .int .i64 b.n) rfl; have j5 := hO4.cell (i := 5) (v := .int .i64 acc.r) rfl; have j6 := hO4.cell (i := 6) (v := .int .i64 acc.n) rfl; have j7 := hO4.cell (i := 7) (v := .slice a L.length c) rfl; replace hM4 := Lib.hid hM4; replace hv4 := Lib.hid hv4; replace ho4 := Lib.hid ho4; replace hO4 := Lib.hid hO4)
      | (go_at_call 21; (with_reducible refine (hsl.out w4 gp4).mono ?_); rintro e w5 ⟨rfl, g5⟩; have hO5 := hO4.out.gr g5; have l_2 := hO5.cell (i := 2) (v := .int .i64 fr) rfl; have l_3 := hO5.cell (i := 3) (v := .int .i64 b.r) rfl; have l_4 := hO5.cell (i := 4) (v := .int .i64 b.n) rfl; have l_5 := hO5.cell (i := 5) (v := .int .i64 acc.r) rfl; have l_6 := hO5.cell (i := 6) (v := .int .i64 acc.n) rfl; have l_7 := hO5.cell (i := 7) (v := .slice a L.length c) rfl; replace hO5 := Lib.hid hO5)
      | fail)
  have hsz4 := gp4.size
  have hwC := hC.out
  have hwB2 := hB.out
  have hsz5 := g5.size
  have hfin : ∀ wr, GrX (upTo B C) w5 wr → PlayP K rb ab mb R M w (.returned (.bool true)) wr := fun wr gs => by
    have hp4 := pair_byM hR3.out h.out.dr h.out.da hM4.out gx4 ho4.out (by rw [hv3.out, hv4.out])
    have hs3 := gx3.size
    simp at hs3
    have hww := hwB.out
    have hp := (hp4.gr g5).away gs (fun y hy hm => by
      have h1 := mem_upTo.1 hy
      rcases List.mem_cons.1 hm with rfl | hm
      · omega
      · rcases List.mem_cons.1 hm with rfl | hm
        · omega
        · rcases ho4.out y hm with h2 | h2
          · have := hol.out _ h2; omega
          · omega) (fun y hy hk => hk.2 hy)
    have hbb : R3.begun = R.begun := by rw [← hVb.out, ← hv3.out]
    refine ⟨rfl, R3, M4, hp.mono (fun b _ hk => hk.1), ?_, fun y hy => ?_, by omega, by omega⟩
    · exact grx_trans2 ((((g1.trans g2).x _).trans gp4).trans (g5.x _)) gs (fun x hx => .inr (by have := mem_upTo.1 hx; omega))
    · rcases ho4.out y hy with h1 | h1
      · exact .inl h1
      · exact .inr (by omega)
  replace hfin := Lib.hid hfin
  clear d2 d3 d4 d5 d6 d7 e_2 e_3 e_4 e_5 e_6 e_7 j2 j3 j4 j5 j6 j7 l_2 l_3 l_4 l_5 l_6 l_7
  by_cases hne : L2 = []
  · have hl0 : L.length = 0 := by rw [← hL2.out, hne]; rfl
    replace hne := Lib.hid hne
    rw [hl0]
    replace hl0 := Lib.hid hl0
    go_wp2_with fail
    go_loopw [58] (fun iv wr => iv = .int .i64 0 ∧ w5 = wr) (fun _ _ => 0)
    case atStart => exact ⟨rfl, rfl⟩
    case round =>
      obtain ⟨rfl, rfl⟩ := hrel
      go_wp2_with fail
      go_ret
      exact hfin.out _ (GrX.refl _ _)
  · obtain ⟨g, off, rfl, hscr⟩ := wl2.out.scr hne
    have hs5 : Scr B C w5 g off L2 := by
      rw [hB.out, hC.out] at hscr
      exact ((hscr.grx (by omega) (fun y hy => by
        have hww := hwB.out
        rcases List.mem_cons.1 hy with rfl | hy
        · omega
        · rcases List.mem_cons.1 hy with rfl | hy
          · omega
          · have := hol.out _ hy; omega) gp4).grx (T := []) (by omega) (fun y hy => by cases hy) (g5.x []))
    replace hs5 := Lib.hid hs5
    replace hne := Lib.hid hne
    clear hscr
    go_wp2_with fail
    go_loopw [58] (fun iv wr => ∃ k : Nat, k ≤ L.length ∧ iv = .int .i64 k ∧ Hid (Scr B C wr g off L2) ∧ GrX (upTo B C) w5 wr) (fun iv _ => L.length - (intOf iv).toNat)
    case atStart => exact ⟨0, Nat.zero_le _, rfl, hs5, GrX.refl _ _⟩
    case round =>
      obtain ⟨k, hk, rfl, hs, hgs⟩ := hrel
      by_cases hlt : k < L.length
      · obtain ⟨x, hx⟩ := get_some L2 k (by rw [hL2.out]; exact hlt)
        have c8 := hs.out.sl k x hx
        have tk : (k : Int) < L.length := by omega
        have hxm := ent_cap (wl2.out.1.2 x (List.mem_of_getElem? hx))
        obtain ⟨wo, rfl⟩ : ∃ wo : World, wo = wr := ⟨_, rfl⟩
        replace hx := Lib.hid hx
        go_wp2_with fail
        go_loopw [68] (fun jv wr => ∃ j : Nat, j ≤ x.e.tasks.length ∧ jv = .int .i64 j ∧ Hid (Scr B C wr g off L2) ∧ GrX (upTo B C) w5 wr) (fun jv _ => x.e.tasks.length - (intOf jv).toNat)
        case atStart => exact ⟨0, Nat.zero_le _, rfl, hs, hgs⟩
        case round =>
          obtain ⟨j, hj, rfl, hs2, hgs2⟩ := hrel
          have e8 := hs2.out.sl k x hx.out
          by_cases hjl : j < x.e.tasks.length
          · obtain ⟨bb, oo, v, hxa, hbg, hbB, hcv, hfr⟩ := hs2.out.tk x (List.mem_of_getElem? hx.out) j hjl
            have tj : (j : Int) < x.e.tasks.length := by omega
            rw [hxa] at e8
            replace hxa := Lib.hid hxa
            replace hbg := Lib.hid hbg
            replace hbB := Lib.hid hbB
            go_wp2_with fail
            go_roundw
            case rel => exact ⟨j + 1, by omega, by go_num, Lib.hid (hs2.out.set _ _ (.inl hbg.out)), hgs2.set (.inl (mem_upTo.2 hbB.out)) _⟩
            case measure => simp [intOf]; omega
          · have tj : ¬ (j : Int) < x.e.tasks.length := by omega
            have tj2 : decide ((j : Int) < x.e.tasks.length) = false := decide_eq_false tj
            obtain ⟨v, hcv⟩ := hs2.out.cl k x hx.out
            have hfr := hs2.out.fr (off + k * 10)
            have hgb := hs2.out.hB
            replace hgb := Lib.hid hgb
            go_wp2_with fail
            go_roundw
            case rel => exact ⟨k + 1, by omega, by go_num, Lib.hid (hs2.out.set _ _ (.inr ⟨k, rfl⟩)), hgs2.set (.inl (mem_upTo.2 hgb.out)) _⟩
            case measure => simp [intOf]; omega
      · have tk : ¬ (k : Int) < L.length := by omega
        have tk2 : decide ((k : Int) < L.length) = false := decide_eq_false tk
        go_wp2_with fail
        go_ret
        exact hfin.out _ hgs
end Go.Proofs.YtblfljpmkgmjaaaDoor
