/- order.Get of what is refused ahead of the tasks. Printed by gen_p48.py. order.Get of what is refused behind the tasks. Printed by gen_p49.py. order.Get of tasks that are cut. Printed by gen_p50.py. order.Get of what is refused, in one; the cases of an entry's bytes. An entry's bytes, read number by number: where a reading that does not know their count stops. -/
import Derived.Test.YtlgbnjaoadlolaaDoorP33
import Derived.Test.YtlgbnjaoadlolaaDoorP35
namespace Go.Proofs.YtlgbnjaoadlolaaDoor
open Go.RowKit

/-- The entry of nothing. -/
abbrev entZ : Value := .agg #[.int .i64 0, .int .i64 0, .int .i64 0, .int .i64 0, .int .i64 0, .int .i64 0, .int .i64 0, .int .i64 0, .slice none 0 0, .int .i64 0]
theorem Gr.set10 {w a : World} {b : Nat} (h : Gr w a) (hb : w.heap.size ≤ b) (v0 v1 v2 v3 v4 v5 v6 v7 v8 v9 : Value) : Gr w ((((((((((a.setCell ⟨b, 0, none⟩ v0).setCell ⟨b, 1, none⟩ v1).setCell ⟨b, 2, none⟩ v2).setCell ⟨b, 3, none⟩ v3).setCell ⟨b, 4, none⟩ v4).setCell ⟨b, 5, none⟩ v5).setCell ⟨b, 6, none⟩ v6).setCell ⟨b, 7, none⟩ v7).setCell ⟨b, 8, none⟩ v8).setCell ⟨b, 9, none⟩ v9) :=
  GrX.all h ((GrX.refl [b] a).set10 (b := b) (by simp) v0 v1 v2 v3 v4 v5 v6 v7 v8 v9) (fun x hx => by simp at hx; omega)
set_option maxRecDepth 100000 in
set_option maxHeartbeats 6400000 in
theorem orderGet_a {G : List Nat} {E : Nat → Addr} (w : World) (hE : EAt G E w) (i1 : 1 ∈ G) (a : Option Addr) (c : Nat) (p : List UInt8) (hS : BytesAt w a p) (hcn : a = none → c = 0) (hpm : p.length ≤ 40000) (hN : numsR 10 p = none) :
    Calls Tryd.prog 42 #[.slice a p.length c] w fun r w' => r = .returned (.tuple #[entZ, (Value.iface 137 (.pointer (some (E 1))))]) ∧ Gr w w' := by
  have hr := newReader_any (w.alloc (.cells #[.int .i64 0, .int .i64 0, .int .i64 0, .int .i64 0, .int .i64 0, .int .i64 0, .int .i64 0, .int .i64 0, .slice none 0 0, .int .i64 0] 79)) a c p (hS.gr ((Gr.refl w).alloc _)) hcn (by omega)
  obtain ⟨n, hn⟩ : ∃ n, p.length = n := ⟨_, rfl⟩
  rw [hn] at hr ⊢
  replace hr := Lib.hid hr
  replace hn := Lib.hid hn
  replace hS := Lib.hid hS
  replace hN := Lib.hid hN
  go_enter Tryd.func42, Tryd.ntmps42
  go_wp2_with fail
  refine hr.out.mono ?_
  rintro r w1 ⟨rb, rfl, hr1, hr2, g1⟩
  have hR1 : Blk w1 w.heap.size #[.int .i64 0, .int .i64 0, .int .i64 0, .int .i64 0, .int .i64 0, .int .i64 0, .int .i64 0, .int .i64 0, .slice none 0 0, .int .i64 0] 79 := (Blk.new w _ _).gr g1
  have gw1 : Gr w w1 := ((Gr.refl w).alloc _).trans g1
  have z1 := gw1.size
  simp only [World.size_alloc] at hr2
  have hzR := hR1.lt
  obtain ⟨nb, hnb⟩ : ∃ nb, w1.heap.size = nb := ⟨_, rfl⟩
  rw [hnb] at z1 hr1 hzR
  have hrl : rb < nb := by obtain ⟨_, _, hh, _⟩ := hr1; have := hh.lt; omega
  obtain ⟨W2, hW2⟩ : ∃ W2, W2 = w1.alloc (.cells #[.int .i64 0, .int .i64 0, .int .i64 0, .int .i64 0, .int .i64 0, .int .i64 0, .int .i64 0, .int .i64 0, .int .i64 0, .int .i64 0] 115) := ⟨_, rfl⟩
  have g12 : Gr w1 W2 := by rw [hW2]; exact (Gr.refl w1).alloc _
  have hr2' := hr1.gr g12
  have hb2 : Blk W2 nb #[.int .i64 0, .int .i64 0, .int .i64 0, .int .i64 0, .int .i64 0, .int .i64 0, .int .i64 0, .int .i64 0, .int .i64 0, .int .i64 0] 115 := by rw [hW2]; exact Blk.new1 hnb
  have hR2 := hR1.gr g12
  have gw2 := gw1.trans g12
  have zn2 := hb2.lt
  have h0 : numsR 10 p = (numsR (10 - ([] : List Nat).length) (p.drop 0)).map fun r => ([] ++ r.1, 0 + r.2) := by
    rw [List.length_nil, Nat.sub_zero, List.drop_zero]
    cases numsR 10 p with
    | none => rfl
    | some q => show some q = some (_, _); rw [Nat.zero_add]; rfl
  replace h0 := Lib.hid h0
  replace hr1 := Lib.hid hr1
  replace hr2' := Lib.hid hr2'
  replace hb2 := Lib.hid hb2
  replace hR1 := Lib.hid hR1
  replace hR2 := Lib.hid hR2
  replace hW2 := Lib.hid hW2
  go_upto_region 4 with fail
  rw [← hW2.out]
  go_loopw [17] (fun iv wr => ∃ (i q : Nat) (ns : List Nat), iv = .int .i64 i ∧ i ≤ 10 ∧ Hid (ns.length = i) ∧ Hid (numsR 10 p = (numsR (10 - ns.length) (p.drop q)).map fun r => (ns ++ r.1, q + r.2)) ∧ RdAt (· < nb) wr rb p q ∧ Blk wr nb (over #[.int .i64 0, .int .i64 0, .int .i64 0, .int .i64 0, .int .i64 0, .int .i64 0, .int .i64 0, .int .i64 0, .int .i64 0, .int .i64 0] ns) 115 ∧ GrX [rb, nb] W2 wr) (fun iv _ => 10 - (intOf iv).toNat)
  case atStart => exact ⟨0, 0, [], rfl, Nat.zero_le _, Lib.hid rfl, h0, hr2'.out, by rw [over_nil]; exact hb2.out, GrX.refl _ _⟩
  case round =>
    obtain ⟨i, q, ns, rfl, hi10, hns, heq, hrd, hbl, hg⟩ := hrel
    have gwr : Gr w wr := GrX.all gw2 hg (fun x hx => by simp at hx; rcases hx with rfl | rfl <;> omega)
    have hRr := hR2.out.grx hg (by simp; omega)
    by_cases hi : i < 10
    · obtain ⟨s1, s2, s3⟩ := numsR_step (by rw [hns.out]; exact hi) heq.out
      by_cases hgood : ∃ v j2, numR (p.drop q) = some (v, j2) ∧ v ≤ 1099511627776
      · obtain ⟨v, j2, hq, hv⟩ := hgood
        replace hRr := Lib.hid hRr
        have s4 := s3 v j2 hq hv
        have hi2 : (i : Int) < 10 := by omega
        have hnm := rnum_yes wr rb p q 1099511627776 hrd hq (by omega)
        clear s1 s2 s3
        replace s4 := Lib.hid s4
        replace hnm := Lib.hid hnm
        replace hq := Lib.hid hq
        replace hbl := Lib.hid hbl
        replace hrd := Lib.hid hrd
        go_wp2_with fail
        refine hnm.out.mono ?_
        rintro r w3 ⟨rfl, hrd1, hg1⟩
        have hb1 := hbl.out.grx hg1 (by simp; omega)
        have hsz : i < (over #[.int .i64 0, .int .i64 0, .int .i64 0, .int .i64 0, .int .i64 0, .int .i64 0, .int .i64 0, .int .i64 0, .int .i64 0, .int .i64 0] ns).size := by rw [over_size (by rw [hns.out]; exact hi10)]; exact hi
        have cA := hb1.cell (i := i) (Array.getElem?_eq_getElem hsz)
        have fA := hb1.free i
        have hzb := hb1.lt
        have hb3 := hb1.set i (.int .i64 v)
        rw [show (over #[.int .i64 0, .int .i64 0, .int .i64 0, .int .i64 0, .int .i64 0, .int .i64 0, .int .i64 0, .int .i64 0, .int .i64 0, .int .i64 0] ns).setIfInBounds i (.int .i64 (v : Int)) = over #[.int .i64 0, .int .i64 0, .int .i64 0, .int .i64 0, .int .i64 0, .int .i64 0, .int .i64 0, .int .i64 0, .int .i64 0, .int .i64 0] (ns ++ [v]) by have := over_set (cs := #[.int .i64 0, .int .i64 0, .int .i64 0, .int .i64 0, .int .i64 0, .int .i64 0, .int .i64 0, .int .i64 0, .int .i64 0, .int .i64 0]) (ns := ns) (by rw [hns.out]; exact hi) v; rwa [hns.out] at this] at hb3
        have hr3 := hrd1.grx (S := [nb]) ((GrX.refl _ _).set (p := ⟨nb, i, none⟩) (.inl (by simp)) (.int .i64 v)) (by simp; omega) (fun b hb => by simp; omega)
        replace hb1 := Lib.hid hb1
        replace hb3 := Lib.hid hb3
        replace hr3 := Lib.hid hr3
        replace hrd1 := Lib.hid hrd1
        replace hsz := Lib.hid hsz
        go_wp2_with fail
        go_roundw
        case rel => exact ⟨i + 1, q + j2, ns ++ [v], by go_num, by omega, Lib.hid (by rw [List.length_append, hns.out]; rfl), s4, hr3.out, hb3.out, (hg.trans (hg1.mono (fun x hx => by simp at hx; simp [hx]))).set (.inl (by simp)) _⟩
        case measure => simp [intOf]; omega
      · have hi2 : (i : Int) < 10 := by omega
        have hnn := rnum_no wr rb p q 1099511627776 hrd (hE.gr gwr) i1 (fun v j hq => by
          have : ¬ v ≤ 1099511627776 := fun hle => hgood ⟨v, j, hq, hle⟩
          omega)
        clear s1 s2 s3 hgood
        replace hnn := Lib.hid hnn
        replace hbl := Lib.hid hbl
        replace hrd := Lib.hid hrd
        replace hRr := Lib.hid hRr
        go_wp2_with fail
        refine hnn.out.mono ?_
        rintro r w3 ⟨rfl, g3⟩
        have hR3 := hRr.out.gr g3
        have gw3 := gwr.trans g3
        have y0 := hR3.cell (i := 0) (v := .int .i64 0) rfl
        have fy0 := hR3.free 0
        have y1 := hR3.cell (i := 1) (v := .int .i64 0) rfl
        have fy1 := hR3.free 1
        have y2 := hR3.cell (i := 2) (v := .int .i64 0) rfl
        have fy2 := hR3.free 2
        have y3 := hR3.cell (i := 3) (v := .int .i64 0) rfl
        have fy3 := hR3.free 3
        have y4 := hR3.cell (i := 4) (v := .int .i64 0) rfl
        have fy4 := hR3.free 4
        have y5 := hR3.cell (i := 5) (v := .int .i64 0) rfl
        have fy5 := hR3.free 5
        have y6 := hR3.cell (i := 6) (v := .int .i64 0) rfl
        have fy6 := hR3.free 6
        have y7 := hR3.cell (i := 7) (v := .int .i64 0) rfl
        have fy7 := hR3.free 7
        have y8 := hR3.cell (i := 8) (v := .slice none 0 0) rfl
        have fy8 := hR3.free 8
        have y9 := hR3.cell (i := 9) (v := .int .i64 0) rfl
        have fy9 := hR3.free 9
        replace hR3 := Lib.hid hR3
        go_wp2_with fail
        refine bodyPost_ret (v := .tuple #[entZ, (Value.iface 137 (.pointer (some (E 1))))]) ?_ rfl ⟨rfl, ?_⟩
        · refine (res_cell (b := w.heap.size) (t := 79) Tryd.results42 _ _ (hR3.out.set10 rfl _ _ _ _ _ _ _ _ _ _) ?_ Tryd.underlying79 (by kernel_rfl)).trans ?_
          · simp
          · simp
        · exact gw3.set10 (Nat.le_refl _) _ _ _ _ _ _ _ _ _ _
    · have hie : i = 10 := by omega
      have hdn := numsR_done (by rw [hns.out]; exact hie) heq.out
      rw [hN.out] at hdn
      cases hdn
set_option maxRecDepth 100000 in
set_option maxHeartbeats 6400000 in
theorem orderGet_b {G : List Nat} {E : Nat → Addr} (w : World) (hE : EAt G E w) (i1 : 1 ∈ G) (a : Option Addr) (c : Nat) (p : List UInt8) (hS : BytesAt w a p) (hcn : a = none → c = 0) (hpm : p.length ≤ 40000) (m0 m1 m2 m3 m4 m5 m6 m7 m8 m9 k : Nat) (hN : numsR 10 p = some ([m0, m1, m2, m3, m4, m5, m6, m7, m8, m9], k)) (h8 : 8 < m9) :
    Calls Tryd.prog 42 #[.slice a p.length c] w fun r w' => r = .returned (.tuple #[entZ, (Value.iface 137 (.pointer (some (E 1))))]) ∧ Gr w w' := by
  have hr := newReader_any (w.alloc (.cells #[.int .i64 0, .int .i64 0, .int .i64 0, .int .i64 0, .int .i64 0, .int .i64 0, .int .i64 0, .int .i64 0, .slice none 0 0, .int .i64 0] 79)) a c p (hS.gr ((Gr.refl w).alloc _)) hcn (by omega)
  obtain ⟨n, hn⟩ : ∃ n, p.length = n := ⟨_, rfl⟩
  rw [hn] at hr ⊢
  replace hr := Lib.hid hr
  replace hn := Lib.hid hn
  replace hS := Lib.hid hS
  replace hN := Lib.hid hN
  go_enter Tryd.func42, Tryd.ntmps42
  go_wp2_with fail
  refine hr.out.mono ?_
  rintro r w1 ⟨rb, rfl, hr1, hr2, g1⟩
  have hR1 : Blk w1 w.heap.size #[.int .i64 0, .int .i64 0, .int .i64 0, .int .i64 0, .int .i64 0, .int .i64 0, .int .i64 0, .int .i64 0, .slice none 0 0, .int .i64 0] 79 := (Blk.new w _ _).gr g1
  have gw1 : Gr w w1 := ((Gr.refl w).alloc _).trans g1
  have z1 := gw1.size
  simp only [World.size_alloc] at hr2
  have hzR := hR1.lt
  obtain ⟨nb, hnb⟩ : ∃ nb, w1.heap.size = nb := ⟨_, rfl⟩
  rw [hnb] at z1 hr1 hzR
  have hrl : rb < nb := by obtain ⟨_, _, hh, _⟩ := hr1; have := hh.lt; omega
  obtain ⟨W2, hW2⟩ : ∃ W2, W2 = w1.alloc (.cells #[.int .i64 0, .int .i64 0, .int .i64 0, .int .i64 0, .int .i64 0, .int .i64 0, .int .i64 0, .int .i64 0, .int .i64 0, .int .i64 0] 115) := ⟨_, rfl⟩
  have g12 : Gr w1 W2 := by rw [hW2]; exact (Gr.refl w1).alloc _
  have hr2' := hr1.gr g12
  have hb2 : Blk W2 nb #[.int .i64 0, .int .i64 0, .int .i64 0, .int .i64 0, .int .i64 0, .int .i64 0, .int .i64 0, .int .i64 0, .int .i64 0, .int .i64 0] 115 := by rw [hW2]; exact Blk.new1 hnb
  have hR2 := hR1.gr g12
  have gw2 := gw1.trans g12
  have zn2 := hb2.lt
  have h0 : numsR 10 p = (numsR (10 - ([] : List Nat).length) (p.drop 0)).map fun r => ([] ++ r.1, 0 + r.2) := by
    rw [List.length_nil, Nat.sub_zero, List.drop_zero]
    cases numsR 10 p with
    | none => rfl
    | some q => show some q = some (_, _); rw [Nat.zero_add]; rfl
  replace h0 := Lib.hid h0
  replace hr1 := Lib.hid hr1
  replace hr2' := Lib.hid hr2'
  replace hb2 := Lib.hid hb2
  replace hR1 := Lib.hid hR1
  replace hR2 := Lib.hid hR2
  replace hW2 := Lib.hid hW2
  go_upto_region 4 with fail
  rw [← hW2.out]
  go_loopw [17] (fun iv wr => ∃ (i q : Nat) (ns : List Nat), iv = .int .i64 i ∧ i ≤ 10 ∧ Hid (ns.length = i) ∧ Hid (numsR 10 p = (numsR (10 - ns.length) (p.drop q)).map fun r => (ns ++ r.1, q + r.2)) ∧ RdAt (· < nb) wr rb p q ∧ Blk wr nb (over #[.int .i64 0, .int .i64 0, .int .i64 0, .int .i64 0, .int .i64 0, .int .i64 0, .int .i64 0, .int .i64 0, .int .i64 0, .int .i64 0] ns) 115 ∧ GrX [rb, nb] W2 wr) (fun iv _ => 10 - (intOf iv).toNat)
  case atStart => exact ⟨0, 0, [], rfl, Nat.zero_le _, Lib.hid rfl, h0, hr2'.out, by rw [over_nil]; exact hb2.out, GrX.refl _ _⟩
  case round =>
    obtain ⟨i, q, ns, rfl, hi10, hns, heq, hrd, hbl, hg⟩ := hrel
    by_cases hi : i < 10
    · obtain ⟨s1, s2, s3⟩ := numsR_step (by rw [hns.out]; exact hi) heq.out
      rw [hN.out] at s1 s2
      obtain ⟨v, j2, hq, hv⟩ : ∃ v j2, numR (p.drop q) = some (v, j2) ∧ v ≤ 1099511627776 := by
        cases hq : numR (p.drop q) with
        | none => have := s1 hq; cases this
        | some x =>
          by_cases hx : x.1 ≤ 1099511627776
          · exact ⟨x.1, x.2, rfl, hx⟩
          · have := s2 x.1 x.2 hq (by omega); cases this
      have s4 := s3 v j2 hq hv
      have hi2 : (i : Int) < 10 := by omega
      have hnm := rnum_yes wr rb p q 1099511627776 hrd hq (by omega)
      clear s1 s2 s3
      replace s4 := Lib.hid s4
      replace hnm := Lib.hid hnm
      replace hq := Lib.hid hq
      replace hbl := Lib.hid hbl
      replace hrd := Lib.hid hrd
      go_wp2_with fail
      refine hnm.out.mono ?_
      rintro r w3 ⟨rfl, hrd1, hg1⟩
      have hb1 := hbl.out.grx hg1 (by simp; omega)
      have hsz : i < (over #[.int .i64 0, .int .i64 0, .int .i64 0, .int .i64 0, .int .i64 0, .int .i64 0, .int .i64 0, .int .i64 0, .int .i64 0, .int .i64 0] ns).size := by rw [over_size (by rw [hns.out]; exact hi10)]; exact hi
      have cA := hb1.cell (i := i) (Array.getElem?_eq_getElem hsz)
      have fA := hb1.free i
      have hzb := hb1.lt
      have hb3 := hb1.set i (.int .i64 v)
      rw [show (over #[.int .i64 0, .int .i64 0, .int .i64 0, .int .i64 0, .int .i64 0, .int .i64 0, .int .i64 0, .int .i64 0, .int .i64 0, .int .i64 0] ns).setIfInBounds i (.int .i64 (v : Int)) = over #[.int .i64 0, .int .i64 0, .int .i64 0, .int .i64 0, .int .i64 0, .int .i64 0, .int .i64 0, .int .i64 0, .int .i64 0, .int .i64 0] (ns ++ [v]) by have := over_set (cs := #[.int .i64 0, .int .i64 0, .int .i64 0, .int .i64 0, .int .i64 0, .int .i64 0, .int .i64 0, .int .i64 0, .int .i64 0, .int .i64 0]) (ns := ns) (by rw [hns.out]; exact hi) v; rwa [hns.out] at this] at hb3
      have hr3 := hrd1.grx (S := [nb]) ((GrX.refl _ _).set (p := ⟨nb, i, none⟩) (.inl (by simp)) (.int .i64 v)) (by simp; omega) (fun b hb => by simp; omega)
      replace hb1 := Lib.hid hb1
      replace hb3 := Lib.hid hb3
      replace hr3 := Lib.hid hr3
      replace hrd1 := Lib.hid hrd1
      replace hsz := Lib.hid hsz
      go_wp2_with fail
      go_roundw
      case rel => exact ⟨i + 1, q + j2, ns ++ [v], by go_num, by omega, Lib.hid (by rw [List.length_append, hns.out]; rfl), s4, hr3.out, hb3.out, (hg.trans (hg1.mono (fun x hx => by simp at hx; simp [hx]))).set (.inl (by simp)) _⟩
      case measure => simp [intOf]; omega
    · have hie : i = 10 := by omega
      have hib : decide ((i : Int) < 10) = false := decide_eq_false (by omega)
      have hdn := numsR_done (by rw [hns.out]; exact hie) heq.out
      rw [hN.out] at hdn
      obtain ⟨rfl, rfl⟩ : ns = [m0, m1, m2, m3, m4, m5, m6, m7, m8, m9] ∧ k = q := by cases hdn; exact ⟨rfl, rfl⟩
      have hbl2 : Blk wr nb #[.int .i64 m0, .int .i64 m1, .int .i64 m2, .int .i64 m3, .int .i64 m4, .int .i64 m5, .int .i64 m6, .int .i64 m7, .int .i64 m8, .int .i64 m9] 115 := hbl
      have gwr : Gr w wr := GrX.all gw2 hg (fun x hx => by simp at hx; rcases hx with rfl | rfl <;> omega)
      have hRr := hR2.out.grx hg (by simp; omega)
      have cn0 := hbl2.cell (i := 0) (v := .int .i64 m0) rfl
      have cn1 := hbl2.cell (i := 1) (v := .int .i64 m1) rfl
      have cn2 := hbl2.cell (i := 2) (v := .int .i64 m2) rfl
      have cn3 := hbl2.cell (i := 3) (v := .int .i64 m3) rfl
      have cn4 := hbl2.cell (i := 4) (v := .int .i64 m4) rfl
      have cn5 := hbl2.cell (i := 5) (v := .int .i64 m5) rfl
      have cn6 := hbl2.cell (i := 6) (v := .int .i64 m6) rfl
      have cn7 := hbl2.cell (i := 7) (v := .int .i64 m7) rfl
      have cn8 := hbl2.cell (i := 8) (v := .int .i64 m8) rfl
      have cn9 := hbl2.cell (i := 9) (v := .int .i64 m9) rfl
      have hzb := hbl2.lt
      have hzr := hRr.lt
      have h8b : (8 : Int) < m9 := by omega
      obtain ⟨W3, hW3⟩ : ∃ W3, W3 = wr.alloc (.cells #[.int .i64 m0, .int .i64 m1, .int .i64 m2, .int .i64 m4, .int .i64 m5, .int .i64 m6, .int .i64 m7, .int .i64 m8, .slice none 0 0, .int .i64 m3] 79) := ⟨_, rfl⟩
      have g3 : Gr wr W3 := by rw [hW3]; exact (Gr.refl wr).alloc _
      have gw3 := gwr.trans g3
      have he := (hE.gr gw3).c0 i1
      have hl1 := hE.lt _ i1
      have hRa := hRr.gr g3
      have hz3 := hRa.lt
      have y0 := hRa.cell (i := 0) (v := .int .i64 0) rfl
      have fy0 := hRa.free 0
      have y1 := hRa.cell (i := 1) (v := .int .i64 0) rfl
      have fy1 := hRa.free 1
      have y2 := hRa.cell (i := 2) (v := .int .i64 0) rfl
      have fy2 := hRa.free 2
      have y3 := hRa.cell (i := 3) (v := .int .i64 0) rfl
      have fy3 := hRa.free 3
      have y4 := hRa.cell (i := 4) (v := .int .i64 0) rfl
      have fy4 := hRa.free 4
      have y5 := hRa.cell (i := 5) (v := .int .i64 0) rfl
      have fy5 := hRa.free 5
      have y6 := hRa.cell (i := 6) (v := .int .i64 0) rfl
      have fy6 := hRa.free 6
      have y7 := hRa.cell (i := 7) (v := .int .i64 0) rfl
      have fy7 := hRa.free 7
      have y8 := hRa.cell (i := 8) (v := .slice none 0 0) rfl
      have fy8 := hRa.free 8
      have y9 := hRa.cell (i := 9) (v := .int .i64 0) rfl
      have fy9 := hRa.free 9
      replace hie := Lib.hid hie
      replace hdn := Lib.hid hdn
      replace hbl := Lib.hid hbl
      replace hbl2 := Lib.hid hbl2
      replace hRr := Lib.hid hRr
      replace hRa := Lib.hid hRa
      replace hW3 := Lib.hid hW3
      replace hrd := Lib.hid hrd
      go_upto_region 13 with fail
      rw [← hW3.out]
      clear cn0 cn1 cn2 cn3 cn4 cn5 cn6 cn7 cn8 cn9
      go_region_held3 (fun w' => w'.cell? ⟨1, 0, none⟩ = some (.iface 137 (.pointer (some (E 1))))) (simp (maxDischargeDepth := 8) [go_sem, *])
        (first
          | fail)
      go_wp2_with fail
      refine bodyPost_ret (v := .tuple #[entZ, (Value.iface 137 (.pointer (some (E 1))))]) ?_ rfl ⟨rfl, ?_⟩
      · refine (res_cell (b := w.heap.size) (t := 79) Tryd.results42 _ _ ((hRa.out.set10 rfl _ _ _ _ _ _ _ _ _ _).drew) ?_ Tryd.underlying79 (by kernel_rfl)).trans ?_
        · simp
        · simp
      · exact (gw3.set10 (Nat.le_refl _) _ _ _ _ _ _ _ _ _ _).drew


set_option maxRecDepth 100000 in
set_option maxHeartbeats 12800000 in
theorem orderGet_d {G : List Nat} {E : Nat → Addr} (w : World) (hE : EAt G E w) (i1 : 1 ∈ G) (a : Option Addr) (c : Nat) (p : List UInt8) (hS : BytesAt w a p) (hcn : a = none → c = 0) (hpm : p.length ≤ 40000) (m0 m1 m2 m3 m4 m5 m6 m7 m8 k j : Nat) (L0 : List Tsk) (hN : numsR 10 p = some ([m0, m1, m2, m3, m4, m5, m6, m7, m8, L0.length], k)) (hT : numsR (4 * L0.length) (p.drop k) = some (L0.flatMap tskNat, j)) (ht8 : L0.length ≤ 8) (htk : ∀ t ∈ L0, Nums (tskN t)) (hl : k + j < p.length) :
    Calls Tryd.prog 42 #[.slice a p.length c] w fun r w' => r = .returned (.tuple #[entZ, (Value.iface 137 (.pointer (some (E 1))))]) ∧ Gr w w' := by
  have hr := newReader_any (w.alloc (.cells #[.int .i64 0, .int .i64 0, .int .i64 0, .int .i64 0, .int .i64 0, .int .i64 0, .int .i64 0, .int .i64 0, .slice none 0 0, .int .i64 0] 79)) a c p (hS.gr ((Gr.refl w).alloc _)) hcn (by omega)
  obtain ⟨n, hn⟩ : ∃ n, p.length = n := ⟨_, rfl⟩
  rw [hn] at hr ⊢
  obtain ⟨m9, hm9⟩ : ∃ m9, L0.length = m9 := ⟨_, rfl⟩
  rw [hm9] at hN hT ht8
  replace hr := Lib.hid hr
  replace hn := Lib.hid hn
  replace hS := Lib.hid hS
  replace hN := Lib.hid hN
  replace hT := Lib.hid hT
  replace hm9 := Lib.hid hm9
  replace hl := Lib.hid hl
  replace htk := Lib.hid htk
  go_enter Tryd.func42, Tryd.ntmps42
  go_wp2_with fail
  refine hr.out.mono ?_
  rintro r w1 ⟨rb, rfl, hr1, hr2, g1⟩
  have hR1 : Blk w1 w.heap.size #[.int .i64 0, .int .i64 0, .int .i64 0, .int .i64 0, .int .i64 0, .int .i64 0, .int .i64 0, .int .i64 0, .slice none 0 0, .int .i64 0] 79 := (Blk.new w _ _).gr g1
  have gw1 : Gr w w1 := ((Gr.refl w).alloc _).trans g1
  have z1 := gw1.size
  simp only [World.size_alloc] at hr2
  have hzR := hR1.lt
  obtain ⟨nb, hnb⟩ : ∃ nb, w1.heap.size = nb := ⟨_, rfl⟩
  rw [hnb] at z1 hr1 hzR
  have hrl : rb < nb := by obtain ⟨_, _, hh, _⟩ := hr1; have := hh.lt; omega
  obtain ⟨W2, hW2⟩ : ∃ W2, W2 = w1.alloc (.cells #[.int .i64 0, .int .i64 0, .int .i64 0, .int .i64 0, .int .i64 0, .int .i64 0, .int .i64 0, .int .i64 0, .int .i64 0, .int .i64 0] 115) := ⟨_, rfl⟩
  have g12 : Gr w1 W2 := by rw [hW2]; exact (Gr.refl w1).alloc _
  have hr2' := hr1.gr g12
  have hb2 : Blk W2 nb #[.int .i64 0, .int .i64 0, .int .i64 0, .int .i64 0, .int .i64 0, .int .i64 0, .int .i64 0, .int .i64 0, .int .i64 0, .int .i64 0] 115 := by rw [hW2]; exact Blk.new1 hnb
  have hR2 := hR1.gr g12
  have gw2 := gw1.trans g12
  have zn2 := hb2.lt
  have h0 : numsR 10 p = (numsR (10 - ([] : List Nat).length) (p.drop 0)).map fun r => ([] ++ r.1, 0 + r.2) := by
    rw [List.length_nil, Nat.sub_zero, List.drop_zero]
    cases numsR 10 p with
    | none => rfl
    | some q => show some q = some (_, _); rw [Nat.zero_add]; rfl
  replace h0 := Lib.hid h0
  replace hr1 := Lib.hid hr1
  replace hr2' := Lib.hid hr2'
  replace hb2 := Lib.hid hb2
  replace hR1 := Lib.hid hR1
  replace hR2 := Lib.hid hR2
  replace hW2 := Lib.hid hW2
  go_upto_region 4 with fail
  rw [← hW2.out]
  go_loopw [17] (fun iv wr => ∃ (i q : Nat) (ns : List Nat), iv = .int .i64 i ∧ i ≤ 10 ∧ Hid (ns.length = i) ∧ Hid (numsR 10 p = (numsR (10 - ns.length) (p.drop q)).map fun r => (ns ++ r.1, q + r.2)) ∧ RdAt (· < nb) wr rb p q ∧ Blk wr nb (over #[.int .i64 0, .int .i64 0, .int .i64 0, .int .i64 0, .int .i64 0, .int .i64 0, .int .i64 0, .int .i64 0, .int .i64 0, .int .i64 0] ns) 115 ∧ GrX [rb, nb] W2 wr) (fun iv _ => 10 - (intOf iv).toNat)
  case atStart => exact ⟨0, 0, [], rfl, Nat.zero_le _, Lib.hid rfl, h0, hr2'.out, by rw [over_nil]; exact hb2.out, GrX.refl _ _⟩
  case round =>
    obtain ⟨i, q, ns, rfl, hi10, hns, heq, hrd, hbl, hg⟩ := hrel
    by_cases hi : i < 10
    · obtain ⟨s1, s2, s3⟩ := numsR_step (by rw [hns.out]; exact hi) heq.out
      rw [hN.out] at s1 s2
      obtain ⟨v, j2, hq, hv⟩ : ∃ v j2, numR (p.drop q) = some (v, j2) ∧ v ≤ 1099511627776 := by
        cases hq : numR (p.drop q) with
        | none => have := s1 hq; cases this
        | some x =>
          by_cases hx : x.1 ≤ 1099511627776
          · exact ⟨x.1, x.2, rfl, hx⟩
          · have := s2 x.1 x.2 hq (by omega); cases this
      have s4 := s3 v j2 hq hv
      have hi2 : (i : Int) < 10 := by omega
      have hnm := rnum_yes wr rb p q 1099511627776 hrd hq (by omega)
      clear s1 s2 s3
      replace s4 := Lib.hid s4
      replace hnm := Lib.hid hnm
      replace hq := Lib.hid hq
      replace hbl := Lib.hid hbl
      replace hrd := Lib.hid hrd
      go_wp2_with fail
      refine hnm.out.mono ?_
      rintro r w3 ⟨rfl, hrd1, hg1⟩
      have hb1 := hbl.out.grx hg1 (by simp; omega)
      have hsz : i < (over #[.int .i64 0, .int .i64 0, .int .i64 0, .int .i64 0, .int .i64 0, .int .i64 0, .int .i64 0, .int .i64 0, .int .i64 0, .int .i64 0] ns).size := by rw [over_size (by rw [hns.out]; exact hi10)]; exact hi
      have cA := hb1.cell (i := i) (Array.getElem?_eq_getElem hsz)
      have fA := hb1.free i
      have hzb := hb1.lt
      have hb3 := hb1.set i (.int .i64 v)
      rw [show (over #[.int .i64 0, .int .i64 0, .int .i64 0, .int .i64 0, .int .i64 0, .int .i64 0, .int .i64 0, .int .i64 0, .int .i64 0, .int .i64 0] ns).setIfInBounds i (.int .i64 (v : Int)) = over #[.int .i64 0, .int .i64 0, .int .i64 0, .int .i64 0, .int .i64 0, .int .i64 0, .int .i64 0, .int .i64 0, .int .i64 0, .int .i64 0] (ns ++ [v]) by have := over_set (cs := #[.int .i64 0, .int .i64 0, .int .i64 0, .int .i64 0, .int .i64 0, .int .i64 0, .int .i64 0, .int .i64 0, .int .i64 0, .int .i64 0]) (ns := ns) (by rw [hns.out]; exact hi) v; rwa [hns.out] at this] at hb3
      have hr3 := hrd1.grx (S := [nb]) ((GrX.refl _ _).set (p := ⟨nb, i, none⟩) (.inl (by simp)) (.int .i64 v)) (by simp; omega) (fun b hb => by simp; omega)
      replace hb1 := Lib.hid hb1
      replace hb3 := Lib.hid hb3
      replace hr3 := Lib.hid hr3
      replace hrd1 := Lib.hid hrd1
      replace hsz := Lib.hid hsz
      go_wp2_with fail
      go_roundw
      case rel => exact ⟨i + 1, q + j2, ns ++ [v], by go_num, by omega, Lib.hid (by rw [List.length_append, hns.out]; rfl), s4, hr3.out, hb3.out, (hg.trans (hg1.mono (fun x hx => by simp at hx; simp [hx]))).set (.inl (by simp)) _⟩
      case measure => simp [intOf]; omega
    · have hie : i = 10 := by omega
      have hib : decide ((i : Int) < 10) = false := decide_eq_false (by omega)
      have hdn := numsR_done (by rw [hns.out]; exact hie) heq.out
      rw [hN.out] at hdn
      obtain ⟨rfl, rfl⟩ : ns = [m0, m1, m2, m3, m4, m5, m6, m7, m8, m9] ∧ k = q := by cases hdn; exact ⟨rfl, rfl⟩
      have hbl2 : Blk wr nb #[.int .i64 m0, .int .i64 m1, .int .i64 m2, .int .i64 m3, .int .i64 m4, .int .i64 m5, .int .i64 m6, .int .i64 m7, .int .i64 m8, .int .i64 m9] 115 := hbl
      have gwr : Gr w wr := GrX.all gw2 hg (fun x hx => by simp at hx; rcases hx with rfl | rfl <;> omega)
      have hRr := hR2.out.grx hg (by simp; omega)
      have cn0 := hbl2.cell (i := 0) (v := .int .i64 m0) rfl
      have cn1 := hbl2.cell (i := 1) (v := .int .i64 m1) rfl
      have cn2 := hbl2.cell (i := 2) (v := .int .i64 m2) rfl
      have cn3 := hbl2.cell (i := 3) (v := .int .i64 m3) rfl
      have cn4 := hbl2.cell (i := 4) (v := .int .i64 m4) rfl
      have cn5 := hbl2.cell (i := 5) (v := .int .i64 m5) rfl
      have cn6 := hbl2.cell (i := 6) (v := .int .i64 m6) rfl
      have cn7 := hbl2.cell (i := 7) (v := .int .i64 m7) rfl
      have cn8 := hbl2.cell (i := 8) (v := .int .i64 m8) rfl
      have cn9 := hbl2.cell (i := 9) (v := .int .i64 m9) rfl
      have hzb := hbl2.lt
      have hzr := hRr.lt
      replace hie := Lib.hid hie
      replace hdn := Lib.hid hdn
      replace hbl := Lib.hid hbl
      replace hbl2 := Lib.hid hbl2
      replace hRr := Lib.hid hRr
      replace hrd := Lib.hid hrd
      have h8b : ¬ (8 : Int) < m9 := by omega
      obtain ⟨eb, heb⟩ : ∃ eb, wr.heap.size = eb := ⟨_, rfl⟩
      obtain ⟨W3, hW3⟩ : ∃ W3, W3 = wr.alloc (.cells #[.int .i64 m0, .int .i64 m1, .int .i64 m2, .int .i64 m4, .int .i64 m5, .int .i64 m6, .int .i64 m7, .int .i64 m8, .slice none 0 0, .int .i64 m3] 79) := ⟨_, rfl⟩
      have g3 : Gr wr W3 := by rw [hW3]; exact (Gr.refl wr).alloc _
      have hE3 : Blk W3 eb #[.int .i64 m0, .int .i64 m1, .int .i64 m2, .int .i64 m4, .int .i64 m5, .int .i64 m6, .int .i64 m7, .int .i64 m8, .slice none 0 0, .int .i64 m3] 79 := by rw [hW3]; exact Blk.new1 heb
      have hR3 := hRr.out.gr g3
      have hr3 := hrd.out.gr g3
      have gw3 := gwr.trans g3
      have z3 : W3.heap.size = eb + 1 := by rw [hW3]; simp [heb]
      have hT0 : numsR (4 * (m9 - 0)) (p.drop (k + 0)) = some ((L0.drop 0).flatMap tskNat, j - 0) := hT.out
      have hnbeb : nb < eb := by omega
      replace hW3 := Lib.hid hW3
      replace hE3 := Lib.hid hE3
      replace hR3 := Lib.hid hR3
      replace hr3 := Lib.hid hr3
      replace hT0 := Lib.hid hT0
      replace z3 := Lib.hid z3
      go_upto_region 15 with fail
      rw [← hW3.out]
      clear cn0 cn1 cn2 cn3 cn4 cn5 cn6 cn7 cn8 cn9
      go_loopw [61] (fun iv wr => ∃ (q u : Nat) (L : List Tsk) (a1 : Option Addr) (c1 : Nat), iv = .int .i64 q ∧ q ≤ m9 ∧ Hid (L = L0.take q) ∧ Hid (wr.ownsRow W3.heap.size 117 4 (.slice a1 q c1) L.length (L.flatMap Tsk.cells)) ∧ Hid (RecsAt 4 Tsk.cells wr a1 L ∧ (a1 = none → c1 = 0) ∧ ∀ y, a1 = some y → W3.heap.size ≤ y.block) ∧ Hid (numsR (4 * (m9 - q)) (p.drop (k + u)) = some ((L0.drop q).flatMap tskNat, j - u) ∧ u ≤ j) ∧ Hid (RdAt (· < nb) wr rb p (k + u)) ∧ Hid (Blk wr eb #[.int .i64 m0, .int .i64 m1, .int .i64 m2, .int .i64 m4, .int .i64 m5, .int .i64 m6, .int .i64 m7, .int .i64 m8, .slice a1 q c1, .int .i64 m3] 79) ∧ GrX [rb, eb] W3 wr) (fun iv _ => m9 - (intOf iv).toNat)
      case atStart => exact ⟨0, 0, [], none, 0, rfl, Nat.zero_le _, Lib.hid rfl, Lib.hid (World.ownsRow_nil _ _ _ _), Lib.hid ⟨fun i s h => by simp at h, fun _ => rfl, fun y h => by cases h⟩, Lib.hid ⟨hT0.out, Nat.zero_le _⟩, hr3, hE3, GrX.refl _ _⟩
      case round =>
        obtain ⟨q, u, L, a1, c1, rfl, hqm, hL, hO, hrc, hnu, hrd, hbl, hg⟩ := hrel
        obtain ⟨wo, rfl⟩ : ∃ wo : World, wo = wr := ⟨_, rfl⟩
        have hLl : L.length = q := by rw [hL.out, List.length_take, hm9.out]; omega
        have zo := hg.size
        by_cases hq : q < m9
        · obtain ⟨t, ht⟩ := get_some L0 q (by rw [hm9.out]; exact hq)
          obtain ⟨s, hs4, hsr, hsd⟩ := step_tasks ht hq hnu.out.1
          have htn := htk.out t (List.mem_of_getElem? ht)
          have hq2 : (q : Int) < m9 := by omega
          have hLn : L ++ [t] = L0.take (q + 1) := by rw [take_snoc ht, ← hL.out]
          obtain ⟨tb, htb⟩ : ∃ tb, wo.heap.size = tb := ⟨_, rfl⟩
          have hz3 := z3.out
          have hetb : eb < tb := by omega
          have hbt := (Blk.new1 htb : Blk (wo.alloc (.cells #[.int .i64 0, .int .i64 0, .int .i64 0, .int .i64 0] 117)) tb #[.int .i64 0, .int .i64 0, .int .i64 0, .int .i64 0] 117)
          have hrdt := hrd.out.gr ((Gr.refl wo).alloc (.cells #[.int .i64 0, .int .i64 0, .int .i64 0, .int .i64 0] 117))
          have h00 : numsR 4 (p.drop (k + u)) = (numsR (4 - ([] : List Nat).length) ((p.drop (k + u)).drop 0)).map fun r => ([] ++ r.1, 0 + r.2) := by
            rw [List.length_nil, Nat.sub_zero, List.drop_zero]
            cases numsR 4 (p.drop (k + u)) with
            | none => rfl
            | some q => show some q = some (_, _); rw [Nat.zero_add]; rfl
          replace h00 := Lib.hid h00
          replace hs4 := Lib.hid hs4
          replace hsr := Lib.hid hsr
          replace hLn := Lib.hid hLn
          replace hLl := Lib.hid hLl
          replace ht := Lib.hid ht
          replace htn := Lib.hid htn
          replace hbt := Lib.hid hbt
          replace hrdt := Lib.hid hrdt
          replace hz3 := Lib.hid hz3
          go_upto_region 18 with fail
          go_loopw [68] (fun iv wr => ∃ (i v : Nat) (ns : List Nat), iv = .int .i64 i ∧ i ≤ 4 ∧ Hid (ns.length = i) ∧ Hid (numsR 4 (p.drop (k + u)) = (numsR (4 - ns.length) ((p.drop (k + u)).drop v)).map fun r => (ns ++ r.1, v + r.2)) ∧ Hid (RdAt (· < nb) wr rb p (k + u + v)) ∧ Hid (Blk wr tb (over #[.int .i64 0, .int .i64 0, .int .i64 0, .int .i64 0] ns) 117) ∧ GrX [rb, tb] (wo.alloc (.cells #[.int .i64 0, .int .i64 0, .int .i64 0, .int .i64 0] 117)) wr) (fun iv _ => 4 - (intOf iv).toNat)
          case atStart => exact ⟨0, 0, [], rfl, Nat.zero_le _, Lib.hid rfl, h00, hrdt, Lib.hid (by rw [over_nil]; exact hbt.out), GrX.refl _ _⟩
          case round =>
            obtain ⟨i, v, ns, rfl, hi4, hns, heq, hrd4, hbl4, hg4⟩ := hrel
            by_cases hi : i < 4
            · obtain ⟨s1, s2, s3⟩ := numsR_step (by rw [hns.out]; exact hi) heq.out
              rw [List.drop_drop, hs4.out] at s1 s2
              rw [List.drop_drop] at s3
              obtain ⟨x, j2, hqr, hv⟩ : ∃ x j2, numR (p.drop (k + u + v)) = some (x, j2) ∧ x ≤ 1099511627776 := by
                cases hqr : numR (p.drop (k + u + v)) with
                | none => have := s1 hqr; cases this
                | some x =>
                  by_cases hx : x.1 ≤ 1099511627776
                  · exact ⟨x.1, x.2, rfl, hx⟩
                  · have := s2 x.1 x.2 hqr (by omega); cases this
              have s5 := s3 x j2 hqr hv
              have hi2 : (i : Int) < 4 := by omega
              have hnm := rnum_yes wr rb p (k + u + v) 1099511627776 hrd4.out hqr (by omega)
              have hix := fun w => idx_ptr (cs := #[.pointer (some ⟨tb, 0, none⟩), .pointer (some ⟨tb, 1, none⟩), .pointer (some ⟨tb, 2, none⟩), .pointer (some ⟨tb, 3, none⟩)]) w Tryd.underlying119 hi (ptrs4a i hi)
              clear s1 s2 s3
              replace s5 := Lib.hid s5
              replace hnm := Lib.hid hnm
              replace hqr := Lib.hid hqr
              go_wp2_with fail
              refine hnm.out.mono ?_
              rintro r w5 ⟨rfl, hrd5, hg5⟩
              have hb5 := hbl4.out.grx hg5 (by simp; omega)
              have hsz : i < (over #[.int .i64 0, .int .i64 0, .int .i64 0, .int .i64 0] ns).size := by rw [over_size (by rw [hns.out]; exact hi4)]; exact hi
              have cA := hb5.cell (i := i) (Array.getElem?_eq_getElem hsz)
              have fA := hb5.free i
              have hzb5 := hb5.lt
              have hb6 := hb5.set i (.int .i64 x)
              rw [show (over #[.int .i64 0, .int .i64 0, .int .i64 0, .int .i64 0] ns).setIfInBounds i (.int .i64 (x : Int)) = over #[.int .i64 0, .int .i64 0, .int .i64 0, .int .i64 0] (ns ++ [x]) by have := over_set (cs := #[.int .i64 0, .int .i64 0, .int .i64 0, .int .i64 0]) (ns := ns) (by rw [hns.out]; exact hi) x; rwa [hns.out] at this] at hb6
              have hr6 := hrd5.grx (S := [tb]) ((GrX.refl _ _).set (p := ⟨tb, i, none⟩) (.inl (by simp)) (.int .i64 x)) (by simp; omega) (fun b hb => by simp; omega)
              rw [Nat.add_assoc] at hr6
              replace hb5 := Lib.hid hb5
              replace hb6 := Lib.hid hb6
              replace hr6 := Lib.hid hr6
              replace hrd5 := Lib.hid hrd5
              replace hsz := Lib.hid hsz
              go_wp2_with fail
              go_roundw
              case rel => exact ⟨i + 1, v + j2, ns ++ [x], by go_num, by omega, Lib.hid (by rw [List.length_append, hns.out]; rfl), s5, hr6, hb6, (hg4.trans (hg5.mono (fun x hx => by simp at hx; simp [hx]))).set (.inl (by simp)) _⟩
              case measure => simp [intOf]; omega
            · have hie4 : i = 4 := by omega
              have hib4 : decide ((i : Int) < 4) = false := decide_eq_false (by omega)
              have hdn4 := numsR_done (by rw [hns.out]; exact hie4) heq.out
              rw [hs4.out] at hdn4
              obtain ⟨rfl, rfl⟩ : ns = tskNat t ∧ s = v := by cases hdn4; exact ⟨rfl, rfl⟩
              have hbT : Blk wr tb (Tsk.cells t).toArray 117 := by
                have h1 := hbl4.out
                have e : over #[.int .i64 0, .int .i64 0, .int .i64 0, .int .i64 0] (tskNat t) = (Tsk.cells t).toArray := by
                  show #[Value.int .i64 ((t.c.toNat : Nat) : Int), .int .i64 ((t.p.toNat : Nat) : Int), .int .i64 ((t.d.toNat : Nat) : Int), .int .i64 ((t.s.toNat : Nat) : Int)] = #[Value.int .i64 t.c, .int .i64 t.p, .int .i64 t.d, .int .i64 t.s]
                  have a0 := (htn.out t.c (by simp [tskN])).1
                  have a1 := (htn.out t.p (by simp [tskN])).1
                  have a2 := (htn.out t.d (by simp [tskN])).1
                  have a3 := (htn.out t.s (by simp [tskN])).1
                  rw [show ((t.c.toNat : Nat) : Int) = t.c by omega, show ((t.p.toNat : Nat) : Int) = t.p by omega, show ((t.d.toNat : Nat) : Int) = t.d by omega, show ((t.s.toNat : Nat) : Int) = t.s by omega]
                rw [e] at h1
                exact h1
              have hEr := (hbl.out.gr ((Gr.refl wo).alloc (.cells #[.int .i64 0, .int .i64 0, .int .i64 0, .int .i64 0] 117))).grx hg4 (by simp; omega)
              have hobt : ∀ x, (Value.slice a1 q c1).ownBlock = some x → W3.heap.size ≤ x ∧ x < wo.heap.size := fun x hx => by
                have := owns_lt hO.out x hx
                exact ⟨this.2, this.1⟩
              have hOr := owns_grx (owns_gr hO.out ((Gr.refl wo).alloc (.cells #[.int .i64 0, .int .i64 0, .int .i64 0, .int .i64 0] 117))) hg4 (fun x hx => by have := hobt x hx; have := z3.out; simp; omega)
              obtain ⟨wz, hwz⟩ : ∃ wz, wz = wr.alloc (.cells (Tsk.cells t).toArray 117) := ⟨_, rfl⟩
              have gz : Gr wr wz := by rw [hwz]; exact (Gr.refl wr).alloc _
              have hEz := hEr.gr gz
              have hOz := owns_gr hOr gz
              have hrz := hrd4.out.gr gz
              have hsz : RecsAt 4 Tsk.cells wz (some ⟨wr.heap.size, 0, none⟩) [t] := by rw [hwz]; exact recs_alloc1 Tsk.cells_len wr rfl [t] _ _ (by simp)
              have gx3 : GrX [rb, eb] W3 wz := ((hg.gr ((Gr.refl wo).alloc (.cells #[.int .i64 0, .int .i64 0, .int .i64 0, .int .i64 0] 117))).trans2 hg4 (fun x hx => by simp at hx; rcases hx with rfl | rfl; exact .inl (by simp); exact .inr (by omega))).gr gz
              have c8 := hEr.cell (i := 8) (v := .slice a1 q c1) rfl
              have d0 := hbT.cell (i := 0) (v := .int .i64 t.c) rfl
              have d1 := hbT.cell (i := 1) (v := .int .i64 t.p) rfl
              have d2 := hbT.cell (i := 2) (v := .int .i64 t.d) rfl
              have d3 := hbT.cell (i := 3) (v := .int .i64 t.s) rfl
              have hln2 : (L ++ [t]).length = q + 1 := by rw [List.length_append, hLl.out]; rfl
              have hwz3 : W3.heap.size ≤ wz.heap.size := gx3.size
              have hnr : numsR (4 * (m9 - (q + 1))) (p.drop (k + (u + s))) = some ((L0.drop (q + 1)).flatMap tskNat, j - (u + s)) := by
                have h1 := hsr.out
                rw [List.drop_drop, Nat.add_assoc, Nat.sub_sub] at h1
                exact h1
              replace hEr := Lib.hid hEr
              replace hOr := Lib.hid hOr
              replace hEz := Lib.hid hEz
              replace hOz := Lib.hid hOz
              replace hrz := Lib.hid hrz
              replace hsz := Lib.hid hsz
              replace hln2 := Lib.hid hln2
              replace hnr := Lib.hid hnr
              replace hbT := Lib.hid hbT
              replace hdn4 := Lib.hid hdn4
              replace hie4 := Lib.hid hie4
              replace hwz := Lib.hid hwz
              go_wp2_with (at_builtin; go_loud (rw [← hwz.out]; refine wpList_appT (B := W3.heap.size) rfl _ _ rfl a1 c1 q L rfl hLl.out hOz.out (some ⟨wr.heap.size, 0, none⟩) 1 [t] rfl hsz.out (fun h => by cases h) (by simp; omega) hwz3 ?_; intro a2 c2 w7 hown7 hr7 hn7 hB7 hgr7; rw [hln2.out] at hown7 ⊢; have hE7 := hEz.out.grown hgr7 (fun e => by have := hobt eb e.symm; have := z3.out; omega); have hrd7 := RdAt.grown hrz.out hgr7 (fun x hx => by have := hobt x hx; have := z3.out; constructor <;> omega); have gx7 := gx3.grown hgr7 (fun x hx => .inr (hobt x hx).1); have e8 := hE7.cell (i := 8) (v := .slice a1 q c1) rfl; have f8 := hE7.free 8; have z8 := hE7.lt; replace hown7 := Lib.hid hown7; replace hr7 := Lib.hid hr7; replace hn7 := Lib.hid hn7; replace hB7 := Lib.hid hB7; replace hE7 := Lib.hid hE7; replace hrd7 := Lib.hid hrd7; clear hgr7))
              go_roundw
              case rel =>
                have g8 : GrX [eb] w7 (w7.setCell ⟨eb, 8, none⟩ (.slice a2 (q + 1) c2)) := (GrX.refl _ _).set (.inl (by simp)) _
                have z3' := z3.out
                refine ⟨q + 1, u + s, L ++ [t], a2, c2, by go_num, by omega, hLn, Lib.hid ?_, Lib.hid ⟨?_, hn7.out, hB7.out⟩, Lib.hid ⟨hnr.out, by have := hnu.out.2; omega⟩, Lib.hid ?_, Lib.hid (hE7.out.set 8 _), gx7.set (.inl (by simp)) _⟩
                · rw [hln2.out]
                  exact owns_grx hown7.out g8 (fun x hx => by have := owns_lt hown7.out x hx; simp; omega)
                · exact (RecsIn.grx (K := fun b => W3.heap.size ≤ b) ⟨hr7.out, fun x hx _ => hB7.out x hx⟩ g8 (fun x hx => by simp at hx; omega)).1
                · have h1 := hrd7.out.grx g8 (by simp; omega) (fun b hb => by simp; omega)
                  rw [Nat.add_assoc] at h1
                  exact h1
              case measure => simp [intOf]; omega
        · have hqe : q = m9 := by omega
          have hqb : decide ((q : Int) < m9) = false := decide_eq_false (by omega)
          have hLe : L = L0 := by rw [hL.out, List.take_of_length_le (by rw [hm9.out]; omega)]
          have hu : u = j := by
            have h1 := hnu.out
            rw [hqe, Nat.sub_self] at h1
            obtain ⟨h2, h3⟩ := h1
            have h4 : (0 : Nat) = j - u := congrArg Prod.snd (Option.some.inj h2)
            omega
          have hrd8 := hrd.out
          rw [hu] at hrd8
          have gwo : Gr w wo := GrX.all gw3 hg (fun x hx => by simp at hx; rcases hx with rfl | rfl <;> omega)
          have hen := rend_no wo rb p _ hrd8 hl.out (hE.gr gwo) i1
          have hRo := hR3.out.grx hg (by simp; omega)
          replace hrd8 := Lib.hid hrd8
          replace hen := Lib.hid hen
          replace hRo := Lib.hid hRo
          replace hqe := Lib.hid hqe
          replace hLe := Lib.hid hLe
          replace hu := Lib.hid hu
          go_wp2_with fail
          refine hen.out.mono ?_
          rintro r w8 ⟨rfl, g8⟩
          have hR8 := hRo.out.gr g8
          have gw8 := gwo.trans g8
          have he := (hE.gr gw8).c0 i1
          have hl1 := hE.lt _ i1
          have y8_0 := hR8.cell (i := 0) (v := .int .i64 0) rfl
          have fy8_0 := hR8.free 0
          have y8_1 := hR8.cell (i := 1) (v := .int .i64 0) rfl
          have fy8_1 := hR8.free 1
          have y8_2 := hR8.cell (i := 2) (v := .int .i64 0) rfl
          have fy8_2 := hR8.free 2
          have y8_3 := hR8.cell (i := 3) (v := .int .i64 0) rfl
          have fy8_3 := hR8.free 3
          have y8_4 := hR8.cell (i := 4) (v := .int .i64 0) rfl
          have fy8_4 := hR8.free 4
          have y8_5 := hR8.cell (i := 5) (v := .int .i64 0) rfl
          have fy8_5 := hR8.free 5
          have y8_6 := hR8.cell (i := 6) (v := .int .i64 0) rfl
          have fy8_6 := hR8.free 6
          have y8_7 := hR8.cell (i := 7) (v := .int .i64 0) rfl
          have fy8_7 := hR8.free 7
          have y8_8 := hR8.cell (i := 8) (v := .slice none 0 0) rfl
          have fy8_8 := hR8.free 8
          have y8_9 := hR8.cell (i := 9) (v := .int .i64 0) rfl
          have fy8_9 := hR8.free 9
          have hz8 := hR8.lt
          replace hR8 := Lib.hid hR8
          go_upto_region 28 with fail
          go_region_held3 (fun w' => w'.cell? ⟨1, 0, none⟩ = some (.iface 137 (.pointer (some (E 1))))) (simp (maxDischargeDepth := 8) [go_sem, *])
            (first
              | fail)
          go_wp2_with fail
          refine bodyPost_ret (v := .tuple #[entZ, (Value.iface 137 (.pointer (some (E 1))))]) ?_ rfl ⟨rfl, ?_⟩
          · refine (res_cell (b := w.heap.size) (t := 79) Tryd.results42 _ _ ((hR8.out.set10 rfl _ _ _ _ _ _ _ _ _ _).drew) ?_ Tryd.underlying79 (by kernel_rfl)).trans ?_
            · simp
            · simp
          · exact (gw8.set10 (Nat.le_refl _) _ _ _ _ _ _ _ _ _ _).drew
set_option maxRecDepth 100000 in
set_option maxHeartbeats 12800000 in
theorem orderGet_e {G : List Nat} {E : Nat → Addr} (w : World) (hE : EAt G E w) (i0 : 0 ∈ G) (i1 : 1 ∈ G) (a : Option Addr) (c : Nat) (p : List UInt8) (hS : BytesAt w a p) (hcn : a = none → c = 0) (hpm : p.length ≤ 40000) (m0 m1 m2 m3 m4 m5 m6 m7 m8 k j : Nat) (L0 : List Tsk) (hN : numsR 10 p = some ([m0, m1, m2, m3, m4, m5, m6, m7, m8, L0.length], k)) (hT : numsR (4 * L0.length) (p.drop k) = some (L0.flatMap tskNat, j)) (ht8 : L0.length ≤ 8) (htk : ∀ t ∈ L0, Nums (tskN t)) (hl : k + j = p.length) (hf : entF (⟨m0, m1, m2, m4, ⟨m5, m6, m7⟩, m8, L0, m3⟩ : Ent) = false) :
    Calls Tryd.prog 42 #[.slice a p.length c] w fun r w' => r = .returned (.tuple #[entZ, (Value.iface 137 (.pointer (some (E 1))))]) ∧ Gr w w' := by
  have hr := newReader_any (w.alloc (.cells #[.int .i64 0, .int .i64 0, .int .i64 0, .int .i64 0, .int .i64 0, .int .i64 0, .int .i64 0, .int .i64 0, .slice none 0 0, .int .i64 0] 79)) a c p (hS.gr ((Gr.refl w).alloc _)) hcn (by omega)
  obtain ⟨n, hn⟩ : ∃ n, p.length = n := ⟨_, rfl⟩
  rw [hn] at hr ⊢
  obtain ⟨m9, hm9⟩ : ∃ m9, L0.length = m9 := ⟨_, rfl⟩
  rw [hm9] at hN hT ht8
  replace hr := Lib.hid hr
  replace hn := Lib.hid hn
  replace hS := Lib.hid hS
  replace hN := Lib.hid hN
  replace hT := Lib.hid hT
  replace hm9 := Lib.hid hm9
  replace hl := Lib.hid hl
  replace hf := Lib.hid hf
  replace htk := Lib.hid htk
  go_enter Tryd.func42, Tryd.ntmps42
  go_wp2_with fail
  refine hr.out.mono ?_
  rintro r w1 ⟨rb, rfl, hr1, hr2, g1⟩
  have hR1 : Blk w1 w.heap.size #[.int .i64 0, .int .i64 0, .int .i64 0, .int .i64 0, .int .i64 0, .int .i64 0, .int .i64 0, .int .i64 0, .slice none 0 0, .int .i64 0] 79 := (Blk.new w _ _).gr g1
  have gw1 : Gr w w1 := ((Gr.refl w).alloc _).trans g1
  have z1 := gw1.size
  simp only [World.size_alloc] at hr2
  have hzR := hR1.lt
  obtain ⟨nb, hnb⟩ : ∃ nb, w1.heap.size = nb := ⟨_, rfl⟩
  rw [hnb] at z1 hr1 hzR
  have hrl : rb < nb := by obtain ⟨_, _, hh, _⟩ := hr1; have := hh.lt; omega
  obtain ⟨W2, hW2⟩ : ∃ W2, W2 = w1.alloc (.cells #[.int .i64 0, .int .i64 0, .int .i64 0, .int .i64 0, .int .i64 0, .int .i64 0, .int .i64 0, .int .i64 0, .int .i64 0, .int .i64 0] 115) := ⟨_, rfl⟩
  have g12 : Gr w1 W2 := by rw [hW2]; exact (Gr.refl w1).alloc _
  have hr2' := hr1.gr g12
  have hb2 : Blk W2 nb #[.int .i64 0, .int .i64 0, .int .i64 0, .int .i64 0, .int .i64 0, .int .i64 0, .int .i64 0, .int .i64 0, .int .i64 0, .int .i64 0] 115 := by rw [hW2]; exact Blk.new1 hnb
  have hR2 := hR1.gr g12
  have gw2 := gw1.trans g12
  have zn2 := hb2.lt
  have h0 : numsR 10 p = (numsR (10 - ([] : List Nat).length) (p.drop 0)).map fun r => ([] ++ r.1, 0 + r.2) := by
    rw [List.length_nil, Nat.sub_zero, List.drop_zero]
    cases numsR 10 p with
    | none => rfl
    | some q => show some q = some (_, _); rw [Nat.zero_add]; rfl
  replace h0 := Lib.hid h0
  replace hr1 := Lib.hid hr1
  replace hr2' := Lib.hid hr2'
  replace hb2 := Lib.hid hb2
  replace hR1 := Lib.hid hR1
  replace hR2 := Lib.hid hR2
  replace hW2 := Lib.hid hW2
  go_upto_region 4 with fail
  rw [← hW2.out]
  go_loopw [17] (fun iv wr => ∃ (i q : Nat) (ns : List Nat), iv = .int .i64 i ∧ i ≤ 10 ∧ Hid (ns.length = i) ∧ Hid (numsR 10 p = (numsR (10 - ns.length) (p.drop q)).map fun r => (ns ++ r.1, q + r.2)) ∧ RdAt (· < nb) wr rb p q ∧ Blk wr nb (over #[.int .i64 0, .int .i64 0, .int .i64 0, .int .i64 0, .int .i64 0, .int .i64 0, .int .i64 0, .int .i64 0, .int .i64 0, .int .i64 0] ns) 115 ∧ GrX [rb, nb] W2 wr) (fun iv _ => 10 - (intOf iv).toNat)
  case atStart => exact ⟨0, 0, [], rfl, Nat.zero_le _, Lib.hid rfl, h0, hr2'.out, by rw [over_nil]; exact hb2.out, GrX.refl _ _⟩
  case round =>
    obtain ⟨i, q, ns, rfl, hi10, hns, heq, hrd, hbl, hg⟩ := hrel
    by_cases hi : i < 10
    · obtain ⟨s1, s2, s3⟩ := numsR_step (by rw [hns.out]; exact hi) heq.out
      rw [hN.out] at s1 s2
      obtain ⟨v, j2, hq, hv⟩ : ∃ v j2, numR (p.drop q) = some (v, j2) ∧ v ≤ 1099511627776 := by
        cases hq : numR (p.drop q) with
        | none => have := s1 hq; cases this
        | some x =>
          by_cases hx : x.1 ≤ 1099511627776
          · exact ⟨x.1, x.2, rfl, hx⟩
          · have := s2 x.1 x.2 hq (by omega); cases this
      have s4 := s3 v j2 hq hv
      have hi2 : (i : Int) < 10 := by omega
      have hnm := rnum_yes wr rb p q 1099511627776 hrd hq (by omega)
      clear s1 s2 s3
      replace s4 := Lib.hid s4
      replace hnm := Lib.hid hnm
      replace hq := Lib.hid hq
      replace hbl := Lib.hid hbl
      replace hrd := Lib.hid hrd
      go_wp2_with fail
      refine hnm.out.mono ?_
      rintro r w3 ⟨rfl, hrd1, hg1⟩
      have hb1 := hbl.out.grx hg1 (by simp; omega)
      have hsz : i < (over #[.int .i64 0, .int .i64 0, .int .i64 0, .int .i64 0, .int .i64 0, .int .i64 0, .int .i64 0, .int .i64 0, .int .i64 0, .int .i64 0] ns).size := by rw [over_size (by rw [hns.out]; exact hi10)]; exact hi
      have cA := hb1.cell (i := i) (Array.getElem?_eq_getElem hsz)
      have fA := hb1.free i
      have hzb := hb1.lt
      have hb3 := hb1.set i (.int .i64 v)
      rw [show (over #[.int .i64 0, .int .i64 0, .int .i64 0, .int .i64 0, .int .i64 0, .int .i64 0, .int .i64 0, .int .i64 0, .int .i64 0, .int .i64 0] ns).setIfInBounds i (.int .i64 (v : Int)) = over #[.int .i64 0, .int .i64 0, .int .i64 0, .int .i64 0, .int .i64 0, .int .i64 0, .int .i64 0, .int .i64 0, .int .i64 0, .int .i64 0] (ns ++ [v]) by have := over_set (cs := #[.int .i64 0, .int .i64 0, .int .i64 0, .int .i64 0, .int .i64 0, .int .i64 0, .int .i64 0, .int .i64 0, .int .i64 0, .int .i64 0]) (ns := ns) (by rw [hns.out]; exact hi) v; rwa [hns.out] at this] at hb3
      have hr3 := hrd1.grx (S := [nb]) ((GrX.refl _ _).set (p := ⟨nb, i, none⟩) (.inl (by simp)) (.int .i64 v)) (by simp; omega) (fun b hb => by simp; omega)
      replace hb1 := Lib.hid hb1
      replace hb3 := Lib.hid hb3
      replace hr3 := Lib.hid hr3
      replace hrd1 := Lib.hid hrd1
      replace hsz := Lib.hid hsz
      go_wp2_with fail
      go_roundw
      case rel => exact ⟨i + 1, q + j2, ns ++ [v], by go_num, by omega, Lib.hid (by rw [List.length_append, hns.out]; rfl), s4, hr3.out, hb3.out, (hg.trans (hg1.mono (fun x hx => by simp at hx; simp [hx]))).set (.inl (by simp)) _⟩
      case measure => simp [intOf]; omega
    · have hie : i = 10 := by omega
      have hib : decide ((i : Int) < 10) = false := decide_eq_false (by omega)
      have hdn := numsR_done (by rw [hns.out]; exact hie) heq.out
      rw [hN.out] at hdn
      obtain ⟨rfl, rfl⟩ : ns = [m0, m1, m2, m3, m4, m5, m6, m7, m8, m9] ∧ k = q := by cases hdn; exact ⟨rfl, rfl⟩
      have hbl2 : Blk wr nb #[.int .i64 m0, .int .i64 m1, .int .i64 m2, .int .i64 m3, .int .i64 m4, .int .i64 m5, .int .i64 m6, .int .i64 m7, .int .i64 m8, .int .i64 m9] 115 := hbl
      have gwr : Gr w wr := GrX.all gw2 hg (fun x hx => by simp at hx; rcases hx with rfl | rfl <;> omega)
      have hRr := hR2.out.grx hg (by simp; omega)
      have cn0 := hbl2.cell (i := 0) (v := .int .i64 m0) rfl
      have cn1 := hbl2.cell (i := 1) (v := .int .i64 m1) rfl
      have cn2 := hbl2.cell (i := 2) (v := .int .i64 m2) rfl
      have cn3 := hbl2.cell (i := 3) (v := .int .i64 m3) rfl
      have cn4 := hbl2.cell (i := 4) (v := .int .i64 m4) rfl
      have cn5 := hbl2.cell (i := 5) (v := .int .i64 m5) rfl
      have cn6 := hbl2.cell (i := 6) (v := .int .i64 m6) rfl
      have cn7 := hbl2.cell (i := 7) (v := .int .i64 m7) rfl
      have cn8 := hbl2.cell (i := 8) (v := .int .i64 m8) rfl
      have cn9 := hbl2.cell (i := 9) (v := .int .i64 m9) rfl
      have hzb := hbl2.lt
      have hzr := hRr.lt
      replace hie := Lib.hid hie
      replace hdn := Lib.hid hdn
      replace hbl := Lib.hid hbl
      replace hbl2 := Lib.hid hbl2
      replace hRr := Lib.hid hRr
      replace hrd := Lib.hid hrd
      have h8b : ¬ (8 : Int) < m9 := by omega
      obtain ⟨eb, heb⟩ : ∃ eb, wr.heap.size = eb := ⟨_, rfl⟩
      obtain ⟨W3, hW3⟩ : ∃ W3, W3 = wr.alloc (.cells #[.int .i64 m0, .int .i64 m1, .int .i64 m2, .int .i64 m4, .int .i64 m5, .int .i64 m6, .int .i64 m7, .int .i64 m8, .slice none 0 0, .int .i64 m3] 79) := ⟨_, rfl⟩
      have g3 : Gr wr W3 := by rw [hW3]; exact (Gr.refl wr).alloc _
      have hE3 : Blk W3 eb #[.int .i64 m0, .int .i64 m1, .int .i64 m2, .int .i64 m4, .int .i64 m5, .int .i64 m6, .int .i64 m7, .int .i64 m8, .slice none 0 0, .int .i64 m3] 79 := by rw [hW3]; exact Blk.new1 heb
      have hR3 := hRr.out.gr g3
      have hr3 := hrd.out.gr g3
      have gw3 := gwr.trans g3
      have z3 : W3.heap.size = eb + 1 := by rw [hW3]; simp [heb]
      have hT0 : numsR (4 * (m9 - 0)) (p.drop (k + 0)) = some ((L0.drop 0).flatMap tskNat, j - 0) := hT.out
      have hnbeb : nb < eb := by omega
      replace hW3 := Lib.hid hW3
      replace hE3 := Lib.hid hE3
      replace hR3 := Lib.hid hR3
      replace hr3 := Lib.hid hr3
      replace hT0 := Lib.hid hT0
      replace z3 := Lib.hid z3
      go_upto_region 15 with fail
      rw [← hW3.out]
      clear cn0 cn1 cn2 cn3 cn4 cn5 cn6 cn7 cn8 cn9
      go_loopw [61] (fun iv wr => ∃ (q u : Nat) (L : List Tsk) (a1 : Option Addr) (c1 : Nat), iv = .int .i64 q ∧ q ≤ m9 ∧ Hid (L = L0.take q) ∧ Hid (wr.ownsRow W3.heap.size 117 4 (.slice a1 q c1) L.length (L.flatMap Tsk.cells)) ∧ Hid (RecsAt 4 Tsk.cells wr a1 L ∧ (a1 = none → c1 = 0) ∧ ∀ y, a1 = some y → W3.heap.size ≤ y.block) ∧ Hid (numsR (4 * (m9 - q)) (p.drop (k + u)) = some ((L0.drop q).flatMap tskNat, j - u) ∧ u ≤ j) ∧ Hid (RdAt (· < nb) wr rb p (k + u)) ∧ Hid (Blk wr eb #[.int .i64 m0, .int .i64 m1, .int .i64 m2, .int .i64 m4, .int .i64 m5, .int .i64 m6, .int .i64 m7, .int .i64 m8, .slice a1 q c1, .int .i64 m3] 79) ∧ GrX [rb, eb] W3 wr) (fun iv _ => m9 - (intOf iv).toNat)
      case atStart => exact ⟨0, 0, [], none, 0, rfl, Nat.zero_le _, Lib.hid rfl, Lib.hid (World.ownsRow_nil _ _ _ _), Lib.hid ⟨fun i s h => by simp at h, fun _ => rfl, fun y h => by cases h⟩, Lib.hid ⟨hT0.out, Nat.zero_le _⟩, hr3, hE3, GrX.refl _ _⟩
      case round =>
        obtain ⟨q, u, L, a1, c1, rfl, hqm, hL, hO, hrc, hnu, hrd, hbl, hg⟩ := hrel
        obtain ⟨wo, rfl⟩ : ∃ wo : World, wo = wr := ⟨_, rfl⟩
        have hLl : L.length = q := by rw [hL.out, List.length_take, hm9.out]; omega
        have zo := hg.size
        by_cases hq : q < m9
        · obtain ⟨t, ht⟩ := get_some L0 q (by rw [hm9.out]; exact hq)
          obtain ⟨s, hs4, hsr, hsd⟩ := step_tasks ht hq hnu.out.1
          have htn := htk.out t (List.mem_of_getElem? ht)
          have hq2 : (q : Int) < m9 := by omega
          have hLn : L ++ [t] = L0.take (q + 1) := by rw [take_snoc ht, ← hL.out]
          obtain ⟨tb, htb⟩ : ∃ tb, wo.heap.size = tb := ⟨_, rfl⟩
          have hz3 := z3.out
          have hetb : eb < tb := by omega
          have hbt := (Blk.new1 htb : Blk (wo.alloc (.cells #[.int .i64 0, .int .i64 0, .int .i64 0, .int .i64 0] 117)) tb #[.int .i64 0, .int .i64 0, .int .i64 0, .int .i64 0] 117)
          have hrdt := hrd.out.gr ((Gr.refl wo).alloc (.cells #[.int .i64 0, .int .i64 0, .int .i64 0, .int .i64 0] 117))
          have h00 : numsR 4 (p.drop (k + u)) = (numsR (4 - ([] : List Nat).length) ((p.drop (k + u)).drop 0)).map fun r => ([] ++ r.1, 0 + r.2) := by
            rw [List.length_nil, Nat.sub_zero, List.drop_zero]
            cases numsR 4 (p.drop (k + u)) with
            | none => rfl
            | some q => show some q = some (_, _); rw [Nat.zero_add]; rfl
          replace h00 := Lib.hid h00
          replace hs4 := Lib.hid hs4
          replace hsr := Lib.hid hsr
          replace hLn := Lib.hid hLn
          replace hLl := Lib.hid hLl
          replace ht := Lib.hid ht
          replace htn := Lib.hid htn
          replace hbt := Lib.hid hbt
          replace hrdt := Lib.hid hrdt
          replace hz3 := Lib.hid hz3
          go_upto_region 18 with fail
          go_loopw [68] (fun iv wr => ∃ (i v : Nat) (ns : List Nat), iv = .int .i64 i ∧ i ≤ 4 ∧ Hid (ns.length = i) ∧ Hid (numsR 4 (p.drop (k + u)) = (numsR (4 - ns.length) ((p.drop (k + u)).drop v)).map fun r => (ns ++ r.1, v + r.2)) ∧ Hid (RdAt (· < nb) wr rb p (k + u + v)) ∧ Hid (Blk wr tb (over #[.int .i64 0, .int .i64 0, .int .i64 0, .int .i64 0] ns) 117) ∧ GrX [rb, tb] (wo.alloc (.cells #[.int .i64 0, .int .i64 0, .int .i64 0, .int .i64 0] 117)) wr) (fun iv _ => 4 - (intOf iv).toNat)
          case atStart => exact ⟨0, 0, [], rfl, Nat.zero_le _, Lib.hid rfl, h00, hrdt, Lib.hid (by rw [over_nil]; exact hbt.out), GrX.refl _ _⟩
          case round =>
            obtain ⟨i, v, ns, rfl, hi4, hns, heq, hrd4, hbl4, hg4⟩ := hrel
            by_cases hi : i < 4
            · obtain ⟨s1, s2, s3⟩ := numsR_step (by rw [hns.out]; exact hi) heq.out
              rw [List.drop_drop, hs4.out] at s1 s2
              rw [List.drop_drop] at s3
              obtain ⟨x, j2, hqr, hv⟩ : ∃ x j2, numR (p.drop (k + u + v)) = some (x, j2) ∧ x ≤ 1099511627776 := by
                cases hqr : numR (p.drop (k + u + v)) with
                | none => have := s1 hqr; cases this
                | some x =>
                  by_cases hx : x.1 ≤ 1099511627776
                  · exact ⟨x.1, x.2, rfl, hx⟩
                  · have := s2 x.1 x.2 hqr (by omega); cases this
              have s5 := s3 x j2 hqr hv
              have hi2 : (i : Int) < 4 := by omega
              have hnm := rnum_yes wr rb p (k + u + v) 1099511627776 hrd4.out hqr (by omega)
              have hix := fun w => idx_ptr (cs := #[.pointer (some ⟨tb, 0, none⟩), .pointer (some ⟨tb, 1, none⟩), .pointer (some ⟨tb, 2, none⟩), .pointer (some ⟨tb, 3, none⟩)]) w Tryd.underlying119 hi (ptrs4a i hi)
              clear s1 s2 s3
              replace s5 := Lib.hid s5
              replace hnm := Lib.hid hnm
              replace hqr := Lib.hid hqr
              go_wp2_with fail
              refine hnm.out.mono ?_
              rintro r w5 ⟨rfl, hrd5, hg5⟩
              have hb5 := hbl4.out.grx hg5 (by simp; omega)
              have hsz : i < (over #[.int .i64 0, .int .i64 0, .int .i64 0, .int .i64 0] ns).size := by rw [over_size (by rw [hns.out]; exact hi4)]; exact hi
              have cA := hb5.cell (i := i) (Array.getElem?_eq_getElem hsz)
              have fA := hb5.free i
              have hzb5 := hb5.lt
              have hb6 := hb5.set i (.int .i64 x)
              rw [show (over #[.int .i64 0, .int .i64 0, .int .i64 0, .int .i64 0] ns).setIfInBounds i (.int .i64 (x : Int)) = over #[.int .i64 0, .int .i64 0, .int .i64 0, .int .i64 0] (ns ++ [x]) by have := over_set (cs := #[.int .i64 0, .int .i64 0, .int .i64 0, .int .i64 0]) (ns := ns) (by rw [hns.out]; exact hi) x; rwa [hns.out] at this] at hb6
              have hr6 := hrd5.grx (S := [tb]) ((GrX.refl _ _).set (p := ⟨tb, i, none⟩) (.inl (by simp)) (.int .i64 x)) (by simp; omega) (fun b hb => by simp; omega)
              rw [Nat.add_assoc] at hr6
              replace hb5 := Lib.hid hb5
              replace hb6 := Lib.hid hb6
              replace hr6 := Lib.hid hr6
              replace hrd5 := Lib.hid hrd5
              replace hsz := Lib.hid hsz
              go_wp2_with fail
              go_roundw
              case rel => exact ⟨i + 1, v + j2, ns ++ [x], by go_num, by omega, Lib.hid (by rw [List.length_append, hns.out]; rfl), s5, hr6, hb6, (hg4.trans (hg5.mono (fun x hx => by simp at hx; simp [hx]))).set (.inl (by simp)) _⟩
              case measure => simp [intOf]; omega
            · have hie4 : i = 4 := by omega
              have hib4 : decide ((i : Int) < 4) = false := decide_eq_false (by omega)
              have hdn4 := numsR_done (by rw [hns.out]; exact hie4) heq.out
              rw [hs4.out] at hdn4
              obtain ⟨rfl, rfl⟩ : ns = tskNat t ∧ s = v := by cases hdn4; exact ⟨rfl, rfl⟩
              have hbT : Blk wr tb (Tsk.cells t).toArray 117 := by
                have h1 := hbl4.out
                have e : over #[.int .i64 0, .int .i64 0, .int .i64 0, .int .i64 0] (tskNat t) = (Tsk.cells t).toArray := by
                  show #[Value.int .i64 ((t.c.toNat : Nat) : Int), .int .i64 ((t.p.toNat : Nat) : Int), .int .i64 ((t.d.toNat : Nat) : Int), .int .i64 ((t.s.toNat : Nat) : Int)] = #[Value.int .i64 t.c, .int .i64 t.p, .int .i64 t.d, .int .i64 t.s]
                  have a0 := (htn.out t.c (by simp [tskN])).1
                  have a1 := (htn.out t.p (by simp [tskN])).1
                  have a2 := (htn.out t.d (by simp [tskN])).1
                  have a3 := (htn.out t.s (by simp [tskN])).1
                  rw [show ((t.c.toNat : Nat) : Int) = t.c by omega, show ((t.p.toNat : Nat) : Int) = t.p by omega, show ((t.d.toNat : Nat) : Int) = t.d by omega, show ((t.s.toNat : Nat) : Int) = t.s by omega]
                rw [e] at h1
                exact h1
              have hEr := (hbl.out.gr ((Gr.refl wo).alloc (.cells #[.int .i64 0, .int .i64 0, .int .i64 0, .int .i64 0] 117))).grx hg4 (by simp; omega)
              have hobt : ∀ x, (Value.slice a1 q c1).ownBlock = some x → W3.heap.size ≤ x ∧ x < wo.heap.size := fun x hx => by
                have := owns_lt hO.out x hx
                exact ⟨this.2, this.1⟩
              have hOr := owns_grx (owns_gr hO.out ((Gr.refl wo).alloc (.cells #[.int .i64 0, .int .i64 0, .int .i64 0, .int .i64 0] 117))) hg4 (fun x hx => by have := hobt x hx; have := z3.out; simp; omega)
              obtain ⟨wz, hwz⟩ : ∃ wz, wz = wr.alloc (.cells (Tsk.cells t).toArray 117) := ⟨_, rfl⟩
              have gz : Gr wr wz := by rw [hwz]; exact (Gr.refl wr).alloc _
              have hEz := hEr.gr gz
              have hOz := owns_gr hOr gz
              have hrz := hrd4.out.gr gz
              have hsz : RecsAt 4 Tsk.cells wz (some ⟨wr.heap.size, 0, none⟩) [t] := by rw [hwz]; exact recs_alloc1 Tsk.cells_len wr rfl [t] _ _ (by simp)
              have gx3 : GrX [rb, eb] W3 wz := ((hg.gr ((Gr.refl wo).alloc (.cells #[.int .i64 0, .int .i64 0, .int .i64 0, .int .i64 0] 117))).trans2 hg4 (fun x hx => by simp at hx; rcases hx with rfl | rfl; exact .inl (by simp); exact .inr (by omega))).gr gz
              have c8 := hEr.cell (i := 8) (v := .slice a1 q c1) rfl
              have d0 := hbT.cell (i := 0) (v := .int .i64 t.c) rfl
              have d1 := hbT.cell (i := 1) (v := .int .i64 t.p) rfl
              have d2 := hbT.cell (i := 2) (v := .int .i64 t.d) rfl
              have d3 := hbT.cell (i := 3) (v := .int .i64 t.s) rfl
              have hln2 : (L ++ [t]).length = q + 1 := by rw [List.length_append, hLl.out]; rfl
              have hwz3 : W3.heap.size ≤ wz.heap.size := gx3.size
              have hnr : numsR (4 * (m9 - (q + 1))) (p.drop (k + (u + s))) = some ((L0.drop (q + 1)).flatMap tskNat, j - (u + s)) := by
                have h1 := hsr.out
                rw [List.drop_drop, Nat.add_assoc, Nat.sub_sub] at h1
                exact h1
              replace hEr := Lib.hid hEr
              replace hOr := Lib.hid hOr
              replace hEz := Lib.hid hEz
              replace hOz := Lib.hid hOz
              replace hrz := Lib.hid hrz
              replace hsz := Lib.hid hsz
              replace hln2 := Lib.hid hln2
              replace hnr := Lib.hid hnr
              replace hbT := Lib.hid hbT
              replace hdn4 := Lib.hid hdn4
              replace hie4 := Lib.hid hie4
              replace hwz := Lib.hid hwz
              go_wp2_with (at_builtin; go_loud (rw [← hwz.out]; refine wpList_appT (B := W3.heap.size) rfl _ _ rfl a1 c1 q L rfl hLl.out hOz.out (some ⟨wr.heap.size, 0, none⟩) 1 [t] rfl hsz.out (fun h => by cases h) (by simp; omega) hwz3 ?_; intro a2 c2 w7 hown7 hr7 hn7 hB7 hgr7; rw [hln2.out] at hown7 ⊢; have hE7 := hEz.out.grown hgr7 (fun e => by have := hobt eb e.symm; have := z3.out; omega); have hrd7 := RdAt.grown hrz.out hgr7 (fun x hx => by have := hobt x hx; have := z3.out; constructor <;> omega); have gx7 := gx3.grown hgr7 (fun x hx => .inr (hobt x hx).1); have e8 := hE7.cell (i := 8) (v := .slice a1 q c1) rfl; have f8 := hE7.free 8; have z8 := hE7.lt; replace hown7 := Lib.hid hown7; replace hr7 := Lib.hid hr7; replace hn7 := Lib.hid hn7; replace hB7 := Lib.hid hB7; replace hE7 := Lib.hid hE7; replace hrd7 := Lib.hid hrd7; clear hgr7))
              go_roundw
              case rel =>
                have g8 : GrX [eb] w7 (w7.setCell ⟨eb, 8, none⟩ (.slice a2 (q + 1) c2)) := (GrX.refl _ _).set (.inl (by simp)) _
                have z3' := z3.out
                refine ⟨q + 1, u + s, L ++ [t], a2, c2, by go_num, by omega, hLn, Lib.hid ?_, Lib.hid ⟨?_, hn7.out, hB7.out⟩, Lib.hid ⟨hnr.out, by have := hnu.out.2; omega⟩, Lib.hid ?_, Lib.hid (hE7.out.set 8 _), gx7.set (.inl (by simp)) _⟩
                · rw [hln2.out]
                  exact owns_grx hown7.out g8 (fun x hx => by have := owns_lt hown7.out x hx; simp; omega)
                · exact (RecsIn.grx (K := fun b => W3.heap.size ≤ b) ⟨hr7.out, fun x hx _ => hB7.out x hx⟩ g8 (fun x hx => by simp at hx; omega)).1
                · have h1 := hrd7.out.grx g8 (by simp; omega) (fun b hb => by simp; omega)
                  rw [Nat.add_assoc] at h1
                  exact h1
              case measure => simp [intOf]; omega
        · have hqe : q = m9 := by omega
          have hqb : decide ((q : Int) < m9) = false := decide_eq_false (by omega)
          have hLe : L = L0 := by rw [hL.out, List.take_of_length_le (by rw [hm9.out]; omega)]
          have hu : u = j := by
            have h1 := hnu.out
            rw [hqe, Nat.sub_self] at h1
            obtain ⟨h2, h3⟩ := h1
            have h4 : (0 : Nat) = j - u := congrArg Prod.snd (Option.some.inj h2)
            omega
          have hrd8 := hrd.out
          rw [hu, hl.out] at hrd8
          have hen := rend_yes wo rb p hrd8
          have gwo : Gr w wo := GrX.all gw3 hg (fun x hx => by simp at hx; rcases hx with rfl | rfl <;> omega)
          have hRo := hR3.out.grx hg (by simp; omega)
          have hO' := hO.out
          rw [hLl] at hO'
          have hmx := owns_tmax hO'
          clear hO'
          have hok : (⟨(⟨m0, m1, m2, m4, ⟨m5, m6, m7⟩, m8, L0, m3⟩ : Ent), a1, c1⟩ : EntM).ok Any wo := by
            refine ⟨⟨by rw [← hLe]; exact hrc.out.1, fun _ _ _ => trivial⟩, hrc.out.2.1, by show L0.length ≤ c1; rw [hm9.out]; omega, hmx.2, by show L0.length * 32 ≤ _; rw [hm9.out]; omega⟩
          have hck := fun w8 (g : Gr wo w8) => check_any (⟨(⟨m0, m1, m2, m4, ⟨m5, m6, m7⟩, m8, L0, m3⟩ : Ent), a1, c1⟩ : EntM) w8 (hok.gr g) (hE.gr (gwo.trans g)) i0
          dsimp only at hck
          rw [hf.out, hm9.out] at hck
          rw [← hqe] at hck
          replace hrd8 := Lib.hid hrd8
          replace hen := Lib.hid hen
          replace hRo := Lib.hid hRo
          replace hok := Lib.hid hok
          replace hck := Lib.hid hck
          replace hqe := Lib.hid hqe
          replace hLe := Lib.hid hLe
          replace hu := Lib.hid hu
          go_wp2_with fail
          refine hen.out.mono ?_
          rintro r w8 ⟨rfl, g8⟩
          have hE8 := hbl.out.gr g8
          have x8_0 := hE8.cell (i := 0) (v := .int .i64 m0) rfl
          have x8_1 := hE8.cell (i := 1) (v := .int .i64 m1) rfl
          have x8_2 := hE8.cell (i := 2) (v := .int .i64 m2) rfl
          have x8_3 := hE8.cell (i := 3) (v := .int .i64 m4) rfl
          have x8_4 := hE8.cell (i := 4) (v := .int .i64 m5) rfl
          have x8_5 := hE8.cell (i := 5) (v := .int .i64 m6) rfl
          have x8_6 := hE8.cell (i := 6) (v := .int .i64 m7) rfl
          have x8_7 := hE8.cell (i := 7) (v := .int .i64 m8) rfl
          have x8_8 := hE8.cell (i := 8) (v := .slice a1 q c1) rfl
          have x8_9 := hE8.cell (i := 9) (v := .int .i64 m3) rfl
          have hck8 : Calls Tryd.prog 57 #[.agg #[.int .i64 m0, .int .i64 m1, .int .i64 m2, .int .i64 m4, .int .i64 m5, .int .i64 m6, .int .i64 m7, .int .i64 m8, .slice a1 q c1, .int .i64 m3]] w8 fun e w' => e = .returned (Value.iface 137 (.pointer (some (E 0)))) ∧ Gr w8 w' := hck.out w8 g8
          replace hE8 := Lib.hid hE8
          replace hck8 := Lib.hid hck8
          go_wp2_with fail
          refine hck8.out.mono ?_
          rintro r w9 ⟨rfl, g9⟩
          have hR9 := hRo.out.gr (g8.trans g9)
          have gw9 := gwo.trans (g8.trans g9)
          have he := (hE.gr gw9).c0 i1
          have hl1 := hE.lt _ i1
          have y9_0 := hR9.cell (i := 0) (v := .int .i64 0) rfl
          have fy9_0 := hR9.free 0
          have y9_1 := hR9.cell (i := 1) (v := .int .i64 0) rfl
          have fy9_1 := hR9.free 1
          have y9_2 := hR9.cell (i := 2) (v := .int .i64 0) rfl
          have fy9_2 := hR9.free 2
          have y9_3 := hR9.cell (i := 3) (v := .int .i64 0) rfl
          have fy9_3 := hR9.free 3
          have y9_4 := hR9.cell (i := 4) (v := .int .i64 0) rfl
          have fy9_4 := hR9.free 4
          have y9_5 := hR9.cell (i := 5) (v := .int .i64 0) rfl
          have fy9_5 := hR9.free 5
          have y9_6 := hR9.cell (i := 6) (v := .int .i64 0) rfl
          have fy9_6 := hR9.free 6
          have y9_7 := hR9.cell (i := 7) (v := .int .i64 0) rfl
          have fy9_7 := hR9.free 7
          have y9_8 := hR9.cell (i := 8) (v := .slice none 0 0) rfl
          have fy9_8 := hR9.free 8
          have y9_9 := hR9.cell (i := 9) (v := .int .i64 0) rfl
          have fy9_9 := hR9.free 9
          have hz9 := hR9.lt
          replace hR9 := Lib.hid hR9
          go_upto_region 28 with fail
          go_region_held3 (fun w' => w'.cell? ⟨1, 0, none⟩ = some (.iface 137 (.pointer (some (E 1))))) (simp (maxDischargeDepth := 8) [go_sem, *])
            (first
              | fail)
          go_wp2_with fail
          refine bodyPost_ret (v := .tuple #[entZ, (Value.iface 137 (.pointer (some (E 1))))]) ?_ rfl ⟨rfl, ?_⟩
          · refine (res_cell (b := w.heap.size) (t := 79) Tryd.results42 _ _ ((hR9.out.set10 rfl _ _ _ _ _ _ _ _ _ _).drew) ?_ Tryd.underlying79 (by kernel_rfl)).trans ?_
            · simp
            · simp
          · exact (gw9.set10 (Nat.le_refl _) _ _ _ _ _ _ _ _ _ _).drew


theorem step_tasks_none {q m : Nat} {l : List UInt8} (hqm : q < m) (h : numsR (4 * (m - q)) l = none) : numsR 4 l = none ∨ ∃ t s, numsR 4 l = some (tskNat t, s) ∧ Nums (tskN t) ∧ numsR (4 * (m - (q + 1))) (l.drop s) = none := by
  have hm : 4 * (m - q) = 4 + 4 * (m - (q + 1)) := by omega
  rw [hm, numsR_add] at h
  cases h4 : numsR 4 l with
  | none => exact .inl rfl
  | some x =>
    rw [h4] at h
    obtain ⟨h1, h2, -⟩ := numsR_get 4 l x.1 x.2 h4
    obtain ⟨a, b, c, d, he⟩ := fourN_of h1
    refine .inr ⟨⟨a, b, c, d⟩, x.2, ?_, fun n hn => ?_, ?_⟩
    · show some x = some ([a, b, c, d], x.2)
      rw [← he]
    · rw [he] at h2
      simp only [tskN, List.mem_cons, List.not_mem_nil, or_false] at hn
      rcases hn with rfl | rfl | rfl | rfl
      · have := h2 a (by simp); omega
      · have := h2 b (by simp); omega
      · have := h2 c (by simp); omega
      · have := h2 d (by simp); omega
    · have h5 : (numsR (4 * (m - (q + 1))) (l.drop x.2)).map (fun r => (x.1 ++ r.1, x.2 + r.2)) = none := h
      exact Option.map_eq_none_iff.1 h5
set_option maxRecDepth 100000 in
set_option maxHeartbeats 12800000 in
theorem orderGet_c {G : List Nat} {E : Nat → Addr} (w : World) (hE : EAt G E w) (i1 : 1 ∈ G) (a : Option Addr) (c : Nat) (p : List UInt8) (hS : BytesAt w a p) (hcn : a = none → c = 0) (hpm : p.length ≤ 40000) (m0 m1 m2 m3 m4 m5 m6 m7 m8 m9 k : Nat) (hN : numsR 10 p = some ([m0, m1, m2, m3, m4, m5, m6, m7, m8, m9], k)) (ht8 : m9 ≤ 8) (hT : numsR (4 * m9) (p.drop k) = none) :
    Calls Tryd.prog 42 #[.slice a p.length c] w fun r w' => r = .returned (.tuple #[entZ, (Value.iface 137 (.pointer (some (E 1))))]) ∧ Gr w w' := by
  have hr := newReader_any (w.alloc (.cells #[.int .i64 0, .int .i64 0, .int .i64 0, .int .i64 0, .int .i64 0, .int .i64 0, .int .i64 0, .int .i64 0, .slice none 0 0, .int .i64 0] 79)) a c p (hS.gr ((Gr.refl w).alloc _)) hcn (by omega)
  obtain ⟨n, hn⟩ : ∃ n, p.length = n := ⟨_, rfl⟩
  rw [hn] at hr ⊢
  replace hr := Lib.hid hr
  replace hn := Lib.hid hn
  replace hS := Lib.hid hS
  replace hN := Lib.hid hN
  replace hT := Lib.hid hT
  go_enter Tryd.func42, Tryd.ntmps42
  go_wp2_with fail
  refine hr.out.mono ?_
  rintro r w1 ⟨rb, rfl, hr1, hr2, g1⟩
  have hR1 : Blk w1 w.heap.size #[.int .i64 0, .int .i64 0, .int .i64 0, .int .i64 0, .int .i64 0, .int .i64 0, .int .i64 0, .int .i64 0, .slice none 0 0, .int .i64 0] 79 := (Blk.new w _ _).gr g1
  have gw1 : Gr w w1 := ((Gr.refl w).alloc _).trans g1
  have z1 := gw1.size
  simp only [World.size_alloc] at hr2
  have hzR := hR1.lt
  obtain ⟨nb, hnb⟩ : ∃ nb, w1.heap.size = nb := ⟨_, rfl⟩
  rw [hnb] at z1 hr1 hzR
  have hrl : rb < nb := by obtain ⟨_, _, hh, _⟩ := hr1; have := hh.lt; omega
  obtain ⟨W2, hW2⟩ : ∃ W2, W2 = w1.alloc (.cells #[.int .i64 0, .int .i64 0, .int .i64 0, .int .i64 0, .int .i64 0, .int .i64 0, .int .i64 0, .int .i64 0, .int .i64 0, .int .i64 0] 115) := ⟨_, rfl⟩
  have g12 : Gr w1 W2 := by rw [hW2]; exact (Gr.refl w1).alloc _
  have hr2' := hr1.gr g12
  have hb2 : Blk W2 nb #[.int .i64 0, .int .i64 0, .int .i64 0, .int .i64 0, .int .i64 0, .int .i64 0, .int .i64 0, .int .i64 0, .int .i64 0, .int .i64 0] 115 := by rw [hW2]; exact Blk.new1 hnb
  have hR2 := hR1.gr g12
  have gw2 := gw1.trans g12
  have zn2 := hb2.lt
  have h0 : numsR 10 p = (numsR (10 - ([] : List Nat).length) (p.drop 0)).map fun r => ([] ++ r.1, 0 + r.2) := by
    rw [List.length_nil, Nat.sub_zero, List.drop_zero]
    cases numsR 10 p with
    | none => rfl
    | some q => show some q = some (_, _); rw [Nat.zero_add]; rfl
  replace h0 := Lib.hid h0
  replace hr1 := Lib.hid hr1
  replace hr2' := Lib.hid hr2'
  replace hb2 := Lib.hid hb2
  replace hR1 := Lib.hid hR1
  replace hR2 := Lib.hid hR2
  replace hW2 := Lib.hid hW2
  go_upto_region 4 with fail
  rw [← hW2.out]
  go_loopw [17] (fun iv wr => ∃ (i q : Nat) (ns : List Nat), iv = .int .i64 i ∧ i ≤ 10 ∧ Hid (ns.length = i) ∧ Hid (numsR 10 p = (numsR (10 - ns.length) (p.drop q)).map fun r => (ns ++ r.1, q + r.2)) ∧ RdAt (· < nb) wr rb p q ∧ Blk wr nb (over #[.int .i64 0, .int .i64 0, .int .i64 0, .int .i64 0, .int .i64 0, .int .i64 0, .int .i64 0, .int .i64 0, .int .i64 0, .int .i64 0] ns) 115 ∧ GrX [rb, nb] W2 wr) (fun iv _ => 10 - (intOf iv).toNat)
  case atStart => exact ⟨0, 0, [], rfl, Nat.zero_le _, Lib.hid rfl, h0, hr2'.out, by rw [over_nil]; exact hb2.out, GrX.refl _ _⟩
  case round =>
    obtain ⟨i, q, ns, rfl, hi10, hns, heq, hrd, hbl, hg⟩ := hrel
    by_cases hi : i < 10
    · obtain ⟨s1, s2, s3⟩ := numsR_step (by rw [hns.out]; exact hi) heq.out
      rw [hN.out] at s1 s2
      obtain ⟨v, j2, hq, hv⟩ : ∃ v j2, numR (p.drop q) = some (v, j2) ∧ v ≤ 1099511627776 := by
        cases hq : numR (p.drop q) with
        | none => have := s1 hq; cases this
        | some x =>
          by_cases hx : x.1 ≤ 1099511627776
          · exact ⟨x.1, x.2, rfl, hx⟩
          · have := s2 x.1 x.2 hq (by omega); cases this
      have s4 := s3 v j2 hq hv
      have hi2 : (i : Int) < 10 := by omega
      have hnm := rnum_yes wr rb p q 1099511627776 hrd hq (by omega)
      clear s1 s2 s3
      replace s4 := Lib.hid s4
      replace hnm := Lib.hid hnm
      replace hq := Lib.hid hq
      replace hbl := Lib.hid hbl
      replace hrd := Lib.hid hrd
      go_wp2_with fail
      refine hnm.out.mono ?_
      rintro r w3 ⟨rfl, hrd1, hg1⟩
      have hb1 := hbl.out.grx hg1 (by simp; omega)
      have hsz : i < (over #[.int .i64 0, .int .i64 0, .int .i64 0, .int .i64 0, .int .i64 0, .int .i64 0, .int .i64 0, .int .i64 0, .int .i64 0, .int .i64 0] ns).size := by rw [over_size (by rw [hns.out]; exact hi10)]; exact hi
      have cA := hb1.cell (i := i) (Array.getElem?_eq_getElem hsz)
      have fA := hb1.free i
      have hzb := hb1.lt
      have hb3 := hb1.set i (.int .i64 v)
      rw [show (over #[.int .i64 0, .int .i64 0, .int .i64 0, .int .i64 0, .int .i64 0, .int .i64 0, .int .i64 0, .int .i64 0, .int .i64 0, .int .i64 0] ns).setIfInBounds i (.int .i64 (v : Int)) = over #[.int .i64 0, .int .i64 0, .int .i64 0, .int .i64 0, .int .i64 0, .int .i64 0, .int .i64 0, .int .i64 0, .int .i64 0, .int .i64 0] (ns ++ [v]) by have := over_set (cs := #[.int .i64 0, .int .i64 0, .int .i64 0, .int .i64 0, .int .i64 0, .int .i64 0, .int .i64 0, .int .i64 0, .int .i64 0, .int .i64 0]) (ns := ns) (by rw [hns.out]; exact hi) v; rwa [hns.out] at this] at hb3
      have hr3 := hrd1.grx (S := [nb]) ((GrX.refl _ _).set (p := ⟨nb, i, none⟩) (.inl (by simp)) (.int .i64 v)) (by simp; omega) (fun b hb => by simp; omega)
      replace hb1 := Lib.hid hb1
      replace hb3 := Lib.hid hb3
      replace hr3 := Lib.hid hr3
      replace hrd1 := Lib.hid hrd1
      replace hsz := Lib.hid hsz
      go_wp2_with fail
      go_roundw
      case rel => exact ⟨i + 1, q + j2, ns ++ [v], by go_num, by omega, Lib.hid (by rw [List.length_append, hns.out]; rfl), s4, hr3.out, hb3.out, (hg.trans (hg1.mono (fun x hx => by simp at hx; simp [hx]))).set (.inl (by simp)) _⟩
      case measure => simp [intOf]; omega
    · have hie : i = 10 := by omega
      have hib : decide ((i : Int) < 10) = false := decide_eq_false (by omega)
      have hdn := numsR_done (by rw [hns.out]; exact hie) heq.out
      rw [hN.out] at hdn
      obtain ⟨rfl, rfl⟩ : ns = [m0, m1, m2, m3, m4, m5, m6, m7, m8, m9] ∧ k = q := by cases hdn; exact ⟨rfl, rfl⟩
      have hbl2 : Blk wr nb #[.int .i64 m0, .int .i64 m1, .int .i64 m2, .int .i64 m3, .int .i64 m4, .int .i64 m5, .int .i64 m6, .int .i64 m7, .int .i64 m8, .int .i64 m9] 115 := hbl
      have gwr : Gr w wr := GrX.all gw2 hg (fun x hx => by simp at hx; rcases hx with rfl | rfl <;> omega)
      have hRr := hR2.out.grx hg (by simp; omega)
      have cn0 := hbl2.cell (i := 0) (v := .int .i64 m0) rfl
      have cn1 := hbl2.cell (i := 1) (v := .int .i64 m1) rfl
      have cn2 := hbl2.cell (i := 2) (v := .int .i64 m2) rfl
      have cn3 := hbl2.cell (i := 3) (v := .int .i64 m3) rfl
      have cn4 := hbl2.cell (i := 4) (v := .int .i64 m4) rfl
      have cn5 := hbl2.cell (i := 5) (v := .int .i64 m5) rfl
      have cn6 := hbl2.cell (i := 6) (v := .int .i64 m6) rfl
      have cn7 := hbl2.cell (i := 7) (v := .int .i64 m7) rfl
      have cn8 := hbl2.cell (i := 8) (v := .int .i64 m8) rfl
      have cn9 := hbl2.cell (i := 9) (v := .int .i64 m9) rfl
      have hzb := hbl2.lt
      have hzr := hRr.lt
      replace hie := Lib.hid hie
      replace hdn := Lib.hid hdn
      replace hbl := Lib.hid hbl
      replace hbl2 := Lib.hid hbl2
      replace hRr := Lib.hid hRr
      replace hrd := Lib.hid hrd
      have h8b : ¬ (8 : Int) < m9 := by omega
      obtain ⟨eb, heb⟩ : ∃ eb, wr.heap.size = eb := ⟨_, rfl⟩
      obtain ⟨W3, hW3⟩ : ∃ W3, W3 = wr.alloc (.cells #[.int .i64 m0, .int .i64 m1, .int .i64 m2, .int .i64 m4, .int .i64 m5, .int .i64 m6, .int .i64 m7, .int .i64 m8, .slice none 0 0, .int .i64 m3] 79) := ⟨_, rfl⟩
      have g3 : Gr wr W3 := by rw [hW3]; exact (Gr.refl wr).alloc _
      have hE3 : Blk W3 eb #[.int .i64 m0, .int .i64 m1, .int .i64 m2, .int .i64 m4, .int .i64 m5, .int .i64 m6, .int .i64 m7, .int .i64 m8, .slice none 0 0, .int .i64 m3] 79 := by rw [hW3]; exact Blk.new1 heb
      have hR3 := hRr.out.gr g3
      have hr3 := hrd.out.gr g3
      have gw3 := gwr.trans g3
      have z3 : W3.heap.size = eb + 1 := by rw [hW3]; simp [heb]
      have hT0 : numsR (4 * (m9 - 0)) (p.drop (k + 0)) = none := hT.out
      have hnbeb : nb < eb := by omega
      replace hW3 := Lib.hid hW3
      replace hE3 := Lib.hid hE3
      replace hR3 := Lib.hid hR3
      replace hr3 := Lib.hid hr3
      replace hT0 := Lib.hid hT0
      replace z3 := Lib.hid z3
      go_upto_region 15 with fail
      rw [← hW3.out]
      clear cn0 cn1 cn2 cn3 cn4 cn5 cn6 cn7 cn8 cn9
      go_loopw [61] (fun iv wr => ∃ (q u : Nat) (L : List Tsk) (a1 : Option Addr) (c1 : Nat), iv = .int .i64 q ∧ q ≤ m9 ∧ Hid (L.length = q) ∧ Hid (wr.ownsRow W3.heap.size 117 4 (.slice a1 q c1) L.length (L.flatMap Tsk.cells)) ∧ Hid (RecsAt 4 Tsk.cells wr a1 L ∧ (a1 = none → c1 = 0) ∧ ∀ y, a1 = some y → W3.heap.size ≤ y.block) ∧ Hid (numsR (4 * (m9 - q)) (p.drop (k + u)) = none) ∧ Hid (RdAt (· < nb) wr rb p (k + u)) ∧ Hid (Blk wr eb #[.int .i64 m0, .int .i64 m1, .int .i64 m2, .int .i64 m4, .int .i64 m5, .int .i64 m6, .int .i64 m7, .int .i64 m8, .slice a1 q c1, .int .i64 m3] 79) ∧ GrX [rb, eb] W3 wr) (fun iv _ => m9 - (intOf iv).toNat)
      case atStart => exact ⟨0, 0, [], none, 0, rfl, Nat.zero_le _, Lib.hid rfl, Lib.hid (World.ownsRow_nil _ _ _ _), Lib.hid ⟨fun i s h => by simp at h, fun _ => rfl, fun y h => by cases h⟩, hT0, hr3, hE3, GrX.refl _ _⟩
      case round =>
        obtain ⟨q, u, L, a1, c1, rfl, hqm, hL, hO, hrc, hnu, hrd, hbl, hg⟩ := hrel
        obtain ⟨wo, rfl⟩ : ∃ wo : World, wo = wr := ⟨_, rfl⟩
        have hLl : L.length = q := hL.out
        have zo := hg.size
        by_cases hq : q < m9
        · rcases step_tasks_none hq hnu.out with hs4 | ⟨t, s, hs4, htn, hsr⟩
          · have hq2 : (q : Int) < m9 := by omega
            obtain ⟨tb, htb⟩ : ∃ tb, wo.heap.size = tb := ⟨_, rfl⟩
            have hz3 := z3.out
            have hetb : eb < tb := by omega
            have hbt := (Blk.new1 htb : Blk (wo.alloc (.cells #[.int .i64 0, .int .i64 0, .int .i64 0, .int .i64 0] 117)) tb #[.int .i64 0, .int .i64 0, .int .i64 0, .int .i64 0] 117)
            have hrdt := hrd.out.gr ((Gr.refl wo).alloc (.cells #[.int .i64 0, .int .i64 0, .int .i64 0, .int .i64 0] 117))
            have h00 : numsR 4 (p.drop (k + u)) = (numsR (4 - ([] : List Nat).length) ((p.drop (k + u)).drop 0)).map fun r => ([] ++ r.1, 0 + r.2) := by
              rw [List.length_nil, Nat.sub_zero, List.drop_zero]
              cases numsR 4 (p.drop (k + u)) with
              | none => rfl
              | some q => show some q = some (_, _); rw [Nat.zero_add]; rfl
            replace h00 := Lib.hid h00
            replace hs4 := Lib.hid hs4
            replace hLl := Lib.hid hLl
            replace hbt := Lib.hid hbt
            replace hrdt := Lib.hid hrdt
            replace hz3 := Lib.hid hz3
            go_upto_region 18 with fail
            go_loopw [68] (fun iv wr => ∃ (i v : Nat) (ns : List Nat), iv = .int .i64 i ∧ i ≤ 4 ∧ Hid (ns.length = i) ∧ Hid (numsR 4 (p.drop (k + u)) = (numsR (4 - ns.length) ((p.drop (k + u)).drop v)).map fun r => (ns ++ r.1, v + r.2)) ∧ Hid (RdAt (· < nb) wr rb p (k + u + v)) ∧ Hid (Blk wr tb (over #[.int .i64 0, .int .i64 0, .int .i64 0, .int .i64 0] ns) 117) ∧ GrX [rb, tb] (wo.alloc (.cells #[.int .i64 0, .int .i64 0, .int .i64 0, .int .i64 0] 117)) wr) (fun iv _ => 4 - (intOf iv).toNat)
            case atStart => exact ⟨0, 0, [], rfl, Nat.zero_le _, Lib.hid rfl, h00, hrdt, Lib.hid (by rw [over_nil]; exact hbt.out), GrX.refl _ _⟩
            case round =>
              obtain ⟨i, v, ns, rfl, hi4, hns, heq, hrd4, hbl4, hg4⟩ := hrel
              by_cases hi : i < 4
              · obtain ⟨s1, s2, s3⟩ := numsR_step (by rw [hns.out]; exact hi) heq.out
                rw [List.drop_drop] at s1 s2 s3
                have gwr4 : Gr w wr := GrX.all gw3 ((hg.gr ((Gr.refl wo).alloc (.cells #[.int .i64 0, .int .i64 0, .int .i64 0, .int .i64 0] 117))).trans2 hg4 (fun x hx => by simp at hx; rcases hx with rfl | rfl; exact .inl (by simp); exact .inr (by have := z3.out; omega))) (fun x hx => by simp at hx; rcases hx with rfl | rfl <;> omega)
                have hRr4 := ((hR3.out.grx hg (by simp; omega)).gr ((Gr.refl wo).alloc (.cells #[.int .i64 0, .int .i64 0, .int .i64 0, .int .i64 0] 117))).grx hg4 (by simp; omega)
                by_cases hgood : ∃ x j2, numR (p.drop (k + u + v)) = some (x, j2) ∧ x ≤ 1099511627776
                · obtain ⟨x, j2, hqr, hv⟩ := hgood
                  replace hRr4 := Lib.hid hRr4
                  have s5 := s3 x j2 hqr hv
                  have hi2 : (i : Int) < 4 := by omega
                  have hnm := rnum_yes wr rb p (k + u + v) 1099511627776 hrd4.out hqr (by omega)
                  have hix := fun w => idx_ptr (cs := #[.pointer (some ⟨tb, 0, none⟩), .pointer (some ⟨tb, 1, none⟩), .pointer (some ⟨tb, 2, none⟩), .pointer (some ⟨tb, 3, none⟩)]) w Tryd.underlying119 hi (ptrs4a i hi)
                  clear s1 s2 s3
                  replace s5 := Lib.hid s5
                  replace hnm := Lib.hid hnm
                  replace hqr := Lib.hid hqr
                  go_wp2_with fail
                  refine hnm.out.mono ?_
                  rintro r w5 ⟨rfl, hrd5, hg5⟩
                  have hb5 := hbl4.out.grx hg5 (by simp; omega)
                  have hsz : i < (over #[.int .i64 0, .int .i64 0, .int .i64 0, .int .i64 0] ns).size := by rw [over_size (by rw [hns.out]; exact hi4)]; exact hi
                  have cA := hb5.cell (i := i) (Array.getElem?_eq_getElem hsz)
                  have fA := hb5.free i
                  have hzb5 := hb5.lt
                  have hb6 := hb5.set i (.int .i64 x)
                  rw [show (over #[.int .i64 0, .int .i64 0, .int .i64 0, .int .i64 0] ns).setIfInBounds i (.int .i64 (x : Int)) = over #[.int .i64 0, .int .i64 0, .int .i64 0, .int .i64 0] (ns ++ [x]) by have := over_set (cs := #[.int .i64 0, .int .i64 0, .int .i64 0, .int .i64 0]) (ns := ns) (by rw [hns.out]; exact hi) x; rwa [hns.out] at this] at hb6
                  have hr6 := hrd5.grx (S := [tb]) ((GrX.refl _ _).set (p := ⟨tb, i, none⟩) (.inl (by simp)) (.int .i64 x)) (by simp; omega) (fun b hb => by simp; omega)
                  rw [Nat.add_assoc] at hr6
                  replace hb5 := Lib.hid hb5
                  replace hb6 := Lib.hid hb6
                  replace hr6 := Lib.hid hr6
                  replace hrd5 := Lib.hid hrd5
                  replace hsz := Lib.hid hsz
                  go_wp2_with fail
                  go_roundw
                  case rel => exact ⟨i + 1, v + j2, ns ++ [x], by go_num, by omega, Lib.hid (by rw [List.length_append, hns.out]; rfl), s5, hr6, hb6, (hg4.trans (hg5.mono (fun x hx => by simp at hx; simp [hx]))).set (.inl (by simp)) _⟩
                  case measure => simp [intOf]; omega
                · have hi2 : (i : Int) < 4 := by omega
                  have hix := fun w => idx_ptr (cs := #[.pointer (some ⟨tb, 0, none⟩), .pointer (some ⟨tb, 1, none⟩), .pointer (some ⟨tb, 2, none⟩), .pointer (some ⟨tb, 3, none⟩)]) w Tryd.underlying119 hi (ptrs4a i hi)
                  have hnn := rnum_no wr rb p (k + u + v) 1099511627776 hrd4.out (hE.gr gwr4) i1 (fun x j hq => by
                    have : ¬ x ≤ 1099511627776 := fun hle => hgood ⟨x, j, hq, hle⟩
                    omega)
                  clear s1 s2 s3 hgood
                  replace hnn := Lib.hid hnn
                  replace hRr4 := Lib.hid hRr4
                  go_wp2_with fail
                  refine hnn.out.mono ?_
                  rintro r w5 ⟨rfl, g5⟩
                  have hR5 := hRr4.out.gr g5
                  have gw5 := gwr4.trans g5
                  have y5_0 := hR5.cell (i := 0) (v := .int .i64 0) rfl
                  have fy5_0 := hR5.free 0
                  have y5_1 := hR5.cell (i := 1) (v := .int .i64 0) rfl
                  have fy5_1 := hR5.free 1
                  have y5_2 := hR5.cell (i := 2) (v := .int .i64 0) rfl
                  have fy5_2 := hR5.free 2
                  have y5_3 := hR5.cell (i := 3) (v := .int .i64 0) rfl
                  have fy5_3 := hR5.free 3
                  have y5_4 := hR5.cell (i := 4) (v := .int .i64 0) rfl
                  have fy5_4 := hR5.free 4
                  have y5_5 := hR5.cell (i := 5) (v := .int .i64 0) rfl
                  have fy5_5 := hR5.free 5
                  have y5_6 := hR5.cell (i := 6) (v := .int .i64 0) rfl
                  have fy5_6 := hR5.free 6
                  have y5_7 := hR5.cell (i := 7) (v := .int .i64 0) rfl
                  have fy5_7 := hR5.free 7
                  have y5_8 := hR5.cell (i := 8) (v := .slice none 0 0) rfl
                  have fy5_8 := hR5.free 8
                  have y5_9 := hR5.cell (i := 9) (v := .int .i64 0) rfl
                  have fy5_9 := hR5.free 9
                  replace hR5 := Lib.hid hR5
                  go_wp2_with fail
                  refine bodyPost_ret (v := .tuple #[entZ, (Value.iface 137 (.pointer (some (E 1))))]) ?_ rfl ⟨rfl, ?_⟩
                  · refine (res_cell (b := w.heap.size) (t := 79) Tryd.results42 _ _ (hR5.out.set10 rfl _ _ _ _ _ _ _ _ _ _) ?_ Tryd.underlying79 (by kernel_rfl)).trans ?_
                    · simp
                    · simp
                  · exact gw5.set10 (Nat.le_refl _) _ _ _ _ _ _ _ _ _ _
              · have hie4 : i = 4 := by omega
                have hdn4 := numsR_done (by rw [hns.out]; exact hie4) heq.out
                rw [hs4.out] at hdn4
                cases hdn4
          · have hq2 : (q : Int) < m9 := by omega
            have hLn : (L ++ [t]).length = q + 1 := by rw [List.length_append, hLl]; rfl
            obtain ⟨tb, htb⟩ : ∃ tb, wo.heap.size = tb := ⟨_, rfl⟩
            have hz3 := z3.out
            have hetb : eb < tb := by omega
            have hbt := (Blk.new1 htb : Blk (wo.alloc (.cells #[.int .i64 0, .int .i64 0, .int .i64 0, .int .i64 0] 117)) tb #[.int .i64 0, .int .i64 0, .int .i64 0, .int .i64 0] 117)
            have hrdt := hrd.out.gr ((Gr.refl wo).alloc (.cells #[.int .i64 0, .int .i64 0, .int .i64 0, .int .i64 0] 117))
            have h00 : numsR 4 (p.drop (k + u)) = (numsR (4 - ([] : List Nat).length) ((p.drop (k + u)).drop 0)).map fun r => ([] ++ r.1, 0 + r.2) := by
              rw [List.length_nil, Nat.sub_zero, List.drop_zero]
              cases numsR 4 (p.drop (k + u)) with
              | none => rfl
              | some q => show some q = some (_, _); rw [Nat.zero_add]; rfl
            replace h00 := Lib.hid h00
            replace hs4 := Lib.hid hs4
            replace hsr := Lib.hid hsr
            replace hLn := Lib.hid hLn
            replace hLl := Lib.hid hLl
            replace htn := Lib.hid htn
            replace hbt := Lib.hid hbt
            replace hrdt := Lib.hid hrdt
            replace hz3 := Lib.hid hz3
            go_upto_region 18 with fail
            go_loopw [68] (fun iv wr => ∃ (i v : Nat) (ns : List Nat), iv = .int .i64 i ∧ i ≤ 4 ∧ Hid (ns.length = i) ∧ Hid (numsR 4 (p.drop (k + u)) = (numsR (4 - ns.length) ((p.drop (k + u)).drop v)).map fun r => (ns ++ r.1, v + r.2)) ∧ Hid (RdAt (· < nb) wr rb p (k + u + v)) ∧ Hid (Blk wr tb (over #[.int .i64 0, .int .i64 0, .int .i64 0, .int .i64 0] ns) 117) ∧ GrX [rb, tb] (wo.alloc (.cells #[.int .i64 0, .int .i64 0, .int .i64 0, .int .i64 0] 117)) wr) (fun iv _ => 4 - (intOf iv).toNat)
            case atStart => exact ⟨0, 0, [], rfl, Nat.zero_le _, Lib.hid rfl, h00, hrdt, Lib.hid (by rw [over_nil]; exact hbt.out), GrX.refl _ _⟩
            case round =>
              obtain ⟨i, v, ns, rfl, hi4, hns, heq, hrd4, hbl4, hg4⟩ := hrel
              by_cases hi : i < 4
              · obtain ⟨s1, s2, s3⟩ := numsR_step (by rw [hns.out]; exact hi) heq.out
                rw [List.drop_drop, hs4.out] at s1 s2
                rw [List.drop_drop] at s3
                obtain ⟨x, j2, hqr, hv⟩ : ∃ x j2, numR (p.drop (k + u + v)) = some (x, j2) ∧ x ≤ 1099511627776 := by
                  cases hqr : numR (p.drop (k + u + v)) with
                  | none => have := s1 hqr; cases this
                  | some x =>
                    by_cases hx : x.1 ≤ 1099511627776
                    · exact ⟨x.1, x.2, rfl, hx⟩
                    · have := s2 x.1 x.2 hqr (by omega); cases this
                have s5 := s3 x j2 hqr hv
                have hi2 : (i : Int) < 4 := by omega
                have hnm := rnum_yes wr rb p (k + u + v) 1099511627776 hrd4.out hqr (by omega)
                have hix := fun w => idx_ptr (cs := #[.pointer (some ⟨tb, 0, none⟩), .pointer (some ⟨tb, 1, none⟩), .pointer (some ⟨tb, 2, none⟩), .pointer (some ⟨tb, 3, none⟩)]) w Tryd.underlying119 hi (ptrs4a i hi)
                clear s1 s2 s3
                replace s5 := Lib.hid s5
                replace hnm := Lib.hid hnm
                replace hqr := Lib.hid hqr
                go_wp2_with fail
                refine hnm.out.mono ?_
                rintro r w5 ⟨rfl, hrd5, hg5⟩
                have hb5 := hbl4.out.grx hg5 (by simp; omega)
                have hsz : i < (over #[.int .i64 0, .int .i64 0, .int .i64 0, .int .i64 0] ns).size := by rw [over_size (by rw [hns.out]; exact hi4)]; exact hi
                have cA := hb5.cell (i := i) (Array.getElem?_eq_getElem hsz)
                have fA := hb5.free i
                have hzb5 := hb5.lt
                have hb6 := hb5.set i (.int .i64 x)
                rw [show (over #[.int .i64 0, .int .i64 0, .int .i64 0, .int .i64 0] ns).setIfInBounds i (.int .i64 (x : Int)) = over #[.int .i64 0, .int .i64 0, .int .i64 0, .int .i64 0] (ns ++ [x]) by have := over_set (cs := #[.int .i64 0, .int .i64 0, .int .i64 0, .int .i64 0]) (ns := ns) (by rw [hns.out]; exact hi) x; rwa [hns.out] at this] at hb6
                have hr6 := hrd5.grx (S := [tb]) ((GrX.refl _ _).set (p := ⟨tb, i, none⟩) (.inl (by simp)) (.int .i64 x)) (by simp; omega) (fun b hb => by simp; omega)
                rw [Nat.add_assoc] at hr6
                replace hb5 := Lib.hid hb5
                replace hb6 := Lib.hid hb6
                replace hr6 := Lib.hid hr6
                replace hrd5 := Lib.hid hrd5
                replace hsz := Lib.hid hsz
                go_wp2_with fail
                go_roundw
                case rel => exact ⟨i + 1, v + j2, ns ++ [x], by go_num, by omega, Lib.hid (by rw [List.length_append, hns.out]; rfl), s5, hr6, hb6, (hg4.trans (hg5.mono (fun x hx => by simp at hx; simp [hx]))).set (.inl (by simp)) _⟩
                case measure => simp [intOf]; omega
              · have hie4 : i = 4 := by omega
                have hib4 : decide ((i : Int) < 4) = false := decide_eq_false (by omega)
                have hdn4 := numsR_done (by rw [hns.out]; exact hie4) heq.out
                rw [hs4.out] at hdn4
                obtain ⟨rfl, rfl⟩ : ns = tskNat t ∧ s = v := by cases hdn4; exact ⟨rfl, rfl⟩
                have hbT : Blk wr tb (Tsk.cells t).toArray 117 := by
                  have h1 := hbl4.out
                  have e : over #[.int .i64 0, .int .i64 0, .int .i64 0, .int .i64 0] (tskNat t) = (Tsk.cells t).toArray := by
                    show #[Value.int .i64 ((t.c.toNat : Nat) : Int), .int .i64 ((t.p.toNat : Nat) : Int), .int .i64 ((t.d.toNat : Nat) : Int), .int .i64 ((t.s.toNat : Nat) : Int)] = #[Value.int .i64 t.c, .int .i64 t.p, .int .i64 t.d, .int .i64 t.s]
                    have a0 := (htn.out t.c (by simp [tskN])).1
                    have a1 := (htn.out t.p (by simp [tskN])).1
                    have a2 := (htn.out t.d (by simp [tskN])).1
                    have a3 := (htn.out t.s (by simp [tskN])).1
                    rw [show ((t.c.toNat : Nat) : Int) = t.c by omega, show ((t.p.toNat : Nat) : Int) = t.p by omega, show ((t.d.toNat : Nat) : Int) = t.d by omega, show ((t.s.toNat : Nat) : Int) = t.s by omega]
                  rw [e] at h1
                  exact h1
                have hEr := (hbl.out.gr ((Gr.refl wo).alloc (.cells #[.int .i64 0, .int .i64 0, .int .i64 0, .int .i64 0] 117))).grx hg4 (by simp; omega)
                have hobt : ∀ x, (Value.slice a1 q c1).ownBlock = some x → W3.heap.size ≤ x ∧ x < wo.heap.size := fun x hx => by
                  have := owns_lt hO.out x hx
                  exact ⟨this.2, this.1⟩
                have hOr := owns_grx (owns_gr hO.out ((Gr.refl wo).alloc (.cells #[.int .i64 0, .int .i64 0, .int .i64 0, .int .i64 0] 117))) hg4 (fun x hx => by have := hobt x hx; have := z3.out; simp; omega)
                obtain ⟨wz, hwz⟩ : ∃ wz, wz = wr.alloc (.cells (Tsk.cells t).toArray 117) := ⟨_, rfl⟩
                have gz : Gr wr wz := by rw [hwz]; exact (Gr.refl wr).alloc _
                have hEz := hEr.gr gz
                have hOz := owns_gr hOr gz
                have hrz := hrd4.out.gr gz
                have hsz : RecsAt 4 Tsk.cells wz (some ⟨wr.heap.size, 0, none⟩) [t] := by rw [hwz]; exact recs_alloc1 Tsk.cells_len wr rfl [t] _ _ (by simp)
                have gx3 : GrX [rb, eb] W3 wz := ((hg.gr ((Gr.refl wo).alloc (.cells #[.int .i64 0, .int .i64 0, .int .i64 0, .int .i64 0] 117))).trans2 hg4 (fun x hx => by simp at hx; rcases hx with rfl | rfl; exact .inl (by simp); exact .inr (by omega))).gr gz
                have c8 := hEr.cell (i := 8) (v := .slice a1 q c1) rfl
                have d0 := hbT.cell (i := 0) (v := .int .i64 t.c) rfl
                have d1 := hbT.cell (i := 1) (v := .int .i64 t.p) rfl
                have d2 := hbT.cell (i := 2) (v := .int .i64 t.d) rfl
                have d3 := hbT.cell (i := 3) (v := .int .i64 t.s) rfl
                have hln2 : (L ++ [t]).length = q + 1 := by rw [List.length_append, hLl.out]; rfl
                have hwz3 : W3.heap.size ≤ wz.heap.size := gx3.size
                have hnr : numsR (4 * (m9 - (q + 1))) (p.drop (k + (u + s))) = none := by
                  have h1 := hsr.out
                  rw [List.drop_drop, Nat.add_assoc] at h1
                  exact h1
                replace hEr := Lib.hid hEr
                replace hOr := Lib.hid hOr
                replace hEz := Lib.hid hEz
                replace hOz := Lib.hid hOz
                replace hrz := Lib.hid hrz
                replace hsz := Lib.hid hsz
                replace hln2 := Lib.hid hln2
                replace hnr := Lib.hid hnr
                replace hbT := Lib.hid hbT
                replace hdn4 := Lib.hid hdn4
                replace hie4 := Lib.hid hie4
                replace hwz := Lib.hid hwz
                go_wp2_with (at_builtin; go_loud (rw [← hwz.out]; refine wpList_appT (B := W3.heap.size) rfl _ _ rfl a1 c1 q L rfl hLl.out hOz.out (some ⟨wr.heap.size, 0, none⟩) 1 [t] rfl hsz.out (fun h => by cases h) (by simp; omega) hwz3 ?_; intro a2 c2 w7 hown7 hr7 hn7 hB7 hgr7; rw [hln2.out] at hown7 ⊢; have hE7 := hEz.out.grown hgr7 (fun e => by have := hobt eb e.symm; have := z3.out; omega); have hrd7 := RdAt.grown hrz.out hgr7 (fun x hx => by have := hobt x hx; have := z3.out; constructor <;> omega); have gx7 := gx3.grown hgr7 (fun x hx => .inr (hobt x hx).1); have e8 := hE7.cell (i := 8) (v := .slice a1 q c1) rfl; have f8 := hE7.free 8; have z8 := hE7.lt; replace hown7 := Lib.hid hown7; replace hr7 := Lib.hid hr7; replace hn7 := Lib.hid hn7; replace hB7 := Lib.hid hB7; replace hE7 := Lib.hid hE7; replace hrd7 := Lib.hid hrd7; clear hgr7))
                go_roundw
                case rel =>
                  have g8 : GrX [eb] w7 (w7.setCell ⟨eb, 8, none⟩ (.slice a2 (q + 1) c2)) := (GrX.refl _ _).set (.inl (by simp)) _
                  have z3' := z3.out
                  refine ⟨q + 1, u + s, L ++ [t], a2, c2, by go_num, by omega, hLn, Lib.hid ?_, Lib.hid ⟨?_, hn7.out, hB7.out⟩, hnr, Lib.hid ?_, Lib.hid (hE7.out.set 8 _), gx7.set (.inl (by simp)) _⟩
                  · rw [hln2.out]
                    exact owns_grx hown7.out g8 (fun x hx => by have := owns_lt hown7.out x hx; simp; omega)
                  · exact (RecsIn.grx (K := fun b => W3.heap.size ≤ b) ⟨hr7.out, fun x hx _ => hB7.out x hx⟩ g8 (fun x hx => by simp at hx; omega)).1
                  · have h1 := hrd7.out.grx g8 (by simp; omega) (fun b hb => by simp; omega)
                    rw [Nat.add_assoc] at h1
                    exact h1
                case measure => simp [intOf]; omega
        · have hqe : q = m9 := by omega
          have h1 := hnu.out
          rw [hqe, Nat.sub_self] at h1
          cases h1


/-- Lists of numbers as tasks. -/
def mkT : List Nat → List Tsk
  | a :: b :: c :: d :: r => ⟨a, b, c, d⟩ :: mkT r
  | _ => []
theorem mkT_flat : ∀ (m : Nat) (l : List Nat), l.length = 4 * m → (∀ n ∈ l, n ≤ 1099511627776) → (mkT l).flatMap tskNat = l ∧ (mkT l).length = m ∧ ∀ t ∈ mkT l, Nums (tskN t)
  | 0, l, h, _ => by
    obtain rfl : l = [] := List.length_eq_zero_iff.1 (by omega)
    exact ⟨rfl, rfl, fun _ h => by cases h⟩
  | m + 1, l, h, hb => by
    match l, h with
    | a :: b :: c :: d :: r, h =>
      obtain ⟨h1, h2, h3⟩ := mkT_flat m r (by simp at h; omega) (fun n hn => hb n (by simp [hn]))
      refine ⟨?_, ?_, fun t ht => ?_⟩
      · show tskNat ⟨a, b, c, d⟩ ++ (mkT r).flatMap tskNat = _
        rw [h1]
        rfl
      · show (mkT r).length + 1 = _
        rw [h2]
      · rcases List.mem_cons.1 ht with rfl | ht
        · intro n hn
          simp only [tskN, List.mem_cons, List.not_mem_nil, or_false] at hn
          rcases hn with rfl | rfl | rfl | rfl
          · have := hb a (by simp); omega
          · have := hb b (by simp); omega
          · have := hb c (by simp); omega
          · have := hb d (by simp); omega
        · exact h3 t ht
/-- The bytes of an entry in form, as they are read. -/
def entYes (p : List UInt8) (m0 m1 m2 m3 m4 m5 m6 m7 m8 k j : Nat) (L0 : List Tsk) : Prop := numsR 10 p = some ([m0, m1, m2, m3, m4, m5, m6, m7, m8, L0.length], k) ∧ numsR (4 * L0.length) (p.drop k) = some (L0.flatMap tskNat, j) ∧ k + j = p.length ∧ entF (⟨m0, m1, m2, m4, ⟨m5, m6, m7⟩, m8, L0, m3⟩ : Ent) = true
/-- The ways in which bytes are refused as an entry. -/
def entNo (p : List UInt8) : Prop := numsR 10 p = none ∨ ∃ m0 m1 m2 m3 m4 m5 m6 m7 m8 m9 k, numsR 10 p = some ([m0, m1, m2, m3, m4, m5, m6, m7, m8, m9], k) ∧ (8 < m9 ∨ m9 ≤ 8 ∧ (numsR (4 * m9) (p.drop k) = none ∨ ∃ (L0 : List Tsk) (j : Nat), L0.length = m9 ∧ numsR (4 * m9) (p.drop k) = some (L0.flatMap tskNat, j) ∧ (∀ t ∈ L0, Nums (tskN t)) ∧ (k + j < p.length ∨ k + j = p.length ∧ entF (⟨m0, m1, m2, m4, ⟨m5, m6, m7⟩, m8, L0, m3⟩ : Ent) = false)))
theorem ent_cases (p : List UInt8) : entNo p ∨ ∃ m0 m1 m2 m3 m4 m5 m6 m7 m8 k j L0, entYes p m0 m1 m2 m3 m4 m5 m6 m7 m8 k j L0 := by
  cases h : numsR 10 p with
  | none => exact .inl (.inl h)
  | some q =>
    obtain ⟨ns, k⟩ := q
    obtain ⟨m0, m1, m2, m3, m4, m5, m6, m7, m8, m9, rfl⟩ := ten_of (numsR_get 10 p ns k h).1
    by_cases h8 : 8 < m9
    · exact .inl (.inr ⟨m0, m1, m2, m3, m4, m5, m6, m7, m8, m9, k, h, .inl h8⟩)
    · cases ht : numsR (4 * m9) (p.drop k) with
      | none => exact .inl (.inr ⟨m0, m1, m2, m3, m4, m5, m6, m7, m8, m9, k, h, .inr ⟨by omega, .inl ht⟩⟩)
      | some x =>
        obtain ⟨ts, j⟩ := x
        obtain ⟨g1, g2, g3, g4⟩ := numsR_get (4 * m9) (p.drop k) ts j ht
        obtain ⟨e1, e2, e3⟩ := mkT_flat m9 ts g1 g2
        have hkl := (numsR_get 10 p _ k h).2.2
        have hle : k + j ≤ p.length := by
          have h1 := congrArg List.length g3
          have h2 := congrArg List.length hkl.1
          rw [List.length_append, List.length_drop, List.length_drop] at h1
          rw [List.length_append, List.length_drop] at h2
          omega
        by_cases hl : k + j = p.length
        · cases hf : entF (⟨m0, m1, m2, m4, ⟨m5, m6, m7⟩, m8, mkT ts, m3⟩ : Ent) with
          | true => exact .inr ⟨m0, m1, m2, m3, m4, m5, m6, m7, m8, k, j, mkT ts, by rw [e2]; exact h, by rw [e1, e2]; exact ht, hl, hf⟩
          | false => exact .inl (.inr ⟨m0, m1, m2, m3, m4, m5, m6, m7, m8, m9, k, h, .inr ⟨by omega, .inr ⟨mkT ts, j, e2, by rw [e1]; exact ht, e3, .inr ⟨hl, hf⟩⟩⟩⟩)
        · exact .inl (.inr ⟨m0, m1, m2, m3, m4, m5, m6, m7, m8, m9, k, h, .inr ⟨by omega, .inr ⟨mkT ts, j, e2, by rw [e1]; exact ht, e3, .inl (by omega)⟩⟩⟩)
theorem orderGet_no {G : List Nat} {E : Nat → Addr} (w : World) (hE : EAt G E w) (i0 : 0 ∈ G) (i1 : 1 ∈ G) (a : Option Addr) (c : Nat) (p : List UInt8) (hS : BytesAt w a p) (hcn : a = none → c = 0) (hpm : p.length ≤ 40000) (hno : entNo p) :
    Calls Tryd.prog 42 #[.slice a p.length c] w fun r w' => r = .returned (.tuple #[entZ, (Value.iface 137 (.pointer (some (E 1))))]) ∧ Gr w w' := by
  rcases hno with h | ⟨m0, m1, m2, m3, m4, m5, m6, m7, m8, m9, k, h, h8 | ⟨h8, ht | ⟨L0, j, rfl, ht, hn, hl | ⟨hl, hf⟩⟩⟩⟩
  · exact orderGet_a w hE i1 a c p hS hcn hpm h
  · exact orderGet_b w hE i1 a c p hS hcn hpm m0 m1 m2 m3 m4 m5 m6 m7 m8 m9 k h h8
  · exact orderGet_c w hE i1 a c p hS hcn hpm m0 m1 m2 m3 m4 m5 m6 m7 m8 m9 k h h8 ht
  · exact orderGet_d w hE i1 a c p hS hcn hpm m0 m1 m2 m3 m4 m5 m6 m7 m8 k j L0 h ht h8 hn hl
  · exact orderGet_e w hE i0 i1 a c p hS hcn hpm m0 m1 m2 m3 m4 m5 m6 m7 m8 k j L0 h ht h8 hn hl hf


theorem numsR_ge : ∀ (m : Nat) (l : List UInt8) (ns : List Nat) (k : Nat), numsR m l = some (ns, k) → m ≤ k ∧ k ≤ l.length
  | 0, l, ns, k, h => by cases h; exact ⟨Nat.le_refl _, Nat.zero_le _⟩
  | m + 1, l, ns, k, h => by
    rw [numsR_succ] at h
    split at h
    · cases h
    · rename_i q hq
      split at h
      · obtain ⟨x, hx, he⟩ := Option.map_eq_some_iff.1 h
        cases he
        have h1 := numsR_ge m _ _ _ hx
        have h2 := numR_bd hq
        rw [List.length_drop] at h1
        omega
      · cases h
theorem numsR_cut {i r : Nat} {p : List UInt8} {xs : List Nat} {s : Nat} (h : numsR (i + r) p = some (xs, s)) : ∃ ns q ys t, numsR i p = some (ns, q) ∧ numsR r (p.drop q) = some (ys, t) ∧ xs = ns ++ ys ∧ s = q + t ∧ r ≤ t := by
  rw [numsR_add] at h
  obtain ⟨x, hx, h2⟩ := Option.bind_eq_some_iff.1 h
  obtain ⟨y, hy, h3⟩ := Option.map_eq_some_iff.1 h2
  cases h3
  exact ⟨x.1, x.2, y.1, y.2, hx, hy, rfl, rfl, (numsR_ge r _ _ _ hy).1⟩
theorem numsR_snoc {i : Nat} {p : List UInt8} {ns : List Nat} {q v j : Nat} (h : numsR i p = some (ns, q)) (hq : numR (p.drop q) = some (v, j)) (hv : v ≤ 1099511627776) : numsR (i + 1) p = some (ns ++ [v], q + j) := by
  rw [numsR_add, h]
  show (numsR 1 (p.drop q)).map _ = _
  rw [numsR_succ, hq]
  dsimp only
  rw [if_pos hv]
  rfl
theorem numsR_stop {i : Nat} {p : List UInt8} {ns : List Nat} {q : Nat} (h : numsR i p = some (ns, q)) (hq : ∀ v j, numR (p.drop q) = some (v, j) → 1099511627776 < v) : numsR (i + 1) p = none := by
  rw [numsR_add, h]
  show (numsR 1 (p.drop q)).map _ = _
  rw [numsR_succ]
  cases hn : numR (p.drop q) with
  | none => rfl
  | some x =>
    dsimp only
    rw [if_neg (by have := hq x.1 x.2 hn; omega)]
    rfl
/-- All the numbers of an entry. -/
abbrev entNs (m0 m1 m2 m3 m4 m5 m6 m7 m8 : Nat) (L0 : List Tsk) : List Nat := [m0, m1, m2, m3, m4, m5, m6, m7, m8, L0.length] ++ L0.flatMap tskNat
theorem entYes.all {p : List UInt8} {m0 m1 m2 m3 m4 m5 m6 m7 m8 k j : Nat} {L0 : List Tsk} (h : entYes p m0 m1 m2 m3 m4 m5 m6 m7 m8 k j L0) : numsR (10 + 4 * L0.length) p = some (entNs m0 m1 m2 m3 m4 m5 m6 m7 m8 L0, p.length) := by
  obtain ⟨h1, h2, h3, -⟩ := h
  rw [numsR_add, h1]
  show (numsR _ (p.drop k)).map _ = _
  rw [h2]
  show some (_, k + j) = _
  rw [h3]
theorem entYes.eight {p : List UInt8} {m0 m1 m2 m3 m4 m5 m6 m7 m8 k j : Nat} {L0 : List Tsk} (h : entYes p m0 m1 m2 m3 m4 m5 m6 m7 m8 k j L0) : L0.length ≤ 8 := (ent_tasks h.2.2.2).1
/-- A number that cannot be read, ahead of the end. -/
theorem ent_stop {p : List UInt8} {i q : Nat} {ns : List Nat} (h : numsR i p = some (ns, q)) (hq : q < p.length) (hn : numsR (i + 1) p = none) : entNo p := by
  rcases ent_cases p with hc | ⟨m0, m1, m2, m3, m4, m5, m6, m7, m8, k, j, L0, hy⟩
  · exact hc
  · exfalso
    have ha := hy.all
    by_cases hi : i + 1 ≤ 10 + 4 * L0.length
    · obtain ⟨r, hr⟩ : ∃ r, 10 + 4 * L0.length = (i + 1) + r := ⟨10 + 4 * L0.length - (i + 1), by omega⟩
      rw [hr] at ha
      obtain ⟨_, _, _, _, h1, _⟩ := numsR_cut ha
      rw [hn] at h1
      cases h1
    · obtain ⟨r, hr⟩ : ∃ r, i = 10 + 4 * L0.length + r := ⟨i - (10 + 4 * L0.length), by omega⟩
      rw [hr] at h
      obtain ⟨ns1, q1, ys, t, h1, _, _, h4, h5⟩ := numsR_cut h
      rw [ha] at h1
      cases h1
      omega
/-- Where the reading ends, the bytes being an entry's. -/
theorem ent_end {p : List UInt8} {i q : Nat} {ns : List Nat} (h : numsR i p = some (ns, q)) (he : ¬ (q < p.length ∧ i ≤ 42)) {m0 m1 m2 m3 m4 m5 m6 m7 m8 k j : Nat} {L0 : List Tsk} (hy : entYes p m0 m1 m2 m3 m4 m5 m6 m7 m8 k j L0) :
    i = 10 + 4 * L0.length ∧ q = p.length ∧ ns = entNs m0 m1 m2 m3 m4 m5 m6 m7 m8 L0 := by
  have ha := hy.all
  have h8 := hy.eight
  have hqp := (numsR_ge i p ns q h).2
  have hi : i = 10 + 4 * L0.length := by
    by_cases h1 : i ≤ 10 + 4 * L0.length
    · obtain ⟨r, hr⟩ : ∃ r, 10 + 4 * L0.length = i + r := ⟨10 + 4 * L0.length - i, by omega⟩
      rw [hr] at ha
      obtain ⟨ns1, q1, ys, t, g1, _, _, g4, g5⟩ := numsR_cut ha
      rw [h] at g1
      cases g1
      omega
    · obtain ⟨r, hr⟩ : ∃ r, i = 10 + 4 * L0.length + r := ⟨i - (10 + 4 * L0.length), by omega⟩
      rw [hr] at h
      obtain ⟨ns1, q1, ys, t, g1, _, _, g4, g5⟩ := numsR_cut h
      rw [ha] at g1
      cases g1
      omega
  rw [hi, ha] at h
  cases h
  exact ⟨hi, rfl, rfl⟩
theorem ent_no_end {p : List UInt8} {i q : Nat} {ns : List Nat} (h : numsR i p = some (ns, q)) (he : ¬ (q < p.length ∧ i ≤ 42)) (hbad : ∀ m0 m1 m2 m3 m4 m5 m6 m7 m8 (L0 : List Tsk), q = p.length → L0.length ≤ 8 → i = 10 + 4 * L0.length → ns = entNs m0 m1 m2 m3 m4 m5 m6 m7 m8 L0 → False) : entNo p := by
  rcases ent_cases p with hc | ⟨m0, m1, m2, m3, m4, m5, m6, m7, m8, k, j, L0, hy⟩
  · exact hc
  · exfalso
    obtain ⟨h1, h2, h3⟩ := ent_end h he hy
    exact hbad _ _ _ _ _ _ _ _ _ L0 h2 hy.eight h1 h3
/-- All numbers read: the two parts. -/
theorem ent_parts {p : List UInt8} {m0 m1 m2 m3 m4 m5 m6 m7 m8 m9 : Nat} {ts : List Nat} (h : numsR (10 + 4 * m9) p = some ([m0, m1, m2, m3, m4, m5, m6, m7, m8, m9] ++ ts, p.length)) :
    ∃ (L0 : List Tsk) (k j : Nat), L0.length = m9 ∧ ts = L0.flatMap tskNat ∧ (∀ t ∈ L0, Nums (tskN t)) ∧ numsR 10 p = some ([m0, m1, m2, m3, m4, m5, m6, m7, m8, L0.length], k) ∧ numsR (4 * m9) (p.drop k) = some (L0.flatMap tskNat, j) ∧ k + j = p.length := by
  obtain ⟨ns, q, ys, t, h1, h2, h3, h4, h5⟩ := numsR_cut h
  have hl := (numsR_get 10 p ns q h1).1
  obtain ⟨e1, e2⟩ := List.append_inj h3 (by rw [hl]; rfl)
  subst e1 e2
  obtain ⟨g1, g2, -, -⟩ := numsR_get (4 * m9) (p.drop q) ts t h2
  obtain ⟨f1, f2, f3⟩ := mkT_flat m9 ts g1 g2
  exact ⟨mkT ts, q, t, f2, f1.symm, f3, by rw [f2]; exact h1, by rw [f1]; exact h2, h4.symm⟩
end Go.Proofs.YtlgbnjaoadlolaaDoor
