/- play: Accepted, Begin, another kind. Printed by gen_q18.py. -/
import Derived.Test.YtblfljpmkgmjaaaDoorQ17
namespace Go.Proofs.YtblfljpmkgmjaaaDoor
open Go.RowKit
variable {K : Nat → Prop}

/-- One act of a play: true; the two rounds know the same. -/
def PlayP (K : Nat → Prop) (rb ab mb : Nat) (R : Rnd) (M : RnM) (w : World) (e : Ending) (w' : World) : Prop := e = .returned (.bool true) ∧ ∃ R' M', Pair K w' rb ab mb R' M' ∧ GrX (pairT rb ab mb M) w w' ∧ (∀ y, y ∈ M'.own mb → y ∈ M.own mb ∨ w.heap.size ≤ y) ∧ R.begun ≤ R'.begun ∧ R'.begun ≤ R.begun + 1
theorem pairT_r {rb ab mb : Nat} {M : RnM} : ∀ x, x ∈ [rb, ab] → x ∈ pairT rb ab mb M := fun x hx => by
  rcases List.mem_cons.1 hx with rfl | hx
  · exact List.mem_cons_self ..
  · rw [List.mem_singleton.1 hx]
    exact List.mem_cons_of_mem _ (List.mem_cons_self ..)
theorem accepted_begun (r : RndV) (fr : Int) (b : Bal) : (r.accepted fr b).2.begun = r.begun := by
  unfold RndV.accepted RndV.note
  split
  · dsimp only
    split <;> rfl
  · rfl
set_option maxRecDepth 100000 in
set_option maxHeartbeats 3200000 in
theorem play_acc (R : Rnd) (M : RnM) (w : World) (rb ab mb : Nat) (h : Pair K w rb ab mb R M) (wh fr : Int) (b acc : Bal) (a : Option Addr) (n c : Nat) :
    Calls Tryd.prog 29 #[.pointer (some ⟨rb, 0, none⟩), .pointer (some ⟨mb, 0, none⟩), .agg #[.int .i64 3, .int .i64 wh, .int .i64 fr, .int .i64 b.r, .int .i64 b.n, .int .i64 acc.r, .int .i64 acc.n, .slice a n c]] w (PlayP K rb ab mb R M w) := by
  obtain ⟨W, hW⟩ : ∃ W, W = w.alloc (.cells #[.int .i64 3, .int .i64 wh, .int .i64 fr, .int .i64 b.r, .int .i64 b.n, .int .i64 acc.r, .int .i64 acc.n, .slice a n c] 67) := ⟨_, rfl⟩
  have g1 : Gr w W := by rw [hW]; exact (Gr.refl w).alloc _
  have hO : Blk W w.heap.size #[.int .i64 3, .int .i64 wh, .int .i64 fr, .int .i64 b.r, .int .i64 b.n, .int .i64 acc.r, .int .i64 acc.n, .slice a n c] 67 := by rw [hW]; exact Blk.new w _ _
  have h1 := h.gr g1
  have zr := h.r.o.lt
  have za := h.r.b.lt
  have hol := fun y (hy : y ∈ M.own mb) => h.m.ltOwn hy
  have hOg := fun T w' (g : GrX T W w') (hT : w.heap.size ∉ T) => hO.grx g hT
  obtain ⟨V, hV⟩ : ∃ V, V = R.v.accepted fr b := ⟨_, rfl⟩
  have gd : Gr W W.drew := (Gr.refl W).drew
  have hac := accepted_any R fr b W.drew rb ab (h1.r.gr gd)
  rw [← hV] at hac
  have hra := fun w2 (hm : RnAt (fun b => b ≠ rb ∧ b ≠ ab ∧ K b) w2 mb M) => raccepted_any M fr b w2 mb hm
  rw [← h.v, ← hV] at hra
  have hbr := fun w2 R2 hr (g : GrX [rb, ab] W.drew w2) => (h1.gr gd).byR (w' := w2) (R' := R2) hr g
  have hVb : V.2.begun = R.begun := by rw [hV, accepted_begun]
  have hT1 : w.heap.size ∉ [rb, ab] := by simp; omega
  have hT2 : w.heap.size ∉ M.own mb := fun hm => by have := hol _ hm; omega
  have tt : (V.1 == V.1) = true := by simp
  have c0 := hO.cell (i := 0) (v := .int .i64 3) rfl
  have c2 := hO.cell (i := 2) (v := .int .i64 fr) rfl
  have c3 := hO.cell (i := 3) (v := .int .i64 b.r) rfl
  have c4 := hO.cell (i := 4) (v := .int .i64 b.n) rfl
  replace hV := Lib.hid hV
  replace hW := Lib.hid hW
  replace g1 := Lib.hid g1
  replace hO := Lib.hid hO
  replace h1 := Lib.hid h1
  replace hac := Lib.hid hac
  replace hra := Lib.hid hra
  replace hbr := Lib.hid hbr
  replace hVb := Lib.hid hVb
  replace hOg := Lib.hid hOg
  replace h := Lib.hid h
  replace hol := Lib.hid hol
  replace gd := Lib.hid gd
  replace hT1 := Lib.hid hT1
  replace hT2 := Lib.hid hT2
  go_enter Tryd.func29, Tryd.ntmps29
  go_upto_region 1 with fail
  rw [← hW.out]
  go_upto_region 19 with fail
  go_region_held3 (fun w' => w'.cell? ⟨w.heap.size, 2, none⟩ = some (.int .i64 fr) ∧ w'.cell? ⟨w.heap.size, 3, none⟩ = some (.int .i64 b.r) ∧ w'.cell? ⟨w.heap.size, 4, none⟩ = some (.int .i64 b.n)) (simp (maxDischargeDepth := 8) [go_sem, *])
    (first
      | (go_at_call 25; (with_reducible refine hac.out.mono ?_); rintro e w2 ⟨rfl, R2, hR2, hv2, gx2⟩; have hM2 := hbr.out w2 R2 hR2 gx2; have gX2 : GrX [rb, ab] W w2 := (gd.out.x _).trans gx2; have hO2 := hOg.out _ w2 gX2 hT1.out; have d2 := hO2.cell (i := 2) (v := .int .i64 fr) rfl; have d3 := hO2.cell (i := 3) (v := .int .i64 b.r) rfl; have d4 := hO2.cell (i := 4) (v := .int .i64 b.n) rfl; replace hR2 := Lib.hid hR2; replace hv2 := Lib.hid hv2; replace gx2 := Lib.hid gx2; replace hM2 := Lib.hid hM2; replace gX2 := Lib.hid gX2; replace hO2 := Lib.hid hO2)
      | (go_at_call 62; (with_reducible refine (hra.out w2 hM2.out).mono ?_); rintro e w3 ⟨rfl, M3, hM3, hv3, gx3, ho3⟩; have hO3 := hO2.out.grx gx3 hT2.out; have e_2 := hO3.cell (i := 2) (v := .int .i64 fr) rfl; have e_3 := hO3.cell (i := 3) (v := .int .i64 b.r) rfl; have e_4 := hO3.cell (i := 4) (v := .int .i64 b.n) rfl; replace hM3 := Lib.hid hM3; replace hv3 := Lib.hid hv3; replace gx3 := Lib.hid gx3; replace ho3 := Lib.hid ho3; replace hO3 := Lib.hid hO3)
      | fail)
  go_wp2_with fail
  go_ret
  have hp := pair_byM hR2.out h.out.dr h.out.da hM3.out gx3.out ho3.out (by rw [hv2.out, hv3.out])
  have hsz := gX2.out.size
  have hsz1 := g1.out.size
  refine ⟨rfl, R2, M3, hp, ?_, fun y hy => ?_, ?_, ?_⟩
  · exact ((g1.out.x _).trans (gX2.out.mono (pairT_r))).trans (gx3.out.mono (fun x hx => List.mem_cons_of_mem _ (List.mem_cons_of_mem _ hx)))
  · rcases ho3.out y hy with h1 | h1
    · exact .inl h1
    · exact .inr (by omega)
  · have : R2.begun = R.begun := by rw [← hVb.out, ← hv2.out]
    omega
  · have : R2.begun = R.begun := by rw [← hVb.out, ← hv2.out]
    omega
set_option maxRecDepth 100000 in
set_option maxHeartbeats 1600000 in
theorem play_else (R : Rnd) (M : RnM) (w : World) (rb ab mb : Nat) (h : Pair K w rb ab mb R M) (kd wh fr : Int) (b acc : Bal) (a : Option Addr) (n c : Nat) (hk : kd ≠ 1 ∧ kd ≠ 2 ∧ kd ≠ 3) :
    Calls Tryd.prog 29 #[.pointer (some ⟨rb, 0, none⟩), .pointer (some ⟨mb, 0, none⟩), .agg #[.int .i64 kd, .int .i64 wh, .int .i64 fr, .int .i64 b.r, .int .i64 b.n, .int .i64 acc.r, .int .i64 acc.n, .slice a n c]] w (PlayP K rb ab mb R M w) := by
  have t1 : (kd == 1) = false := beq_eq_false_iff_ne.2 hk.1
  have t2 : (kd == 2) = false := beq_eq_false_iff_ne.2 hk.2.1
  have t3 : (kd == 3) = false := beq_eq_false_iff_ne.2 hk.2.2
  replace h := Lib.hid h
  clear hk
  go_enter Tryd.func29, Tryd.ntmps29
  go_wp2_with fail
  go_ret
  exact ⟨rfl, R, M, h.out.gr ((Gr.refl w).alloc _), ((Gr.refl w).alloc _).x _, fun y hy => .inl hy, Int.le_refl _, by omega⟩
end Go.Proofs.YtblfljpmkgmjaaaDoor
