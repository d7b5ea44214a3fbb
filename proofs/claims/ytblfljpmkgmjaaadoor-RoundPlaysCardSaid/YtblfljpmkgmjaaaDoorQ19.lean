/- play: Begin. Printed by gen_q19.py. -/
import Derived.Test.YtblfljpmkgmjaaaDoorQ18
namespace Go.Proofs.YtblfljpmkgmjaaaDoor
open Go.RowKit
variable {K : Nat → Prop}

set_option maxRecDepth 100000 in
set_option maxHeartbeats 6400000 in
theorem play_begin {G : List Nat} {E : Nat → Addr} (R : Rnd) (M : RnM) (w : World) (rb ab mb : Nat) (h : Pair K w rb ab mb R M) (hE : EAt G E w) (hG : ∀ g ∈ sentG, g ∈ G) (hn0 : 0 ≤ R.begun) (hn1 : R.begun < 4611686018427387904) (wh fr : Int) (b acc : Bal) (a : Option Addr) (n c : Nat) :
    Calls Tryd.prog 29 #[.pointer (some ⟨rb, 0, none⟩), .pointer (some ⟨mb, 0, none⟩), .agg #[.int .i64 1, .int .i64 wh, .int .i64 fr, .int .i64 b.r, .int .i64 b.n, .int .i64 acc.r, .int .i64 acc.n, .slice a n c]] w (PlayP K rb ab mb R M w) := by
  obtain ⟨W, hW⟩ : ∃ W, W = w.alloc (.cells #[.int .i64 1, .int .i64 wh, .int .i64 fr, .int .i64 b.r, .int .i64 b.n, .int .i64 acc.r, .int .i64 acc.n, .slice a n c] 67) := ⟨_, rfl⟩
  have g1 : Gr w W := by rw [hW]; exact (Gr.refl w).alloc _
  have hO : Blk W w.heap.size #[.int .i64 1, .int .i64 wh, .int .i64 fr, .int .i64 b.r, .int .i64 b.n, .int .i64 acc.r, .int .i64 acc.n, .slice a n c] 67 := by rw [hW]; exact Blk.new w _ _
  have h1 := h.gr g1
  have zr := h.r.o.lt
  have za := h.r.b.lt
  have hol := fun y (hy : y ∈ M.own mb) => h.m.ltOwn hy
  have hOg := fun T w' (g : GrX T W w') (hT : w.heap.size ∉ T) => hO.grx g hT
  have gd : Gr W W.drew := (Gr.refl W).drew
  have hst : R.st = M.st := congrArg RndV.st h.v
  have hbl : R.bal = M.bal := congrArg RndV.bal h.v
  have hbg : R.begun = M.begun := congrArg RndV.begun h.v
  have hT1 : w.heap.size ∉ [rb, ab] := by simp; omega
  have hT2 : w.heap.size ∉ M.own mb := fun hm => by have := hol _ hm; omega
  have iS : 0 ∈ G := hG _ (by decide)
  have iB : 3 ∈ G := hG _ (by decide)
  have hnS : ∀ w', Gr w w' → Calls Tryd.prog 28 #[(Value.iface 194 (.pointer (some (E 0))))] w' fun e w'' => e = .returned (.int .i64 16) ∧ Gr w' w'' := fun w' g => num_err w' (hE.gr g) hG 15 0 rfl
  have hnB : ∀ w', Gr w w' → Calls Tryd.prog 28 #[(Value.iface 194 (.pointer (some (E 3))))] w' fun e w'' => e = .returned (.int .i64 15) ∧ Gr w' w'' := fun w' g => num_err w' (hE.gr g) hG 14 3 rfl
  have hE1 := hE.gr (g1.trans gd)
  have hm1 := fun w2 (g : Gr W w2) => h1.m.gr g
  have c0 := hO.cell (i := 0) (v := .int .i64 1) rfl
  have c3 := hO.cell (i := 3) (v := .int .i64 b.r) rfl
  have c4 := hO.cell (i := 4) (v := .int .i64 b.n) rfl
  replace hW := Lib.hid hW
  replace hO := Lib.hid hO
  replace hOg := Lib.hid hOg
  replace hol := Lib.hid hol
  replace hT1 := Lib.hid hT1
  replace hT2 := Lib.hid hT2
  replace hnS := Lib.hid hnS
  replace hnB := Lib.hid hnB
  replace hm1 := Lib.hid hm1
  by_cases h3 : 3 ≤ R.st
  · have hbe := begin_state R b W.drew rb ab hE1 iS (h1.r.gr gd) h3
    have hrb := fun w2 (g : Gr W w2) => rbegin_st M b w2 mb (hm1.out w2 g) (by omega)
    replace hbe := Lib.hid hbe
    replace hrb := Lib.hid hrb
    replace h := Lib.hid h
    replace h1 := Lib.hid h1
    replace gd := Lib.hid gd
    replace g1 := Lib.hid g1
    replace hst := Lib.hid hst
    replace hbl := Lib.hid hbl
    replace hbg := Lib.hid hbg
    clear hE hE1 h3
    go_enter Tryd.func29, Tryd.ntmps29
    go_upto_region 1 with fail
    rw [← hW.out]
    go_upto_region 3 with fail
    go_region_held3 (fun w' => w'.cell? ⟨w.heap.size, 3, none⟩ = some (.int .i64 b.r) ∧ w'.cell? ⟨w.heap.size, 4, none⟩ = some (.int .i64 b.n)) (simp (maxDischargeDepth := 8) [go_sem, *])
      (first
        | (go_at_call 14; (with_reducible refine hbe.out.mono ?_); rintro e w2 ⟨rfl, g2⟩; have gW2 : Gr W w2 := gd.out.trans g2; have hO2 := hO.out.gr gW2; have d3 := hO2.cell (i := 3) (v := .int .i64 b.r) rfl; have d4 := hO2.cell (i := 4) (v := .int .i64 b.n) rfl; replace hO2 := Lib.hid hO2)
        | (go_at_call 28; (with_reducible refine (hnS.out w2 (g1.out.trans gW2)).mono ?_); rintro e w4 ⟨rfl, g4⟩; have gW4 : Gr W w4 := gW2.trans g4; have hO4 := hO.out.gr gW4; have j3 := hO4.cell (i := 3) (v := .int .i64 b.r) rfl; have j4 := hO4.cell (i := 4) (v := .int .i64 b.n) rfl; replace hO4 := Lib.hid hO4)
        | (go_at_call 60; (with_reducible refine (hrb.out w4 gW4).mono ?_); rintro e w3 ⟨rfl, g3⟩; have gW3 : Gr W w3 := gW4.trans g3; have hO3 := hO.out.gr gW3; have e_3 := hO3.cell (i := 3) (v := .int .i64 b.r) rfl; have e_4 := hO3.cell (i := 4) (v := .int .i64 b.n) rfl; replace hO3 := Lib.hid hO3)
        | fail)
    go_wp2_with fail
    go_ret
    exact ⟨rfl, R, M, h.out.gr (g1.out.trans gW3), (g1.out.trans gW3).x _, fun y hy => .inl hy, Int.le_refl _, by omega⟩
  · have hlt : R.st < 3 := by omega
    by_cases hno : balB b = false ∨ aboveB b R.bal = false
    · have hbe := begin_no R b W.drew rb ab hE1 iB (h1.r.gr gd) hlt hno
      have hrb := fun w2 (g : Gr W w2) => rbegin_no M b w2 mb (hm1.out w2 g) (by omega) (by rw [← hbl]; exact hno)
      replace hbe := Lib.hid hbe
      replace hrb := Lib.hid hrb
      replace h := Lib.hid h
      replace h1 := Lib.hid h1
      replace gd := Lib.hid gd
      replace g1 := Lib.hid g1
      replace hst := Lib.hid hst
      replace hbl := Lib.hid hbl
      replace hbg := Lib.hid hbg
      clear hE hE1 h3 hno hlt
      go_enter Tryd.func29, Tryd.ntmps29
      go_upto_region 1 with fail
      rw [← hW.out]
      go_upto_region 3 with fail
      go_region_held3 (fun w' => w'.cell? ⟨w.heap.size, 3, none⟩ = some (.int .i64 b.r) ∧ w'.cell? ⟨w.heap.size, 4, none⟩ = some (.int .i64 b.n)) (simp (maxDischargeDepth := 8) [go_sem, *])
        (first
          | (go_at_call 14; (with_reducible refine hbe.out.mono ?_); rintro e w2 ⟨rfl, g2⟩; have gW2 : Gr W w2 := gd.out.trans g2; have hO2 := hO.out.gr gW2; have d3 := hO2.cell (i := 3) (v := .int .i64 b.r) rfl; have d4 := hO2.cell (i := 4) (v := .int .i64 b.n) rfl; replace hO2 := Lib.hid hO2)
          | (go_at_call 28; (with_reducible refine (hnB.out w2 (g1.out.trans gW2)).mono ?_); rintro e w4 ⟨rfl, g4⟩; have gW4 : Gr W w4 := gW2.trans g4; have hO4 := hO.out.gr gW4; have j3 := hO4.cell (i := 3) (v := .int .i64 b.r) rfl; have j4 := hO4.cell (i := 4) (v := .int .i64 b.n) rfl; replace hO4 := Lib.hid hO4)
          | (go_at_call 60; (with_reducible refine (hrb.out w4 gW4).mono ?_); rintro e w3 ⟨rfl, g3⟩; have gW3 : Gr W w3 := gW4.trans g3; have hO3 := hO.out.gr gW3; have e_3 := hO3.cell (i := 3) (v := .int .i64 b.r) rfl; have e_4 := hO3.cell (i := 4) (v := .int .i64 b.n) rfl; replace hO3 := Lib.hid hO3)
          | fail)
      go_wp2_with fail
      go_ret
      exact ⟨rfl, R, M, h.out.gr (g1.out.trans gW3), (g1.out.trans gW3).x _, fun y hy => .inl hy, Int.le_refl _, by omega⟩
    · have hb : balB b = true := by cases q : balB b with | true => rfl | false => exact absurd (.inl q) hno
      have ha : aboveB b R.bal = true := by cases q : aboveB b R.bal with | true => rfl | false => exact absurd (.inr q) hno
      obtain ⟨V, hV⟩ : ∃ V, V = R.v.begin b := ⟨_, rfl⟩
      have hbe := begin_ok R b W.drew rb ab (h1.r.gr gd) hlt hb ha hn0 hn1
      rw [← hV] at hbe
      have hrb := fun w2 (hm : RnAt (fun b => b ≠ rb ∧ b ≠ ab ∧ K b) w2 mb M) => rbegin_ok M b w2 mb hm (by omega) hb (by rw [← hbl]; exact ha) (by omega) (by omega)
      rw [← h.v, ← hV] at hrb
      have hbr := fun w2 R2 hr (g : GrX [rb, ab] W.drew w2) => (h1.gr gd).byR (w' := w2) (R' := R2) hr g
      have hVb : V.begun = R.begun + 1 := by rw [hV]; rfl
      replace hV := Lib.hid hV
      replace hVb := Lib.hid hVb
      replace hbr := Lib.hid hbr
      replace hbe := Lib.hid hbe
      replace hrb := Lib.hid hrb
      replace h := Lib.hid h
      replace h1 := Lib.hid h1
      replace gd := Lib.hid gd
      replace g1 := Lib.hid g1
      replace hst := Lib.hid hst
      replace hbl := Lib.hid hbl
      replace hbg := Lib.hid hbg
      clear hE hE1 h3 hno hlt hb ha hn0 hn1
      go_enter Tryd.func29, Tryd.ntmps29
      go_upto_region 1 with fail
      rw [← hW.out]
      go_upto_region 3 with fail
      go_region_held3 (fun w' => w'.cell? ⟨w.heap.size, 3, none⟩ = some (.int .i64 b.r) ∧ w'.cell? ⟨w.heap.size, 4, none⟩ = some (.int .i64 b.n)) (simp (maxDischargeDepth := 8) [go_sem, *])
        (first
          | (go_at_call 14; (with_reducible refine hbe.out.mono ?_); rintro e w2 ⟨rfl, R2, hR2, hv2, gx2⟩; have hM2 := hbr.out w2 R2 hR2 gx2; have gX2 : GrX [rb, ab] W w2 := (gd.out.x _).trans gx2; have hO2 := hOg.out _ w2 gX2 hT1.out; have d3 := hO2.cell (i := 3) (v := .int .i64 b.r) rfl; have d4 := hO2.cell (i := 4) (v := .int .i64 b.n) rfl; replace hR2 := Lib.hid hR2; replace hv2 := Lib.hid hv2; replace gx2 := Lib.hid gx2; replace hM2 := Lib.hid hM2; replace gX2 := Lib.hid gX2; replace hO2 := Lib.hid hO2)
          | (go_at_call 28; (with_reducible refine (num_nil w2).mono ?_); rintro e w4 ⟨rfl, g4⟩; have hO4 := hO2.out.gr g4; have hM4 := hM2.out.gr g4; have hR4 := hR2.out.gr g4; have j3 := hO4.cell (i := 3) (v := .int .i64 b.r) rfl; have j4 := hO4.cell (i := 4) (v := .int .i64 b.n) rfl; replace hO4 := Lib.hid hO4; replace hM4 := Lib.hid hM4; replace hR4 := Lib.hid hR4)
          | (go_at_call 60; (with_reducible refine (hrb.out w4 hM4.out).mono ?_); rintro e w3 ⟨rfl, M3, hM3, hv3, gx3, ho3⟩; have hO3 := hO4.out.grx gx3 hT2.out; have e_3 := hO3.cell (i := 3) (v := .int .i64 b.r) rfl; have e_4 := hO3.cell (i := 4) (v := .int .i64 b.n) rfl; replace hM3 := Lib.hid hM3; replace hv3 := Lib.hid hv3; replace gx3 := Lib.hid gx3; replace ho3 := Lib.hid ho3; replace hO3 := Lib.hid hO3)
          | fail)
      go_wp2_with fail
      go_ret
      have hp := pair_byM hR4.out h.out.dr h.out.da hM3.out gx3.out ho3.out (by rw [hv2.out, hv3.out])
      have hsz := gX2.out.size
      have hsz1 := g1.out.size
      have hsz4 := g4.size
      have hbb : R2.begun = R.begun + 1 := by rw [← hVb.out, ← hv2.out]
      refine ⟨rfl, R2, M3, hp, ?_, fun y hy => ?_, by omega, by omega⟩
      · exact (((g1.out.x _).trans (gX2.out.mono pairT_r)).trans (g4.x _)).trans (gx3.out.mono (fun x hx => List.mem_cons_of_mem _ (List.mem_cons_of_mem _ hx)))
      · rcases ho3.out y hy with h1 | h1
        · exact .inl h1
        · exact .inr (by omega)
end Go.Proofs.YtblfljpmkgmjaaaDoor
