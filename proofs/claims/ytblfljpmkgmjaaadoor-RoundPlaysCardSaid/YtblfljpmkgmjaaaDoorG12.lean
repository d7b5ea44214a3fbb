/- A round: Begin. -/
import Derived.Test.YtblfljpmkgmjaaaDoorG11
namespace Go.Proofs.YtblfljpmkgmjaaaDoor
open Go.RowKit
variable {K0 : Nat → Prop}

def RndV.begin (r : RndV) (b : Bal) : RndV := {r.clr with bal := b, st := 1, nw := ⟨0, 0⟩, led := [], begun := r.begun + 1}

set_option maxHeartbeats 800000 in
theorem RndAt.begin {w : World} {rb ab : Nat} {R : Rnd} (h : RndAt K0 w rb ab R) (b : Bal) (n : Int) :
    RndAt K0 ((((((((w.setCell ⟨rb, 12, none⟩ (.int .i64 b.r)).setCell ⟨rb, 13, none⟩ (.int .i64 b.n)).setCell ⟨rb, 14, none⟩ (.int .i64 1)).setCell ⟨rb, 15, none⟩ (.int .i64 0)).setCell ⟨rb, 16, none⟩ (.int .i64 0)).setCell ⟨rb, 17, none⟩ (.slice none 0 0)).setCell ⟨rb, 18, none⟩ (.int .i64 n))) rb ab {R with bal := b, st := 1, nw := ⟨0, 0⟩, la := none, lc := 0, led := [], begun := n} := by
  have h1 := (((((h.set (R' := {R with bal := ⟨b.r, R.bal.n⟩}) 12 (.int .i64 b.r) rfl rfl rfl rfl rfl rfl).set (R' := {R with bal := b}) 13 (.int .i64 b.n) rfl rfl rfl rfl rfl rfl).set (R' := {R with bal := b, st := 1}) 14 (.int .i64 1) rfl rfl rfl rfl rfl rfl).newest ⟨0, 0⟩).newLed (a := none) (c := 0) (L := []) (LedM.nil _ _ _) (fun _ => rfl) (by simp))
  exact h1.set 18 (.int .i64 n) rfl rfl rfl rfl rfl rfl

set_option maxRecDepth 100000 in
set_option maxHeartbeats 3200000 in
theorem begin_ok (R : Rnd) (b : Bal) (w : World) (rb ab : Nat) (h : RndAt K0 w rb ab R) (hs : R.st < 3) (hb : balB b = true) (ha : aboveB b R.bal = true) (hn0 : 0 ≤ R.begun) (hn1 : R.begun < 4611686018427387904) :
    Calls Tryd.prog 14 #[.pointer (some ⟨rb, 0, none⟩), .agg #[.int .i64 b.r, .int .i64 b.n]] w (RndP K0 rb ab .nilIface (R.v.begin b) w) := by
  have gw : Gr w (w.alloc (.cells #[.int .i64 b.r, .int .i64 b.n] 39)) := (Gr.refl w).alloc _
  have h1 := h.gr gw
  have z0 := h.o.lt
  have z1 := h.b.lt
  have c14 : w.cell? ⟨rb, 14, none⟩ = some (.int .i64 R.st) := h.o.cell rfl
  have q12 := GrW.cell (show (w.alloc (.cells #[.int .i64 b.r, .int .i64 b.n] 39)).cell? ⟨rb, 12, none⟩ = some (.int .i64 R.bal.r) from h1.o.cell rfl)
  have q13 := GrW.cell (show (w.alloc (.cells #[.int .i64 b.r, .int .i64 b.n] 39)).cell? ⟨rb, 13, none⟩ = some (.int .i64 R.bal.n) from h1.o.cell rfl)
  have b0 : (w.alloc (.cells #[.int .i64 b.r, .int .i64 b.n] 39)).cell? ⟨w.heap.size, 0, none⟩ = some (.int .i64 b.r) := by simp [go_sem]
  have b1 : (w.alloc (.cells #[.int .i64 b.r, .int .i64 b.n] 39)).cell? ⟨w.heap.size, 1, none⟩ = some (.int .i64 b.n) := by simp [go_sem]
  have qb0 := GrW.cell b0
  have qb1 := GrW.cell b1
  have hle := legal19_any b
  have hab := above_any b R.bal
  rw [hb] at hle
  rw [ha] at hab
  have hw : IntKind.i64.wrap (R.begun + 1) = R.begun + 1 := by rw [IntKind.wrap_i64]; omega
  replace hle := Lib.hid hle
  replace hab := Lib.hid hab
  replace h1 := Lib.hid h1
  replace gw := Lib.hid gw
  replace hb := Lib.hid hb
  replace ha := Lib.hid ha
  obtain ⟨F, hF⟩ : ∃ F, F = R.v.begin b := ⟨_, rfl⟩
  rw [← hF]
  replace hF := Lib.hid hF
  clear h
  go_enter Tryd.func14, Tryd.ntmps14
  go_wp2_with fail
  refine wp_region_grows (by kernel_rfl) (by kernel_rfl) ?_
  repeat (any_goals (first | go_big_quiet_step (first | (exact Calls.grows (hle.out _)) | (exact Calls.grows (hab.out _))) | quiet_step (first | (exact Calls.grows (hle.out _)) | (exact Calls.grows (hab.out _)))))
  refine wpQuiet_nil ?_
  intro wp hwq
  have gp := GrW.of hwq
  clear hwq
  obtain ⟨cp, fp, sp⟩ := gp.cells
  try simp only [size_drewN] at cp fp sp
  try simp only [World.size_alloc] at cp fp sp
  try simp only [World.size_drew] at cp fp sp
  try simp only [World.size_setCell] at cp fp sp
  have h2 := h1.out.gr gp
  have c0 : wp.cell? ⟨rb, 0, none⟩ = some (.slice (some ⟨ab, 0, none⟩) R.an.length R.an.length) := h2.o.cell rfl
  obtain ⟨W2, hcl, h3, g3⟩ := h2.clr
  have zb := h2.b.lt
  have d0 : wp.cell? ⟨w.heap.size, 0, none⟩ = some (.int .i64 b.r) := by rw [cp _ _ (by simp)]; exact b0
  have d1 : wp.cell? ⟨w.heap.size, 1, none⟩ = some (.int .i64 b.n) := by rw [cp _ _ (by simp)]; exact b1
  clear q12 q13 qb0 qb1 b0 b1 cp fp
  have c12 : W2.cell? ⟨rb, 12, none⟩ = some (.int .i64 R.bal.r) := h3.o.cell rfl
  have c13 : W2.cell? ⟨rb, 13, none⟩ = some (.int .i64 R.bal.n) := h3.o.cell rfl
  have e14 : W2.cell? ⟨rb, 14, none⟩ = some (.int .i64 R.st) := h3.o.cell rfl
  have c15 : W2.cell? ⟨rb, 15, none⟩ = some (.int .i64 R.nw.r) := h3.o.cell rfl
  have c16 : W2.cell? ⟨rb, 16, none⟩ = some (.int .i64 R.nw.n) := h3.o.cell rfl
  have c17 : W2.cell? ⟨rb, 17, none⟩ = some (.slice R.la R.led.length R.lc) := h3.o.cell rfl
  have c18 : W2.cell? ⟨rb, 18, none⟩ = some (.int .i64 R.begun) := h3.o.cell rfl
  have f3 := fun i => h3.o.free i
  have z3 := h3.o.lt
  have hnb : w.heap.size ∉ [rb, ab] := by simp; omega
  have d0' : W2.cell? ⟨w.heap.size, 0, none⟩ = some (.int .i64 b.r) := by rw [g3.cell (by have := gp.size; simp at this; omega) hnb]; exact d0
  have d1' : W2.cell? ⟨w.heap.size, 1, none⟩ = some (.int .i64 b.n) := by rw [g3.cell (by have := gp.size; simp at this; omega) hnb]; exact d1
  have hend := h3.begin b (R.begun + 1)
  have hge := ((((((((((gw.out.trans gp).x [rb, ab]).trans g3).set (p := ⟨rb, 12, none⟩) (.inl (by simp)) (.int .i64 b.r)).set (p := ⟨rb, 13, none⟩) (.inl (by simp)) (.int .i64 b.n)).set (p := ⟨rb, 14, none⟩) (.inl (by simp)) (.int .i64 1)).set (p := ⟨rb, 15, none⟩) (.inl (by simp)) (.int .i64 0)).set (p := ⟨rb, 16, none⟩) (.inl (by simp)) (.int .i64 0)).set (p := ⟨rb, 17, none⟩) (.inl (by simp)) (.slice none 0 0)).set (p := ⟨rb, 18, none⟩) (.inl (by simp)) (.int .i64 (R.begun + 1)))
  replace hend := Lib.hid hend
  replace hge := Lib.hid hge
  clear h2 h3 g3 hnb d0 d1
  go_wp2_with (simp only [hcl])
  go_ret
  exact ⟨rfl, _, hend.out, hF.out.symm, hge.out⟩
end Go.Proofs.YtblfljpmkgmjaaaDoor
