/- supply: a server's row, its supply, its silence, its slope. -/
import Derived.Test.YtmookdgeblcjnaaDoorH0
import Derived.Test.YtmookdgeblcjnaaDoorA2
namespace Go.Proofs.YtmookdgeblcjnaaDoor
open Go.RowKit

theorem srv_eql (a b : Srv) (w : World) : (binOp .eql 23 (.agg #[.int .i64 a.k, .int .i64 a.q, .int .i64 a.t]) (.agg #[.int .i64 b.k, .int .i64 b.q, .int .i64 b.t])).run Tryd.prog w = .ok (.bool (decide (a.k = b.k ∧ a.q = b.q ∧ a.t = b.t))) w := by
  by_cases h1 : a.k = b.k
  · by_cases h2 : a.q = b.q
    · by_cases h3 : a.t = b.t
      · simp [go_sem, h1, h2, h3]
      · simp [go_sem, h1, h2, h3]
    · simp [go_sem, h1, h2]
  · simp [go_sem, h1]

set_option maxHeartbeats 800000 in
theorem of_yes (s : Srv) (w : World) (h : parOk s = true) :
    Calls Tryd.prog 45 #[.agg #[.int .i64 s.k, .int .i64 s.q, .int .i64 s.t]] w fun e w' => e = .returned (.tuple #[.agg #[.int .i64 (rowI s).gap, .int .i64 (rowI s).q, .int .i64 (rowI s).t], .nilIface]) ∧ Gr w w' := by
  have hs := fun w => srv_eql s ⟨0, 0, 0⟩ w
  dsimp only at hs
  rw [show decide (s.k = 0 ∧ s.q = 0 ∧ s.t = 0) = whole s from rfl] at hs
  unfold rowI
  cases hw : whole s with
  | true =>
    rw [hw] at hs
    rw [if_pos rfl]
    replace hw := Lib.hid hw
    go_enter Tryd.func45, Tryd.ntmps45
    go_wp2_with fail
    refine bodyPost_ret (v := .tuple #[.agg #[.int .i64 0, .int .i64 1, .int .i64 1], .nilIface]) (by simp [results, Tryd.results45, go_sem, *]) rfl ⟨rfl, (by repeat (first | exact Gr.refl _ | apply Gr.alloc | apply Gr.drew | apply Gr.drewN | (refine Gr.setCell ?_ (by first | (simp; done) | (simp; omega)) _) | (refine Gr.trans ?_ (by assumption))))⟩
  | false =>
    rw [hw] at hs
    rw [if_neg (by decide)]
    unfold parOk at h
    rw [hw, Bool.false_or] at h
    have hck := fun w => checkServer_yes s.k s.q s.t w h
    obtain ⟨h1, h2, h3, h4, h5⟩ := (Srv.leg_iff _).1 h
    replace hck := Lib.hid hck
    replace hw := Lib.hid hw
    replace h := Lib.hid h
    by_cases h3' : s.k = 3
    · rw [if_pos h3']
      have e3 : (s.k == 3) = true := by simpa using h3'
      clear h3'
      go_enter Tryd.func45, Tryd.ntmps45
      go_wp2_with fail
      refine (hck.out _).mono ?_
      rintro e wa ⟨rfl, ga⟩
      obtain ⟨ca, fa, sa⟩ := ga.cells
      try simp only [size_drewN] at ca fa sa
      try simp only [World.size_alloc] at ca fa sa
      try simp only [World.size_drew] at ca fa sa
      try simp only [World.size_setCell] at ca fa sa
      have za0 : w.heap.size < wa.heap.size := by omega
      have ya0 : w.heap.size ≤ wa.heap.size := by omega
      have ka0 := fun o => ca (w.heap.size) o (by omega)
      have ja0 := fun o => fa (w.heap.size) o (by omega)
      have za1 : w.heap.size + 1 < wa.heap.size := by omega
      have ka1 := fun o => ca (w.heap.size + 1) o (by omega)
      have ja1 := fun o => fa (w.heap.size + 1) o (by omega)
      go_wp2_with fail
      refine bodyPost_ret (v := .tuple #[.agg #[.int .i64 (s.t - s.q), .int .i64 s.q, .int .i64 s.t], .nilIface]) (by simp [results, Tryd.results45, go_sem, *]) rfl ⟨rfl, (by repeat (first | exact Gr.refl _ | apply Gr.alloc | apply Gr.drew | apply Gr.drewN | (refine Gr.setCell ?_ (by first | (simp; done) | (simp; omega)) _) | (refine Gr.trans ?_ (by assumption))))⟩
    · rw [if_neg h3']
      have e3 : (s.k == 3) = false := by simpa using h3'
      clear h3'
      go_enter Tryd.func45, Tryd.ntmps45
      go_wp2_with fail
      refine (hck.out _).mono ?_
      rintro e wa ⟨rfl, ga⟩
      obtain ⟨ca, fa, sa⟩ := ga.cells
      try simp only [size_drewN] at ca fa sa
      try simp only [World.size_alloc] at ca fa sa
      try simp only [World.size_drew] at ca fa sa
      try simp only [World.size_setCell] at ca fa sa
      have za0 : w.heap.size < wa.heap.size := by omega
      have ya0 : w.heap.size ≤ wa.heap.size := by omega
      have ka0 := fun o => ca (w.heap.size) o (by omega)
      have ja0 := fun o => fa (w.heap.size) o (by omega)
      have za1 : w.heap.size + 1 < wa.heap.size := by omega
      have ka1 := fun o => ca (w.heap.size + 1) o (by omega)
      have ja1 := fun o => fa (w.heap.size + 1) o (by omega)
      go_wp2_with fail
      refine bodyPost_ret (v := .tuple #[.agg #[.int .i64 (s.t - 1), .int .i64 s.q, .int .i64 s.t], .nilIface]) (by simp [results, Tryd.results45, go_sem, *]) rfl ⟨rfl, (by repeat (first | exact Gr.refl _ | apply Gr.alloc | apply Gr.drew | apply Gr.drewN | (refine Gr.setCell ?_ (by first | (simp; done) | (simp; omega)) _) | (refine Gr.trans ?_ (by assumption))))⟩
set_option maxHeartbeats 800000 in
theorem of_no {G : List Nat} {E : Nat → Addr} (s : Srv) (w : World) (hE : EAt G E w) (i0 : 0 ∈ G) (h : parOk s = false) :
    Calls Tryd.prog 45 #[.agg #[.int .i64 s.k, .int .i64 s.q, .int .i64 s.t]] w fun e w' => e = .returned (.tuple #[.agg #[.int .i64 0, .int .i64 0, .int .i64 0], (Value.iface 146 (.pointer (some (E 0))))]) ∧ Gr w w' := by
  have hs := fun w => srv_eql s ⟨0, 0, 0⟩ w
  dsimp only at hs
  rw [show decide (s.k = 0 ∧ s.q = 0 ∧ s.t = 0) = whole s from rfl] at hs
  unfold parOk at h
  rw [Bool.or_eq_false_iff] at h
  obtain ⟨hw, hl⟩ := h
  rw [hw] at hs
  have hck := fun w (g : EAt G E w) => checkServer_no s.k s.q s.t w g i0 hl
  replace hck := Lib.hid hck
  replace hw := Lib.hid hw
  replace hl := Lib.hid hl
  go_enter Tryd.func45, Tryd.ntmps45
  go_wp2_with fail
  refine (hck.out _ (hE.gr (((Gr.refl w).alloc _).alloc _))).mono ?_
  rintro e wa ⟨rfl, ga⟩
  obtain ⟨ca, fa, sa⟩ := ga.cells
  try simp only [size_drewN] at ca fa sa
  try simp only [World.size_alloc] at ca fa sa
  try simp only [World.size_drew] at ca fa sa
  try simp only [World.size_setCell] at ca fa sa
  have za0 : w.heap.size < wa.heap.size := by omega
  have ya0 : w.heap.size ≤ wa.heap.size := by omega
  have ka0 := fun o => ca (w.heap.size) o (by omega)
  have ja0 := fun o => fa (w.heap.size) o (by omega)
  have za1 : w.heap.size + 1 < wa.heap.size := by omega
  have ka1 := fun o => ca (w.heap.size + 1) o (by omega)
  have ja1 := fun o => fa (w.heap.size + 1) o (by omega)
  go_wp2_with fail
  refine bodyPost_ret (v := .tuple #[.agg #[.int .i64 0, .int .i64 0, .int .i64 0], (Value.iface 146 (.pointer (some (E 0))))]) (by simp [results, Tryd.results45, go_sem, *]) rfl ⟨rfl, (by repeat (first | exact Gr.refl _ | apply Gr.alloc | apply Gr.drew | apply Gr.drewN | (refine Gr.setCell ?_ (by first | (simp; done) | (simp; omega)) _) | (refine Gr.trans ?_ (by assumption))))⟩
end Go.Proofs.YtmookdgeblcjnaaDoor
