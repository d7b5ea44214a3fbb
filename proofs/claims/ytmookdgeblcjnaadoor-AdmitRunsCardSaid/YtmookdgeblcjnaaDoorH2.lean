/- supply: given, Bound, Silence, Slope. -/
import Derived.Test.YtmookdgeblcjnaaDoorH1
namespace Go.Proofs.YtmookdgeblcjnaaDoor
open Go.RowKit

set_option maxHeartbeats 800000 in
theorem given_any (r : Row) (l : Int) (w : World) (hr : RowOk r) (hl : LenOk l) :
    Calls Tryd.prog 62 #[.agg #[.int .i64 r.gap, .int .i64 r.q, .int .i64 r.t], .int .i64 l] w fun e w' => e = .returned (.int .i64 (givI r l)) ∧ Gr w w' := by
  obtain ⟨g0, g1, q1, qt, t2⟩ := hr
  obtain ⟨l1, l2⟩ := hl
  unfold givI
  by_cases hm : l - r.gap ≤ 0
  · rw [if_pos hm]
    go_enter Tryd.func62, Tryd.ntmps62
    go_wp2_with fail
    go_ret
    exact ⟨rfl, (by repeat (first | exact Gr.refl _ | apply Gr.alloc | apply Gr.drew | apply Gr.drewN | (refine Gr.setCell ?_ (by first | (simp; done) | (simp; omega)) _) | (refine Gr.trans ?_ (by assumption))))⟩
  · rw [if_neg hm]
    obtain ⟨m, hmm⟩ : ∃ m, l - r.gap = m := ⟨_, rfl⟩
    have m1 : 0 < m := by omega
    have m2 : m ≤ 1099511627776 := by omega
    obtain ⟨q0, q1', q2⟩ := quo_mul_le (show 0 ≤ m by omega) (show 0 ≤ r.q by omega) (show 1 ≤ r.t by omega) qt
    have n0 := Int.emod_nonneg m (show r.t ≠ 0 by omega)
    have n1 := Int.emod_lt_of_pos m (show 0 < r.t by omega)
    unfold givM
    rw [hmm]
    clear hm
    go_enter Tryd.func62, Tryd.ntmps62
    go_wp2_with fail
    go_quiet (fail)
    go_wp2_with fail
    all_goals
      go_ret
      exact ⟨ret1 (by first | rfl | (rw [Int.max_def]; split <;> omega)), (by repeat (first | exact Gr.refl _ | apply Gr.alloc | apply Gr.drew | apply Gr.drewN | (refine Gr.setCell ?_ (by first | (simp; done) | (simp; omega)) _) | (refine Gr.trans ?_ (by assumption))))⟩

set_option maxHeartbeats 800000 in
theorem bound_yes (s : Srv) (l : Int) (w : World) (h : parOk s = true) (hl : LenOk l) :
    Calls Tryd.prog 33 #[.agg #[.int .i64 s.k, .int .i64 s.q, .int .i64 s.t], .int .i64 l] w fun e w' => e = .returned (.tuple #[.int .i64 (givI (rowI s) l), .nilIface]) ∧ Gr w w' := by
  have hof := fun w => of_yes s w h
  have hgv := fun w => given_any (rowI s) l w (rowI_ok h) hl
  obtain ⟨l1, l2⟩ := hl
  replace h := Lib.hid h
  replace hof := Lib.hid hof
  replace hgv := Lib.hid hgv
  go_enter Tryd.func33, Tryd.ntmps33
  go_wp2_with fail
  refine (hof.out _).mono ?_
  rintro e wa ⟨rfl, ga⟩
  obtain ⟨ca, fa, sa⟩ := ga.cells
  try simp only [size_drewN] at ca fa sa
  try simp only [World.size_alloc] at ca fa sa
  try simp only [World.size_drew] at ca fa sa
  try simp only [World.size_setCell] at ca fa sa
  have za0 : w.heap.size < wa.heap.size := by omega
  have ya0 : w.heap.size ≤ wa.heap.size := by omega
  have ka0 := fun o => ca (w.heap.size) o (by omega)
  have ja0 := fun o => fa (w.heap.size) o (by omega)
  go_wp2_with fail
  go_wp2_with fail
  refine (hgv.out _).mono ?_
  rintro e wb ⟨rfl, gb⟩
  obtain ⟨cb, fb, sb⟩ := gb.cells
  try simp only [size_drewN] at cb fb sb
  try simp only [World.size_alloc] at cb fb sb
  try simp only [World.size_drew] at cb fb sb
  try simp only [World.size_setCell] at cb fb sb
  have zb0 : w.heap.size < wb.heap.size := by omega
  have yb0 : w.heap.size ≤ wb.heap.size := by omega
  have kb0 := fun o => cb (w.heap.size) o (by omega)
  have jb0 := fun o => fb (w.heap.size) o (by omega)
  go_wp2_with fail
  go_ret2
  exact ⟨rfl, (by repeat (first | exact Gr.refl _ | apply Gr.alloc | apply Gr.drew | apply Gr.drewN | (refine Gr.setCell ?_ (by first | (simp; done) | (simp; omega)) _) | (refine Gr.trans ?_ (by assumption))))⟩
set_option maxHeartbeats 800000 in
theorem silence_yes (s : Srv) (w : World) (h : parOk s = true) :
    Calls Tryd.prog 23 #[.agg #[.int .i64 s.k, .int .i64 s.q, .int .i64 s.t]] w fun e w' => e = .returned (.tuple #[.int .i64 ((rowI s).gap + (rowI s).t - (rowI s).q), .nilIface]) ∧ Gr w w' := by
  have hof := fun w => of_yes s w h
  obtain ⟨g0, g1, q1, qt, t2⟩ := rowI_ok h
  replace h := Lib.hid h
  replace hof := Lib.hid hof
  go_enter Tryd.func23, Tryd.ntmps23
  go_wp2_with fail
  refine (hof.out _).mono ?_
  rintro e wa ⟨rfl, ga⟩
  obtain ⟨ca, fa, sa⟩ := ga.cells
  try simp only [size_drewN] at ca fa sa
  try simp only [World.size_alloc] at ca fa sa
  try simp only [World.size_drew] at ca fa sa
  try simp only [World.size_setCell] at ca fa sa
  have za0 : w.heap.size < wa.heap.size := by omega
  have ya0 : w.heap.size ≤ wa.heap.size := by omega
  have ka0 := fun o => ca (w.heap.size) o (by omega)
  have ja0 := fun o => fa (w.heap.size) o (by omega)
  go_wp2_with fail
  go_ret2
  exact ⟨rfl, (by repeat (first | exact Gr.refl _ | apply Gr.alloc | apply Gr.drew | apply Gr.drewN | (refine Gr.setCell ?_ (by first | (simp; done) | (simp; omega)) _) | (refine Gr.trans ?_ (by assumption))))⟩
set_option maxHeartbeats 800000 in
theorem silence_no {G : List Nat} {E : Nat → Addr} (s : Srv) (w : World) (hE : EAt G E w) (i0 : 0 ∈ G) (h : parOk s = false) :
    Calls Tryd.prog 23 #[.agg #[.int .i64 s.k, .int .i64 s.q, .int .i64 s.t]] w fun e w' => e = .returned (.tuple #[.int .i64 0, (Value.iface 146 (.pointer (some (E 0))))]) ∧ Gr w w' := by
  have hof := fun w hE => of_no (G := G) (E := E) s w hE i0 h
  replace h := Lib.hid h
  replace hof := Lib.hid hof
  go_enter Tryd.func23, Tryd.ntmps23
  go_wp2_with fail
  refine (hof.out _ (hE.gr ((Gr.refl w).alloc _))).mono ?_
  rintro e wa ⟨rfl, ga⟩
  obtain ⟨ca, fa, sa⟩ := ga.cells
  try simp only [size_drewN] at ca fa sa
  try simp only [World.size_alloc] at ca fa sa
  try simp only [World.size_drew] at ca fa sa
  try simp only [World.size_setCell] at ca fa sa
  have za0 : w.heap.size < wa.heap.size := by omega
  have ya0 : w.heap.size ≤ wa.heap.size := by omega
  have ka0 := fun o => ca (w.heap.size) o (by omega)
  have ja0 := fun o => fa (w.heap.size) o (by omega)
  go_wp2_with fail
  go_ret2
  exact ⟨rfl, (by repeat (first | exact Gr.refl _ | apply Gr.alloc | apply Gr.drew | apply Gr.drewN | (refine Gr.setCell ?_ (by first | (simp; done) | (simp; omega)) _) | (refine Gr.trans ?_ (by assumption))))⟩
set_option maxHeartbeats 800000 in
theorem slope_yes (s : Srv) (w : World) (h : parOk s = true) :
    Calls Tryd.prog 49 #[.agg #[.int .i64 s.k, .int .i64 s.q, .int .i64 s.t]] w fun e w' => e = .returned (.tuple #[.int .i64 (rowI s).q, .int .i64 (rowI s).t, .int .i64 ((rowI s).gap + (rowI s).t - (rowI s).q), .nilIface]) ∧ Gr w w' := by
  have hof := fun w => of_yes s w h
  obtain ⟨g0, g1, q1, qt, t2⟩ := rowI_ok h
  replace h := Lib.hid h
  replace hof := Lib.hid hof
  go_enter Tryd.func49, Tryd.ntmps49
  go_wp2_with fail
  refine (hof.out _).mono ?_
  rintro e wa ⟨rfl, ga⟩
  obtain ⟨ca, fa, sa⟩ := ga.cells
  try simp only [size_drewN] at ca fa sa
  try simp only [World.size_alloc] at ca fa sa
  try simp only [World.size_drew] at ca fa sa
  try simp only [World.size_setCell] at ca fa sa
  have za0 : w.heap.size < wa.heap.size := by omega
  have ya0 : w.heap.size ≤ wa.heap.size := by omega
  have ka0 := fun o => ca (w.heap.size) o (by omega)
  have ja0 := fun o => fa (w.heap.size) o (by omega)
  go_wp2_with fail
  go_quiet (fail)
  go_wp2_with fail
  refine bodyPost_ret (v := .tuple #[.int .i64 (rowI s).q, .int .i64 (rowI s).t, .int .i64 ((rowI s).gap + (rowI s).t - (rowI s).q), .nilIface]) (by simp [results, Tryd.results49, go_sem, *]) rfl ⟨rfl, (by repeat (first | exact Gr.refl _ | apply Gr.alloc | apply Gr.drew | apply Gr.drewN | (refine Gr.setCell ?_ (by first | (simp; done) | (simp; omega)) _) | (refine Gr.trans ?_ (by assumption))))⟩
end Go.Proofs.YtmookdgeblcjnaaDoor
