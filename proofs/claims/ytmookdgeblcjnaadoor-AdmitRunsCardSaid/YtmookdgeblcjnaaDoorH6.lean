/- AdmitHalf: the plain law. -/
import Derived.Test.YtmookdgeblcjnaaDoorH5
namespace Go.Proofs.YtmookdgeblcjnaaDoor
open Go.RowKit

theorem cmpI_neg {x y : Int} (h : x < y) : cmpI x y < 0 := by unfold cmpI; rw [if_pos h]; decide
theorem cmpI_le {x y : Int} (h : x ≤ y) : cmpI x y ≤ 0 := by
  unfold cmpI
  by_cases h1 : x < y
  · rw [if_pos h1]; decide
  · rw [if_neg h1, if_neg (by omega)]; decide
theorem whole_row {s : Srv} (h : whole s = true) : rowI s = ⟨0, 1, 1⟩ := by unfold rowI; rw [if_pos h]
theorem whole_iff {s : Srv} : whole s = true ↔ s.k = 0 ∧ s.q = 0 ∧ s.t = 0 := by unfold whole; exact decide_eq_true_iff
theorem par_leg {s : Srv} (h : parOk s = true) (hw : whole s = false) : Leg s := by
  unfold parOk at h
  rw [hw, Bool.false_or] at h
  exact (Srv.leg_iff s).1 h
theorem leg_row {s : Srv} (hw : whole s = false) : (rowI s).q = s.q ∧ (rowI s).t = s.t ∧ ((rowI s).gap = s.t - s.q ∨ (rowI s).gap = s.t - 1) := by
  unfold rowI
  rw [if_neg (by rw [hw]; decide)]
  split
  · exact ⟨rfl, rfl, .inl rfl⟩
  · exact ⟨rfl, rfl, .inr rfl⟩
theorem wiC_whole {s : Srv} (p : Int × Int) (h : parOk s = true) (hw : whole s = true) : wiC none p s = cmpI p.1 p.2 := by
  unfold wiC
  rw [if_pos (by rw [wiB_par]; exact h), if_pos (whole_iff.1 hw)]
theorem wiC_leg {s : Srv} (p : Int × Int) (h : parOk s = true) (hw : whole s = false) : wiC none p s = cmpI (p.1 * s.t) (p.2 * s.q) := by
  unfold wiC
  rw [if_pos (by rw [wiB_par]; exact h), if_neg (fun hh => by rw [whole_iff.2 hh] at hw; cases hw)]
theorem kids_of {s : Srv} {l : List Srv} (h : parOk s = true) (hs : srvErr l = none) (h1 : lineB s (shareS l) (2 * sumQ l) = true) (h2 : belowB s (stepsL l 4096) (demI l) = true) : kidsErr s l = none := by
  unfold kidsErr kidsB
  rw [if_neg (by rw [h]; decide), hs, h1, h2]
  rfl
theorem kids_tight {s : Srv} {l : List Srv} (h : parOk s = true) (hs : srvErr l = none) (hc : ¬ wiC none (shareS l) s < 0) : kidsErr s l = some 1 := by
  unfold kidsErr kidsB lineB
  rw [if_neg (by rw [h]; decide), hs, decide_eq_false hc]
  rfl
theorem kids_nil {s : Srv} (h : parOk s = true) : kidsErr s [] = none := by
  have hr := rowI_ok h
  have q1 := hr.q1
  have g0 := hr.g0
  have g1 := hr.g1
  have t2 := hr.t2
  have qt := hr.qt
  refine kids_of h (by decide) ?_ ?_
  · unfold lineB
    rw [show shareS [] = (0, 1) from rfl, show sumQ [] = 0 from rfl]
    have h1 : wiC none ((0, 1) : Int × Int) s < 0 := by
      cases hw : whole s with
      | true => rw [wiC_whole _ h hw]; exact cmpI_neg (by decide)
      | false =>
        rw [wiC_leg _ h hw]
        have := (par_leg h hw).2.2.1
        exact cmpI_neg (by dsimp only; omega)
    rw [decide_eq_true h1, decide_eq_true (cmpI_le _)]
    · rfl
    · have := Int.mul_nonneg (show 0 ≤ (rowI s).q by omega) (show 0 ≤ 4096 - silI (rowI s) by unfold silI; omega)
      dsimp only
      omega
  · have h0 : ∀ n, stepsL [] n = [] := by
      intro n
      induction n with
      | zero => rfl
      | succ n ih => rw [stepsL, ih]; rfl
    unfold belowB
    rw [h0]
    rfl

theorem small_low {r : Row} (hr : RowOk r) {x t' : Int} (hx : 0 ≤ x) (h1 : 2 * r.t ≤ t') : x / t' ≤ givI r x := by
  have q1 := hr.q1
  have qt := hr.qt
  have g1 := hr.g1
  have hn := Int.ediv_mul_le x (show t' ≠ 0 by omega)
  have hn0 := Int.ediv_nonneg hx (show 0 ≤ t' by omega)
  obtain ⟨n, hnn⟩ : ∃ n, n = x / t' := ⟨_, rfl⟩
  rw [← hnn] at hn hn0 ⊢
  by_cases h0 : n = 0
  · rw [h0]; exact giv_nonneg hr x
  · have h2 : n * (2 * r.t) ≤ n * t' := Int.mul_le_mul_of_nonneg_left h1 hn0
    have h3 : n * (2 * r.t) = 2 * (n * r.t) := by rw [← Int.mul_assoc, Int.mul_comm n 2, Int.mul_assoc]
    have h4 : 1 * r.t ≤ n * r.t := Int.mul_le_mul_of_nonneg_right (by omega) (by omega)
    rw [Int.one_mul] at h4
    unfold givI
    rw [if_neg (by omega)]
    have h5 : 2 * n - 1 ≤ (x - r.gap) / r.t := by
      refine Int.le_ediv_of_mul_le (by omega) ?_
      rw [Int.sub_mul, Int.mul_assoc, Int.one_mul]
      omega
    obtain ⟨y, u, hy, y0, u0, u1, e1, e2⟩ := givM_parts hr (show 0 ≤ x - r.gap by omega)
    unfold givM
    rw [e1] at h5 ⊢
    have h6 : y * 1 ≤ y * r.q := Int.mul_le_mul_of_nonneg_left q1 y0
    omega
theorem kids_small {s : Srv} {t' : Int} (h : parOk s = true) (t1 : 64 ≤ t') (t2 : t' ≤ 256) (hc : whole s = true ∨ (s.t ≤ 32 ∧ 4 * s.t ≤ s.q * t')) : kidsErr s [⟨1, 1, t'⟩] = none := by
  have hr := rowI_ok h
  have hse : srvErr [⟨1, 1, t'⟩] = none := by
    have hl : allLeg [⟨1, 1, t'⟩] = true := by
      have : (Srv.mk 1 1 t').leg = true := (Srv.leg_iff _).2 ⟨by dsimp only; omega, by dsimp only; omega, by dsimp only; omega, by dsimp only; omega, by dsimp only; omega⟩
      simp [allLeg, this]
    unfold srvErr
    rw [if_neg (by rw [hl]; decide), if_neg (by simp)]
  have hsh : shareS [⟨1, 1, t'⟩] = (1, t') := by simp [shareS, plusP]
  have hsq : sumQ [⟨1, 1, t'⟩] = 1 := rfl
  have hdem : ∀ x, demI [⟨1, 1, t'⟩] x = x / t' := fun x => by simp [demI, sumI, askedI]
  refine kids_of h hse ?_ ?_
  · rw [hsh, hsq]
    unfold lineB
    cases hw : whole s with
    | true =>
      have h1 : wiC none (1, t') s < 0 := by rw [wiC_whole _ h hw]; exact cmpI_neg (by dsimp only; omega)
      rw [decide_eq_true h1, whole_row hw, decide_eq_true (cmpI_le _)]
      · rfl
      · simp [silI]; omega
    | false =>
      obtain ⟨l1, l2, l3, l4, l5⟩ := par_leg h hw
      obtain ⟨e1, e2, e3⟩ := leg_row hw
      rcases hc with hc | ⟨c1, c2⟩
      · rw [hw] at hc; cases hc
      · have hcomm := Int.mul_comm t' s.q
        have h1 : wiC none (1, t') s < 0 := by rw [wiC_leg _ h hw]; exact cmpI_neg (by dsimp only; omega)
        rw [decide_eq_true h1, decide_eq_true (cmpI_le _)]
        · rfl
        · unfold silI
          rw [e1, e2]
          dsimp only
          have b1 : (1 * 4096 + t' * (2 * 1)) * s.t ≤ 4608 * s.t := Int.mul_le_mul_of_nonneg_right (by omega) (by omega)
          have b2 : t' * (s.q * (4096 - ((rowI s).gap + s.t - s.q))) = s.q * t' * (4096 - ((rowI s).gap + s.t - s.q)) := by rw [← Int.mul_assoc, hcomm]
          have b3 : 4 * s.t * 4032 ≤ s.q * t' * (4096 - ((rowI s).gap + s.t - s.q)) := Int.mul_le_mul c2 (by omega) (by decide) (by omega)
          omega
  · unfold belowB
    rw [List.all_eq_true]
    intro x hx
    have hx1 := stepsL_ok _ _ x hx
    refine decide_eq_true ?_
    rw [hdem]
    cases hw : whole s with
    | true =>
      have := Int.ediv_le_self t' (show 0 ≤ x by omega)
      rw [whole_row hw]
      simp [givI, givM]
      omega
    | false =>
      obtain ⟨e1, e2, e3⟩ := leg_row hw
      rcases hc with hc | ⟨c1, c2⟩
      · rw [hw] at hc; cases hc
      · exact small_low hr (by omega) (by rw [e2]; omega)
end Go.Proofs.YtmookdgeblcjnaaDoor
