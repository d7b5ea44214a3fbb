/- Supply, in plain numbers: what a server gives, and what fits below it. -/
import Derived.Test.YtmookdgeblcjnaaDoorD0
import Derived.Test.YtmookdgeblcjnaaDoorA3
namespace Go.Proofs.YtmookdgeblcjnaaDoor
open Go.RowKit

structure Row where
  gap : Int
  q : Int
  t : Int
def whole (s : Srv) : Bool := decide (s.k = 0 ∧ s.q = 0 ∧ s.t = 0)
/-- A parent: the whole, or a legal server. -/
def parOk (s : Srv) : Bool := whole s || s.leg
def rowI (s : Srv) : Row := if whole s = true then ⟨0, 1, 1⟩ else if s.k = 3 then ⟨s.t - s.q, s.q, s.t⟩ else ⟨s.t - 1, s.q, s.t⟩
structure RowOk (r : Row) : Prop where
  g0 : 0 ≤ r.gap
  g1 : r.gap ≤ r.t - 1
  q1 : 1 ≤ r.q
  qt : r.q ≤ r.t
  t2 : r.t ≤ 256
theorem rowI_ok {s : Srv} (h : parOk s = true) : RowOk (rowI s) := by
  unfold rowI
  cases hw : whole s with
  | true => rw [if_pos rfl]; exact ⟨by decide, by decide, by decide, by decide, by decide⟩
  | false =>
    unfold parOk at h
    rw [hw, Bool.false_or] at h
    obtain ⟨h1, h2, h3, h4, h5⟩ := (Srv.leg_iff _).1 h
    rw [if_neg (by decide)]
    split
    · exact ⟨by dsimp only; omega, by dsimp only; omega, h3, h4, h5⟩
    · exact ⟨by dsimp only; omega, by dsimp only; omega, h3, h4, h5⟩

/-- What is given of m ticks behind the gap. -/
def givM (r : Row) (m : Int) : Int := m / r.t * r.q + max 0 (m % r.t - (r.t - r.q))
def givI (r : Row) (l : Int) : Int := if l - r.gap ≤ 0 then 0 else givM r (l - r.gap)

theorem givM_parts {r : Row} (h : RowOk r) {m : Int} (hm : 0 ≤ m) : ∃ x u, m = r.t * x + u ∧ 0 ≤ x ∧ 0 ≤ u ∧ u < r.t ∧ m / r.t = x ∧ m % r.t = u := by
  have ht : 0 < r.t := by have := h.q1; have := h.qt; omega
  exact ⟨m / r.t, m % r.t, by have := Int.mul_ediv_add_emod m r.t; omega, Int.ediv_nonneg hm (by omega), Int.emod_nonneg _ (by omega), Int.emod_lt_of_pos _ ht, rfl, rfl⟩
theorem givM_nonneg {r : Row} (h : RowOk r) {m : Int} (hm : 0 ≤ m) : 0 ≤ givM r m := by
  obtain ⟨x, u, hx, x0, u0, u1, e1, e2⟩ := givM_parts h hm
  unfold givM
  rw [e1, e2]
  have := Int.mul_nonneg x0 (show 0 ≤ r.q by have := h.q1; omega)
  omega
theorem givM_le {r : Row} (h : RowOk r) {m : Int} (hm : 0 ≤ m) : givM r m ≤ m := by
  obtain ⟨x, u, hx, x0, u0, u1, e1, e2⟩ := givM_parts h hm
  unfold givM
  rw [e1, e2]
  have h1 := Int.mul_le_mul_of_nonneg_left h.qt x0
  have h2 := Int.mul_comm r.t x
  have := h.q1
  have := h.qt
  omega
theorem givM_mono {r : Row} (h : RowOk r) {a b : Int} (ha : 0 ≤ a) (hab : a ≤ b) : givM r a ≤ givM r b := by
  obtain ⟨x, u, hx, x0, u0, u1, e1, e2⟩ := givM_parts h ha
  obtain ⟨y, v, hy, y0, v0, v1, f1, f2⟩ := givM_parts h (show 0 ≤ b by omega)
  unfold givM
  rw [e1, e2, f1, f2]
  have q1 := h.q1
  have qt := h.qt
  have hxy : x ≤ y := by
    have h1 : r.t * x < r.t * (y + 1) := by rw [Int.mul_add, Int.mul_one]; omega
    have := Int.lt_of_mul_lt_mul_left h1 (by omega)
    omega
  by_cases he : x = y
  · subst he
    omega
  · have h1 : (x + 1) * r.q ≤ y * r.q := Int.mul_le_mul_of_nonneg_right (by omega) (by omega)
    rw [Int.add_mul, Int.one_mul] at h1
    omega
theorem giv_nonneg {r : Row} (h : RowOk r) (l : Int) : 0 ≤ givI r l := by
  unfold givI
  split
  · exact Int.le_refl _
  · exact givM_nonneg h (by omega)
theorem giv_le {r : Row} (h : RowOk r) {l : Int} (hl : 0 ≤ l) : givI r l ≤ l := by
  unfold givI
  have := h.g0
  split
  · exact hl
  · have := givM_le h (show 0 ≤ l - r.gap by omega)
    omega
theorem giv_mono {r : Row} (h : RowOk r) {a b : Int} (hab : a ≤ b) : givI r a ≤ givI r b := by
  unfold givI
  by_cases h1 : a - r.gap ≤ 0
  · rw [if_pos h1]
    split
    · exact Int.le_refl _
    · exact givM_nonneg h (by omega)
  · rw [if_neg h1, if_neg (by omega)]
    exact givM_mono h (by omega) (by omega)
/-- Never below the line. -/
theorem giv_slope {r : Row} (h : RowOk r) (l : Int) : r.q * (l - (r.gap + r.t - r.q)) ≤ r.t * givI r l := by
  have q1 := h.q1
  have qt := h.qt
  unfold givI
  split
  · rw [Int.mul_zero]
    exact Int.mul_nonpos_of_nonneg_of_nonpos (by omega) (by omega)
  · rename_i hm
    obtain ⟨x, u, hx, x0, u0, u1, e1, e2⟩ := givM_parts h (show 0 ≤ l - r.gap by omega)
    unfold givM
    rw [e1, e2, Int.mul_add, show l - (r.gap + r.t - r.q) = r.t * x + (u - (r.t - r.q)) by omega, Int.mul_add, ← Int.mul_assoc, ← Int.mul_assoc]
    have e3 : r.q * r.t * x = r.t * x * r.q := by rw [Int.mul_comm r.q r.t, Int.mul_assoc, Int.mul_assoc, Int.mul_comm r.q x]
    rw [e3]
    by_cases hu : u - (r.t - r.q) ≤ 0
    · rw [show max 0 (u - (r.t - r.q)) = 0 by omega, Int.mul_zero]
      have := Int.mul_nonpos_of_nonneg_of_nonpos (show 0 ≤ r.q by omega) hu
      omega
    · rw [show max 0 (u - (r.t - r.q)) = u - (r.t - r.q) by omega]
      have := Int.mul_le_mul_of_nonneg_right qt (show 0 ≤ u - (r.t - r.q) by omega)
      omega
end Go.Proofs.YtmookdgeblcjnaaDoor
