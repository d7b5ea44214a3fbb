/- Supply, in plain numbers: what a server gives, and what fits below it. -/
import Derived.Test.YtglfdnfojpdkjaaGreatDoorJ4
import Derived.Test.YtglfdnfojpdkjaaGreatDoorJ3
namespace Go.Proofs.YtglfdnfojpdkjaaGreatDoor
open Go.RowKit

structure Row where
  gap : Int
  q : Int
  t : Int
def whole (s : Srv) : Bool := decide (s.k = 0 ∧ s.q = 0 ∧ s.t = 0)
/-- A parent: the whole, or a legal server. -/
def parOk (s : Srv) : Bool := whole s || s.leg
def rowI (s : Srv) : Row := if whole s = true then ⟨0, 1, 1⟩ else if s.k = 3 then ⟨s.t - s.q, s.q, s.t⟩ else ⟨s.t - 1, s.q, s.t⟩
structure RowOk (r : Row) : Prop where
  g0 : 0 ≤ r.gap
  g1 : r.gap ≤ r.t - 1
  q1 : 1 ≤ r.q
  qt : r.q ≤ r.t
  t2 : r.t ≤ 256
theorem rowI_ok {s : Srv} (h : parOk s = true) : RowOk (rowI s) := by
  unfold rowI
  cases hw : whole s with
  | true => rw [if_pos rfl]; exact ⟨by decide, by decide, by decide, by decide, by decide⟩
  | false =>
    unfold parOk at h
    rw [hw, Bool.false_or] at h
    obtain ⟨h1, h2, h3, h4, h5⟩ := (Srv.leg_iff _).1 h
    rw [if_neg (by decide)]
    split
    · exact ⟨by dsimp only; omega, by dsimp only; omega, h3, h4, h5⟩
    · exact ⟨by dsimp only; omega, by dsimp only; omega, h3, h4, h5⟩

/-- What is given of m ticks behind the gap. -/
def givM (r : Row) (m : Int) : Int := m / r.t * r.q + max 0 (m % r.t - (r.t - r.q))
def givI (r : Row) (l : Int) : Int := if l - r.gap ≤ 0 then 0 else givM r (l - r.gap)

theorem givM_parts {r : Row} (h : RowOk r) {m : Int} (hm : 0 ≤ m) : ∃ x u, m = r.t * x + u ∧ 0 ≤ x ∧ 0 ≤ u ∧ u < r.t ∧ m / r.t = x ∧ m % r.t = u := by
  have ht : 0 < r.t := by have := h.q1; have := h.qt; omega
  exact ⟨m / r.t, m % r.t, by have := Int.mul_ediv_add_emod m r.t; omega, Int.ediv_nonneg hm (by omega), Int.emod_nonneg _ (by omega), Int.emod_lt_of_pos _ ht, rfl, rfl⟩
theorem givM_nonneg {r : Row} (h : RowOk r) {m : Int} (hm : 0 ≤ m) : 0 ≤ givM r m := by
  obtain ⟨x, u, hx, x0, u0, u1, e1, e2⟩ := givM_parts h hm
  unfold givM
  rw [e1, e2]
  have := Int.mul_nonneg x0 (show 0 ≤ r.q by have := h.q1; omega)
  omega
theorem givM_le {r : Row} (h : RowOk r) {m : Int} (hm : 0 ≤ m) : givM r m ≤ m := by
  obtain ⟨x, u, hx, x0, u0, u1, e1, e2⟩ := givM_parts h hm
  unfold givM
  rw [e1, e2]
  have h1 := Int.mul_le_mul_of_nonneg_left h.qt x0
  have h2 := Int.mul_comm r.t x
  have := h.q1
  have := h.qt
  omega
theorem givM_mono {r : Row} (h : RowOk r) {a b : Int} (ha : 0 ≤ a) (hab : a ≤ b) : givM r a ≤ givM r b := by
  obtain ⟨x, u, hx, x0, u0, u1, e1, e2⟩ := givM_parts h ha
  obtain ⟨y, v, hy, y0, v0, v1, f1, f2⟩ := givM_parts h (show 0 ≤ b by omega)
  unfold givM
  rw [e1, e2, f1, f2]
  have q1 := h.q1
  have qt := h.qt
  have hxy : x ≤ y := by
    have h1 : r.t * x < r.t * (y + 1) := by rw [Int.mul_add, Int.mul_one]; omega
    have := Int.lt_of_mul_lt_mul_left h1 (by omega)
    omega
  by_cases he : x = y
  · subst he
    omega
  · have h1 : (x + 1) * r.q ≤ y * r.q := Int.mul_le_mul_of_nonneg_right (by omega) (by omega)
    rw [Int.add_mul, Int.one_mul] at h1
    omega
theorem giv_nonneg {r : Row} (h : RowOk r) (l : Int) : 0 ≤ givI r l := by
  unfold givI
  split
  · exact Int.le_refl _
  · exact givM_nonneg h (by omega)
theorem giv_le {r : Row} (h : RowOk r) {l : Int} (hl : 0 ≤ l) : givI r l ≤ l := by
  unfold givI
  have := h.g0
  split
  · exact hl
  · have := givM_le h (show 0 ≤ l - r.gap by omega)
    omega
theorem giv_mono {r : Row} (h : RowOk r) {a b : Int} (hab : a ≤ b) : givI r a ≤ givI r b := by
  unfold givI
  by_cases h1 : a - r.gap ≤ 0
  · rw [if_pos h1]
    split
    · exact Int.le_refl _
    · exact givM_nonneg h (by omega)
  · rw [if_neg h1, if_neg (by omega)]
    exact givM_mono h (by omega) (by omega)
/-- Never below the line. -/
theorem giv_slope {r : Row} (h : RowOk r) (l : Int) : r.q * (l - (r.gap + r.t - r.q)) ≤ r.t * givI r l := by
  have q1 := h.q1
  have qt := h.qt
  unfold givI
  split
  · rw [Int.mul_zero]
    exact Int.mul_nonpos_of_nonneg_of_nonpos (by omega) (by omega)
  · rename_i hm
    obtain ⟨x, u, hx, x0, u0, u1, e1, e2⟩ := givM_parts h (show 0 ≤ l - r.gap by omega)
    unfold givM
    rw [e1, e2, Int.mul_add, show l - (r.gap + r.t - r.q) = r.t * x + (u - (r.t - r.q)) by omega, Int.mul_add, ← Int.mul_assoc, ← Int.mul_assoc]
    have e3 : r.q * r.t * x = r.t * x * r.q := by rw [Int.mul_comm r.q r.t, Int.mul_assoc, Int.mul_assoc, Int.mul_comm r.q x]
    rw [e3]
    by_cases hu : u - (r.t - r.q) ≤ 0
    · rw [show max 0 (u - (r.t - r.q)) = 0 by omega, Int.mul_zero]
      have := Int.mul_nonpos_of_nonneg_of_nonpos (show 0 ≤ r.q by omega) hu
      omega
    · rw [show max 0 (u - (r.t - r.q)) = u - (r.t - r.q) by omega]
      have := Int.mul_le_mul_of_nonneg_right qt (show 0 ≤ u - (r.t - r.q) by omega)
      omega
end Go.Proofs.YtglfdnfojpdkjaaGreatDoor
/- supply: a server's row, its supply, its silence, its slope. -/
namespace Go.Proofs.YtglfdnfojpdkjaaGreatDoor
open Go.RowKit

theorem srv_eql (a b : Srv) (w : World) : (binOp .eql 24 (.agg #[.int .i64 a.k, .int .i64 a.q, .int .i64 a.t]) (.agg #[.int .i64 b.k, .int .i64 b.q, .int .i64 b.t])).run Tryz.prog w = .ok (.bool (decide (a.k = b.k ∧ a.q = b.q ∧ a.t = b.t))) w := by
  by_cases h1 : a.k = b.k
  · by_cases h2 : a.q = b.q
    · by_cases h3 : a.t = b.t
      · simp [go_sem, h1, h2, h3]
      · simp [go_sem, h1, h2, h3]
    · simp [go_sem, h1, h2]
  · simp [go_sem, h1]

set_option maxHeartbeats 800000 in
theorem of_yes (s : Srv) (w : World) (h : parOk s = true) :
    Calls Tryz.prog 148 #[.agg #[.int .i64 s.k, .int .i64 s.q, .int .i64 s.t]] w fun e w' => e = .returned (.tuple #[.agg #[.int .i64 (rowI s).gap, .int .i64 (rowI s).q, .int .i64 (rowI s).t], .nilIface]) ∧ Gr w w' := by
  have hs := fun w => srv_eql s ⟨0, 0, 0⟩ w
  dsimp only at hs
  rw [show decide (s.k = 0 ∧ s.q = 0 ∧ s.t = 0) = whole s from rfl] at hs
  unfold rowI
  cases hw : whole s with
  | true =>
    rw [hw] at hs
    rw [if_pos rfl]
    replace hw := Lib.hid hw
    go_enter Tryz.func148, Tryz.ntmps148
    go_wp2_with fail
    refine bodyPost_ret (v := .tuple #[.agg #[.int .i64 0, .int .i64 1, .int .i64 1], .nilIface]) (by simp [results, Tryz.results148, go_sem, *]) rfl ⟨rfl, (by repeat (first | exact Gr.refl _ | apply Gr.alloc | apply Gr.drew | apply Gr.drewN | (refine Gr.setCell ?_ (by first | (simp; done) | (simp; omega)) _) | (refine Gr.trans ?_ (by assumption))))⟩
  | false =>
    rw [hw] at hs
    rw [if_neg (by decide)]
    unfold parOk at h
    rw [hw, Bool.false_or] at h
    have hck := fun w => checkServer_yes s.k s.q s.t w h
    obtain ⟨h1, h2, h3, h4, h5⟩ := (Srv.leg_iff _).1 h
    replace hck := Lib.hid hck
    replace hw := Lib.hid hw
    replace h := Lib.hid h
    by_cases h3' : s.k = 3
    · rw [if_pos h3']
      have e3 : (s.k == 3) = true := by simpa using h3'
      clear h3'
      go_enter Tryz.func148, Tryz.ntmps148
      go_wp2_with fail
      refine (hck.out _).mono ?_
      rintro e wa ⟨rfl, ga⟩
      obtain ⟨ca, fa, sa⟩ := ga.cells
      try simp only [size_drewN] at ca fa sa
      try simp only [World.size_alloc] at ca fa sa
      try simp only [World.size_drew] at ca fa sa
      try simp only [World.size_setCell] at ca fa sa
      have za0 : w.heap.size < wa.heap.size := by omega
      have ya0 : w.heap.size ≤ wa.heap.size := by omega
      have ka0 := fun o => ca (w.heap.size) o (by omega)
      have ja0 := fun o => fa (w.heap.size) o (by omega)
      have za1 : w.heap.size + 1 < wa.heap.size := by omega
      have ka1 := fun o => ca (w.heap.size + 1) o (by omega)
      have ja1 := fun o => fa (w.heap.size + 1) o (by omega)
      go_wp2_with fail
      refine bodyPost_ret (v := .tuple #[.agg #[.int .i64 (s.t - s.q), .int .i64 s.q, .int .i64 s.t], .nilIface]) (by simp [results, Tryz.results148, go_sem, *]) rfl ⟨rfl, (by repeat (first | exact Gr.refl _ | apply Gr.alloc | apply Gr.drew | apply Gr.drewN | (refine Gr.setCell ?_ (by first | (simp; done) | (simp; omega)) _) | (refine Gr.trans ?_ (by assumption))))⟩
    · rw [if_neg h3']
      have e3 : (s.k == 3) = false := by simpa using h3'
      clear h3'
      go_enter Tryz.func148, Tryz.ntmps148
      go_wp2_with fail
      refine (hck.out _).mono ?_
      rintro e wa ⟨rfl, ga⟩
      obtain ⟨ca, fa, sa⟩ := ga.cells
      try simp only [size_drewN] at ca fa sa
      try simp only [World.size_alloc] at ca fa sa
      try simp only [World.size_drew] at ca fa sa
      try simp only [World.size_setCell] at ca fa sa
      have za0 : w.heap.size < wa.heap.size := by omega
      have ya0 : w.heap.size ≤ wa.heap.size := by omega
      have ka0 := fun o => ca (w.heap.size) o (by omega)
      have ja0 := fun o => fa (w.heap.size) o (by omega)
      have za1 : w.heap.size + 1 < wa.heap.size := by omega
      have ka1 := fun o => ca (w.heap.size + 1) o (by omega)
      have ja1 := fun o => fa (w.heap.size + 1) o (by omega)
      go_wp2_with fail
      refine bodyPost_ret (v := .tuple #[.agg #[.int .i64 (s.t - 1), .int .i64 s.q, .int .i64 s.t], .nilIface]) (by simp [results, Tryz.results148, go_sem, *]) rfl ⟨rfl, (by repeat (first | exact Gr.refl _ | apply Gr.alloc | apply Gr.drew | apply Gr.drewN | (refine Gr.setCell ?_ (by first | (simp; done) | (simp; omega)) _) | (refine Gr.trans ?_ (by assumption))))⟩
set_option maxHeartbeats 800000 in
theorem of_no {G : List Nat} {E : Nat → Addr} (s : Srv) (w : World) (hE : EAt G E w) (i0 : 4 ∈ G) (h : parOk s = false) :
    Calls Tryz.prog 148 #[.agg #[.int .i64 s.k, .int .i64 s.q, .int .i64 s.t]] w fun e w' => e = .returned (.tuple #[.agg #[.int .i64 0, .int .i64 0, .int .i64 0], (Value.iface 258 (.pointer (some (E 4))))]) ∧ Gr w w' := by
  have hs := fun w => srv_eql s ⟨0, 0, 0⟩ w
  dsimp only at hs
  rw [show decide (s.k = 0 ∧ s.q = 0 ∧ s.t = 0) = whole s from rfl] at hs
  unfold parOk at h
  rw [Bool.or_eq_false_iff] at h
  obtain ⟨hw, hl⟩ := h
  rw [hw] at hs
  have hck := fun w (g : EAt G E w) => checkServer_no s.k s.q s.t w g i0 hl
  replace hck := Lib.hid hck
  replace hw := Lib.hid hw
  replace hl := Lib.hid hl
  go_enter Tryz.func148, Tryz.ntmps148
  go_wp2_with fail
  refine (hck.out _ (hE.gr (((Gr.refl w).alloc _).alloc _))).mono ?_
  rintro e wa ⟨rfl, ga⟩
  obtain ⟨ca, fa, sa⟩ := ga.cells
  try simp only [size_drewN] at ca fa sa
  try simp only [World.size_alloc] at ca fa sa
  try simp only [World.size_drew] at ca fa sa
  try simp only [World.size_setCell] at ca fa sa
  have za0 : w.heap.size < wa.heap.size := by omega
  have ya0 : w.heap.size ≤ wa.heap.size := by omega
  have ka0 := fun o => ca (w.heap.size) o (by omega)
  have ja0 := fun o => fa (w.heap.size) o (by omega)
  have za1 : w.heap.size + 1 < wa.heap.size := by omega
  have ka1 := fun o => ca (w.heap.size + 1) o (by omega)
  have ja1 := fun o => fa (w.heap.size + 1) o (by omega)
  go_wp2_with fail
  refine bodyPost_ret (v := .tuple #[.agg #[.int .i64 0, .int .i64 0, .int .i64 0], (Value.iface 258 (.pointer (some (E 4))))]) (by simp [results, Tryz.results148, go_sem, *]) rfl ⟨rfl, (by repeat (first | exact Gr.refl _ | apply Gr.alloc | apply Gr.drew | apply Gr.drewN | (refine Gr.setCell ?_ (by first | (simp; done) | (simp; omega)) _) | (refine Gr.trans ?_ (by assumption))))⟩
end Go.Proofs.YtglfdnfojpdkjaaGreatDoor
/- supply: given, Bound, Silence, Slope. -/
namespace Go.Proofs.YtglfdnfojpdkjaaGreatDoor
open Go.RowKit

set_option maxHeartbeats 800000 in
theorem given_any (r : Row) (l : Int) (w : World) (hr : RowOk r) (hl : LenOk l) :
    Calls Tryz.prog 161 #[.agg #[.int .i64 r.gap, .int .i64 r.q, .int .i64 r.t], .int .i64 l] w fun e w' => e = .returned (.int .i64 (givI r l)) ∧ Gr w w' := by
  obtain ⟨g0, g1, q1, qt, t2⟩ := hr
  obtain ⟨l1, l2⟩ := hl
  unfold givI
  by_cases hm : l - r.gap ≤ 0
  · rw [if_pos hm]
    go_enter Tryz.func161, Tryz.ntmps161
    go_wp2_with fail
    go_ret
    exact ⟨rfl, (by repeat (first | exact Gr.refl _ | apply Gr.alloc | apply Gr.drew | apply Gr.drewN | (refine Gr.setCell ?_ (by first | (simp; done) | (simp; omega)) _) | (refine Gr.trans ?_ (by assumption))))⟩
  · rw [if_neg hm]
    obtain ⟨m, hmm⟩ : ∃ m, l - r.gap = m := ⟨_, rfl⟩
    have m1 : 0 < m := by omega
    have m2 : m ≤ 1099511627776 := by omega
    obtain ⟨q0, q1', q2⟩ := quo_mul_le (show 0 ≤ m by omega) (show 0 ≤ r.q by omega) (show 1 ≤ r.t by omega) qt
    have n0 := Int.emod_nonneg m (show r.t ≠ 0 by omega)
    have n1 := Int.emod_lt_of_pos m (show 0 < r.t by omega)
    unfold givM
    rw [hmm]
    clear hm
    go_enter Tryz.func161, Tryz.ntmps161
    go_wp2_with fail
    go_quiet (fail)
    go_wp2_with fail
    all_goals
      go_ret
      exact ⟨ret1 (by first | rfl | (rw [Int.max_def]; split <;> omega)), (by repeat (first | exact Gr.refl _ | apply Gr.alloc | apply Gr.drew | apply Gr.drewN | (refine Gr.setCell ?_ (by first | (simp; done) | (simp; omega)) _) | (refine Gr.trans ?_ (by assumption))))⟩

set_option maxHeartbeats 800000 in
theorem bound_yes (s : Srv) (l : Int) (w : World) (h : parOk s = true) (hl : LenOk l) :
    Calls Tryz.prog 140 #[.agg #[.int .i64 s.k, .int .i64 s.q, .int .i64 s.t], .int .i64 l] w fun e w' => e = .returned (.tuple #[.int .i64 (givI (rowI s) l), .nilIface]) ∧ Gr w w' := by
  have hof := fun w => of_yes s w h
  have hgv := fun w => given_any (rowI s) l w (rowI_ok h) hl
  obtain ⟨l1, l2⟩ := hl
  replace h := Lib.hid h
  replace hof := Lib.hid hof
  replace hgv := Lib.hid hgv
  go_enter Tryz.func140, Tryz.ntmps140
  go_wp2_with fail
  refine (hof.out _).mono ?_
  rintro e wa ⟨rfl, ga⟩
  obtain ⟨ca, fa, sa⟩ := ga.cells
  try simp only [size_drewN] at ca fa sa
  try simp only [World.size_alloc] at ca fa sa
  try simp only [World.size_drew] at ca fa sa
  try simp only [World.size_setCell] at ca fa sa
  have za0 : w.heap.size < wa.heap.size := by omega
  have ya0 : w.heap.size ≤ wa.heap.size := by omega
  have ka0 := fun o => ca (w.heap.size) o (by omega)
  have ja0 := fun o => fa (w.heap.size) o (by omega)
  go_wp2_with fail
  go_wp2_with fail
  refine (hgv.out _).mono ?_
  rintro e wb ⟨rfl, gb⟩
  obtain ⟨cb, fb, sb⟩ := gb.cells
  try simp only [size_drewN] at cb fb sb
  try simp only [World.size_alloc] at cb fb sb
  try simp only [World.size_drew] at cb fb sb
  try simp only [World.size_setCell] at cb fb sb
  have zb0 : w.heap.size < wb.heap.size := by omega
  have yb0 : w.heap.size ≤ wb.heap.size := by omega
  have kb0 := fun o => cb (w.heap.size) o (by omega)
  have jb0 := fun o => fb (w.heap.size) o (by omega)
  go_wp2_with fail
  go_ret2
  exact ⟨rfl, (by repeat (first | exact Gr.refl _ | apply Gr.alloc | apply Gr.drew | apply Gr.drewN | (refine Gr.setCell ?_ (by first | (simp; done) | (simp; omega)) _) | (refine Gr.trans ?_ (by assumption))))⟩
set_option maxHeartbeats 800000 in
theorem silence_yes (s : Srv) (w : World) (h : parOk s = true) :
    Calls Tryz.prog 129 #[.agg #[.int .i64 s.k, .int .i64 s.q, .int .i64 s.t]] w fun e w' => e = .returned (.tuple #[.int .i64 ((rowI s).gap + (rowI s).t - (rowI s).q), .nilIface]) ∧ Gr w w' := by
  have hof := fun w => of_yes s w h
  obtain ⟨g0, g1, q1, qt, t2⟩ := rowI_ok h
  replace h := Lib.hid h
  replace hof := Lib.hid hof
  go_enter Tryz.func129, Tryz.ntmps129
  go_wp2_with fail
  refine (hof.out _).mono ?_
  rintro e wa ⟨rfl, ga⟩
  obtain ⟨ca, fa, sa⟩ := ga.cells
  try simp only [size_drewN] at ca fa sa
  try simp only [World.size_alloc] at ca fa sa
  try simp only [World.size_drew] at ca fa sa
  try simp only [World.size_setCell] at ca fa sa
  have za0 : w.heap.size < wa.heap.size := by omega
  have ya0 : w.heap.size ≤ wa.heap.size := by omega
  have ka0 := fun o => ca (w.heap.size) o (by omega)
  have ja0 := fun o => fa (w.heap.size) o (by omega)
  go_wp2_with fail
  go_ret2
  exact ⟨rfl, (by repeat (first | exact Gr.refl _ | apply Gr.alloc | apply Gr.drew | apply Gr.drewN | (refine Gr.setCell ?_ (by first | (simp; done) | (simp; omega)) _) | (refine Gr.trans ?_ (by assumption))))⟩
set_option maxHeartbeats 800000 in
theorem silence_no {G : List Nat} {E : Nat → Addr} (s : Srv) (w : World) (hE : EAt G E w) (i0 : 4 ∈ G) (h : parOk s = false) :
    Calls Tryz.prog 129 #[.agg #[.int .i64 s.k, .int .i64 s.q, .int .i64 s.t]] w fun e w' => e = .returned (.tuple #[.int .i64 0, (Value.iface 258 (.pointer (some (E 4))))]) ∧ Gr w w' := by
  have hof := fun w hE => of_no (G := G) (E := E) s w hE i0 h
  replace h := Lib.hid h
  replace hof := Lib.hid hof
  go_enter Tryz.func129, Tryz.ntmps129
  go_wp2_with fail
  refine (hof.out _ (hE.gr ((Gr.refl w).alloc _))).mono ?_
  rintro e wa ⟨rfl, ga⟩
  obtain ⟨ca, fa, sa⟩ := ga.cells
  try simp only [size_drewN] at ca fa sa
  try simp only [World.size_alloc] at ca fa sa
  try simp only [World.size_drew] at ca fa sa
  try simp only [World.size_setCell] at ca fa sa
  have za0 : w.heap.size < wa.heap.size := by omega
  have ya0 : w.heap.size ≤ wa.heap.size := by omega
  have ka0 := fun o => ca (w.heap.size) o (by omega)
  have ja0 := fun o => fa (w.heap.size) o (by omega)
  go_wp2_with fail
  go_ret2
  exact ⟨rfl, (by repeat (first | exact Gr.refl _ | apply Gr.alloc | apply Gr.drew | apply Gr.drewN | (refine Gr.setCell ?_ (by first | (simp; done) | (simp; omega)) _) | (refine Gr.trans ?_ (by assumption))))⟩
set_option maxHeartbeats 800000 in
theorem slope_yes (s : Srv) (w : World) (h : parOk s = true) :
    Calls Tryz.prog 151 #[.agg #[.int .i64 s.k, .int .i64 s.q, .int .i64 s.t]] w fun e w' => e = .returned (.tuple #[.int .i64 (rowI s).q, .int .i64 (rowI s).t, .int .i64 ((rowI s).gap + (rowI s).t - (rowI s).q), .nilIface]) ∧ Gr w w' := by
  have hof := fun w => of_yes s w h
  obtain ⟨g0, g1, q1, qt, t2⟩ := rowI_ok h
  replace h := Lib.hid h
  replace hof := Lib.hid hof
  go_enter Tryz.func151, Tryz.ntmps151
  go_wp2_with fail
  refine (hof.out _).mono ?_
  rintro e wa ⟨rfl, ga⟩
  obtain ⟨ca, fa, sa⟩ := ga.cells
  try simp only [size_drewN] at ca fa sa
  try simp only [World.size_alloc] at ca fa sa
  try simp only [World.size_drew] at ca fa sa
  try simp only [World.size_setCell] at ca fa sa
  have za0 : w.heap.size < wa.heap.size := by omega
  have ya0 : w.heap.size ≤ wa.heap.size := by omega
  have ka0 := fun o => ca (w.heap.size) o (by omega)
  have ja0 := fun o => fa (w.heap.size) o (by omega)
  go_wp2_with fail
  go_quiet (fail)
  go_wp2_with fail
  refine bodyPost_ret (v := .tuple #[.int .i64 (rowI s).q, .int .i64 (rowI s).t, .int .i64 ((rowI s).gap + (rowI s).t - (rowI s).q), .nilIface]) (by simp [results, Tryz.results151, go_sem, *]) rfl ⟨rfl, (by repeat (first | exact Gr.refl _ | apply Gr.alloc | apply Gr.drew | apply Gr.drewN | (refine Gr.setCell ?_ (by first | (simp; done) | (simp; omega)) _) | (refine Gr.trans ?_ (by assumption))))⟩
end Go.Proofs.YtglfdnfojpdkjaaGreatDoor
