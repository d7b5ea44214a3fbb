/- almonerref10: Gap, At, Bound. almonerref10.Bound. -/
import Derived.Test.YtmookdgeblcjnaaDoorH16
import Derived.Test.YtmookdgeblcjnaaDoorH8
namespace Go.Proofs.YtmookdgeblcjnaaDoor
open Go.RowKit

theorem givM_zero {r : Row} (h : RowOk r) : givM r 0 = 0 := by
  have h1 := h.qt
  unfold givM
  rw [Int.zero_ediv, Int.zero_emod, Int.zero_mul]
  omega
def atI (r : Row) (i : Int) : Bool := decide (r.gap ≤ i) && decide (r.t - r.q ≤ (i - r.gap) % r.t)
theorem giv_step {r : Row} (h : RowOk r) {i : Int} : givI r (i + 1) = givI r i + (if atI r i = true then 1 else 0) := by
  obtain ⟨g0, g1, q1, qt, t2⟩ := h
  unfold atI
  by_cases hg : r.gap ≤ i
  · rw [decide_eq_true hg, Bool.true_and]
    have e1 : givI r i = givM r (i - r.gap) := by
      unfold givI
      split
      · rw [show i - r.gap = 0 by omega, givM_zero ⟨g0, g1, q1, qt, t2⟩]
      · rfl
    have e2 : givI r (i + 1) = givM r (i - r.gap + 1) := by
      unfold givI
      rw [if_neg (by omega)]
      congr 1
      omega
    rw [e1, e2]
    obtain ⟨x, u, hx, x0, u0, u1, f1, f2⟩ := givM_parts ⟨g0, g1, q1, qt, t2⟩ (show 0 ≤ i - r.gap by omega)
    obtain ⟨y, v, hy, y0, v0, v1, k1, k2⟩ := givM_parts ⟨g0, g1, q1, qt, t2⟩ (show 0 ≤ i - r.gap + 1 by omega)
    unfold givM
    rw [f1, f2, k1, k2]
    by_cases hu : u + 1 = r.t
    · have hyx : y = x + 1 := by
        have a1 : r.t * y < r.t * (x + 2) := by rw [Int.mul_add]; omega
        have a2 : r.t * (x + 1) < r.t * (y + 1) := by rw [Int.mul_add, Int.mul_add]; omega
        have := Int.lt_of_mul_lt_mul_left a1 (by omega)
        have := Int.lt_of_mul_lt_mul_left a2 (by omega)
        omega
      subst hyx
      rw [Int.mul_add] at hy
      have hv : v = 0 := by omega
      have e3 : (x + 1) * r.q = x * r.q + r.q := by rw [Int.add_mul, Int.one_mul]
      rw [e3]
      split
      · omega
      · rename_i hn
        exact absurd (decide_eq_true (show r.t - r.q ≤ u by omega)) hn
    · have hyx : y = x := by
        have a1 : r.t * y < r.t * (x + 1) := by rw [Int.mul_add]; omega
        have a2 : r.t * x < r.t * (y + 1) := by rw [Int.mul_add]; omega
        have := Int.lt_of_mul_lt_mul_left a1 (by omega)
        have := Int.lt_of_mul_lt_mul_left a2 (by omega)
        omega
      subst hyx
      have hv : v = u + 1 := by omega
      subst hv
      split
      · rename_i hn
        have := of_decide_eq_true hn
        omega
      · rename_i hn
        have : ¬ r.t - r.q ≤ u := fun e => hn (decide_eq_true e)
        omega
  · rw [decide_eq_false hg, Bool.false_and, if_neg (by decide)]
    unfold givI
    rw [if_pos (by omega), if_pos (by omega)]
    rfl
theorem giv_cut {r : Row} (h : RowOk r) {l p : Int} (hp : 0 ≤ p) (hl : r.gap < l - p * r.t) : givI r l = p * r.q + givI r (l - p * r.t) := by
  obtain ⟨g0, g1, q1, qt, t2⟩ := h
  have h1 := Int.mul_nonneg hp (show 0 ≤ r.t by omega)
  unfold givI
  rw [if_neg (by omega), if_neg (by omega)]
  have e : l - r.gap = (l - p * r.t - r.gap) + p * r.t := by omega
  unfold givM
  rw [e, Int.add_mul_ediv_right _ _ (by omega), Int.add_mul_emod_self_right, Int.add_mul]
  omega

theorem whole_k {s : Srv} (h : parOk s = true) : (s.k = 0 ↔ whole s = true) := by
  unfold parOk at h
  constructor
  · intro hk
    cases hw : whole s with
    | true => rfl
    | false =>
      rw [hw, Bool.false_or] at h
      obtain ⟨h1, h2, _⟩ := (Srv.leg_iff _).1 h
      omega
  · intro hw
    unfold whole at hw
    exact (of_decide_eq_true hw).1
theorem giv_whole {s : Srv} (hw : whole s = true) {l : Int} (hl : 0 ≤ l) : givI (rowI s) l = l := by
  rw [whole_row hw]
  unfold givI givM
  dsimp only
  split
  · omega
  · rw [Int.ediv_one, Int.emod_one]
    omega

set_option maxHeartbeats 800000 in
theorem gap10_any (s : Srv) (w : World) (hs : Leg s) (hr : (rowI s).gap = if s.k = 3 then s.t - s.q else s.t - 1) :
    Calls Tryd.prog 69 #[.agg #[.int .i64 s.k, .int .i64 s.q, .int .i64 s.t]] w fun e w' => e = .returned (.int .i64 (rowI s).gap) ∧ Gr w w' := by
  obtain ⟨h1, h2, h3, h4, h5⟩ := hs
  rw [hr]
  replace hr := Lib.hid hr
  have hk0 : (s.k == 0) = false := by simpa using (by omega : ¬ s.k = 0)
  by_cases hk : s.k = 3
  · rw [if_pos hk]
    have hk' : (s.k == 3) = true := by simpa using hk
    clear hk
    go_enter Tryd.func69, Tryd.ntmps69
    go_wp2_with fail
    go_ret
    exact ⟨rfl, (by repeat (first | exact Gr.refl _ | apply Gr.alloc | apply Gr.drew | apply Gr.drewN | (refine Gr.setCell ?_ (by first | (simp; done) | (simp; omega)) _) | (refine Gr.trans ?_ (by assumption))))⟩
  · rw [if_neg hk]
    have hk' : (s.k == 3) = false := by simpa using hk
    clear hk
    go_enter Tryd.func69, Tryd.ntmps69
    go_wp2_with fail
    go_ret
    exact ⟨rfl, (by repeat (first | exact Gr.refl _ | apply Gr.alloc | apply Gr.drew | apply Gr.drewN | (refine Gr.setCell ?_ (by first | (simp; done) | (simp; omega)) _) | (refine Gr.trans ?_ (by assumption))))⟩

theorem leg_gap {s : Srv} (hw : whole s = false) : (rowI s).gap = if s.k = 3 then s.t - s.q else s.t - 1 := by
  unfold rowI
  rw [hw, if_neg (by decide)]
  split <;> rfl

set_option maxRecDepth 100000 in
set_option maxHeartbeats 1600000 in
theorem at10_any (s : Srv) (i : Int) (w : World) (hp : parOk s = true) (hw : whole s = false) (i0 : 0 ≤ i) (i1 : i ≤ 1099511627776) :
    Calls Tryd.prog 41 #[.agg #[.int .i64 s.k, .int .i64 s.q, .int .i64 s.t], .int .i64 i] w fun e w' => e = .returned (.bool (atI (rowI s) i)) ∧ Gr w w' := by
  have hs : Leg s := by
    unfold parOk at hp
    rw [hw, Bool.false_or] at hp
    exact (Srv.leg_iff _).1 hp
  have hgap := fun w => gap10_any s w hs (leg_gap hw)
  obtain ⟨e1, e2, _⟩ := leg_row hw
  obtain ⟨g0, g1, q1, qt, t2⟩ := rowI_ok hp
  obtain ⟨h1, h2, h3, h4, h5⟩ := hs
  have hk0 : (s.k == 0) = false := by simpa using (by omega : ¬ s.k = 0)
  unfold atI
  rw [e1, e2] at *
  generalize (rowI s).gap = gp at *
  replace hgap := Lib.hid hgap
  replace hp := Lib.hid hp
  replace hw := Lib.hid hw
  replace e1 := Lib.hid e1
  replace e2 := Lib.hid e2
  by_cases hg : gp ≤ i
  · rw [decide_eq_true hg, Bool.true_and]
    have n0 := Int.emod_nonneg (i - gp) (show s.t ≠ 0 by omega)
    have n1 := Int.emod_lt_of_pos (i - gp) (show 0 < s.t by omega)
    have ht0 : (s.t == 0) = false := by simpa using (by omega : ¬ s.t = 0)
    have ht1 : 0 < s.t := by omega
    have hd0 : 0 ≤ i - gp := by omega
    have hw1 : IntKind.i64.wrap (i - gp) = i - gp := by rw [IntKind.wrap_i64]; omega
    have hw2 : IntKind.i64.wrap (s.t - s.q) = s.t - s.q := by rw [IntKind.wrap_i64]; omega
    have hq : (i - gp).tmod s.t = (i - gp) % s.t := Int.tmod_eq_emod_of_nonneg hd0
    have hw3 : IntKind.i64.wrap ((i - gp) % s.t) = (i - gp) % s.t := by rw [IntKind.wrap_i64]; omega
    go_enter Tryd.func41, Tryd.ntmps41
    go_wp2_with fail
    refine (hgap.out _).mono ?_
    rintro e wa ⟨rfl, ga⟩
    obtain ⟨ca, fa, sa⟩ := ga.cells
    try simp only [size_drewN] at ca fa sa
    try simp only [World.size_alloc] at ca fa sa
    try simp only [World.size_drew] at ca fa sa
    try simp only [World.size_setCell] at ca fa sa
    have za0 : w.heap.size < wa.heap.size := by omega
    have ya0 : w.heap.size ≤ wa.heap.size := by omega
    have ka0 := fun o => ca (w.heap.size) o (by omega)
    have ja0 := fun o => fa (w.heap.size) o (by omega)
    go_wp2_with fail
    have c0 : wa.cell? ⟨w.heap.size, 0, none⟩ = some (.int .i64 s.k) := by simp (maxDischargeDepth := 8) [go_sem, *]
    have c1 : wa.cell? ⟨w.heap.size, 1, none⟩ = some (.int .i64 s.q) := by simp (maxDischargeDepth := 8) [go_sem, *]
    have c2 : wa.cell? ⟨w.heap.size, 2, none⟩ = some (.int .i64 s.t) := by simp (maxDischargeDepth := 8) [go_sem, *]
    have q0 := GrW.cell c0
    have q1 := GrW.cell c1
    have q2 := GrW.cell c2
    refine wp_region_grows (by kernel_rfl) (by kernel_rfl) ?_
    repeat (any_goals (first | go_big_quiet_step (first | (exact Calls.grows (hgap.out _))) | quiet_step (first | (exact Calls.grows (hgap.out _)))))
    refine wpQuiet_nil ?_
    intro wb hwq
    have gb := GrW.of hwq
    clear hwq
    obtain ⟨cb, fb, sb⟩ := gb.cells
    try simp only [size_drewN] at cb fb sb
    try simp only [World.size_alloc] at cb fb sb
    try simp only [World.size_drew] at cb fb sb
    try simp only [World.size_setCell] at cb fb sb
    go_wp2_with fail
    go_ret
    exact ⟨rfl, (((Gr.refl w).alloc _).trans ga).trans gb⟩
  · rw [decide_eq_false hg, Bool.false_and]
    have hg2 : i < gp := by omega
    go_enter Tryd.func41, Tryd.ntmps41
    go_wp2_with fail
    refine (hgap.out _).mono ?_
    rintro e wa ⟨rfl, ga⟩
    obtain ⟨ca, fa, sa⟩ := ga.cells
    try simp only [size_drewN] at ca fa sa
    try simp only [World.size_alloc] at ca fa sa
    try simp only [World.size_drew] at ca fa sa
    try simp only [World.size_setCell] at ca fa sa
    have za0 : w.heap.size < wa.heap.size := by omega
    have ya0 : w.heap.size ≤ wa.heap.size := by omega
    have ka0 := fun o => ca (w.heap.size) o (by omega)
    have ja0 := fun o => fa (w.heap.size) o (by omega)
    go_wp2_with fail
    go_ret
    exact ⟨rfl, (by repeat (first | exact Gr.refl _ | apply Gr.alloc | apply Gr.drew | apply Gr.drewN | (refine Gr.setCell ?_ (by first | (simp; done) | (simp; omega)) _) | (refine Gr.trans ?_ (by assumption))))⟩


set_option maxRecDepth 100000 in
set_option maxHeartbeats 3200000 in
theorem rbound10_any (s : Srv) (l : Int) (w : World) (hp : parOk s = true) (hl : LenOk l) :
    Calls Tryd.prog 17 #[.agg #[.int .i64 s.k, .int .i64 s.q, .int .i64 s.t], .int .i64 l] w fun e w' => e = .returned (.int .i64 (givI (rowI s) l)) ∧ Gr w w' := by
  have l1 := hl.1
  have l2 := hl.2
  cases hw : whole s with
  | true =>
    have hk : (s.k == 0) = true := by simpa using (whole_k hp).2 hw
    rw [giv_whole hw l1]
    replace hw := Lib.hid hw
    replace hp := Lib.hid hp
    go_enter Tryd.func17, Tryd.ntmps17
    go_wp2_with fail
    go_ret
    exact ⟨rfl, (by repeat (first | exact Gr.refl _ | apply Gr.alloc | apply Gr.drew | apply Gr.drewN | (refine Gr.setCell ?_ (by first | (simp; done) | (simp; omega)) _) | (refine Gr.trans ?_ (by assumption))))⟩
  | false =>
    have hk : (s.k == 0) = false := by
      have : ¬ s.k = 0 := fun e => by have := (whole_k hp).1 e; rw [hw] at this; cases this
      simpa using this
    have hat := fun i w i0 i1 => at10_any s i w hp hw i0 i1
    obtain ⟨e1, e2, _⟩ := leg_row hw
    have hro := rowI_ok hp
    have hr := hro
    obtain ⟨g0, g1, q1, qt, t2⟩ := hr
    have hst := fun i : Int => giv_step (r := rowI s) (i := i) hro
    have hgb := fun i (h0 : 0 ≤ i) => giv_le hro h0
    have hgn := fun i => giv_nonneg hro i
    have hz : givI (rowI s) 0 = 0 := by have := hgb 0 (by omega); have := hgn 0; omega
    have hcu := fun p hp0 hp1 => giv_cut (l := l) (p := p) hro hp0 hp1
    simp only [e1, e2] at hcu g1 q1 qt t2
    obtain ⟨G, hG⟩ : ∃ G, G = givI (rowI s) := ⟨_, rfl⟩
    simp only [← hG] at hcu hst hgb hgn hz ⊢
    generalize (rowI s).gap = gp at *
    replace hG := Lib.hid hG
    replace hcu := Lib.hid hcu
    replace hst := Lib.hid hst
    replace hat := Lib.hid hat
    replace hgb := Lib.hid hgb
    replace hgn := Lib.hid hgn
    replace hz := Lib.hid hz
    replace hp := Lib.hid hp
    replace hw := Lib.hid hw
    replace e1 := Lib.hid e1
    replace e2 := Lib.hid e2
    replace hro := Lib.hid hro
    obtain ⟨n0, m, hm0, hm1, hn0, hn1, hGl, hcase⟩ : ∃ n0 m : Int, 0 ≤ m ∧ m ≤ 1099511627776 ∧ 0 ≤ n0 ∧ n0 + m ≤ 2199023255552 ∧ G l = n0 + G m ∧ ((4 * s.t < l ∧ n0 = (l - 3 * s.t) / s.t * s.q ∧ m = l - (l - 3 * s.t) / s.t * s.t) ∨ (¬ 4 * s.t < l ∧ n0 = 0 ∧ m = l)) := by
      by_cases h4 : 4 * s.t < l
      · have e3 := Int.mul_ediv_add_emod (l - 3 * s.t) s.t
        have e4 := Int.emod_nonneg (l - 3 * s.t) (show s.t ≠ 0 by omega)
        have e5 := Int.emod_lt_of_pos (l - 3 * s.t) (show 0 < s.t by omega)
        have e6 := Int.ediv_nonneg (show 0 ≤ l - 3 * s.t by omega) (show 0 ≤ s.t by omega)
        have e7 := hcu.out _ e6
        generalize (l - 3 * s.t) / s.t = x at *
        have e8 := Int.mul_comm s.t x
        have e9 := Int.mul_le_mul_of_nonneg_left qt e6
        have e10 := Int.mul_nonneg e6 (show 0 ≤ s.q by omega)
        exact ⟨x * s.q, l - x * s.t, by omega, by omega, e10, by omega, e7 (by omega), .inl ⟨h4, rfl, rfl⟩⟩
      · exact ⟨0, l, by omega, by omega, by omega, by omega, by omega, .inr ⟨h4, rfl, rfl⟩⟩
    rw [hGl]
    replace hGl := Lib.hid hGl
    rcases hcase with ⟨h4, hn, hm⟩ | ⟨h4, hn, hm⟩
    · obtain ⟨a1, a2, a3⟩ := quo_mul_le (l := l - 3 * s.t) (q := s.q) (by omega) (by omega) (show 1 ≤ s.t by omega) qt
      obtain ⟨b1, b2, b3⟩ := quo_mul_le (l := l - 3 * s.t) (q := s.t) (by omega) (by omega) (show 1 ≤ s.t by omega) (Int.le_refl _)
      go_enter Tryd.func17, Tryd.ntmps17
      go_wp2_with fail
      go_loopw [7, 5] (fun iv nv wr => ∃ k : Nat, (k : Int) ≤ m ∧ iv = .int .i64 k ∧ nv = .int .i64 (n0 + G k) ∧ Gr (w.alloc (.cells #[.int .i64 s.k, .int .i64 s.q, .int .i64 s.t] 23)) wr) (fun iv _ _ => m.toNat - (intOf iv).toNat)
      case atStart => exact ⟨0, by omega, rfl, by have hz0 := hz.out; rw [hn, show ((0 : Nat) : Int) = 0 from rfl, hz0]; go_num, Gr.refl _⟩
      case round =>
        obtain ⟨k, hk2, rfl, rfl, hg⟩ := hrel
        have gall : Gr w wr := ((Gr.refl w).alloc _).trans hg
        obtain ⟨cg, fg, sg⟩ := hg.cells
        simp only [World.size_alloc] at cg fg sg
        have k1 := fun o => cg w.heap.size o (by omega)
        clear cg fg
        have b4 := hgn.out k
        have b5 := hgb.out k (by omega)
        by_cases hlt : (k : Int) < m
        · have hlt2 : (k : Int) < l - (l - 3 * s.t) / s.t * s.t := by omega
          have hs := hst.out k
          have hca := fun w => hat.out k w (by omega) (by omega)
          obtain ⟨b, hb⟩ : ∃ b, b = atI (rowI s) (k : Int) := ⟨_, rfl⟩
          rw [← hb] at hs hca
          replace hb := Lib.hid hb
          replace hca := Lib.hid hca
          cases b with
          | true =>
            rw [if_pos rfl] at hs
            replace hs := Lib.hid hs
            go_wp2_with fail
            refine (hca.out _).mono ?_
            rintro e w2 ⟨rfl, g2⟩
            go_wp2_with fail
            go_roundw
            case rel => exact ⟨k + 1, by omega, by go_num, by have h9 := hs.out; rw [show ((k + 1 : Nat) : Int) = (k : Int) + 1 by omega]; congr 1; omega, hg.trans g2⟩
            case measure => simp [intOf]; omega
          | false =>
            rw [if_neg (by decide)] at hs
            replace hs := Lib.hid hs
            go_wp2_with fail
            refine (hca.out _).mono ?_
            rintro e w2 ⟨rfl, g2⟩
            go_wp2_with fail
            go_roundw
            case rel => exact ⟨k + 1, by omega, by go_num, by have h9 := hs.out; rw [show ((k + 1 : Nat) : Int) = (k : Int) + 1 by omega]; congr 1; omega, hg.trans g2⟩
            case measure => simp [intOf]; omega
        · have hlt2 : l - (l - 3 * s.t) / s.t * s.t ≤ (k : Int) := by omega
          have hkm : (k : Int) = m := by omega
          rw [hkm]
          rw [hkm] at b4 b5 hlt2
          replace hkm := Lib.hid hkm
          go_wp2_with fail
          go_ret
          exact ⟨rfl, gall⟩
    · go_enter Tryd.func17, Tryd.ntmps17
      go_wp2_with fail
      go_loopw [7, 5] (fun iv nv wr => ∃ k : Nat, (k : Int) ≤ m ∧ iv = .int .i64 k ∧ nv = .int .i64 (n0 + G k) ∧ Gr (w.alloc (.cells #[.int .i64 s.k, .int .i64 s.q, .int .i64 s.t] 23)) wr) (fun iv _ _ => m.toNat - (intOf iv).toNat)
      case atStart => exact ⟨0, by omega, rfl, by have hz0 := hz.out; rw [hn, show ((0 : Nat) : Int) = 0 from rfl, hz0]; go_num, Gr.refl _⟩
      case round =>
        obtain ⟨k, hk2, rfl, rfl, hg⟩ := hrel
        have gall : Gr w wr := ((Gr.refl w).alloc _).trans hg
        obtain ⟨cg, fg, sg⟩ := hg.cells
        simp only [World.size_alloc] at cg fg sg
        have k1 := fun o => cg w.heap.size o (by omega)
        clear cg fg
        have b4 := hgn.out k
        have b5 := hgb.out k (by omega)
        by_cases hlt : (k : Int) < m
        · have hlt2 : (k : Int) < l := by omega
          have hs := hst.out k
          have hca := fun w => hat.out k w (by omega) (by omega)
          obtain ⟨b, hb⟩ : ∃ b, b = atI (rowI s) (k : Int) := ⟨_, rfl⟩
          rw [← hb] at hs hca
          replace hb := Lib.hid hb
          replace hca := Lib.hid hca
          cases b with
          | true =>
            rw [if_pos rfl] at hs
            replace hs := Lib.hid hs
            go_wp2_with fail
            refine (hca.out _).mono ?_
            rintro e w2 ⟨rfl, g2⟩
            go_wp2_with fail
            go_roundw
            case rel => exact ⟨k + 1, by omega, by go_num, by have h9 := hs.out; rw [show ((k + 1 : Nat) : Int) = (k : Int) + 1 by omega]; congr 1; omega, hg.trans g2⟩
            case measure => simp [intOf]; omega
          | false =>
            rw [if_neg (by decide)] at hs
            replace hs := Lib.hid hs
            go_wp2_with fail
            refine (hca.out _).mono ?_
            rintro e w2 ⟨rfl, g2⟩
            go_wp2_with fail
            go_roundw
            case rel => exact ⟨k + 1, by omega, by go_num, by have h9 := hs.out; rw [show ((k + 1 : Nat) : Int) = (k : Int) + 1 by omega]; congr 1; omega, hg.trans g2⟩
            case measure => simp [intOf]; omega
        · have hlt2 : l ≤ (k : Int) := by omega
          have hkm : (k : Int) = m := by omega
          rw [hkm]
          rw [hkm] at b4 b5 hlt2
          replace hkm := Lib.hid hkm
          go_wp2_with fail
          go_ret
          exact ⟨rfl, gall⟩
end Go.Proofs.YtmookdgeblcjnaaDoor
