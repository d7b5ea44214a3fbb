/- AdmitFewer: the plain law. -/
import Derived.Test.YtmookdgeblcjnaaDoorH10
namespace Go.Proofs.YtmookdgeblcjnaaDoor
open Go.RowKit

theorem sumI_append {α : Type} (f : α → Int) (a b : List α) : sumI f (a ++ b) = sumI f a + sumI f b := by
  induction a with
  | nil => simp [sumI]
  | cons x r ih => rw [List.cons_append, sumI_cons, sumI_cons, ih]; omega
theorem sumI_fewer {α : Type} (f : α → Int) (a b : List α) (x : α) : sumI f (a ++ x :: b) = sumI f (a ++ b) + f x := by rw [sumI_append, sumI_append, sumI_cons]; omega
theorem shareS_perm {l m : List Srv} (h : l.Perm m) : shareS l = shareS m := by
  have key : ∀ (l m : List Srv), l.Perm m → ∀ p, l.foldl (fun p s => plusP p s.q s.t) p = m.foldl (fun p s => plusP p s.q s.t) p := by
    intro l m h
    induction h with
    | nil => intro p; rfl
    | cons x _ ih => intro p; exact ih _
    | swap x y l =>
      intro p
      rw [List.foldl_cons, List.foldl_cons, List.foldl_cons, List.foldl_cons]
      congr 1
      simp only [plusP]
      refine Prod.ext ?_ ?_
      · simp only [Int.add_mul, Int.mul_assoc]
        rw [Int.mul_comm y.t x.t, Int.mul_comm y.q x.t, Int.mul_comm y.t x.q]
        omega
      · simp only [Int.mul_assoc]; rw [Int.mul_comm y.t]
    | trans _ _ ih1 ih2 => intro p; rw [ih1, ih2]
  exact key l m h _
theorem share_fewer (a b : List Srv) (x : Srv) : shareS (a ++ x :: b) = plusP (shareS (a ++ b)) x.q x.t := by
  rw [← shareS_snoc]
  refine shareS_perm ?_
  have h1 : (a ++ x :: b).Perm (x :: (a ++ b)) := List.perm_middle
  have h2 : (x :: (a ++ b)).Perm ((a ++ b) ++ [x]) := (List.perm_append_singleton x (a ++ b)).symm
  exact h1.trans h2

theorem cmpI_neg_iff {x y : Int} : cmpI x y < 0 ↔ x < y := by
  constructor
  · intro h
    unfold cmpI at h
    by_cases h1 : x < y
    · exact h1
    · rw [if_neg h1] at h
      split at h <;> omega
  · exact cmpI_neg
theorem cmpI_le_iff {x y : Int} : cmpI x y ≤ 0 ↔ x ≤ y := by
  constructor
  · intro h
    unfold cmpI at h
    by_cases h1 : x < y
    · omega
    · rw [if_neg h1] at h
      split at h <;> omega
  · exact cmpI_le

theorem lt_fewer {n d q t A B : Int} (hd : 0 ≤ d) (hq : 0 ≤ q) (ht : 1 ≤ t) (hA : 0 ≤ A) (h : (n * t + d * q) * A < (d * t) * B) : n * A < d * B := by
  have h1 : 0 ≤ d * q * A := Int.mul_nonneg (Int.mul_nonneg hd hq) hA
  have e1 : (n * t + d * q) * A = t * (n * A) + d * q * A := by rw [Int.add_mul, Int.mul_comm n t, Int.mul_assoc]
  have e2 : d * t * B = t * (d * B) := by rw [Int.mul_comm d t, Int.mul_assoc]
  rw [e1, e2] at h
  exact Int.lt_of_mul_lt_mul_left (a := t) (by omega) (by omega)
theorem le_fewer {n d q t A B m m' : Int} (hd : 0 ≤ d) (hq : 0 ≤ q) (ht : 1 ≤ t) (hA : 0 ≤ A) (hm : m' ≤ m) (h : ((n * t + d * q) * 4096 + (d * t) * m) * A ≤ (d * t) * B) : (n * 4096 + d * m') * A ≤ d * B := by
  have h0 : 0 ≤ d * t := Int.mul_nonneg hd (by omega)
  have h1 : 0 ≤ d * q := Int.mul_nonneg hd hq
  have h2 : d * t * m' ≤ d * t * m := Int.mul_le_mul_of_nonneg_left hm h0
  have h3 : (n * t * 4096 + d * t * m') * A ≤ ((n * t + d * q) * 4096 + d * t * m) * A := Int.mul_le_mul_of_nonneg_right (by rw [Int.add_mul]; omega) hA
  have e1 : (n * t * 4096 + d * t * m') * A = t * ((n * 4096 + d * m') * A) := by
    rw [← Int.mul_assoc, Int.mul_add, Int.mul_comm n t, Int.mul_comm d t, Int.mul_assoc t n, Int.mul_assoc t d]
  have e2 : d * t * B = t * (d * B) := by rw [Int.mul_comm d t, Int.mul_assoc]
  rw [e1] at h3
  rw [e2] at h
  exact Int.le_of_mul_le_mul_left (a := t) (by omega) (by omega)

/-- What fits at the steps fits at every length. -/
theorem below_all {s : Srv} {l : List Srv} (hp : parOk s = true) (hal : allLeg l = true) (hb : belowB s (stepsL l 4096) (demI l) = true) : ∀ n : Nat, n ≤ 4096 → demI l n ≤ givI (rowI s) n := by
  intro n
  induction n with
  | zero =>
    intro _
    have := demI_zero l hal
    have := giv_nonneg (rowI_ok hp) ((0 : Nat) : Int)
    simp only [Int.natCast_zero] at *
    omega
  | succ n ih =>
    intro _
    have h1 := ih (by omega)
    by_cases hg : demI l n < demI l ((n : Int) + 1)
    · have hm := get_mem (stepsL_at (n := 4096) (by omega) hg)
      unfold belowB at hb
      have := of_decide_eq_true (List.all_eq_true.1 hb _ hm)
      exact_mod_cast this
    · have h2 := giv_mono (rowI_ok hp) (show (n : Int) ≤ (n : Int) + 1 by omega)
      have h3 : demI l ((n : Int) + 1) ≤ givI (rowI s) ((n : Int) + 1) := by omega
      exact_mod_cast h3
theorem kids_parts {s : Srv} {l : List Srv} (h : kidsErr s l = none) : parOk s = true ∧ srvErr l = none ∧ lineB s (shareS l) (2 * sumQ l) = true ∧ belowB s (stepsL l 4096) (demI l) = true := by
  unfold kidsErr at h
  cases hp : parOk s with
  | false => rw [if_pos hp] at h; cases h
  | true =>
    rw [if_neg (by rw [hp]; decide)] at h
    cases hs : srvErr l with
    | some g => rw [hs] at h; cases h
    | none =>
      rw [hs] at h
      dsimp only at h
      cases hk : kidsB s l with
      | false => rw [hk, if_neg (by decide)] at h; cases h
      | true =>
        unfold kidsB at hk
        rw [Bool.and_eq_true] at hk
        exact ⟨rfl, rfl, hk.1, hk.2⟩
theorem srv_fewer {a b : List Srv} {x : Srv} (h : srvErr (a ++ x :: b) = none) : srvErr (a ++ b) = none ∧ x.leg = true ∧ allLeg (a ++ b) = true ∧ allLeg (a ++ x :: b) = true := by
  obtain ⟨h1, h2⟩ := srvErr_none h
  have h3 : allLeg (a ++ b) = true ∧ x.leg = true := by
    unfold allLeg at h1 ⊢
    rw [List.all_append, List.all_cons] at h1
    rw [List.all_append]
    simp only [Bool.and_eq_true] at h1 ⊢
    exact ⟨⟨h1.1, h1.2.2⟩, h1.2.1⟩
  refine ⟨?_, h3.2, h3.1, h1⟩
  have h4 : (a ++ b).length ≤ 8 := by rw [List.length_append] at h2 ⊢; rw [List.length_cons] at h2; omega
  unfold srvErr
  rw [if_neg (by rw [h3.1]; decide), if_neg (by omega)]
/-- Of servers that fit all but one fit too. -/
theorem kids_fewer {s : Srv} {a b : List Srv} {x : Srv} (h : kidsErr s (a ++ x :: b) = none) : kidsErr s (a ++ b) = none := by
  obtain ⟨hp, hs, hl, hb⟩ := kids_parts h
  obtain ⟨hs', hx, hal', hal⟩ := srv_fewer hs
  obtain ⟨x1, x2, x3, x4, x5⟩ := (Srv.leg_iff x).1 hx
  have hsh := srvErr_shr hs'
  obtain ⟨p1, p2, p3, p4⟩ := hsh
  have hr := rowI_ok hp
  have t1 : 0 ≤ (rowI s).t := by have := hr.q1; have := hr.qt; omega
  refine kids_of hp hs' ?_ ?_
  · unfold lineB at hl ⊢
    rw [share_fewer, show sumQ (a ++ x :: b) = sumQ (a ++ b) + x.q from sumI_fewer _ a b x] at hl
    rw [Bool.and_eq_true, decide_eq_true_iff, decide_eq_true_iff] at hl ⊢
    obtain ⟨l1, l2⟩ := hl
    refine ⟨?_, ?_⟩
    · cases hw : whole s with
      | true =>
        rw [wiC_whole _ hp hw] at l1 ⊢
        rw [cmpI_neg_iff] at l1 ⊢
        have := lt_fewer (A := 1) (B := 1) (n := (shareS (a ++ b)).1) (d := (shareS (a ++ b)).2) (q := x.q) (t := x.t) (by omega) (by omega) (by omega) (by decide) (by simpa [plusP] using l1)
        simpa using this
      | false =>
        rw [wiC_leg _ hp hw] at l1 ⊢
        rw [cmpI_neg_iff] at l1 ⊢
        obtain ⟨_, _, y3, y4, _⟩ := par_leg hp hw
        exact lt_fewer (q := x.q) (t := x.t) (by omega) (by omega) (by omega) (by omega) l1
    · rw [cmpI_le_iff] at l2 ⊢
      exact le_fewer (q := x.q) (t := x.t) (by omega) (by omega) (by omega) t1 (by omega) l2
  · unfold belowB
    rw [List.all_eq_true]
    intro y hy
    have hy1 := stepsL_ok _ _ y hy
    refine decide_eq_true ?_
    have h1 := below_all hp hal hb y.toNat (by omega)
    rw [show ((y.toNat : Nat) : Int) = y by omega] at h1
    have h2 : demI (a ++ x :: b) y = demI (a ++ b) y + askedI x y := sumI_fewer _ a b x
    have h3 := asked_bd (s := x) (l := y) ⟨x1, x2, x3, x4, x5⟩ ⟨by omega, by omega⟩
    omega

theorem leastI_ne {p : Int → Bool} {n k : Nat} (hk : k < n) (h : p ((k : Int) + 1) = true) : leastI p n ≠ 0 := by
  unfold leastI
  cases hf : (List.range n).find? (fun k : Nat => p ((k : Int) + 1)) with
  | none =>
    rw [List.find?_eq_none] at hf
    exact absurd h (hf k (List.mem_range.2 hk))
  | some j => dsimp only; omega
theorem unt_take {l : List Tsk} {n : Nat} (i x : Int) : ∀ k, k ≤ n → untP (l.take n) i x k = untP l i x k := by
  intro k
  induction k with
  | zero => intro _; rfl
  | succ k ih =>
    intro hk
    have h1 := ih (by omega)
    have h2 : (l.take n)[k]? = l[k]? := by rw [List.getElem?_take, if_pos (by omega)]
    cases ht : l[k]? with
    | none => rw [untP, untP, h2, ht]; exact h1
    | some t =>
      by_cases hki : (k : Int) ≤ i
      · rw [untP_le (h2.trans ht) hki, untP_le ht hki, h1]
      · rw [untP_gt (h2.trans ht) hki, untP_gt ht hki, h1]
theorem unt_more {l : List Tsk} {i : Nat} {x : Int} (k d : Nat) (hk : i + 1 ≤ k) : (untP l i x k).1 + (untP l i x k).2 ≤ (untP l i x (k + d)).1 + (untP l i x (k + d)).2 := by
  induction d with
  | zero => exact Int.le_refl _
  | succ d ih =>
    rw [← Nat.add_assoc]
    cases ht : l[k + d]? with
    | none => rw [untP, ht]; exact ih
    | some t => rw [untP_gt ht (by omega)]; dsimp only; omega
theorem resp_first {s : Srv} {l : List Tsk} {i n : Nat} (hi : i < n) (hn : n ≤ l.length) (d : Nat) (h : respI s l i d ≠ 0) : respI s (l.take n) i d ≠ 0 := by
  obtain ⟨k, hk, he, hp, hb⟩ := leastI_spec h
  refine leastI_ne hk (decide_eq_true ?_)
  have h1 := of_decide_eq_true hp
  have h2 : untI (l.take n) i ((k : Int) + 1) ≤ untI l i ((k : Int) + 1) := by
    unfold untI
    rw [List.length_take, Nat.min_eq_left hn, unt_take (i : Int) _ n (Nat.le_refl _)]
    have := unt_more (l := l) (i := i) (x := (k : Int) + 1) n (l.length - n) (by omega)
    rwa [show n + (l.length - n) = l.length by omega] at this
  omega
/-- Of a guest that fits the first tasks do. -/
theorem guest_first {s : Srv} {l : List Tsk} {n : Nat} (h1 : 1 ≤ n) (hn : n ≤ l.length) (hg : guestOk 2 l = true) (hf : fitsO s l = true) : guestOk 2 (l.take n) = true ∧ fitsO s (l.take n) = true := by
  obtain ⟨g1, g2, g3⟩ := (guestOk_iff 2 l).1 hg
  obtain ⟨g4, g5⟩ := tasksOk_parts g3
  have hlen : (l.take n).length = n := by rw [List.length_take]; omega
  refine ⟨(guestOk_iff 2 _).2 ⟨g1, by omega, ?_⟩, ?_⟩
  · unfold tasksOk
    rw [hlen, decide_eq_true (show n ≤ 8 by omega), Bool.and_true]
    unfold allLegT
    rw [List.all_eq_true]
    intro x hx
    exact (Tsk.leg_iff x).2 (g4 x (List.mem_of_mem_take hx))
  · unfold fitsO at hf ⊢
    rw [List.all_eq_true] at hf ⊢
    intro i hi
    have hi2 : i < n := by have := List.mem_range.1 hi; omega
    have h3 := of_decide_eq_true (hf i (List.mem_range.2 (by omega)))
    obtain ⟨t, ht⟩ := get_some l i (by omega)
    have ht2 : (l.take n)[i]? = some t := by rw [List.getElem?_take, if_pos hi2]; exact ht
    refine decide_eq_true ?_
    rw [respAt_eq ht] at h3
    rw [respAt_eq ht2]
    exact resp_first hi2 hn _ h3
end Go.Proofs.YtmookdgeblcjnaaDoor
