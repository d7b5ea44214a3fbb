/- AdmitBeyond: servers that fit fit at every length. AdmitBeyond: a guest that fits under PolicyDeadline fits at every length. -/
import Derived.Test.YtglfdnfojpdkjaaGreatDoorJ16
import Derived.Test.YtglfdnfojpdkjaaGreatDoorJ11
import Derived.Test.YtglfdnfojpdkjaaGreatDoorJ8
import Derived.Test.YtglfdnfojpdkjaaGreatDoorJ14
import Derived.Test.YtglfdnfojpdkjaaGreatDoorJ15
namespace Go.Proofs.YtglfdnfojpdkjaaGreatDoor
open Go.RowKit

theorem asked_line {x : Srv} (hx : Leg x) (n : Int) : askedI x n * x.t ≤ x.q * n + x.q * x.t := by
  have h := asked_share hx (l := n)
  obtain ⟨_, _, h3, h4, h5⟩ := hx
  have h6 : 0 ≤ x.q * x.t := Int.mul_nonneg (by omega) (by omega)
  split at h
  · rw [Int.sub_mul] at h; omega
  · rw [Int.sub_zero] at h; omega
theorem dem_line (n : Int) : ∀ (l : List Srv), allLeg l = true → (shareS l).2 * demI l n ≤ (shareS l).1 * n + (shareS l).2 * sumQ l := by
  have key : ∀ (k : Nat) (l : List Srv), l.length = k → allLeg l = true → (shareS l).2 * demI l n ≤ (shareS l).1 * n + (shareS l).2 * sumQ l ∧ 0 ≤ (shareS l).2 := by
    intro k
    induction k with
    | zero =>
      intro l hl _
      obtain rfl := List.length_eq_zero_iff.1 hl
      simp [shareS, demI, sumQ, sumI]
    | succ k ih =>
      intro l hl hal
      obtain ⟨m, x, rfl⟩ : ∃ m x, l = m ++ [x] := by
        have hne : l ≠ [] := fun e => by rw [e] at hl; cases hl
        exact ⟨l.dropLast, l.getLast hne, (List.dropLast_concat_getLast hne).symm⟩
      rw [allLeg_snoc, Bool.and_eq_true] at hal
      obtain ⟨h1, h2⟩ := ih m (by simpa using hl) hal.1
      have hx := (Srv.leg_iff x).1 hal.2
      have h3 := asked_line hx n
      obtain ⟨_, _, x3, x4, x5⟩ := hx
      have e1 : demI (m ++ [x]) n = demI m n + askedI x n := sumI_snoc _ m x
      have e2 : sumQ (m ++ [x]) = sumQ m + x.q := sumI_snoc _ m x
      rw [shareS_snoc, e1, e2]
      simp only [plusP]
      have a1 := Int.mul_le_mul_of_nonneg_left h1 (show 0 ≤ x.t by omega)
      have a2 := Int.mul_le_mul_of_nonneg_left h3 h2
      refine ⟨?_, Int.mul_nonneg h2 (by omega)⟩
      have b1 : (shareS m).2 * x.t * (demI m n + askedI x n) = x.t * ((shareS m).2 * demI m n) + (shareS m).2 * (askedI x n * x.t) := by
        rw [Int.mul_add, Int.mul_assoc, Int.mul_assoc, Int.mul_comm x.t (askedI x n), Int.mul_left_comm]
      have b2 : ((shareS m).1 * x.t + (shareS m).2 * x.q) * n + (shareS m).2 * x.t * (sumQ m + x.q) = x.t * ((shareS m).1 * n + (shareS m).2 * sumQ m) + (shareS m).2 * (x.q * n + x.q * x.t) := by
        simp only [Int.add_mul, Int.mul_add, Int.mul_assoc, Int.mul_comm, Int.mul_left_comm]
        omega
      rw [b1, b2]
      omega
  intro l hal
  exact (key l.length l rfl hal).1

/-- The servers that fit ask at no length for more than the parent gives. -/
theorem kids_beyond {s : Srv} {l : List Srv} (h : kidsErr s l = none) (n : Nat) : demI l n ≤ givI (rowI s) n := by
  obtain ⟨hp, hs, hl, hb⟩ := kids_parts h
  obtain ⟨hal, h8⟩ := srvErr_none hs
  by_cases hn : n ≤ 4096
  · exact below_all hp hal hb n hn
  · have hr := rowI_ok hp
    have hd := dem_line (n : Int) l hal
    have hg := giv_slope hr (n : Int)
    have hsh := srvErr_shr hs
    have hsq := sumQ_bd hal h8 l.length
    rw [List.take_length] at hsq
    obtain ⟨p1, p2, p3, p4⟩ := hsh
    obtain ⟨g0, g1, q1, qt, t2⟩ := hr
    unfold lineB silI at hl
    rw [Bool.and_eq_true, decide_eq_true_iff, decide_eq_true_iff, cmpI_le_iff] at hl
    obtain ⟨l1, l2⟩ := hl
    have l1' : (shareS l).1 * (rowI s).t ≤ (shareS l).2 * (rowI s).q := by
      cases hw : whole s with
      | true =>
        rw [wiC_whole _ hp hw, cmpI_neg_iff] at l1
        rw [whole_row hw]
        dsimp only
        omega
      | false =>
        rw [wiC_leg _ hp hw, cmpI_neg_iff] at l1
        obtain ⟨e1, e2, _⟩ := leg_row hw
        rw [e1, e2]
        omega
    generalize hN : (shareS l).1 = N at *
    generalize hD : (shareS l).2 = D at *
    generalize hQ : (rowI s).q = Q at *
    generalize hT : (rowI s).t = T at *
    generalize hG : givI (rowI s) n = gv at *
    generalize hM : demI l n = dm at *
    generalize hS : sumQ l = sq at *
    generalize hgap : (rowI s).gap = gp at *
    have a0 : D * sq ≤ D * (2 * sq) := Int.mul_le_mul_of_nonneg_left (by omega) (by omega)
    have a1 : T * (D * dm) ≤ T * (N * n + D * (2 * sq)) := Int.mul_le_mul_of_nonneg_left (by omega) (by omega)
    have a2 : (N * T) * ((n : Int) - 4096) ≤ (D * Q) * ((n : Int) - 4096) := Int.mul_le_mul_of_nonneg_right l1' (by omega)
    have a3 : D * (Q * ((n : Int) - (gp + T - Q))) ≤ D * (T * gv) := Int.mul_le_mul_of_nonneg_left hg (by omega)
    have b1 : T * (N * n + D * (2 * sq)) = (N * 4096 + D * (2 * sq)) * T + N * T * ((n : Int) - 4096) := by
      rw [Int.mul_comm T, Int.add_mul, Int.add_mul, Int.mul_sub, Int.mul_assoc N n T, Int.mul_comm (n : Int) T, ← Int.mul_assoc N T n, Int.mul_assoc N 4096 T, Int.mul_comm 4096 T, ← Int.mul_assoc N T 4096]
      omega
    have b2 : D * (Q * (4096 - (gp + T - Q))) + D * Q * ((n : Int) - 4096) = D * (Q * ((n : Int) - (gp + T - Q))) := by
      have e : (4096 - (gp + T - Q)) + ((n : Int) - 4096) = (n : Int) - (gp + T - Q) := by omega
      rw [← Int.mul_assoc, ← Int.mul_assoc, ← Int.mul_add, e]
    have c1 : T * (D * dm) ≤ D * (T * gv) := by omega
    have b3 : D * (T * gv) = T * (D * gv) := Int.mul_left_comm D T gv
    rw [b3] at c1
    have c2 := Int.le_of_mul_le_mul_left c1 (by omega)
    exact Int.le_of_mul_le_mul_left c2 (by omega)


theorem shr_shareT {l : List Tsk} (h : tasksOk l = true) : Shr (shareT l) := by
  obtain ⟨h1, h8⟩ := tasksOk_parts h
  have hal : allLegT l = true := by
    unfold allLegT
    rw [List.all_eq_true]
    intro x hx
    exact (Tsk.leg_iff x).2 (h1 x hx)
  have hb := shareT_bd l hal l.length (Nat.le_refl _)
  rw [List.take_length] at hb
  obtain ⟨b1, b2, b3, b4⟩ := hb
  have hp := P256_le h8
  have h0 := P256_pos l.length
  have : (l.length : Int) * P256 l.length ≤ 8 * 18446744073709551616 := Int.mul_le_mul (by omega) hp (by omega) (by omega)
  exact ⟨b1, by omega, b3, by omega⟩
/-- What may be asked beside the share: all Cs, and the greatest S. -/
def sumC (l : List Tsk) : Int := sumI (fun t => t.c) l
def maxS (l : List Tsk) : Int := l.foldl (fun b t => max b t.s) 0
theorem maxS_snoc (l : List Tsk) (t : Tsk) : maxS (l ++ [t]) = max (maxS l) t.s := by unfold maxS; rw [List.foldl_append]; rfl
theorem sumC_bd {l : List Tsk} (h : tasksOk l = true) (k : Nat) : 0 ≤ sumC (l.take k) ∧ sumC (l.take k) ≤ 2048 := by
  obtain ⟨h1, h8⟩ := tasksOk_parts h
  have := sumI_bd (fun t : Tsk => t.c) (l.take k) 256 (fun x hx => by
    obtain ⟨a1, a2, a3, a4, a5, a6⟩ := h1 x (List.mem_of_mem_take hx)
    omega)
  have h2 : (l.take k).length ≤ 8 := by rw [List.length_take]; omega
  unfold sumC
  omega
theorem maxS_bd {l : List Tsk} (h : tasksOk l = true) (k : Nat) : 0 ≤ maxS (l.take k) ∧ maxS (l.take k) ≤ 256 := by
  induction k with
  | zero => rw [List.take_zero]; exact ⟨Int.le_refl _, by simp [maxS]⟩
  | succ k ih =>
    cases ht : l[k]? with
    | none => rw [List.take_add_one, ht]; simpa using ih
    | some t =>
      obtain ⟨h1, h2, h3, h4, h5, h6⟩ := legT_mem h ht
      rw [take_snoc ht, maxS_snoc]
      omega
/-- A deadline falls at n. -/
def deadB (l : List Tsk) (n : Int) : Bool := l.any fun t => decide (t.d ≤ n ∧ (n - t.d) % t.p = 0)
theorem div_stay {m p : Int} (hp : 1 ≤ p) (h : (m + 1) % p ≠ 0) : (m + 1) / p = m / p := by
  have e1 := Int.mul_ediv_add_emod m p
  have e2 := Int.emod_nonneg m (show p ≠ 0 by omega)
  have e3 := Int.emod_lt_of_pos m (show 0 < p by omega)
  have f1 := Int.mul_ediv_add_emod (m + 1) p
  have f2 := Int.emod_nonneg (m + 1) (show p ≠ 0 by omega)
  have f3 := Int.emod_lt_of_pos (m + 1) (show 0 < p by omega)
  generalize (m + 1) / p = x at *
  generalize m / p = y at *
  have h1 : p * x < p * (y + 1) := by rw [Int.mul_add, Int.mul_one]; omega
  have h2 : p * y < p * (x + 1) := by rw [Int.mul_add, Int.mul_one]; omega
  have h3 := Int.lt_of_mul_lt_mul_left h1 (by omega)
  have h4 := Int.lt_of_mul_lt_mul_left h2 (by omega)
  omega
theorem task_stay {t : Tsk} (ht : LegT t) {n : Int} (h : ¬ (t.d ≤ n + 1 ∧ (n + 1 - t.d) % t.p = 0)) : taskI t (n + 1) = taskI t n := by
  obtain ⟨h1, h2, h3, h4, h5, h6⟩ := ht
  unfold taskI
  by_cases hn : n + 1 < t.d
  · rw [if_pos hn, if_pos (by omega)]
  · rw [if_neg hn]
    have hm : ¬ (n + 1 - t.d) % t.p = 0 := fun e => h ⟨by omega, e⟩
    have hne : n + 1 ≠ t.d := fun e => hm (by rw [e]; simp)
    rw [if_neg (by omega)]
    have e : n + 1 - t.d = (n - t.d) + 1 := by omega
    rw [e] at hm ⊢
    rw [div_stay (by omega) hm]
theorem tsum_stay {n : Int} : ∀ (l : List Tsk), (∀ t ∈ l, LegT t) → deadB l (n + 1) = false → tsumI l (n + 1) = tsumI l n := by
  intro l
  induction l with
  | nil => intro _ _; rfl
  | cons t l ih =>
    intro hl hd
    unfold deadB at hd
    rw [List.any_cons, Bool.or_eq_false_iff] at hd
    obtain ⟨d1, d2⟩ := hd
    have h1 := ih (fun x hx => hl x (List.mem_cons_of_mem _ hx)) d2
    have h2 := task_stay (hl t (List.mem_cons_self ..)) (of_decide_eq_false d1)
    have key : ∀ m, tsumI (t :: l) m = taskI t m + tsumI l m := fun m => by unfold tsumI; rw [sumI_cons]
    rw [key, key, h1, h2]
theorem blk_falls {n : Int} : ∀ (k : Nat) (l : List Tsk), l.length = k → blkI l (n + 1) ≤ blkI l n := by
  intro k
  induction k with
  | zero => intro l hl; obtain rfl := List.length_eq_zero_iff.1 hl; exact Int.le_refl _
  | succ k ih =>
    intro l hl
    obtain ⟨m, x, rfl⟩ : ∃ m x, l = m ++ [x] := by
      have hne : l ≠ [] := fun e => by rw [e] at hl; cases hl
      exact ⟨l.dropLast, l.getLast hne, (List.dropLast_concat_getLast hne).symm⟩
    have h1 := ih m (by simpa using hl)
    rw [blkI_snoc, blkI_snoc]
    split <;> split <;> omega
theorem blk_bd (l : List Tsk) (h : tasksOk l = true) (n : Int) : 0 ≤ blkI l n := by
  have := (blkI_bd h (n := n) l.length).1
  rwa [List.take_length] at this
theorem tsum_nonneg (l : List Tsk) (h : tasksOk l = true) (n : Nat) (hn : n ≤ 4096) : 0 ≤ tsumI l n := by
  have := (tsumI_bd h (n := (n : Int)) ⟨by omega, by omega⟩ l.length).1
  rwa [List.take_length] at this
theorem tasks_near {s : Srv} {l : List Tsk} (hp : parOk s = true) (hok : tasksOk l = true) (hb : ∀ x : Int, 1 ≤ x → x ≤ 4096 → deadB l x = true → tasksI l x ≤ givI (rowI s) x) : ∀ n : Nat, n ≤ 4096 → tasksI l n ≤ givI (rowI s) n := by
  have hl := (tasksOk_parts hok).1
  intro n
  induction n with
  | zero =>
    intro _
    have h0 : tsumI l ((0 : Nat) : Int) = 0 := by
      have : ∀ m : List Tsk, (∀ t ∈ m, LegT t) → tsumI m ((0 : Nat) : Int) = 0 := by
        intro m
        induction m with
        | nil => intro _; rfl
        | cons t m ih =>
          intro hm
          have h1 := ih (fun x hx => hm x (List.mem_cons_of_mem _ hx))
          obtain ⟨a1, a2, a3, a4, a5, a6⟩ := hm t (List.mem_cons_self ..)
          have h2 : taskI t ((0 : Nat) : Int) = 0 := by unfold taskI; rw [if_pos (by omega)]
          unfold tsumI at h1 ⊢
          rw [sumI_cons, h1, h2]
          rfl
      exact this l hl
    unfold tasksI
    rw [h0, if_pos rfl]
    exact giv_nonneg (rowI_ok hp) _
  | succ n ih =>
    intro hn
    have h1 := ih (by omega)
    have e : ((n + 1 : Nat) : Int) = (n : Int) + 1 := by omega
    rw [e]
    cases hd : deadB l ((n : Int) + 1) with
    | true => exact hb _ (by omega) (by omega) hd
    | false =>
      have h2 := tsum_stay l hl hd
      have h3 := blk_falls (n := (n : Int)) l.length l rfl
      have h4 := giv_mono (rowI_ok hp) (show (n : Int) ≤ (n : Int) + 1 by omega)
      unfold tasksI at h1 ⊢
      rw [h2]
      split
      · rename_i h0
        rw [if_pos h0] at h1
        omega
      · rename_i h0
        rw [if_neg h0] at h1
        omega
theorem task_line {t : Tsk} (ht : LegT t) {n : Int} (hn : 0 ≤ n) : taskI t n * t.p ≤ t.c * n + t.c * t.p := by
  obtain ⟨h1, h2, h3, h4, h5, h6⟩ := ht
  have a1 := Int.mul_nonneg (show 0 ≤ t.c by omega) hn
  have a2 := Int.mul_nonneg (show 0 ≤ t.c by omega) (show 0 ≤ t.p by omega)
  unfold taskI
  split
  · omega
  · rename_i hlt
    have e1 := Int.mul_ediv_add_emod (n - t.d) t.p
    have e2 := Int.emod_nonneg (n - t.d) (show t.p ≠ 0 by omega)
    generalize (n - t.d) / t.p = x at *
    have h7 : (x + 1) * t.c * t.p = t.c * (t.p * x + t.p) := by
      rw [Int.mul_right_comm, Int.mul_comm _ t.c, Int.add_mul, Int.one_mul, Int.mul_comm x]
    rw [h7, ← Int.mul_add]
    exact Int.mul_le_mul_of_nonneg_left (by omega) (by omega)
theorem tsum_line (n : Int) (hn : 0 ≤ n) : ∀ (l : List Tsk), (∀ t ∈ l, LegT t) → (shareT l).2 * tsumI l n ≤ (shareT l).1 * n + (shareT l).2 * sumC l := by
  have key : ∀ (k : Nat) (l : List Tsk), l.length = k → (∀ t ∈ l, LegT t) → (shareT l).2 * tsumI l n ≤ (shareT l).1 * n + (shareT l).2 * sumC l ∧ 0 ≤ (shareT l).2 := by
    intro k
    induction k with
    | zero =>
      intro l hl _
      obtain rfl := List.length_eq_zero_iff.1 hl
      simp [shareT, tsumI, sumC, sumI]
    | succ k ih =>
      intro l hl hal
      obtain ⟨m, x, rfl⟩ : ∃ m x, l = m ++ [x] := by
        have hne : l ≠ [] := fun e => by rw [e] at hl; cases hl
        exact ⟨l.dropLast, l.getLast hne, (List.dropLast_concat_getLast hne).symm⟩
      obtain ⟨h1, h2⟩ := ih m (by simpa using hl) (fun t ht => hal t (List.mem_append_left _ ht))
      have hx := hal x (by simp)
      have h3 := task_line hx hn
      obtain ⟨x1, x2, x3, x4, x5, x6⟩ := hx
      have e1 : tsumI (m ++ [x]) n = tsumI m n + taskI x n := sumI_snoc _ m x
      have e2 : sumC (m ++ [x]) = sumC m + x.c := sumI_snoc _ m x
      rw [shareT_snoc, e1, e2]
      simp only [plusP]
      have a1 := Int.mul_le_mul_of_nonneg_left h1 (show 0 ≤ x.p by omega)
      have a2 := Int.mul_le_mul_of_nonneg_left h3 h2
      refine ⟨?_, Int.mul_nonneg h2 (by omega)⟩
      have b1 : (shareT m).2 * x.p * (tsumI m n + taskI x n) = x.p * ((shareT m).2 * tsumI m n) + (shareT m).2 * (taskI x n * x.p) := by
        rw [Int.mul_add, Int.mul_assoc, Int.mul_assoc, Int.mul_comm x.p (taskI x n), Int.mul_left_comm]
      have b2 : ((shareT m).1 * x.p + (shareT m).2 * x.c) * n + (shareT m).2 * x.p * (sumC m + x.c) = x.p * ((shareT m).1 * n + (shareT m).2 * sumC m) + (shareT m).2 * (x.c * n + x.c * x.p) := by
        simp only [Int.add_mul, Int.mul_add, Int.mul_assoc, Int.mul_comm, Int.mul_left_comm]
        omega
      rw [b1, b2]
      omega
  intro l hal
  exact (key l.length l rfl hal).1
theorem blk_maxS {l : List Tsk} {n : Int} : blkI l n ≤ maxS l := by
  have key : ∀ (k : Nat) (l : List Tsk), l.length = k → blkI l n ≤ maxS l := by
    intro k
    induction k with
    | zero => intro l hl; obtain rfl := List.length_eq_zero_iff.1 hl; exact Int.le_refl _
    | succ k ih =>
      intro l hl
      obtain ⟨m, x, rfl⟩ : ∃ m x, l = m ++ [x] := by
        have hne : l ≠ [] := fun e => by rw [e] at hl; cases hl
        exact ⟨l.dropLast, l.getLast hne, (List.dropLast_concat_getLast hne).symm⟩
      have h1 := ih m (by simpa using hl)
      rw [blkI_snoc, maxS_snoc]
      split <;> omega
  exact key l.length l rfl
/-- Beyond MaxLook by the lines. -/
theorem line_beyond {s : Srv} {p : Int × Int} {more dm : Int} (hp : parOk s = true) (hsh : Shr p) (hl : lineB s p more = true) {n : Nat} (hn : 4096 ≤ n) (hd : p.2 * dm ≤ p.1 * n + p.2 * more) : dm ≤ givI (rowI s) n := by
  have hr := rowI_ok hp
  have hg := giv_slope hr (n : Int)
  obtain ⟨p1, p2, p3, p4⟩ := hsh
  obtain ⟨g0, g1, q1, qt, t2⟩ := hr
  unfold lineB silI at hl
  rw [Bool.and_eq_true, decide_eq_true_iff, decide_eq_true_iff, cmpI_le_iff] at hl
  obtain ⟨l1, l2⟩ := hl
  have l1' : p.1 * (rowI s).t ≤ p.2 * (rowI s).q := by
    cases hw : whole s with
    | true =>
      rw [wiC_whole _ hp hw, cmpI_neg_iff] at l1
      rw [whole_row hw]
      dsimp only
      omega
    | false =>
      rw [wiC_leg _ hp hw, cmpI_neg_iff] at l1
      obtain ⟨e1, e2, _⟩ := leg_row hw
      rw [e1, e2]
      omega
  generalize p.1 = N at *
  generalize p.2 = D at *
  generalize hQ : (rowI s).q = Q at *
  generalize hT : (rowI s).t = T at *
  generalize hG : givI (rowI s) n = gv at *
  generalize hgap : (rowI s).gap = gp at *
  have a1 : T * (D * dm) ≤ T * (N * n + D * more) := Int.mul_le_mul_of_nonneg_left hd (by omega)
  have a2 : (N * T) * ((n : Int) - 4096) ≤ (D * Q) * ((n : Int) - 4096) := Int.mul_le_mul_of_nonneg_right l1' (by omega)
  have a3 : D * (Q * ((n : Int) - (gp + T - Q))) ≤ D * (T * gv) := Int.mul_le_mul_of_nonneg_left hg (by omega)
  have b1 : T * (N * n + D * more) = (N * 4096 + D * more) * T + N * T * ((n : Int) - 4096) := by
    rw [Int.mul_comm T, Int.add_mul, Int.add_mul, Int.mul_sub, Int.mul_assoc N n T, Int.mul_comm (n : Int) T, ← Int.mul_assoc N T n, Int.mul_assoc N 4096 T, Int.mul_comm 4096 T, ← Int.mul_assoc N T 4096]
    omega
  have b2 : D * (Q * (4096 - (gp + T - Q))) + D * Q * ((n : Int) - 4096) = D * (Q * ((n : Int) - (gp + T - Q))) := by
    have e : (4096 - (gp + T - Q)) + ((n : Int) - 4096) = (n : Int) - (gp + T - Q) := by omega
    rw [← Int.mul_assoc, ← Int.mul_assoc, ← Int.mul_add, e]
  have c1 : T * (D * dm) ≤ D * (T * gv) := by omega
  have b3 : D * (T * gv) = T * (D * gv) := Int.mul_left_comm D T gv
  rw [b3] at c1
  have c2 := Int.le_of_mul_le_mul_left c1 (by omega)
  exact Int.le_of_mul_le_mul_left c2 (by omega)
/-- A guest that fits under PolicyDeadline asks at no length for more than the server gives. -/
theorem tasks_beyond {s : Srv} {l : List Tsk} (hp : parOk s = true) (hok : tasksOk l = true) (hl : lineB s (shareT l) (sumC l + maxS l) = true) (hb : ∀ x : Int, 1 ≤ x → x ≤ 4096 → deadB l x = true → tasksI l x ≤ givI (rowI s) x) (n : Nat) : tasksI l n ≤ givI (rowI s) n := by
  by_cases hn : n ≤ 4096
  · exact tasks_near hp hok hb n hn
  · have hsh := shr_shareT hok
    have hL := (tasksOk_parts hok).1
    have h1 := tsum_line (n : Int) (by omega) l hL
    have h2 := blk_maxS (l := l) (n := (n : Int))
    have hc := sumC_bd hok l.length
    have hs := maxS_bd hok l.length
    rw [List.take_length] at hc hs
    obtain ⟨p1, p2, p3, p4⟩ := hsh
    refine line_beyond hp ⟨p1, p2, p3, p4⟩ hl (by omega) ?_
    have h3 := Int.mul_le_mul_of_nonneg_left h2 (show 0 ≤ (shareT l).2 by omega)
    rw [Int.mul_add (shareT l).2 (sumC l)]
    unfold tasksI
    split
    · have h4 := Int.mul_nonneg p1 (show (0 : Int) ≤ n by omega)
      have h5 := Int.mul_nonneg (show 0 ≤ (shareT l).2 by omega) hc.1
      have h6 := Int.mul_nonneg (show 0 ≤ (shareT l).2 by omega) hs.1
      rw [Int.mul_zero]
      omega
    · rw [Int.mul_add]
      omega
end Go.Proofs.YtglfdnfojpdkjaaGreatDoor
/- almonerref10: Gap, At, Bound. almonerref10.Bound. -/
namespace Go.Proofs.YtglfdnfojpdkjaaGreatDoor
open Go.RowKit

theorem givM_zero {r : Row} (h : RowOk r) : givM r 0 = 0 := by
  have h1 := h.qt
  unfold givM
  rw [Int.zero_ediv, Int.zero_emod, Int.zero_mul]
  omega
def atI (r : Row) (i : Int) : Bool := decide (r.gap ≤ i) && decide (r.t - r.q ≤ (i - r.gap) % r.t)
theorem giv_step {r : Row} (h : RowOk r) {i : Int} : givI r (i + 1) = givI r i + (if atI r i = true then 1 else 0) := by
  obtain ⟨g0, g1, q1, qt, t2⟩ := h
  unfold atI
  by_cases hg : r.gap ≤ i
  · rw [decide_eq_true hg, Bool.true_and]
    have e1 : givI r i = givM r (i - r.gap) := by
      unfold givI
      split
      · rw [show i - r.gap = 0 by omega, givM_zero ⟨g0, g1, q1, qt, t2⟩]
      · rfl
    have e2 : givI r (i + 1) = givM r (i - r.gap + 1) := by
      unfold givI
      rw [if_neg (by omega)]
      congr 1
      omega
    rw [e1, e2]
    obtain ⟨x, u, hx, x0, u0, u1, f1, f2⟩ := givM_parts ⟨g0, g1, q1, qt, t2⟩ (show 0 ≤ i - r.gap by omega)
    obtain ⟨y, v, hy, y0, v0, v1, k1, k2⟩ := givM_parts ⟨g0, g1, q1, qt, t2⟩ (show 0 ≤ i - r.gap + 1 by omega)
    unfold givM
    rw [f1, f2, k1, k2]
    by_cases hu : u + 1 = r.t
    · have hyx : y = x + 1 := by
        have a1 : r.t * y < r.t * (x + 2) := by rw [Int.mul_add]; omega
        have a2 : r.t * (x + 1) < r.t * (y + 1) := by rw [Int.mul_add, Int.mul_add]; omega
        have := Int.lt_of_mul_lt_mul_left a1 (by omega)
        have := Int.lt_of_mul_lt_mul_left a2 (by omega)
        omega
      subst hyx
      rw [Int.mul_add] at hy
      have hv : v = 0 := by omega
      have e3 : (x + 1) * r.q = x * r.q + r.q := by rw [Int.add_mul, Int.one_mul]
      rw [e3]
      split
      · omega
      · rename_i hn
        exact absurd (decide_eq_true (show r.t - r.q ≤ u by omega)) hn
    · have hyx : y = x := by
        have a1 : r.t * y < r.t * (x + 1) := by rw [Int.mul_add]; omega
        have a2 : r.t * x < r.t * (y + 1) := by rw [Int.mul_add]; omega
        have := Int.lt_of_mul_lt_mul_left a1 (by omega)
        have := Int.lt_of_mul_lt_mul_left a2 (by omega)
        omega
      subst hyx
      have hv : v = u + 1 := by omega
      subst hv
      split
      · rename_i hn
        have := of_decide_eq_true hn
        omega
      · rename_i hn
        have : ¬ r.t - r.q ≤ u := fun e => hn (decide_eq_true e)
        omega
  · rw [decide_eq_false hg, Bool.false_and, if_neg (by decide)]
    unfold givI
    rw [if_pos (by omega), if_pos (by omega)]
    rfl
theorem giv_cut {r : Row} (h : RowOk r) {l p : Int} (hp : 0 ≤ p) (hl : r.gap < l - p * r.t) : givI r l = p * r.q + givI r (l - p * r.t) := by
  obtain ⟨g0, g1, q1, qt, t2⟩ := h
  have h1 := Int.mul_nonneg hp (show 0 ≤ r.t by omega)
  unfold givI
  rw [if_neg (by omega), if_neg (by omega)]
  have e : l - r.gap = (l - p * r.t - r.gap) + p * r.t := by omega
  unfold givM
  rw [e, Int.add_mul_ediv_right _ _ (by omega), Int.add_mul_emod_self_right, Int.add_mul]
  omega

theorem whole_k {s : Srv} (h : parOk s = true) : (s.k = 0 ↔ whole s = true) := by
  unfold parOk at h
  constructor
  · intro hk
    cases hw : whole s with
    | true => rfl
    | false =>
      rw [hw, Bool.false_or] at h
      obtain ⟨h1, h2, _⟩ := (Srv.leg_iff _).1 h
      omega
  · intro hw
    unfold whole at hw
    exact (of_decide_eq_true hw).1
theorem giv_whole {s : Srv} (hw : whole s = true) {l : Int} (hl : 0 ≤ l) : givI (rowI s) l = l := by
  rw [whole_row hw]
  unfold givI givM
  dsimp only
  split
  · omega
  · rw [Int.ediv_one, Int.emod_one]
    omega

set_option maxHeartbeats 800000 in
theorem gap10_any (s : Srv) (w : World) (hs : Leg s) (hr : (rowI s).gap = if s.k = 3 then s.t - s.q else s.t - 1) :
    Calls Tryz.prog 83 #[.agg #[.int .i64 s.k, .int .i64 s.q, .int .i64 s.t]] w fun e w' => e = .returned (.int .i64 (rowI s).gap) ∧ Gr w w' := by
  obtain ⟨h1, h2, h3, h4, h5⟩ := hs
  rw [hr]
  replace hr := Lib.hid hr
  have hk0 : (s.k == 0) = false := by simpa using (by omega : ¬ s.k = 0)
  by_cases hk : s.k = 3
  · rw [if_pos hk]
    have hk' : (s.k == 3) = true := by simpa using hk
    clear hk
    go_enter Tryz.func83, Tryz.ntmps83
    go_wp2_with fail
    go_ret
    exact ⟨rfl, (by repeat (first | exact Gr.refl _ | apply Gr.alloc | apply Gr.drew | apply Gr.drewN | (refine Gr.setCell ?_ (by first | (simp; done) | (simp; omega)) _) | (refine Gr.trans ?_ (by assumption))))⟩
  · rw [if_neg hk]
    have hk' : (s.k == 3) = false := by simpa using hk
    clear hk
    go_enter Tryz.func83, Tryz.ntmps83
    go_wp2_with fail
    go_ret
    exact ⟨rfl, (by repeat (first | exact Gr.refl _ | apply Gr.alloc | apply Gr.drew | apply Gr.drewN | (refine Gr.setCell ?_ (by first | (simp; done) | (simp; omega)) _) | (refine Gr.trans ?_ (by assumption))))⟩

theorem leg_gap {s : Srv} (hw : whole s = false) : (rowI s).gap = if s.k = 3 then s.t - s.q else s.t - 1 := by
  unfold rowI
  rw [hw, if_neg (by decide)]
  split <;> rfl

set_option maxRecDepth 100000 in
set_option maxHeartbeats 1600000 in
theorem at10_any (s : Srv) (i : Int) (w : World) (hp : parOk s = true) (hw : whole s = false) (i0 : 0 ≤ i) (i1 : i ≤ 1099511627776) :
    Calls Tryz.prog 64 #[.agg #[.int .i64 s.k, .int .i64 s.q, .int .i64 s.t], .int .i64 i] w fun e w' => e = .returned (.bool (atI (rowI s) i)) ∧ Gr w w' := by
  have hs : Leg s := by
    unfold parOk at hp
    rw [hw, Bool.false_or] at hp
    exact (Srv.leg_iff _).1 hp
  have hgap := fun w => gap10_any s w hs (leg_gap hw)
  obtain ⟨e1, e2, _⟩ := leg_row hw
  obtain ⟨g0, g1, q1, qt, t2⟩ := rowI_ok hp
  obtain ⟨h1, h2, h3, h4, h5⟩ := hs
  have hk0 : (s.k == 0) = false := by simpa using (by omega : ¬ s.k = 0)
  unfold atI
  rw [e1, e2] at *
  generalize (rowI s).gap = gp at *
  replace hgap := Lib.hid hgap
  replace hp := Lib.hid hp
  replace hw := Lib.hid hw
  replace e1 := Lib.hid e1
  replace e2 := Lib.hid e2
  by_cases hg : gp ≤ i
  · rw [decide_eq_true hg, Bool.true_and]
    have n0 := Int.emod_nonneg (i - gp) (show s.t ≠ 0 by omega)
    have n1 := Int.emod_lt_of_pos (i - gp) (show 0 < s.t by omega)
    have ht0 : (s.t == 0) = false := by simpa using (by omega : ¬ s.t = 0)
    have ht1 : 0 < s.t := by omega
    have hd0 : 0 ≤ i - gp := by omega
    have hw1 : IntKind.i64.wrap (i - gp) = i - gp := by rw [IntKind.wrap_i64]; omega
    have hw2 : IntKind.i64.wrap (s.t - s.q) = s.t - s.q := by rw [IntKind.wrap_i64]; omega
    have hq : (i - gp).tmod s.t = (i - gp) % s.t := Int.tmod_eq_emod_of_nonneg hd0
    have hw3 : IntKind.i64.wrap ((i - gp) % s.t) = (i - gp) % s.t := by rw [IntKind.wrap_i64]; omega
    go_enter Tryz.func64, Tryz.ntmps64
    go_wp2_with fail
    refine (hgap.out _).mono ?_
    rintro e wa ⟨rfl, ga⟩
    obtain ⟨ca, fa, sa⟩ := ga.cells
    try simp only [size_drewN] at ca fa sa
    try simp only [World.size_alloc] at ca fa sa
    try simp only [World.size_drew] at ca fa sa
    try simp only [World.size_setCell] at ca fa sa
    have za0 : w.heap.size < wa.heap.size := by omega
    have ya0 : w.heap.size ≤ wa.heap.size := by omega
    have ka0 := fun o => ca (w.heap.size) o (by omega)
    have ja0 := fun o => fa (w.heap.size) o (by omega)
    go_wp2_with fail
    have c0 : wa.cell? ⟨w.heap.size, 0, none⟩ = some (.int .i64 s.k) := by simp (maxDischargeDepth := 8) [go_sem, *]
    have c1 : wa.cell? ⟨w.heap.size, 1, none⟩ = some (.int .i64 s.q) := by simp (maxDischargeDepth := 8) [go_sem, *]
    have c2 : wa.cell? ⟨w.heap.size, 2, none⟩ = some (.int .i64 s.t) := by simp (maxDischargeDepth := 8) [go_sem, *]
    have q0 := GrW.cell c0
    have q1 := GrW.cell c1
    have q2 := GrW.cell c2
    refine wp_region_grows (by kernel_rfl) (by kernel_rfl) ?_
    repeat (any_goals (first | go_big_quiet_step (first | (exact Calls.grows (hgap.out _))) | quiet_step (first | (exact Calls.grows (hgap.out _)))))
    refine wpQuiet_nil ?_
    intro wb hwq
    have gb := GrW.of hwq
    clear hwq
    obtain ⟨cb, fb, sb⟩ := gb.cells
    try simp only [size_drewN] at cb fb sb
    try simp only [World.size_alloc] at cb fb sb
    try simp only [World.size_drew] at cb fb sb
    try simp only [World.size_setCell] at cb fb sb
    go_wp2_with fail
    go_ret
    exact ⟨rfl, (((Gr.refl w).alloc _).trans ga).trans gb⟩
  · rw [decide_eq_false hg, Bool.false_and]
    have hg2 : i < gp := by omega
    go_enter Tryz.func64, Tryz.ntmps64
    go_wp2_with fail
    refine (hgap.out _).mono ?_
    rintro e wa ⟨rfl, ga⟩
    obtain ⟨ca, fa, sa⟩ := ga.cells
    try simp only [size_drewN] at ca fa sa
    try simp only [World.size_alloc] at ca fa sa
    try simp only [World.size_drew] at ca fa sa
    try simp only [World.size_setCell] at ca fa sa
    have za0 : w.heap.size < wa.heap.size := by omega
    have ya0 : w.heap.size ≤ wa.heap.size := by omega
    have ka0 := fun o => ca (w.heap.size) o (by omega)
    have ja0 := fun o => fa (w.heap.size) o (by omega)
    go_wp2_with fail
    go_ret
    exact ⟨rfl, (by repeat (first | exact Gr.refl _ | apply Gr.alloc | apply Gr.drew | apply Gr.drewN | (refine Gr.setCell ?_ (by first | (simp; done) | (simp; omega)) _) | (refine Gr.trans ?_ (by assumption))))⟩


set_option maxRecDepth 100000 in
set_option maxHeartbeats 3200000 in
theorem rbound10_any (s : Srv) (l : Int) (w : World) (hp : parOk s = true) (hl : LenOk l) :
    Calls Tryz.prog 86 #[.agg #[.int .i64 s.k, .int .i64 s.q, .int .i64 s.t], .int .i64 l] w fun e w' => e = .returned (.int .i64 (givI (rowI s) l)) ∧ Gr w w' := by
  have l1 := hl.1
  have l2 := hl.2
  cases hw : whole s with
  | true =>
    have hk : (s.k == 0) = true := by simpa using (whole_k hp).2 hw
    rw [giv_whole hw l1]
    replace hw := Lib.hid hw
    replace hp := Lib.hid hp
    go_enter Tryz.func86, Tryz.ntmps86
    go_wp2_with fail
    go_ret
    exact ⟨rfl, (by repeat (first | exact Gr.refl _ | apply Gr.alloc | apply Gr.drew | apply Gr.drewN | (refine Gr.setCell ?_ (by first | (simp; done) | (simp; omega)) _) | (refine Gr.trans ?_ (by assumption))))⟩
  | false =>
    have hk : (s.k == 0) = false := by
      have : ¬ s.k = 0 := fun e => by have := (whole_k hp).1 e; rw [hw] at this; cases this
      simpa using this
    have hat := fun i w i0 i1 => at10_any s i w hp hw i0 i1
    obtain ⟨e1, e2, _⟩ := leg_row hw
    have hro := rowI_ok hp
    have hr := hro
    obtain ⟨g0, g1, q1, qt, t2⟩ := hr
    have hst := fun i : Int => giv_step (r := rowI s) (i := i) hro
    have hgb := fun i (h0 : 0 ≤ i) => giv_le hro h0
    have hgn := fun i => giv_nonneg hro i
    have hz : givI (rowI s) 0 = 0 := by have := hgb 0 (by omega); have := hgn 0; omega
    have hcu := fun p hp0 hp1 => giv_cut (l := l) (p := p) hro hp0 hp1
    simp only [e1, e2] at hcu g1 q1 qt t2
    obtain ⟨G, hG⟩ : ∃ G, G = givI (rowI s) := ⟨_, rfl⟩
    simp only [← hG] at hcu hst hgb hgn hz ⊢
    generalize (rowI s).gap = gp at *
    replace hG := Lib.hid hG
    replace hcu := Lib.hid hcu
    replace hst := Lib.hid hst
    replace hat := Lib.hid hat
    replace hgb := Lib.hid hgb
    replace hgn := Lib.hid hgn
    replace hz := Lib.hid hz
    replace hp := Lib.hid hp
    replace hw := Lib.hid hw
    replace e1 := Lib.hid e1
    replace e2 := Lib.hid e2
    replace hro := Lib.hid hro
    obtain ⟨n0, m, hm0, hm1, hn0, hn1, hGl, hcase⟩ : ∃ n0 m : Int, 0 ≤ m ∧ m ≤ 1099511627776 ∧ 0 ≤ n0 ∧ n0 + m ≤ 2199023255552 ∧ G l = n0 + G m ∧ ((4 * s.t < l ∧ n0 = (l - 3 * s.t) / s.t * s.q ∧ m = l - (l - 3 * s.t) / s.t * s.t) ∨ (¬ 4 * s.t < l ∧ n0 = 0 ∧ m = l)) := by
      by_cases h4 : 4 * s.t < l
      · have e3 := Int.mul_ediv_add_emod (l - 3 * s.t) s.t
        have e4 := Int.emod_nonneg (l - 3 * s.t) (show s.t ≠ 0 by omega)
        have e5 := Int.emod_lt_of_pos (l - 3 * s.t) (show 0 < s.t by omega)
        have e6 := Int.ediv_nonneg (show 0 ≤ l - 3 * s.t by omega) (show 0 ≤ s.t by omega)
        have e7 := hcu.out _ e6
        generalize (l - 3 * s.t) / s.t = x at *
        have e8 := Int.mul_comm s.t x
        have e9 := Int.mul_le_mul_of_nonneg_left qt e6
        have e10 := Int.mul_nonneg e6 (show 0 ≤ s.q by omega)
        exact ⟨x * s.q, l - x * s.t, by omega, by omega, e10, by omega, e7 (by omega), .inl ⟨h4, rfl, rfl⟩⟩
      · exact ⟨0, l, by omega, by omega, by omega, by omega, by omega, .inr ⟨h4, rfl, rfl⟩⟩
    rw [hGl]
    replace hGl := Lib.hid hGl
    rcases hcase with ⟨h4, hn, hm⟩ | ⟨h4, hn, hm⟩
    · obtain ⟨a1, a2, a3⟩ := quo_mul_le (l := l - 3 * s.t) (q := s.q) (by omega) (by omega) (show 1 ≤ s.t by omega) qt
      obtain ⟨b1, b2, b3⟩ := quo_mul_le (l := l - 3 * s.t) (q := s.t) (by omega) (by omega) (show 1 ≤ s.t by omega) (Int.le_refl _)
      go_enter Tryz.func86, Tryz.ntmps86
      go_wp2_with fail
      go_loopw [7, 5] (fun iv nv wr => ∃ k : Nat, (k : Int) ≤ m ∧ iv = .int .i64 k ∧ nv = .int .i64 (n0 + G k) ∧ Gr (w.alloc (.cells #[.int .i64 s.k, .int .i64 s.q, .int .i64 s.t] 24)) wr) (fun iv _ _ => m.toNat - (intOf iv).toNat)
      case atStart => exact ⟨0, by omega, rfl, by have hz0 := hz.out; rw [hn, show ((0 : Nat) : Int) = 0 from rfl, hz0]; go_num, Gr.refl _⟩
      case round =>
        obtain ⟨k, hk2, rfl, rfl, hg⟩ := hrel
        have gall : Gr w wr := ((Gr.refl w).alloc _).trans hg
        obtain ⟨cg, fg, sg⟩ := hg.cells
        simp only [World.size_alloc] at cg fg sg
        have k1 := fun o => cg w.heap.size o (by omega)
        clear cg fg
        have b4 := hgn.out k
        have b5 := hgb.out k (by omega)
        by_cases hlt : (k : Int) < m
        · have hlt2 : (k : Int) < l - (l - 3 * s.t) / s.t * s.t := by omega
          have hs := hst.out k
          have hca := fun w => hat.out k w (by omega) (by omega)
          obtain ⟨b, hb⟩ : ∃ b, b = atI (rowI s) (k : Int) := ⟨_, rfl⟩
          rw [← hb] at hs hca
          replace hb := Lib.hid hb
          replace hca := Lib.hid hca
          cases b with
          | true =>
            rw [if_pos rfl] at hs
            replace hs := Lib.hid hs
            go_wp2_with fail
            refine (hca.out _).mono ?_
            rintro e w2 ⟨rfl, g2⟩
            go_wp2_with fail
            go_roundw
            case rel => exact ⟨k + 1, by omega, by go_num, by have h9 := hs.out; rw [show ((k + 1 : Nat) : Int) = (k : Int) + 1 by omega]; congr 1; omega, hg.trans g2⟩
            case measure => simp [intOf]; omega
          | false =>
            rw [if_neg (by decide)] at hs
            replace hs := Lib.hid hs
            go_wp2_with fail
            refine (hca.out _).mono ?_
            rintro e w2 ⟨rfl, g2⟩
            go_wp2_with fail
            go_roundw
            case rel => exact ⟨k + 1, by omega, by go_num, by have h9 := hs.out; rw [show ((k + 1 : Nat) : Int) = (k : Int) + 1 by omega]; congr 1; omega, hg.trans g2⟩
            case measure => simp [intOf]; omega
        · have hlt2 : l - (l - 3 * s.t) / s.t * s.t ≤ (k : Int) := by omega
          have hkm : (k : Int) = m := by omega
          rw [hkm]
          rw [hkm] at b4 b5 hlt2
          replace hkm := Lib.hid hkm
          go_wp2_with fail
          go_ret
          exact ⟨rfl, gall⟩
    · go_enter Tryz.func86, Tryz.ntmps86
      go_wp2_with fail
      go_loopw [7, 5] (fun iv nv wr => ∃ k : Nat, (k : Int) ≤ m ∧ iv = .int .i64 k ∧ nv = .int .i64 (n0 + G k) ∧ Gr (w.alloc (.cells #[.int .i64 s.k, .int .i64 s.q, .int .i64 s.t] 24)) wr) (fun iv _ _ => m.toNat - (intOf iv).toNat)
      case atStart => exact ⟨0, by omega, rfl, by have hz0 := hz.out; rw [hn, show ((0 : Nat) : Int) = 0 from rfl, hz0]; go_num, Gr.refl _⟩
      case round =>
        obtain ⟨k, hk2, rfl, rfl, hg⟩ := hrel
        have gall : Gr w wr := ((Gr.refl w).alloc _).trans hg
        obtain ⟨cg, fg, sg⟩ := hg.cells
        simp only [World.size_alloc] at cg fg sg
        have k1 := fun o => cg w.heap.size o (by omega)
        clear cg fg
        have b4 := hgn.out k
        have b5 := hgb.out k (by omega)
        by_cases hlt : (k : Int) < m
        · have hlt2 : (k : Int) < l := by omega
          have hs := hst.out k
          have hca := fun w => hat.out k w (by omega) (by omega)
          obtain ⟨b, hb⟩ : ∃ b, b = atI (rowI s) (k : Int) := ⟨_, rfl⟩
          rw [← hb] at hs hca
          replace hb := Lib.hid hb
          replace hca := Lib.hid hca
          cases b with
          | true =>
            rw [if_pos rfl] at hs
            replace hs := Lib.hid hs
            go_wp2_with fail
            refine (hca.out _).mono ?_
            rintro e w2 ⟨rfl, g2⟩
            go_wp2_with fail
            go_roundw
            case rel => exact ⟨k + 1, by omega, by go_num, by have h9 := hs.out; rw [show ((k + 1 : Nat) : Int) = (k : Int) + 1 by omega]; congr 1; omega, hg.trans g2⟩
            case measure => simp [intOf]; omega
          | false =>
            rw [if_neg (by decide)] at hs
            replace hs := Lib.hid hs
            go_wp2_with fail
            refine (hca.out _).mono ?_
            rintro e w2 ⟨rfl, g2⟩
            go_wp2_with fail
            go_roundw
            case rel => exact ⟨k + 1, by omega, by go_num, by have h9 := hs.out; rw [show ((k + 1 : Nat) : Int) = (k : Int) + 1 by omega]; congr 1; omega, hg.trans g2⟩
            case measure => simp [intOf]; omega
        · have hlt2 : l ≤ (k : Int) := by omega
          have hkm : (k : Int) = m := by omega
          rw [hkm]
          rw [hkm] at b4 b5 hlt2
          replace hkm := Lib.hid hkm
          go_wp2_with fail
          go_ret
          exact ⟨rfl, gall⟩
end Go.Proofs.YtglfdnfojpdkjaaGreatDoor
