/- admit.Guest under PolicyOrder; AdmitShorter's plain law. -/
import Derived.Test.YtglfdnfojpdkjaaGreatDoorJ15
namespace Go.Proofs.YtglfdnfojpdkjaaGreatDoor
open Go.RowKit

def respAt (s : Srv) (l : List Tsk) (i : Nat) : Int := match l[i]? with
  | some t => respI s l i t.d.toNat
  | none => 0
def fitsO (s : Srv) (l : List Tsk) : Bool := (List.range l.length).all fun i => decide (respAt s l i ≠ 0)
theorem respAt_eq {s : Srv} {l : List Tsk} {i : Nat} {t : Tsk} (h : l[i]? = some t) : respAt s l i = respI s l i t.d.toNat := by unfold respAt; rw [h]

set_option maxRecDepth 100000 in
set_option maxHeartbeats 1600000 in
theorem guest_par {G : List Nat} {E : Nat → Addr} (s : Srv) (p : Int) (a : Option Addr) (l : List Tsk) (c : Nat) (w : World) (hE : EAt G E w) (i0 : 4 ∈ G) (h : parOk s = false) :
    Calls Tryz.prog 123 #[.agg #[.int .i64 s.k, .int .i64 s.q, .int .i64 s.t], .int .i64 p, .slice a l.length c] w fun e w' => e = .returned (Value.iface 258 (.pointer (some (E 4)))) ∧ Gr w w' := by
  have hsi := fun w hE => silence_no (G := G) (E := E) s w hE i0 h
  replace hsi := Lib.hid hsi
  replace h := Lib.hid h
  go_enter Tryz.func123, Tryz.ntmps123
  go_wp2_with fail
  refine (hsi.out _ (hE.gr (((Gr.refl w).alloc _).alloc _))).mono ?_
  rintro e w1 ⟨rfl, g1⟩
  obtain ⟨c1, f1, s1⟩ := g1.cells
  try simp only [size_drewN] at c1 f1 s1
  try simp only [World.size_alloc] at c1 f1 s1
  try simp only [World.size_drew] at c1 f1 s1
  try simp only [World.size_setCell] at c1 f1 s1
  have z10 : w.heap.size < w1.heap.size := by omega
  have y10 : w.heap.size ≤ w1.heap.size := by omega
  have k10 := fun o => c1 (w.heap.size) o (by omega)
  have j10 := fun o => f1 (w.heap.size) o (by omega)
  have z11 : w.heap.size + 1 < w1.heap.size := by omega
  have k11 := fun o => c1 (w.heap.size + 1) o (by omega)
  have j11 := fun o => f1 (w.heap.size + 1) o (by omega)
  go_wp2_with fail
  go_ret
  exact ⟨rfl, (((Gr.refl w).alloc _).alloc _).trans g1⟩
set_option maxRecDepth 100000 in
set_option maxHeartbeats 1600000 in
theorem guest_bad {G : List Nat} {E : Nat → Addr} (s : Srv) (p : Int) (a : Option Addr) (l : List Tsk) (c : Nat) (w : World) (hE : EAt G E w) (i4 : 6 ∈ G) (h : parOk s = true) (hl : TsksAt w a l) (hm : l.length ≤ maxLen) (hg : guestOk p l = false) :
    Calls Tryz.prog 123 #[.agg #[.int .i64 s.k, .int .i64 s.q, .int .i64 s.t], .int .i64 p, .slice a l.length c] w fun e w' => e = .returned (Value.iface 258 (.pointer (some (E 6)))) ∧ Gr w w' := by
  have hsi := fun w => silence_yes s w h
  have hcg := fun w' (g : Gr w w') => checkGuest_no p a l c w' (hE.gr g) i4 (hl.gr g) hm hg
  replace hsi := Lib.hid hsi
  replace hcg := Lib.hid hcg
  replace h := Lib.hid h
  replace hg := Lib.hid hg
  go_enter Tryz.func123, Tryz.ntmps123
  go_wp2_with fail
  refine (hsi.out _).mono ?_
  rintro e w1 ⟨rfl, g1⟩
  obtain ⟨c1, f1, s1⟩ := g1.cells
  try simp only [size_drewN] at c1 f1 s1
  try simp only [World.size_alloc] at c1 f1 s1
  try simp only [World.size_drew] at c1 f1 s1
  try simp only [World.size_setCell] at c1 f1 s1
  have z10 : w.heap.size < w1.heap.size := by omega
  have y10 : w.heap.size ≤ w1.heap.size := by omega
  have k10 := fun o => c1 (w.heap.size) o (by omega)
  have j10 := fun o => f1 (w.heap.size) o (by omega)
  have z11 : w.heap.size + 1 < w1.heap.size := by omega
  have k11 := fun o => c1 (w.heap.size + 1) o (by omega)
  have j11 := fun o => f1 (w.heap.size + 1) o (by omega)
  have gA : Gr w w1 := (((Gr.refl w).alloc _).alloc _).trans g1
  go_wp2_with fail
  go_wp2_with fail
  refine (hcg.out _ gA).mono ?_
  rintro e w2 ⟨rfl, g2⟩
  obtain ⟨c2, f2, s2⟩ := g2.cells
  try simp only [size_drewN] at c2 f2 s2
  try simp only [World.size_alloc] at c2 f2 s2
  try simp only [World.size_drew] at c2 f2 s2
  try simp only [World.size_setCell] at c2 f2 s2
  have z20 : w.heap.size < w2.heap.size := by omega
  have y20 : w.heap.size ≤ w2.heap.size := by omega
  have k20 := fun o => c2 (w.heap.size) o (by omega)
  have j20 := fun o => f2 (w.heap.size) o (by omega)
  have z21 : w.heap.size + 1 < w2.heap.size := by omega
  have k21 := fun o => c2 (w.heap.size + 1) o (by omega)
  have j21 := fun o => f2 (w.heap.size + 1) o (by omega)
  go_wp2_with fail
  go_ret
  exact ⟨rfl, gA.trans g2⟩

set_option maxRecDepth 100000 in
set_option maxHeartbeats 3200000 in
theorem guestO_any {G : List Nat} {E : Nat → Addr} (s : Srv) (a : Option Addr) (l : List Tsk) (c : Nat) (w : World) (hE : EAt G E w) (i1 : 5 ∈ G) (h : parOk s = true) (hl : TsksAt w a l) (hg : guestOk 2 l = true) :
    Calls Tryz.prog 123 #[.agg #[.int .i64 s.k, .int .i64 s.q, .int .i64 s.t], .int .i64 2, .slice a l.length c] w fun e w' => e = .returned (if fitsO s l = true then .nilIface else (Value.iface 258 (.pointer (some (E 5))))) ∧ Gr w w' := by
  have hsi := fun w => silence_yes s w h
  have hcg := fun w' (g : Gr w w') => checkGuest_yes 2 a l c w' (hl.gr g) hg
  obtain ⟨_, _, hok⟩ := (guestOk_iff 2 l).1 hg
  have hre := fun i t (ht : l[i]? = some t) w' (g : Gr w w') => response_any s a l c i t w' h (hl.gr g) hok ht
  have h8 := (tasksOk_parts hok).2
  obtain ⟨v, hv⟩ : ∃ v, v = fitsO s l := ⟨_, rfl⟩
  rw [← hv]
  replace hv := Lib.hid hv
  obtain ⟨F, hF⟩ : ∃ F : Value, F = if v = true then .nilIface else (Value.iface 258 (.pointer (some (E 5)))) := ⟨_, rfl⟩
  rw [← hF]
  replace hF := Lib.hid hF
  replace hsi := Lib.hid hsi
  replace hcg := Lib.hid hcg
  replace hre := Lib.hid hre
  replace h := Lib.hid h
  replace hg := Lib.hid hg
  replace hok := Lib.hid hok
  go_enter Tryz.func123, Tryz.ntmps123
  go_wp2_with fail
  refine (hsi.out _).mono ?_
  rintro e w1 ⟨rfl, g1⟩
  obtain ⟨c1, f1, s1⟩ := g1.cells
  try simp only [size_drewN] at c1 f1 s1
  try simp only [World.size_alloc] at c1 f1 s1
  try simp only [World.size_drew] at c1 f1 s1
  try simp only [World.size_setCell] at c1 f1 s1
  have z10 : w.heap.size < w1.heap.size := by omega
  have y10 : w.heap.size ≤ w1.heap.size := by omega
  have k10 := fun o => c1 (w.heap.size) o (by omega)
  have j10 := fun o => f1 (w.heap.size) o (by omega)
  have z11 : w.heap.size + 1 < w1.heap.size := by omega
  have k11 := fun o => c1 (w.heap.size + 1) o (by omega)
  have j11 := fun o => f1 (w.heap.size + 1) o (by omega)
  have gA : Gr w w1 := (((Gr.refl w).alloc _).alloc _).trans g1
  go_wp2_with fail
  go_wp2_with fail
  refine (hcg.out _ gA).mono ?_
  rintro e w2 ⟨rfl, g2⟩
  obtain ⟨c2, f2, s2⟩ := g2.cells
  try simp only [size_drewN] at c2 f2 s2
  try simp only [World.size_alloc] at c2 f2 s2
  try simp only [World.size_drew] at c2 f2 s2
  try simp only [World.size_setCell] at c2 f2 s2
  have z20 : w.heap.size < w2.heap.size := by omega
  have y20 : w.heap.size ≤ w2.heap.size := by omega
  have k20 := fun o => c2 (w.heap.size) o (by omega)
  have j20 := fun o => f2 (w.heap.size) o (by omega)
  have z21 : w.heap.size + 1 < w2.heap.size := by omega
  have k21 := fun o => c2 (w.heap.size + 1) o (by omega)
  have j21 := fun o => f2 (w.heap.size + 1) o (by omega)
  have gB := gA.trans g2
  go_wp2_with fail
  go_loopw [38] (fun iv wr => ∃ k : Nat, k ≤ l.length ∧ iv = .int .i64 k ∧ (∀ j, j < k → respAt s l j ≠ 0) ∧ Gr w2 wr) (fun iv _ => l.length - (intOf iv).toNat)
  case atStart => exact ⟨0, Nat.zero_le _, rfl, (fun j hj => by omega), Gr.refl _⟩
  case round =>
    obtain ⟨k, hk, rfl, hbf, hgg⟩ := hrel
    have gall := gB.trans hgg
    obtain ⟨cg, fg, sg⟩ := hgg.cells
    have k1 := fun o => cg w.heap.size o (by omega)
    have k2' := fun o => cg (w.heap.size + 1) o (by omega)
    clear cg fg
    replace hbf := Lib.hid hbf
    by_cases hlt : k < l.length
    · obtain ⟨t, ht⟩ := get_some l k hlt
      have hr := hre.out k t ht wr gall
      have hra := respAt_eq (s := s) ht
      obtain ⟨r, hrr⟩ : ∃ r, r = respI s l k t.d.toNat := ⟨_, rfl⟩
      rw [← hrr] at hr hra
      by_cases h0 : r = 0
      · have hvf : v = false := by
          rw [hv.out]
          unfold fitsO
          cases hh : (List.range l.length).all fun i => decide (respAt s l i ≠ 0) with
          | false => rfl
          | true =>
            have := of_decide_eq_true (List.all_eq_true.1 hh k (List.mem_range.2 hlt))
            rw [hra, h0] at this
            exact absurd rfl this
        rw [h0, show decide ((0 : Int) ≠ 0) = false from rfl] at hr
        replace hr := Lib.hid hr
        replace hra := Lib.hid hra
        replace ht := Lib.hid ht
        replace hrr := Lib.hid hrr
        replace h0 := Lib.hid h0
        replace hvf := Lib.hid hvf
        go_wp2_with fail
        refine hr.out.mono ?_
        rintro e w3 ⟨rfl, g3⟩
        have he := (hE.gr (gall.trans g3)).c0 i1
        go_wp2_with fail
        go_ret
        exact ⟨by rw [hF.out, hvf.out]; rfl, gall.trans g3⟩
      · rw [decide_eq_true h0] at hr
        have hnext : ∀ j, j < k + 1 → respAt s l j ≠ 0 := fun j hj => by
          by_cases hjk : j = k
          · rw [hjk, hra]; exact h0
          · exact hbf.out j (by omega)
        replace hnext := Lib.hid hnext
        replace hr := Lib.hid hr
        replace hra := Lib.hid hra
        replace ht := Lib.hid ht
        replace hrr := Lib.hid hrr
        replace h0 := Lib.hid h0
        go_wp2_with fail
        refine hr.out.mono ?_
        rintro e w3 ⟨rfl, g3⟩
        go_wp2_with fail
        go_roundw
        case rel => exact ⟨k + 1, by omega, by go_num, hnext.out, hgg.trans g3⟩
        case measure => simp [intOf]; omega
    · have hvt : v = true := by
        rw [hv.out]
        unfold fitsO
        rw [List.all_eq_true]
        intro i hi
        exact decide_eq_true (hbf.out i (by have := List.mem_range.1 hi; omega))
      replace hvt := Lib.hid hvt
      go_wp2_with fail
      go_ret
      exact ⟨by rw [hF.out, hvt.out]; rfl, gall⟩

/-- The first tasks' work. -/
def workI (l : List Tsk) (k : Nat) : Int := sumI (fun t => t.c) (l.take k)
theorem up_pos {x p : Int} (hx : 1 ≤ x) (hp : 1 ≤ p) : 1 ≤ upI x p := by
  unfold upI
  refine Int.le_ediv_of_mul_le (by omega) ?_
  omega
theorem work_le {l : List Tsk} (hok : tasksOk l = true) {i : Nat} {x : Int} (hx : 1 ≤ x) : ∀ k, k ≤ i + 1 → workI l k ≤ (untP l i x k).1 := by
  intro k
  induction k with
  | zero => intro _; simp [workI, untP, sumI]
  | succ k ih =>
    intro hk
    have h1 := ih (by omega)
    cases ht : l[k]? with
    | none =>
      rw [untP, ht]
      unfold workI at h1 ⊢
      rw [List.take_add_one, ht]
      simpa using h1
    | some t =>
      obtain ⟨t1, t2, t3, t4, t5, t6⟩ := legT_mem hok ht
      rw [untP_le ht (by omega)]
      unfold workI at h1 ⊢
      rw [take_snoc ht, sumI_snoc]
      have h2 := Int.mul_le_mul_of_nonneg_right (up_pos hx (show 1 ≤ t.p by omega)) (show 0 ≤ t.c by omega)
      dsimp only
      omega
theorem unt_stay {l : List Tsk} {i : Nat} {x : Int} (k d : Nat) (hk : i + 1 ≤ k) : (untP l i x (k + d)).1 = (untP l i x k).1 := by
  induction d with
  | zero => rfl
  | succ d ih =>
    rw [← Nat.add_assoc]
    cases ht : l[k + d]? with
    | none => rw [untP, ht]; exact ih
    | some t => rw [untP_gt ht (by omega)]; exact ih
theorem work_unt {l : List Tsk} (hok : tasksOk l = true) {i : Nat} {x : Int} (hx : 1 ≤ x) (hx2 : LenOk x) (hi : i < l.length) : workI l (i + 1) ≤ untI l i x := by
  have h1 := work_le hok hx (i := i) (i + 1) (Nat.le_refl _)
  have h2 := unt_stay (l := l) (i := i) (x := x) (i + 1) (l.length - (i + 1)) (Nat.le_refl _)
  rw [show i + 1 + (l.length - (i + 1)) = l.length by omega] at h2
  have h3 := untP_bd (i := (i : Int)) hok hx2 l.length
  unfold untI
  omega
/-- What a guest's requests hang on. -/
theorem unt_alike {l m : List Tsk} (h : ∀ k : Nat, (l[k]?).map (fun t : Tsk => (t.c, t.p, t.s)) = (m[k]?).map (fun t : Tsk => (t.c, t.p, t.s))) (i x : Int) : ∀ k, untP l i x k = untP m i x k := by
  intro k
  induction k with
  | zero => rfl
  | succ k ih =>
    have hk := h k
    cases ht : l[k]? with
    | none =>
      rw [ht] at hk
      cases hm : m[k]? with
      | none => rw [untP, untP, ht, hm]; exact ih
      | some u => rw [hm] at hk; cases hk
    | some t =>
      rw [ht] at hk
      cases hm : m[k]? with
      | none => rw [hm] at hk; cases hk
      | some u =>
        rw [hm] at hk
        simp only [Option.map_some, Option.some.injEq, Prod.mk.injEq] at hk
        obtain ⟨e1, e2, e3⟩ := hk
        by_cases hki : (k : Int) ≤ i
        · rw [untP_le ht hki, untP_le hm hki, ih, e1, e2]
        · rw [untP_gt ht hki, untP_gt hm hki, ih, e3]
theorem later_alike {l : List Tsk} {i : Nat} {t : Tsk} (ht : l[i]? = some t) (d : Int) (k : Nat) : (l[k]?).map (fun t : Tsk => (t.c, t.p, t.s)) = ((l.set i {t with d := d})[k]?).map (fun t : Tsk => (t.c, t.p, t.s)) := by
  by_cases hk : i = k
  · subst hk
    rw [List.getElem?_set_self (get_lt ht), ht]
    rfl
  · rw [List.getElem?_set_ne hk]
theorem leastI_spec {p : Int → Bool} {n : Nat} (h : leastI p n ≠ 0) : ∃ k : Nat, k < n ∧ leastI p n = (k : Int) + 1 ∧ p ((k : Int) + 1) = true ∧ ∀ j : Nat, j < k → p ((j : Int) + 1) = false := by
  unfold leastI at h ⊢
  cases hf : (List.range n).find? (fun k : Nat => p ((k : Int) + 1)) with
  | none => rw [hf] at h; exact absurd rfl h
  | some k =>
    rw [List.find?_range_eq_some] at hf
    exact ⟨k, List.mem_range.1 hf.2.1, rfl, hf.1, fun j hj => by simpa using hf.2.2 j hj⟩
theorem leastI_more {p : Int → Bool} {n m : Nat} (h : leastI p n ≠ 0) (hnm : n ≤ m) : leastI p m = leastI p n := by
  obtain ⟨k, hk, he, hp, hb⟩ := leastI_spec h
  rw [he]
  exact leastI_at (by omega) hp hb
theorem resp_later {s : Srv} {l : List Tsk} {i : Nat} {t : Tsk} (ht : l[i]? = some t) (hd : t.d ≤ t.p) (h : respI s l i t.d.toNat ≠ 0) : respI s (l.set i {t with d := t.p}) i t.p.toNat = respI s l i t.d.toNat := by
  have h1 : ∀ x, untI (l.set i {t with d := t.p}) i x = untI l i x := fun x => by
    unfold untI
    rw [List.length_set, unt_alike (later_alike ht t.p) i x l.length]
  have h2 : respI s (l.set i {t with d := t.p}) i t.p.toNat = respI s l i t.p.toNat := by
    unfold respI
    congr 1
    funext x
    rw [h1]
  rw [h2]
  exact leastI_more h (by omega)
/-- A response: within the deadline, not shorter than the work, long enough. -/
theorem resp_spec {s : Srv} {l : List Tsk} {i : Nat} {t : Tsk} (hp : parOk s = true) (hok : tasksOk l = true) (ht : l[i]? = some t) (h : respI s l i t.d.toNat ≠ 0) :
    1 ≤ respI s l i t.d.toNat ∧ respI s l i t.d.toNat ≤ t.d ∧ workI l (i + 1) ≤ respI s l i t.d.toNat ∧ untI l i (respI s l i t.d.toNat) ≤ respI s l i t.d.toNat := by
  obtain ⟨t1, t2, t3, t4, t5, t6⟩ := legT_mem hok ht
  obtain ⟨k, hk, he, hpk, hb⟩ := leastI_spec h
  have he' : respI s l i t.d.toNat = (k : Int) + 1 := he
  rw [he']
  have h1 := of_decide_eq_true hpk
  have h2 := giv_le (rowI_ok hp) (show 0 ≤ (k : Int) + 1 by omega)
  have h3 := work_unt hok (i := i) (show 1 ≤ (k : Int) + 1 by omega) ⟨by omega, by omega⟩ (get_lt ht)
  exact ⟨by omega, by omega, by omega, by omega⟩
theorem later_ok {l : List Tsk} {i : Nat} {t : Tsk} (ht : l[i]? = some t) (hg : guestOk 2 l = true) : guestOk 2 (l.set i {t with d := t.p}) = true := by
  obtain ⟨h1, h2, h3⟩ := (guestOk_iff 2 l).1 hg
  obtain ⟨t1, t2, t3, t4, t5, t6⟩ := legT_mem h3 ht
  obtain ⟨h4, h5⟩ := tasksOk_parts h3
  refine (guestOk_iff 2 _).2 ⟨h1, by rw [List.length_set]; exact h2, ?_⟩
  unfold tasksOk
  rw [List.length_set, decide_eq_true h5, Bool.and_true]
  unfold allLegT
  rw [List.all_eq_true]
  intro x hx
  rcases List.mem_or_eq_of_mem_set hx with hx | rfl
  · exact (Tsk.leg_iff x).2 (h4 x hx)
  · exact (Tsk.leg_iff _).2 ⟨t1, by dsimp only; omega, by dsimp only; omega, t4, t5, t6⟩
end Go.Proofs.YtglfdnfojpdkjaaGreatDoor
/- AdmitFewer: the plain law. -/
namespace Go.Proofs.YtglfdnfojpdkjaaGreatDoor
open Go.RowKit

theorem sumI_append {α : Type} (f : α → Int) (a b : List α) : sumI f (a ++ b) = sumI f a + sumI f b := by
  induction a with
  | nil => simp [sumI]
  | cons x r ih => rw [List.cons_append, sumI_cons, sumI_cons, ih]; omega
theorem sumI_fewer {α : Type} (f : α → Int) (a b : List α) (x : α) : sumI f (a ++ x :: b) = sumI f (a ++ b) + f x := by rw [sumI_append, sumI_append, sumI_cons]; omega
theorem shareS_perm {l m : List Srv} (h : l.Perm m) : shareS l = shareS m := by
  have key : ∀ (l m : List Srv), l.Perm m → ∀ p, l.foldl (fun p s => plusP p s.q s.t) p = m.foldl (fun p s => plusP p s.q s.t) p := by
    intro l m h
    induction h with
    | nil => intro p; rfl
    | cons x _ ih => intro p; exact ih _
    | swap x y l =>
      intro p
      rw [List.foldl_cons, List.foldl_cons, List.foldl_cons, List.foldl_cons]
      congr 1
      simp only [plusP]
      refine Prod.ext ?_ ?_
      · simp only [Int.add_mul, Int.mul_assoc]
        rw [Int.mul_comm y.t x.t, Int.mul_comm y.q x.t, Int.mul_comm y.t x.q]
        omega
      · simp only [Int.mul_assoc]; rw [Int.mul_comm y.t]
    | trans _ _ ih1 ih2 => intro p; rw [ih1, ih2]
  exact key l m h _
theorem share_fewer (a b : List Srv) (x : Srv) : shareS (a ++ x :: b) = plusP (shareS (a ++ b)) x.q x.t := by
  rw [← shareS_snoc]
  refine shareS_perm ?_
  have h1 : (a ++ x :: b).Perm (x :: (a ++ b)) := List.perm_middle
  have h2 : (x :: (a ++ b)).Perm ((a ++ b) ++ [x]) := (List.perm_append_singleton x (a ++ b)).symm
  exact h1.trans h2

theorem cmpI_neg_iff {x y : Int} : cmpI x y < 0 ↔ x < y := by
  constructor
  · intro h
    unfold cmpI at h
    by_cases h1 : x < y
    · exact h1
    · rw [if_neg h1] at h
      split at h <;> omega
  · exact cmpI_neg
theorem cmpI_le_iff {x y : Int} : cmpI x y ≤ 0 ↔ x ≤ y := by
  constructor
  · intro h
    unfold cmpI at h
    by_cases h1 : x < y
    · omega
    · rw [if_neg h1] at h
      split at h <;> omega
  · exact cmpI_le

theorem lt_fewer {n d q t A B : Int} (hd : 0 ≤ d) (hq : 0 ≤ q) (ht : 1 ≤ t) (hA : 0 ≤ A) (h : (n * t + d * q) * A < (d * t) * B) : n * A < d * B := by
  have h1 : 0 ≤ d * q * A := Int.mul_nonneg (Int.mul_nonneg hd hq) hA
  have e1 : (n * t + d * q) * A = t * (n * A) + d * q * A := by rw [Int.add_mul, Int.mul_comm n t, Int.mul_assoc]
  have e2 : d * t * B = t * (d * B) := by rw [Int.mul_comm d t, Int.mul_assoc]
  rw [e1, e2] at h
  exact Int.lt_of_mul_lt_mul_left (a := t) (by omega) (by omega)
theorem le_fewer {n d q t A B m m' : Int} (hd : 0 ≤ d) (hq : 0 ≤ q) (ht : 1 ≤ t) (hA : 0 ≤ A) (hm : m' ≤ m) (h : ((n * t + d * q) * 4096 + (d * t) * m) * A ≤ (d * t) * B) : (n * 4096 + d * m') * A ≤ d * B := by
  have h0 : 0 ≤ d * t := Int.mul_nonneg hd (by omega)
  have h1 : 0 ≤ d * q := Int.mul_nonneg hd hq
  have h2 : d * t * m' ≤ d * t * m := Int.mul_le_mul_of_nonneg_left hm h0
  have h3 : (n * t * 4096 + d * t * m') * A ≤ ((n * t + d * q) * 4096 + d * t * m) * A := Int.mul_le_mul_of_nonneg_right (by rw [Int.add_mul]; omega) hA
  have e1 : (n * t * 4096 + d * t * m') * A = t * ((n * 4096 + d * m') * A) := by
    rw [← Int.mul_assoc, Int.mul_add, Int.mul_comm n t, Int.mul_comm d t, Int.mul_assoc t n, Int.mul_assoc t d]
  have e2 : d * t * B = t * (d * B) := by rw [Int.mul_comm d t, Int.mul_assoc]
  rw [e1] at h3
  rw [e2] at h
  exact Int.le_of_mul_le_mul_left (a := t) (by omega) (by omega)

/-- What fits at the steps fits at every length. -/
theorem below_all {s : Srv} {l : List Srv} (hp : parOk s = true) (hal : allLeg l = true) (hb : belowB s (stepsL l 4096) (demI l) = true) : ∀ n : Nat, n ≤ 4096 → demI l n ≤ givI (rowI s) n := by
  intro n
  induction n with
  | zero =>
    intro _
    have := demI_zero l hal
    have := giv_nonneg (rowI_ok hp) ((0 : Nat) : Int)
    simp only [Int.natCast_zero] at *
    omega
  | succ n ih =>
    intro _
    have h1 := ih (by omega)
    by_cases hg : demI l n < demI l ((n : Int) + 1)
    · have hm := get_mem (stepsL_at (n := 4096) (by omega) hg)
      unfold belowB at hb
      have := of_decide_eq_true (List.all_eq_true.1 hb _ hm)
      exact_mod_cast this
    · have h2 := giv_mono (rowI_ok hp) (show (n : Int) ≤ (n : Int) + 1 by omega)
      have h3 : demI l ((n : Int) + 1) ≤ givI (rowI s) ((n : Int) + 1) := by omega
      exact_mod_cast h3
theorem kids_parts {s : Srv} {l : List Srv} (h : kidsErr s l = none) : parOk s = true ∧ srvErr l = none ∧ lineB s (shareS l) (2 * sumQ l) = true ∧ belowB s (stepsL l 4096) (demI l) = true := by
  unfold kidsErr at h
  cases hp : parOk s with
  | false => rw [if_pos hp] at h; cases h
  | true =>
    rw [if_neg (by rw [hp]; decide)] at h
    cases hs : srvErr l with
    | some g => rw [hs] at h; cases h
    | none =>
      rw [hs] at h
      dsimp only at h
      cases hk : kidsB s l with
      | false => rw [hk, if_neg (by decide)] at h; cases h
      | true =>
        unfold kidsB at hk
        rw [Bool.and_eq_true] at hk
        exact ⟨rfl, rfl, hk.1, hk.2⟩
theorem srv_fewer {a b : List Srv} {x : Srv} (h : srvErr (a ++ x :: b) = none) : srvErr (a ++ b) = none ∧ x.leg = true ∧ allLeg (a ++ b) = true ∧ allLeg (a ++ x :: b) = true := by
  obtain ⟨h1, h2⟩ := srvErr_none h
  have h3 : allLeg (a ++ b) = true ∧ x.leg = true := by
    unfold allLeg at h1 ⊢
    rw [List.all_append, List.all_cons] at h1
    rw [List.all_append]
    simp only [Bool.and_eq_true] at h1 ⊢
    exact ⟨⟨h1.1, h1.2.2⟩, h1.2.1⟩
  refine ⟨?_, h3.2, h3.1, h1⟩
  have h4 : (a ++ b).length ≤ 8 := by rw [List.length_append] at h2 ⊢; rw [List.length_cons] at h2; omega
  unfold srvErr
  rw [if_neg (by rw [h3.1]; decide), if_neg (by omega)]
/-- Of servers that fit all but one fit too. -/
theorem kids_fewer {s : Srv} {a b : List Srv} {x : Srv} (h : kidsErr s (a ++ x :: b) = none) : kidsErr s (a ++ b) = none := by
  obtain ⟨hp, hs, hl, hb⟩ := kids_parts h
  obtain ⟨hs', hx, hal', hal⟩ := srv_fewer hs
  obtain ⟨x1, x2, x3, x4, x5⟩ := (Srv.leg_iff x).1 hx
  have hsh := srvErr_shr hs'
  obtain ⟨p1, p2, p3, p4⟩ := hsh
  have hr := rowI_ok hp
  have t1 : 0 ≤ (rowI s).t := by have := hr.q1; have := hr.qt; omega
  refine kids_of hp hs' ?_ ?_
  · unfold lineB at hl ⊢
    rw [share_fewer, show sumQ (a ++ x :: b) = sumQ (a ++ b) + x.q from sumI_fewer _ a b x] at hl
    rw [Bool.and_eq_true, decide_eq_true_iff, decide_eq_true_iff] at hl ⊢
    obtain ⟨l1, l2⟩ := hl
    refine ⟨?_, ?_⟩
    · cases hw : whole s with
      | true =>
        rw [wiC_whole _ hp hw] at l1 ⊢
        rw [cmpI_neg_iff] at l1 ⊢
        have := lt_fewer (A := 1) (B := 1) (n := (shareS (a ++ b)).1) (d := (shareS (a ++ b)).2) (q := x.q) (t := x.t) (by omega) (by omega) (by omega) (by decide) (by simpa [plusP] using l1)
        simpa using this
      | false =>
        rw [wiC_leg _ hp hw] at l1 ⊢
        rw [cmpI_neg_iff] at l1 ⊢
        obtain ⟨_, _, y3, y4, _⟩ := par_leg hp hw
        exact lt_fewer (q := x.q) (t := x.t) (by omega) (by omega) (by omega) (by omega) l1
    · rw [cmpI_le_iff] at l2 ⊢
      exact le_fewer (q := x.q) (t := x.t) (by omega) (by omega) (by omega) t1 (by omega) l2
  · unfold belowB
    rw [List.all_eq_true]
    intro y hy
    have hy1 := stepsL_ok _ _ y hy
    refine decide_eq_true ?_
    have h1 := below_all hp hal hb y.toNat (by omega)
    rw [show ((y.toNat : Nat) : Int) = y by omega] at h1
    have h2 : demI (a ++ x :: b) y = demI (a ++ b) y + askedI x y := sumI_fewer _ a b x
    have h3 := asked_bd (s := x) (l := y) ⟨x1, x2, x3, x4, x5⟩ ⟨by omega, by omega⟩
    omega

theorem leastI_ne {p : Int → Bool} {n k : Nat} (hk : k < n) (h : p ((k : Int) + 1) = true) : leastI p n ≠ 0 := by
  unfold leastI
  cases hf : (List.range n).find? (fun k : Nat => p ((k : Int) + 1)) with
  | none =>
    rw [List.find?_eq_none] at hf
    exact absurd h (hf k (List.mem_range.2 hk))
  | some j => dsimp only; omega
theorem unt_take {l : List Tsk} {n : Nat} (i x : Int) : ∀ k, k ≤ n → untP (l.take n) i x k = untP l i x k := by
  intro k
  induction k with
  | zero => intro _; rfl
  | succ k ih =>
    intro hk
    have h1 := ih (by omega)
    have h2 : (l.take n)[k]? = l[k]? := by rw [List.getElem?_take, if_pos (by omega)]
    cases ht : l[k]? with
    | none => rw [untP, untP, h2, ht]; exact h1
    | some t =>
      by_cases hki : (k : Int) ≤ i
      · rw [untP_le (h2.trans ht) hki, untP_le ht hki, h1]
      · rw [untP_gt (h2.trans ht) hki, untP_gt ht hki, h1]
theorem unt_more {l : List Tsk} {i : Nat} {x : Int} (k d : Nat) (hk : i + 1 ≤ k) : (untP l i x k).1 + (untP l i x k).2 ≤ (untP l i x (k + d)).1 + (untP l i x (k + d)).2 := by
  induction d with
  | zero => exact Int.le_refl _
  | succ d ih =>
    rw [← Nat.add_assoc]
    cases ht : l[k + d]? with
    | none => rw [untP, ht]; exact ih
    | some t => rw [untP_gt ht (by omega)]; dsimp only; omega
theorem resp_first {s : Srv} {l : List Tsk} {i n : Nat} (hi : i < n) (hn : n ≤ l.length) (d : Nat) (h : respI s l i d ≠ 0) : respI s (l.take n) i d ≠ 0 := by
  obtain ⟨k, hk, he, hp, hb⟩ := leastI_spec h
  refine leastI_ne hk (decide_eq_true ?_)
  have h1 := of_decide_eq_true hp
  have h2 : untI (l.take n) i ((k : Int) + 1) ≤ untI l i ((k : Int) + 1) := by
    unfold untI
    rw [List.length_take, Nat.min_eq_left hn, unt_take (i : Int) _ n (Nat.le_refl _)]
    have := unt_more (l := l) (i := i) (x := (k : Int) + 1) n (l.length - n) (by omega)
    rwa [show n + (l.length - n) = l.length by omega] at this
  omega
/-- Of a guest that fits the first tasks do. -/
theorem guest_first {s : Srv} {l : List Tsk} {n : Nat} (h1 : 1 ≤ n) (hn : n ≤ l.length) (hg : guestOk 2 l = true) (hf : fitsO s l = true) : guestOk 2 (l.take n) = true ∧ fitsO s (l.take n) = true := by
  obtain ⟨g1, g2, g3⟩ := (guestOk_iff 2 l).1 hg
  obtain ⟨g4, g5⟩ := tasksOk_parts g3
  have hlen : (l.take n).length = n := by rw [List.length_take]; omega
  refine ⟨(guestOk_iff 2 _).2 ⟨g1, by omega, ?_⟩, ?_⟩
  · unfold tasksOk
    rw [hlen, decide_eq_true (show n ≤ 8 by omega), Bool.and_true]
    unfold allLegT
    rw [List.all_eq_true]
    intro x hx
    exact (Tsk.leg_iff x).2 (g4 x (List.mem_of_mem_take hx))
  · unfold fitsO at hf ⊢
    rw [List.all_eq_true] at hf ⊢
    intro i hi
    have hi2 : i < n := by have := List.mem_range.1 hi; omega
    have h3 := of_decide_eq_true (hf i (List.mem_range.2 (by omega)))
    obtain ⟨t, ht⟩ := get_some l i (by omega)
    have ht2 : (l.take n)[i]? = some t := by rw [List.getElem?_take, if_pos hi2]; exact ht
    refine decide_eq_true ?_
    rw [respAt_eq ht] at h3
    rw [respAt_eq ht2]
    exact resp_first hi2 hn _ h3
end Go.Proofs.YtglfdnfojpdkjaaGreatDoor
