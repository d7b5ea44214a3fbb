/- Package demand: the tasks. -/
import Derived.Test.YtmookdgeblcjnaaDoorD1
import Derived.Test.YtmookdgeblcjnaaDoorA7
namespace Go.Proofs.YtmookdgeblcjnaaDoor
open Go.RowKit

/-- What is wrong with tasks and a length. -/
def chkT (l : List Tsk) (n : Int) : Option Nat := if tasksOk l = false then some 4 else if n < 0 ∨ 1099511627776 < n then some 2 else none
theorem chkT_none {l : List Tsk} {n : Int} (h : chkT l n = none) : tasksOk l = true ∧ LenOk n := by
  unfold chkT at h
  split at h
  · cases h
  · split at h
    · cases h
    · rename_i h1 h2
      exact ⟨by simpa using h1, by unfold LenOk; omega⟩
theorem tasksOk_parts {l : List Tsk} (h : tasksOk l = true) : (∀ t ∈ l, LegT t) ∧ l.length ≤ 8 := by
  simp only [tasksOk, Bool.and_eq_true, decide_eq_true_eq] at h
  exact ⟨fun t ht => (Tsk.leg_iff t).1 (List.all_eq_true.1 h.1 t ht), h.2⟩

set_option maxHeartbeats 400000 in
theorem task_any (s : Tsk) (l : Int) (w : World) (hs : LegT s) (hl : LenOk l) :
    Calls Tryd.prog 66 #[.agg #[.int .i64 s.c, .int .i64 s.p, .int .i64 s.d, .int .i64 s.s], .int .i64 l] w fun e w' => e = .returned (.int .i64 (taskI s l)) ∧ Gr w w' := by
  obtain ⟨h1, h2, h3, h4, h5, h6⟩ := hs
  obtain ⟨l1, l2⟩ := hl
  unfold taskI
  by_cases hd : l < s.d
  · rw [if_pos hd]
    go_enter Tryd.func66, Tryd.ntmps66
    go_wp2_with fail
    go_ret
    refine ⟨rfl, ?_⟩
    repeat (first | exact Gr.refl _ | apply Gr.alloc | apply Gr.drew | apply Gr.drewN | (refine Gr.setCell ?_ (by simp) _) | (refine Gr.trans ?_ (by assumption)))
  · rw [if_neg hd]
    have hq := quo_mul_le (l := l - s.d) (q := s.c) (t := s.p) (by omega) (by omega) (by omega) (by omega)
    obtain ⟨q0, q1, q2⟩ := hq
    have q3 : 0 ≤ ((l - s.d) / s.p + 1) * s.c ∧ ((l - s.d) / s.p + 1) * s.c ≤ 1099511627776 + 256 := by
      rw [Int.add_mul, Int.one_mul]; omega
    have q4 : (l - s.d) / s.p ≤ 1099511627776 := by
      have := Int.ediv_le_self (a := l - s.d) s.p (by omega)
      omega
    obtain ⟨q5, q6⟩ := q3
    have h7 : 1 ≤ s.p := by omega
    clear q1 q2
    go_enter Tryd.func66, Tryd.ntmps66
    go_wp2_with fail
    go_quiet (fail)
    go_wp2_with fail
    go_ret
    refine ⟨rfl, ?_⟩
    repeat (first | exact Gr.refl _ | apply Gr.alloc | apply Gr.drew | apply Gr.drewN | (refine Gr.setCell ?_ (by simp) _) | (refine Gr.trans ?_ (by assumption)))

set_option maxHeartbeats 800000 in
theorem dcheckTasks_yes (a : Option Addr) (l : List Tsk) (c : Nat) (n : Int) (w : World) (hl : TsksAt w a l) (h : chkT l n = none) :
    Calls Tryd.prog 65 #[.slice a l.length c, .int .i64 n] w fun e w' => e = .returned .nilIface ∧ Gr w w' := by
  obtain ⟨h1, h3⟩ := chkT_none h
  clear h
  replace h1 := Lib.hid h1
  go_enter Tryd.func65, Tryd.ntmps65
  go_wp2_with fail
  refine (tasks_yes a l c _ hl h1.out).mono ?_
  rintro e wa ⟨rfl, ga⟩
  obtain ⟨ca, fa, sa⟩ := ga.cells
  try simp only [size_drewN] at ca fa sa
  try simp only [World.size_alloc] at ca fa sa
  try simp only [World.size_drew] at ca fa sa
  try simp only [World.size_setCell] at ca fa sa
  go_wp2_with fail
  refine (length_yes n _ h3).mono ?_
  rintro e wb ⟨rfl, rfl⟩
  go_wp2_with fail
  go_ret
  exact ⟨rfl, ga.alloc _⟩

set_option maxHeartbeats 800000 in
theorem dcheckTasks_no {G : List Nat} {E : Nat → Addr} (a : Option Addr) (l : List Tsk) (c : Nat) (n : Int) (w : World) (hE : EAt G E w) (i1 : 4 ∈ G) (i2 : 2 ∈ G) (hl : TsksAt w a l) (hm : l.length ≤ maxLen) (g : Nat) (h : chkT l n = some g) :
    Calls Tryd.prog 65 #[.slice a l.length c, .int .i64 n] w fun e w' => e = .returned (.iface 146 (.pointer (some (E g)))) ∧ Gr w w' := by
  unfold chkT at h
  split at h
  · rename_i h1
    replace h1 := Lib.hid h1
    obtain rfl := Option.some.inj h
    clear h
    go_enter Tryd.func65, Tryd.ntmps65
    go_wp2_with fail
    refine (tasks_no a l c _ hE i1 hl hm h1.out).mono ?_
    rintro e wa ⟨rfl, ga⟩
    obtain ⟨ca, fa, sa⟩ := ga.cells
    try simp only [size_drewN] at ca fa sa
    try simp only [World.size_alloc] at ca fa sa
    try simp only [World.size_drew] at ca fa sa
    try simp only [World.size_setCell] at ca fa sa
    go_wp2_with fail
    go_ret
    exact ⟨rfl, ga.alloc _⟩
  · rename_i h1
    have h1 : tasksOk l = true := by simpa using h1
    replace h1 := Lib.hid h1
    split at h
    · rename_i h3
      obtain rfl := Option.some.inj h
      clear h
      have h3 : ¬ LenOk n := by unfold LenOk; omega
      replace h3 := Lib.hid h3
      go_enter Tryd.func65, Tryd.ntmps65
      go_wp2_with fail
      refine (tasks_yes a l c _ hl h1.out).mono ?_
      rintro e wa ⟨rfl, ga⟩
      obtain ⟨ca, fa, sa⟩ := ga.cells
      try simp only [size_drewN] at ca fa sa
      try simp only [World.size_alloc] at ca fa sa
      try simp only [World.size_drew] at ca fa sa
      try simp only [World.size_setCell] at ca fa sa
      go_wp2_with fail
      refine (length_no n _ (hE.gr (ga.alloc _)) i2 h3.out).mono ?_
      rintro e wb ⟨rfl, rfl⟩
      go_wp2_with fail
      go_ret
      exact ⟨rfl, ga.alloc _⟩
    · cases h

theorem tsksAt_one {w : World} {b : Nat} {s : Tsk} (hb : b < w.heap.size) (h0 : w.cell? ⟨b, 0, none⟩ = some (.int .i64 s.c)) (h1 : w.cell? ⟨b, 1, none⟩ = some (.int .i64 s.p)) (h2 : w.cell? ⟨b, 2, none⟩ = some (.int .i64 s.d)) (h3 : w.cell? ⟨b, 3, none⟩ = some (.int .i64 s.s)) : TsksAt w (some ⟨b, 0, none⟩) [s] := by
  intro i x hx
  match i, hx with
  | 0, hx => obtain rfl := Option.some.inj hx; exact ⟨b, 0, rfl, hb, h0, h1, h2, h3⟩

/-- What is wrong with one task and a length. -/
def chkT1 (s : Tsk) (n : Int) : Option Nat := if s.leg = false then some 4 else if n < 0 ∨ 1099511627776 < n then some 2 else none
theorem chkT1_eq (s : Tsk) (n : Int) : chkT [s] n = chkT1 s n := by
  unfold chkT chkT1 tasksOk allLegT
  simp
theorem chkT1_none {s : Tsk} {n : Int} (h1 : s.leg = true) (h2 : LenOk n) : chkT1 s n = none := by
  unfold chkT1; rw [if_neg (by rw [h1]; decide), if_neg (by unfold LenOk at h2; omega)]
theorem chkT1_of {s : Tsk} {n : Int} (h : chkT1 s n = none) : LegT s ∧ LenOk n := by
  rw [← chkT1_eq] at h
  have := chkT_none h
  exact ⟨(tasksOk_parts this.1).1 s (List.mem_singleton.2 rfl), this.2⟩

end Go.Proofs.YtmookdgeblcjnaaDoor
