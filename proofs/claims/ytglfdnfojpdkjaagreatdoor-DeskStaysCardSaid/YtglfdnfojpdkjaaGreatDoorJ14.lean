/- Package demand: the tasks. -/
import Derived.Test.YtglfdnfojpdkjaaGreatDoorJ10
import Derived.Test.YtglfdnfojpdkjaaGreatDoorJ8
import Derived.Lib.MinMax
namespace Go.Proofs.YtglfdnfojpdkjaaGreatDoor
open Go.RowKit

/-- What is wrong with tasks and a length. -/
def chkT (l : List Tsk) (n : Int) : Option Nat := if tasksOk l = false then some 6 else if n < 0 ∨ 1099511627776 < n then some 2 else none
theorem chkT_none {l : List Tsk} {n : Int} (h : chkT l n = none) : tasksOk l = true ∧ LenOk n := by
  unfold chkT at h
  split at h
  · cases h
  · split at h
    · cases h
    · rename_i h1 h2
      exact ⟨by simpa using h1, by unfold LenOk; omega⟩
theorem tasksOk_parts {l : List Tsk} (h : tasksOk l = true) : (∀ t ∈ l, LegT t) ∧ l.length ≤ 8 := by
  simp only [tasksOk, Bool.and_eq_true, decide_eq_true_eq] at h
  exact ⟨fun t ht => (Tsk.leg_iff t).1 (List.all_eq_true.1 h.1 t ht), h.2⟩

set_option maxHeartbeats 400000 in
theorem task_any (s : Tsk) (l : Int) (w : World) (hs : LegT s) (hl : LenOk l) :
    Calls Tryz.prog 165 #[.agg #[.int .i64 s.c, .int .i64 s.p, .int .i64 s.d, .int .i64 s.s], .int .i64 l] w fun e w' => e = .returned (.int .i64 (taskI s l)) ∧ Gr w w' := by
  obtain ⟨h1, h2, h3, h4, h5, h6⟩ := hs
  obtain ⟨l1, l2⟩ := hl
  unfold taskI
  by_cases hd : l < s.d
  · rw [if_pos hd]
    go_enter Tryz.func165, Tryz.ntmps165
    go_wp2_with fail
    go_ret
    refine ⟨rfl, ?_⟩
    repeat (first | exact Gr.refl _ | apply Gr.alloc | apply Gr.drew | apply Gr.drewN | (refine Gr.setCell ?_ (by simp) _) | (refine Gr.trans ?_ (by assumption)))
  · rw [if_neg hd]
    have hq := quo_mul_le (l := l - s.d) (q := s.c) (t := s.p) (by omega) (by omega) (by omega) (by omega)
    obtain ⟨q0, q1, q2⟩ := hq
    have q3 : 0 ≤ ((l - s.d) / s.p + 1) * s.c ∧ ((l - s.d) / s.p + 1) * s.c ≤ 1099511627776 + 256 := by
      rw [Int.add_mul, Int.one_mul]; omega
    have q4 : (l - s.d) / s.p ≤ 1099511627776 := by
      have := Int.ediv_le_self (a := l - s.d) s.p (by omega)
      omega
    obtain ⟨q5, q6⟩ := q3
    have h7 : 1 ≤ s.p := by omega
    clear q1 q2
    go_enter Tryz.func165, Tryz.ntmps165
    go_wp2_with fail
    go_quiet (fail)
    go_wp2_with fail
    go_ret
    refine ⟨rfl, ?_⟩
    repeat (first | exact Gr.refl _ | apply Gr.alloc | apply Gr.drew | apply Gr.drewN | (refine Gr.setCell ?_ (by simp) _) | (refine Gr.trans ?_ (by assumption)))

set_option maxHeartbeats 800000 in
theorem dcheckTasks_yes (a : Option Addr) (l : List Tsk) (c : Nat) (n : Int) (w : World) (hl : TsksAt w a l) (h : chkT l n = none) :
    Calls Tryz.prog 164 #[.slice a l.length c, .int .i64 n] w fun e w' => e = .returned .nilIface ∧ Gr w w' := by
  obtain ⟨h1, h3⟩ := chkT_none h
  clear h
  replace h1 := Lib.hid h1
  go_enter Tryz.func164, Tryz.ntmps164
  go_wp2_with fail
  refine (tasks_yes a l c _ hl h1.out).mono ?_
  rintro e wa ⟨rfl, ga⟩
  obtain ⟨ca, fa, sa⟩ := ga.cells
  try simp only [size_drewN] at ca fa sa
  try simp only [World.size_alloc] at ca fa sa
  try simp only [World.size_drew] at ca fa sa
  try simp only [World.size_setCell] at ca fa sa
  go_wp2_with fail
  refine (length_yes n _ h3).mono ?_
  rintro e wb ⟨rfl, rfl⟩
  go_wp2_with fail
  go_ret
  exact ⟨rfl, ga.alloc _⟩

set_option maxHeartbeats 800000 in
theorem dcheckTasks_no {G : List Nat} {E : Nat → Addr} (a : Option Addr) (l : List Tsk) (c : Nat) (n : Int) (w : World) (hE : EAt G E w) (i1 : 6 ∈ G) (i2 : 2 ∈ G) (hl : TsksAt w a l) (hm : l.length ≤ maxLen) (g : Nat) (h : chkT l n = some g) :
    Calls Tryz.prog 164 #[.slice a l.length c, .int .i64 n] w fun e w' => e = .returned (.iface 258 (.pointer (some (E g)))) ∧ Gr w w' := by
  unfold chkT at h
  split at h
  · rename_i h1
    replace h1 := Lib.hid h1
    obtain rfl := Option.some.inj h
    clear h
    go_enter Tryz.func164, Tryz.ntmps164
    go_wp2_with fail
    refine (tasks_no a l c _ hE i1 hl hm h1.out).mono ?_
    rintro e wa ⟨rfl, ga⟩
    obtain ⟨ca, fa, sa⟩ := ga.cells
    try simp only [size_drewN] at ca fa sa
    try simp only [World.size_alloc] at ca fa sa
    try simp only [World.size_drew] at ca fa sa
    try simp only [World.size_setCell] at ca fa sa
    go_wp2_with fail
    go_ret
    exact ⟨rfl, ga.alloc _⟩
  · rename_i h1
    have h1 : tasksOk l = true := by simpa using h1
    replace h1 := Lib.hid h1
    split at h
    · rename_i h3
      obtain rfl := Option.some.inj h
      clear h
      have h3 : ¬ LenOk n := by unfold LenOk; omega
      replace h3 := Lib.hid h3
      go_enter Tryz.func164, Tryz.ntmps164
      go_wp2_with fail
      refine (tasks_yes a l c _ hl h1.out).mono ?_
      rintro e wa ⟨rfl, ga⟩
      obtain ⟨ca, fa, sa⟩ := ga.cells
      try simp only [size_drewN] at ca fa sa
      try simp only [World.size_alloc] at ca fa sa
      try simp only [World.size_drew] at ca fa sa
      try simp only [World.size_setCell] at ca fa sa
      go_wp2_with fail
      refine (length_no n _ (hE.gr (ga.alloc _)) i2 h3.out).mono ?_
      rintro e wb ⟨rfl, rfl⟩
      go_wp2_with fail
      go_ret
      exact ⟨rfl, ga.alloc _⟩
    · cases h

theorem tsksAt_one {w : World} {b : Nat} {s : Tsk} (hb : b < w.heap.size) (h0 : w.cell? ⟨b, 0, none⟩ = some (.int .i64 s.c)) (h1 : w.cell? ⟨b, 1, none⟩ = some (.int .i64 s.p)) (h2 : w.cell? ⟨b, 2, none⟩ = some (.int .i64 s.d)) (h3 : w.cell? ⟨b, 3, none⟩ = some (.int .i64 s.s)) : TsksAt w (some ⟨b, 0, none⟩) [s] := by
  intro i x hx
  match i, hx with
  | 0, hx => obtain rfl := Option.some.inj hx; exact ⟨b, 0, rfl, hb, h0, h1, h2, h3⟩

/-- What is wrong with one task and a length. -/
def chkT1 (s : Tsk) (n : Int) : Option Nat := if s.leg = false then some 6 else if n < 0 ∨ 1099511627776 < n then some 2 else none
theorem chkT1_eq (s : Tsk) (n : Int) : chkT [s] n = chkT1 s n := by
  unfold chkT chkT1 tasksOk allLegT
  simp
theorem chkT1_none {s : Tsk} {n : Int} (h1 : s.leg = true) (h2 : LenOk n) : chkT1 s n = none := by
  unfold chkT1; rw [if_neg (by rw [h1]; decide), if_neg (by unfold LenOk at h2; omega)]
theorem chkT1_of {s : Tsk} {n : Int} (h : chkT1 s n = none) : LegT s ∧ LenOk n := by
  rw [← chkT1_eq] at h
  have := chkT_none h
  exact ⟨(tasksOk_parts this.1).1 s (List.mem_singleton.2 rfl), this.2⟩

end Go.Proofs.YtglfdnfojpdkjaaGreatDoor
/- demand.Tasks, demand.Until; the reference's Task, Tasks, Until. -/
namespace Go.Proofs.YtglfdnfojpdkjaaGreatDoor
open Go.RowKit

/-- What may block; the demand of tasks. -/
def blkI (l : List Tsk) (n : Int) : Int := l.foldl (fun b t => if n < t.d then max b (t.s - 1) else b) 0
theorem blkI_snoc (l : List Tsk) (t : Tsk) (n : Int) : blkI (l ++ [t]) n = if n < t.d then max (blkI l n) (t.s - 1) else blkI l n := by unfold blkI; rw [List.foldl_append]; rfl
def tsumI (l : List Tsk) (n : Int) : Int := sumI (fun t => taskI t n) l
def tasksI (l : List Tsk) (n : Int) : Int := if tsumI l n = 0 then 0 else tsumI l n + blkI l n
/-- The first tasks' requests, and what may block them, behind k tasks. -/
def untP (l : List Tsk) (i n : Int) : Nat → Int × Int
  | 0 => (0, 0)
  | k + 1 => match l[k]? with
    | none => untP l i n k
    | some t => if (k : Int) ≤ i then ((untP l i n k).1 + upI n t.p * t.c, (untP l i n k).2) else ((untP l i n k).1, max (untP l i n k).2 (t.s - 1))
theorem untP_le {l : List Tsk} {i n : Int} {k : Nat} {t : Tsk} (h : l[k]? = some t) (hk : (k : Int) ≤ i) : untP l i n (k + 1) = ((untP l i n k).1 + upI n t.p * t.c, (untP l i n k).2) := by rw [untP, h]; exact if_pos hk
theorem untP_gt {l : List Tsk} {i n : Int} {k : Nat} {t : Tsk} (h : l[k]? = some t) (hk : ¬ (k : Int) ≤ i) : untP l i n (k + 1) = ((untP l i n k).1, max (untP l i n k).2 (t.s - 1)) := by rw [untP, h]; exact if_neg hk
theorem legT_mem {l : List Tsk} (h : tasksOk l = true) {k : Nat} {t : Tsk} (ht : l[k]? = some t) : LegT t := (tasksOk_parts h).1 t (get_mem ht)
theorem untP_bd {l : List Tsk} {i n : Int} (h : tasksOk l = true) (hn : LenOk n) (k : Nat) : 0 ≤ (untP l i n k).1 ∧ (untP l i n k).1 ≤ k * (1099511627776 + 512) ∧ 0 ≤ (untP l i n k).2 ∧ (untP l i n k).2 ≤ 256 := by
  induction k with
  | zero => exact ⟨Int.le_refl _, by simp [untP], Int.le_refl _, by simp [untP]⟩
  | succ k ih =>
    cases ht : l[k]? with
    | none => rw [untP, ht]; refine ⟨ih.1, ?_, ih.2.2⟩; have := ih.2.1; push_cast; rw [Int.add_mul]; omega
    | some t =>
      obtain ⟨h1, h2, h3, h4, h5, h6⟩ := legT_mem h ht
      have := up_mul_le hn.1 (show 0 ≤ t.c by omega) (show 1 ≤ t.p by omega) (show t.c ≤ t.p by omega)
      have hn2 := hn.2
      have e : ((k + 1 : Nat) : Int) * (1099511627776 + 512) = k * (1099511627776 + 512) + (1099511627776 + 512) := by push_cast; rw [Int.add_mul]; omega
      rw [e]
      by_cases hk : (k : Int) ≤ i
      · rw [untP_le ht hk]; exact ⟨by dsimp only; omega, by dsimp only; omega, ih.2.2⟩
      · rw [untP_gt ht hk]; exact ⟨ih.1, by dsimp only; omega, by dsimp only; omega, by dsimp only; omega⟩
theorem tsumI_bd {l : List Tsk} (h : tasksOk l = true) {n : Int} (hn : LenOk n) (k : Nat) : 0 ≤ tsumI (l.take k) n ∧ tsumI (l.take k) n ≤ 8 * (1099511627776 + 256) := by
  have hp := tasksOk_parts h
  have := sumI_bd (fun t => taskI t n) (l.take k) (1099511627776 + 256) (fun x hx => task_bd (hp.1 x (List.mem_of_mem_take hx)) hn)
  have hl : (l.take k).length ≤ 8 := by rw [List.length_take]; omega
  unfold tsumI
  omega
theorem blkI_bd {l : List Tsk} (h : tasksOk l = true) {n : Int} (k : Nat) : 0 ≤ blkI (l.take k) n ∧ blkI (l.take k) n ≤ 256 := by
  induction k with
  | zero => rw [List.take_zero]; exact ⟨Int.le_refl _, by simp [blkI]⟩
  | succ k ih =>
    cases ht : l[k]? with
    | none => rw [List.take_add_one, ht]; simpa using ih
    | some t =>
      obtain ⟨h1, h2, h3, h4, h5, h6⟩ := legT_mem h ht
      rw [take_snoc ht, blkI_snoc]
      split <;> omega

set_option maxHeartbeats 800000 in
theorem dtasks_yes (a : Option Addr) (l : List Tsk) (c : Nat) (n : Int) (w : World) (hl : TsksAt w a l) (h : chkT l n = none) :
    Calls Tryz.prog 145 #[.slice a l.length c, .int .i64 n] w fun e w' => e = .returned (.tuple #[.int .i64 (tasksI l n), .nilIface]) ∧ Gr w w' := by
  obtain ⟨h1, h3⟩ := chkT_none h
  have h8 := (tasksOk_parts h1).2
  have hn := h3
  obtain ⟨hn1, hn2⟩ := hn
  replace h := Lib.hid h
  replace h1 := Lib.hid h1
  unfold tasksI
  go_enter Tryz.func145, Tryz.ntmps145
  go_wp2_with fail
  refine (dcheckTasks_yes a l c n _ hl h.out).mono ?_
  rintro e wa ⟨rfl, ga⟩
  obtain ⟨ca, fa, sa⟩ := ga.cells
  try simp only [size_drewN] at ca fa sa
  try simp only [World.size_alloc] at ca fa sa
  try simp only [World.size_drew] at ca fa sa
  try simp only [World.size_setCell] at ca fa sa
  go_wp2_with fail
  go_loopw [19, 7, 8] (fun i v b wr => ∃ k : Nat, k ≤ l.length ∧ i = .int .i64 k ∧ v = .int .i64 (tsumI (l.take k) n) ∧ b = .int .i64 (blkI (l.take k) n) ∧ Gr w wr) (fun i _ _ _ => l.length - (intOf i).toNat)
  case atStart => exact ⟨0, Nat.zero_le _, rfl, rfl, rfl, ga⟩
  case round =>
    obtain ⟨k, hk, rfl, rfl, rfl, hg⟩ := hrel
    obtain ⟨sb1, sb2⟩ := tsumI_bd h1.out h3 k
    obtain ⟨bb1, bb2⟩ := blkI_bd h1.out (n := n) k
    by_cases hlt : k < l.length
    · obtain ⟨s, hs⟩ := get_some l k hlt
      obtain ⟨b, off, rfl, hb, c0, c1, c2, c3⟩ := (hl.gr hg) k s hs
      have hleg := legT_mem h1.out hs
      obtain ⟨bd1, bd2⟩ := task_bd hleg h3
      have hsn : tsumI (l.take (k + 1)) n = tsumI (l.take k) n + taskI s n := by unfold tsumI; rw [take_snoc hs, sumI_snoc]
      have hbn : blkI (l.take (k + 1)) n = if n < s.d then max (blkI (l.take k) n) (s.s - 1) else blkI (l.take k) n := by rw [take_snoc hs, blkI_snoc]
      have hl2 := hleg
      obtain ⟨g1, g2, g3, g4, g5, g6⟩ := hl2
      replace hsn := Lib.hid hsn
      generalize tsumI (l.take k) n = m at *
      generalize blkI (l.take k) n = q at *
      by_cases hd : n < s.d
      · rw [if_pos hd] at hbn
        replace hbn := Lib.hid hbn
        go_wp2_with fail
        refine (task_any s n _ hleg h3).mono ?_
        rintro e wd ⟨rfl, gd⟩
        obtain ⟨cd, fd, sd⟩ := gd.cells
        try simp only [size_drewN] at cd fd sd
        try simp only [World.size_alloc] at cd fd sd
        try simp only [World.size_drew] at cd fd sd
        try simp only [World.size_setCell] at cd fd sd
        have zd0 : wr.heap.size < wd.heap.size := by omega
        have yd0 : wr.heap.size ≤ wd.heap.size := by omega
        have kd0 := fun o => cd (wr.heap.size) o (by omega)
        have jd0 := fun o => fd (wr.heap.size) o (by omega)
        go_wp2_with fail
        go_roundw
        case rel => exact ⟨k + 1, by omega, by go_num, by rw [hsn.out], by rw [hbn.out], (hg.alloc _).trans gd⟩
        case measure => simp [intOf]; omega
      · rw [if_neg hd] at hbn
        replace hbn := Lib.hid hbn
        go_wp2_with fail
        refine (task_any s n _ hleg h3).mono ?_
        rintro e wd ⟨rfl, gd⟩
        obtain ⟨cd, fd, sd⟩ := gd.cells
        try simp only [size_drewN] at cd fd sd
        try simp only [World.size_alloc] at cd fd sd
        try simp only [World.size_drew] at cd fd sd
        try simp only [World.size_setCell] at cd fd sd
        have zd0 : wr.heap.size < wd.heap.size := by omega
        have yd0 : wr.heap.size ≤ wd.heap.size := by omega
        have kd0 := fun o => cd (wr.heap.size) o (by omega)
        have jd0 := fun o => fd (wr.heap.size) o (by omega)
        go_wp2_with fail
        go_roundw
        case rel => exact ⟨k + 1, by omega, by go_num, by rw [hsn.out], by rw [hbn.out], (hg.alloc _).trans gd⟩
        case measure => simp [intOf]; omega
    · have hall : l.take k = l := List.take_of_length_le (by omega)
      rw [hall] at sb1 sb2 bb1 bb2 ⊢
      by_cases h0 : tsumI l n = 0
      · have q0 : (tsumI l n == 0) = true := by simpa using h0
        replace h0 := Lib.hid h0
        go_wp2_with fail
        go_ret2
        exact ⟨rfl, hg⟩
      · have q0 : (tsumI l n == 0) = false := by simpa using h0
        replace h0 := Lib.hid h0
        go_wp2_with fail
        go_ret2
        exact ⟨rfl, hg⟩

set_option maxHeartbeats 800000 in
theorem dtasks_no {G : List Nat} {E : Nat → Addr} (a : Option Addr) (l : List Tsk) (c : Nat) (n : Int) (w : World) (hE : EAt G E w) (i1 : 6 ∈ G) (i2 : 2 ∈ G) (hl : TsksAt w a l) (hm : l.length ≤ maxLen) (g : Nat) (h : chkT l n = some g) :
    Calls Tryz.prog 145 #[.slice a l.length c, .int .i64 n] w fun e w' => e = .returned (.tuple #[.int .i64 0, .iface 258 (.pointer (some (E g)))]) ∧ Gr w w' := by
  replace h := Lib.hid h
  go_enter Tryz.func145, Tryz.ntmps145
  go_wp2_with fail
  refine (dcheckTasks_no a l c n _ hE i1 i2 hl hm g h.out).mono ?_
  rintro e wa ⟨rfl, ga⟩
  obtain ⟨ca, fa, sa⟩ := ga.cells
  try simp only [size_drewN] at ca fa sa
  try simp only [World.size_alloc] at ca fa sa
  try simp only [World.size_drew] at ca fa sa
  try simp only [World.size_setCell] at ca fa sa
  go_wp2_with fail
  go_ret2
  exact ⟨rfl, ga⟩

set_option maxHeartbeats 800000 in
theorem until_yes (a : Option Addr) (l : List Tsk) (c : Nat) (i n : Int) (w : World) (hl : TsksAt w a l) (h1 : tasksOk l = true) (h3 : LenOk n) (hi0 : 0 ≤ i) (hi1 : i < l.length) :
    Calls Tryz.prog 163 #[.slice a l.length c, .int .i64 i, .int .i64 n] w fun e w' => e = .returned (.tuple #[.int .i64 ((untP l i n l.length).1 + (untP l i n l.length).2), .nilIface]) ∧ Gr w w' := by
  have h8 := (tasksOk_parts h1).2
  have hn := h3
  obtain ⟨hn1, hn2⟩ := hn
  replace h1 := Lib.hid h1
  go_enter Tryz.func163, Tryz.ntmps163
  go_wp2_with fail
  refine (tasks_yes a l c _ hl h1.out).mono ?_
  rintro e wa ⟨rfl, ga⟩
  obtain ⟨ca, fa, sa⟩ := ga.cells
  try simp only [size_drewN] at ca fa sa
  try simp only [World.size_alloc] at ca fa sa
  try simp only [World.size_drew] at ca fa sa
  try simp only [World.size_setCell] at ca fa sa
  go_wp2_with fail
  refine (length_yes n _ h3).mono ?_
  rintro e wb ⟨rfl, rfl⟩
  go_wp2_with fail
  go_loopw [40, 11, 12] (fun iv v b wr => ∃ k : Nat, k ≤ l.length ∧ iv = .int .i64 k ∧ v = .int .i64 (untP l i n k).1 ∧ b = .int .i64 (untP l i n k).2 ∧ Gr w wr) (fun i _ _ _ => l.length - (intOf i).toNat)
  case atStart => exact ⟨0, Nat.zero_le _, rfl, rfl, rfl, ga.alloc _⟩
  case round =>
    obtain ⟨k, hk, rfl, rfl, rfl, hg⟩ := hrel
    obtain ⟨sb1, sb2, bb1, bb2⟩ := untP_bd (i := i) h1.out h3 k
    by_cases hlt : k < l.length
    · obtain ⟨s, hs⟩ := get_some l k hlt
      obtain ⟨b, off, rfl, hb, c0, c1, c2, c3⟩ := (hl.gr hg) k s hs
      obtain ⟨g1, g2, g3, g4, g5, g6⟩ := legT_mem h1.out hs
      have p1 : 1 ≤ s.p := by omega
      obtain ⟨u1, u2, u3⟩ := up_mul_le hn1 (show 0 ≤ s.c by omega) p1 (show s.c ≤ s.p by omega)
      have hk8 : (k : Int) ≤ 8 := by omega
      by_cases hd : (k : Int) ≤ i
      · have hst := untP_le (n := n) hs hd
        replace hst := Lib.hid hst
        generalize untP l i n k = m at *
        obtain ⟨m1, m2⟩ := m
        dsimp only at sb1 sb2 bb1 bb2 ⊢
        have r0 := GrW.cell (w := wr.alloc (.cells #[.int .i64 s.c, .int .i64 s.p, .int .i64 s.d, .int .i64 s.s] 115)) (b := wr.heap.size) (o := 0) (v := .int .i64 s.c) (by simp [go_sem])
        have r1 := GrW.cell (w := wr.alloc (.cells #[.int .i64 s.c, .int .i64 s.p, .int .i64 s.d, .int .i64 s.s] 115)) (b := wr.heap.size) (o := 1) (v := .int .i64 s.p) (by simp [go_sem])
        go_wp2_with fail
        refine wp_region_grows (by kernel_rfl) (by kernel_rfl) ?_
        repeat (any_goals (first | go_big_quiet_step (first | (go_at_call 174; exact Calls.grows_same (up_any n s.p _ hn1 hn2 p1 g4))) | quiet_step (first | (go_at_call 174; exact Calls.grows_same (up_any n s.p _ hn1 hn2 p1 g4)))))
        refine wpQuiet_nil ?_
        intro wf hwq
        have gf := GrW.of hwq
        clear hwq
        obtain ⟨cf, ff, sf⟩ := gf.cells
        try simp only [size_drewN] at cf ff sf
        try simp only [World.size_alloc] at cf ff sf
        try simp only [World.size_drew] at cf ff sf
        try simp only [World.size_setCell] at cf ff sf
        have zf0 : wr.heap.size < wf.heap.size := by omega
        have yf0 : wr.heap.size ≤ wf.heap.size := by omega
        have kf0 := fun o => cf (wr.heap.size) o (by omega)
        have jf0 := fun o => ff (wr.heap.size) o (by omega)
        go_wp2_with fail
        go_roundw
        case rel => exact ⟨k + 1, by omega, by go_num, by rw [hst.out], by rw [hst.out], (hg.alloc _).trans gf⟩
        case measure => simp [intOf]; omega
      · have hst := untP_gt (n := n) hs hd
        replace hst := Lib.hid hst
        generalize untP l i n k = m at *
        obtain ⟨m1, m2⟩ := m
        dsimp only at sb1 sb2 bb1 bb2 ⊢
        go_wp2_with fail
        go_roundw
        case rel => exact ⟨k + 1, by omega, by go_num, by rw [hst.out], by rw [hst.out], hg.alloc _⟩
        case measure => simp [intOf]; omega
    · obtain rfl : k = l.length := by omega
      go_wp2_with fail
      go_ret2
      exact ⟨rfl, hg⟩

/-- What is wrong with tasks, a place and a length. -/
def chkU (l : List Tsk) (i n : Int) : Option Nat := if tasksOk l = false then some 6 else if (n < 0 ∨ 1099511627776 < n) ∨ i < 0 ∨ (l.length : Int) ≤ i then some 2 else none

set_option maxHeartbeats 800000 in
theorem until_no {G : List Nat} {E : Nat → Addr} (a : Option Addr) (l : List Tsk) (c : Nat) (i n : Int) (w : World) (hE : EAt G E w) (i1 : 6 ∈ G) (i2 : 2 ∈ G) (hl : TsksAt w a l) (hm : l.length ≤ maxLen) (g : Nat) (h : chkU l i n = some g) :
    Calls Tryz.prog 163 #[.slice a l.length c, .int .i64 i, .int .i64 n] w fun e w' => e = .returned (.tuple #[.int .i64 0, .iface 258 (.pointer (some (E g)))]) ∧ Gr w w' := by
  unfold chkU at h
  split at h
  · rename_i h1
    obtain rfl := Option.some.inj h
    replace h1 := Lib.hid h1
    replace h := Lib.hid h
    go_enter Tryz.func163, Tryz.ntmps163
    go_wp2_with fail
    refine (tasks_no a l c _ hE i1 hl hm h1.out).mono ?_
    rintro e wa ⟨rfl, ga⟩
    obtain ⟨ca, fa, sa⟩ := ga.cells
    try simp only [size_drewN] at ca fa sa
    try simp only [World.size_alloc] at ca fa sa
    try simp only [World.size_drew] at ca fa sa
    try simp only [World.size_setCell] at ca fa sa
    go_wp2_with fail
    go_ret2
    exact ⟨rfl, ga.alloc _⟩
  · rename_i h1
    have h1 : tasksOk l = true := by simpa using h1
    have h8 := (tasksOk_parts h1).2
    replace h1 := Lib.hid h1
    split at h
    · rename_i h2
      obtain rfl := Option.some.inj h
      replace h := Lib.hid h
      by_cases hn : LenOk n
      · have hi : i < 0 ∨ (0 ≤ i ∧ (l.length : Int) ≤ i) := by unfold LenOk at hn; omega
        clear h2
        rcases hi with hi | ⟨hi, hi2⟩
        · go_enter Tryz.func163, Tryz.ntmps163
          go_wp2_with fail
          refine (tasks_yes a l c _ hl h1.out).mono ?_
          rintro e wa ⟨rfl, ga⟩
          obtain ⟨ca, fa, sa⟩ := ga.cells
          try simp only [size_drewN] at ca fa sa
          try simp only [World.size_alloc] at ca fa sa
          try simp only [World.size_drew] at ca fa sa
          try simp only [World.size_setCell] at ca fa sa
          have e1 := (hE.gr (ga.alloc (.cells #[.int .u64 (hiW (shareT l).1), .int .u64 (loW (shareT l).1), .int .u64 (hiW (shareT l).2), .int .u64 (loW (shareT l).2)] 136))).c0 i2
          go_wp2_with fail
          refine (length_yes n _ hn).mono ?_
          rintro e wb ⟨rfl, rfl⟩
          go_wp2_with fail
          go_quiet (fail)
          go_wp2_with fail
          go_ret2
          refine ⟨rfl, ?_⟩
          repeat (first | exact Gr.refl _ | apply Gr.alloc | apply Gr.drew | apply Gr.drewN | (refine Gr.setCell ?_ (by simp) _) | (refine Gr.trans ?_ (by assumption)))
        · go_enter Tryz.func163, Tryz.ntmps163
          go_wp2_with fail
          refine (tasks_yes a l c _ hl h1.out).mono ?_
          rintro e wa ⟨rfl, ga⟩
          obtain ⟨ca, fa, sa⟩ := ga.cells
          try simp only [size_drewN] at ca fa sa
          try simp only [World.size_alloc] at ca fa sa
          try simp only [World.size_drew] at ca fa sa
          try simp only [World.size_setCell] at ca fa sa
          have e1 := (hE.gr (ga.alloc (.cells #[.int .u64 (hiW (shareT l).1), .int .u64 (loW (shareT l).1), .int .u64 (hiW (shareT l).2), .int .u64 (loW (shareT l).2)] 136))).c0 i2
          go_wp2_with fail
          refine (length_yes n _ hn).mono ?_
          rintro e wb ⟨rfl, rfl⟩
          go_wp2_with fail
          go_quiet (fail)
          go_wp2_with fail
          go_ret2
          refine ⟨rfl, ?_⟩
          repeat (first | exact Gr.refl _ | apply Gr.alloc | apply Gr.drew | apply Gr.drewN | (refine Gr.setCell ?_ (by simp) _) | (refine Gr.trans ?_ (by assumption)))
      · clear h2
        replace hn := Lib.hid hn
        go_enter Tryz.func163, Tryz.ntmps163
        go_wp2_with fail
        refine (tasks_yes a l c _ hl h1.out).mono ?_
        rintro e wa ⟨rfl, ga⟩
        obtain ⟨ca, fa, sa⟩ := ga.cells
        try simp only [size_drewN] at ca fa sa
        try simp only [World.size_alloc] at ca fa sa
        try simp only [World.size_drew] at ca fa sa
        try simp only [World.size_setCell] at ca fa sa
        have e0 := hE.gr (ga.alloc (.cells #[.int .u64 (hiW (shareT l).1), .int .u64 (loW (shareT l).1), .int .u64 (hiW (shareT l).2), .int .u64 (loW (shareT l).2)] 136))
        have e1 := e0.c0 i2
        go_wp2_with fail
        refine (length_no n _ e0 i2 hn.out).mono ?_
        rintro e wb ⟨rfl, rfl⟩
        go_wp2_with fail
        go_quiet (fail)
        go_wp2_with fail
        go_ret2
        refine ⟨rfl, ?_⟩
        repeat (first | exact Gr.refl _ | apply Gr.alloc | apply Gr.drew | apply Gr.drewN | (refine Gr.setCell ?_ (by simp) _) | (refine Gr.trans ?_ (by assumption)))
    · cases h

set_option maxHeartbeats 800000 in
theorem rtask_any (s : Tsk) (l : Int) (w : World) (hs : LegT s) (hl : LenOk l) :
    Calls Tryz.prog 94 #[.agg #[.int .i64 s.c, .int .i64 s.p, .int .i64 s.d, .int .i64 s.s], .int .i64 l] w fun e w' => e = .returned (.int .i64 (taskI s l)) ∧ Gr w w' := by
  have hb := task_bd hs hl
  obtain ⟨h1, h2, h3, h4, h5, h6⟩ := hs
  have hl0 := hl
  obtain ⟨l1, l2⟩ := hl0
  unfold taskI at hb ⊢
  by_cases hd : l < s.d
  · rw [if_pos hd]
    go_enter Tryz.func94, Tryz.ntmps94
    go_wp2_with fail
    go_ret
    refine ⟨rfl, ?_⟩
    repeat (first | exact Gr.refl _ | apply Gr.alloc | apply Gr.drew | apply Gr.drewN | (refine Gr.setCell ?_ (by simp) _) | (refine Gr.trans ?_ (by assumption)))
  · rw [if_neg hd] at hb ⊢
    have hq := quo_mul_le (l := l - s.d) (q := s.c) (t := s.p) (by omega) (by omega) (by omega) (by omega)
    obtain ⟨q0, q1, q2⟩ := hq
    have e : ((l - s.d) / s.p + 1) * s.c = s.c + s.c * ((l - s.d) / s.p) := by rw [Int.add_mul, Int.one_mul, Int.mul_comm]; omega
    rw [e] at hb ⊢
    rw [Int.mul_comm] at q1 q2
    have p1 : 1 ≤ s.p := by omega
    have hf := fun w => floor_any (l - s.d) s.p w ⟨by omega, by omega⟩ p1 h4
    replace hf := Lib.hid hf
    obtain ⟨hb1, hb2⟩ := hb
    clear e
    have r0 := GrW.cell (w := w.alloc (.cells #[.int .i64 s.c, .int .i64 s.p, .int .i64 s.d, .int .i64 s.s] 115)) (b := w.heap.size) (o := 0) (v := .int .i64 s.c) (by simp [go_sem])
    have r1 := GrW.cell (w := w.alloc (.cells #[.int .i64 s.c, .int .i64 s.p, .int .i64 s.d, .int .i64 s.s] 115)) (b := w.heap.size) (o := 1) (v := .int .i64 s.p) (by simp [go_sem])
    have r2 := GrW.cell (w := w.alloc (.cells #[.int .i64 s.c, .int .i64 s.p, .int .i64 s.d, .int .i64 s.s] 115)) (b := w.heap.size) (o := 2) (v := .int .i64 s.d) (by simp [go_sem])
    go_enter Tryz.func94, Tryz.ntmps94
    go_wp2_with fail
    refine wp_region_grows (by kernel_rfl) (by kernel_rfl) ?_
    repeat (any_goals (first | go_big_quiet_step (first | (go_at_call 107; exact Calls.grows_same (hf.out _))) | quiet_step (first | (go_at_call 107; exact Calls.grows_same (hf.out _)))))
    refine wpQuiet_nil ?_
    intro wf hwq
    have gf := GrW.of hwq
    clear hwq
    obtain ⟨cf, ff, sf⟩ := gf.cells
    try simp only [size_drewN] at cf ff sf
    try simp only [World.size_alloc] at cf ff sf
    try simp only [World.size_drew] at cf ff sf
    try simp only [World.size_setCell] at cf ff sf
    have zf0 : w.heap.size < wf.heap.size := by omega
    have yf0 : w.heap.size ≤ wf.heap.size := by omega
    have kf0 := fun o => cf (w.heap.size) o (by omega)
    have jf0 := fun o => ff (w.heap.size) o (by omega)
    go_wp2_with fail
    go_ret
    refine ⟨rfl, ?_⟩
    repeat (first | exact Gr.refl _ | apply Gr.alloc | apply Gr.drew | apply Gr.drewN | (refine Gr.setCell ?_ (by simp) _) | (refine Gr.trans ?_ (by assumption)))
end Go.Proofs.YtglfdnfojpdkjaaGreatDoor
/- almonerref11: Tasks, Until. -/
namespace Go.Proofs.YtglfdnfojpdkjaaGreatDoor
open Go.RowKit

set_option maxHeartbeats 1600000 in
theorem rtasks11_any (a : Option Addr) (l : List Tsk) (c : Nat) (n : Int) (w : World) (hl : TsksAt w a l) (h1 : tasksOk l = true) (h3 : LenOk n) :
    Calls Tryz.prog 70 #[.slice a l.length c, .int .i64 n] w fun e w' => e = .returned (.int .i64 (tasksI l n)) ∧ Gr w w' := by
  have h8 := (tasksOk_parts h1).2
  have hn := h3
  obtain ⟨hn1, hn2⟩ := hn
  replace h1 := Lib.hid h1
  unfold tasksI
  go_enter Tryz.func70, Tryz.ntmps70
  go_wp2_with fail
  go_loopw [11, 5, 6] (fun i v b wr => ∃ k : Nat, k ≤ l.length ∧ i = .int .i64 k ∧ v = .int .i64 (tsumI (l.take k) n) ∧ b = .int .i64 (blkI (l.take k) n) ∧ Gr w wr) (fun i _ _ _ => l.length - (intOf i).toNat)
  case atStart => exact ⟨0, Nat.zero_le _, rfl, rfl, rfl, Gr.refl _⟩
  case round =>
    obtain ⟨k, hk, rfl, rfl, rfl, hg⟩ := hrel
    obtain ⟨sb1, sb2⟩ := tsumI_bd h1.out h3 k
    obtain ⟨bb1, bb2⟩ := blkI_bd h1.out (n := n) k
    by_cases hlt : k < l.length
    · obtain ⟨s, hs⟩ := get_some l k hlt
      obtain ⟨b, off, rfl, hb, c0, c1, c2, c3⟩ := (hl.gr hg) k s hs
      have hleg := legT_mem h1.out hs
      obtain ⟨bd1, bd2⟩ := task_bd hleg h3
      have hsn : tsumI (l.take (k + 1)) n = tsumI (l.take k) n + taskI s n := by unfold tsumI; rw [take_snoc hs, sumI_snoc]
      have hbn : blkI (l.take (k + 1)) n = if n < s.d then max (blkI (l.take k) n) (s.s - 1) else blkI (l.take k) n := by rw [take_snoc hs, blkI_snoc]
      have hl2 := hleg
      obtain ⟨g1, g2, g3, g4, g5, g6⟩ := hl2
      replace hsn := Lib.hid hsn
      generalize tsumI (l.take k) n = m at *
      generalize blkI (l.take k) n = q at *
      by_cases hd : n < s.d
      · rw [if_pos hd] at hbn
        by_cases hq : q < s.s - 1
        · have hbn2 : blkI (l.take (k + 1)) n = s.s - 1 := by omega
          clear hbn
          replace hbn2 := Lib.hid hbn2
          go_wp2_with fail
          refine (rtask_any s n _ hleg h3).mono ?_
          rintro e wd ⟨rfl, gd⟩
          obtain ⟨cd, fd, sd⟩ := gd.cells
          try simp only [size_drewN] at cd fd sd
          try simp only [World.size_alloc] at cd fd sd
          try simp only [World.size_drew] at cd fd sd
          try simp only [World.size_setCell] at cd fd sd
          have zd0 : wr.heap.size < wd.heap.size := by omega
          have yd0 : wr.heap.size ≤ wd.heap.size := by omega
          have kd0 := fun o => cd (wr.heap.size) o (by omega)
          have jd0 := fun o => fd (wr.heap.size) o (by omega)
          go_wp2_with fail
          go_roundw
          case rel => exact ⟨k + 1, by omega, by go_num, by rw [hsn.out], by rw [hbn2.out], (hg.alloc _).trans gd⟩
          case measure => simp [intOf]; omega
        · have hbn2 : blkI (l.take (k + 1)) n = q := by omega
          clear hbn
          replace hbn2 := Lib.hid hbn2
          go_wp2_with fail
          refine (rtask_any s n _ hleg h3).mono ?_
          rintro e wd ⟨rfl, gd⟩
          obtain ⟨cd, fd, sd⟩ := gd.cells
          try simp only [size_drewN] at cd fd sd
          try simp only [World.size_alloc] at cd fd sd
          try simp only [World.size_drew] at cd fd sd
          try simp only [World.size_setCell] at cd fd sd
          have zd0 : wr.heap.size < wd.heap.size := by omega
          have yd0 : wr.heap.size ≤ wd.heap.size := by omega
          have kd0 := fun o => cd (wr.heap.size) o (by omega)
          have jd0 := fun o => fd (wr.heap.size) o (by omega)
          go_wp2_with fail
          go_roundw
          case rel => exact ⟨k + 1, by omega, by go_num, by rw [hsn.out], by rw [hbn2.out], (hg.alloc _).trans gd⟩
          case measure => simp [intOf]; omega
      · rw [if_neg hd] at hbn
        replace hbn := Lib.hid hbn
        go_wp2_with fail
        refine (rtask_any s n _ hleg h3).mono ?_
        rintro e wd ⟨rfl, gd⟩
        obtain ⟨cd, fd, sd⟩ := gd.cells
        try simp only [size_drewN] at cd fd sd
        try simp only [World.size_alloc] at cd fd sd
        try simp only [World.size_drew] at cd fd sd
        try simp only [World.size_setCell] at cd fd sd
        have zd0 : wr.heap.size < wd.heap.size := by omega
        have yd0 : wr.heap.size ≤ wd.heap.size := by omega
        have kd0 := fun o => cd (wr.heap.size) o (by omega)
        have jd0 := fun o => fd (wr.heap.size) o (by omega)
        go_wp2_with fail
        go_roundw
        case rel => exact ⟨k + 1, by omega, by go_num, by rw [hsn.out], by rw [hbn.out], (hg.alloc _).trans gd⟩
        case measure => simp [intOf]; omega
    · have hall : l.take k = l := List.take_of_length_le (by omega)
      rw [hall] at sb1 sb2 bb1 bb2 ⊢
      by_cases h0 : tsumI l n = 0
      · rw [h0] at sb1 sb2 ⊢
        replace h0 := Lib.hid h0
        go_wp2_with fail
        go_ret
        exact ⟨rfl, hg⟩
      · have q0 : 0 < tsumI l n := by omega
        replace h0 := Lib.hid h0
        go_wp2_with fail
        go_ret
        exact ⟨rfl, hg⟩

set_option maxHeartbeats 1600000 in
theorem runtil11_any (a : Option Addr) (l : List Tsk) (c : Nat) (i n : Int) (w : World) (hl : TsksAt w a l) (h1 : tasksOk l = true) (h3 : LenOk n) (hi0 : 0 ≤ i) (hi1 : i < l.length) :
    Calls Tryz.prog 85 #[.slice a l.length c, .int .i64 i, .int .i64 n] w fun e w' => e = .returned (.int .i64 ((untP l i n l.length).1 + (untP l i n l.length).2)) ∧ Gr w w' := by
  have h8 := (tasksOk_parts h1).2
  have hn := h3
  obtain ⟨hn1, hn2⟩ := hn
  replace h1 := Lib.hid h1
  go_enter Tryz.func85, Tryz.ntmps85
  go_wp2_with fail
  go_loopw [14, 7, 8] (fun iv v b wr => ∃ k : Nat, k ≤ l.length ∧ iv = .int .i64 k ∧ v = .int .i64 (untP l i n k).1 ∧ b = .int .i64 (untP l i n k).2 ∧ Gr w wr) (fun i _ _ _ => l.length - (intOf i).toNat)
  case atStart => exact ⟨0, Nat.zero_le _, rfl, rfl, rfl, Gr.refl _⟩
  case round =>
    obtain ⟨k, hk, rfl, rfl, rfl, hg⟩ := hrel
    obtain ⟨sb1, sb2, bb1, bb2⟩ := untP_bd (i := i) h1.out h3 k
    by_cases hlt : k < l.length
    · obtain ⟨s, hs⟩ := get_some l k hlt
      obtain ⟨b, off, rfl, hb, c0, c1, c2, c3⟩ := (hl.gr hg) k s hs
      obtain ⟨g1, g2, g3, g4, g5, g6⟩ := legT_mem h1.out hs
      have p1 : 1 ≤ s.p := by omega
      obtain ⟨u1, u2, u3⟩ := up_mul_le hn1 (show 0 ≤ s.c by omega) p1 (show s.c ≤ s.p by omega)
      have hk8 : (k : Int) ≤ 8 := by omega
      by_cases hd : (k : Int) ≤ i
      · have hst := untP_le (n := n) hs hd
        rw [up_floor p1] at u1 u2 u3 hst
        obtain ⟨q3, q4, q5⟩ := quo_mul_le hn1 (show 0 ≤ s.p by omega) p1 (Int.le_refl _)
        have q6 : n / s.p ≤ n := Int.ediv_le_self _ hn1
        have hf := fun w => floor_any n s.p w h3 p1 g4
        generalize n / s.p = x at *
        replace hf := Lib.hid hf
        generalize untP l i n k = m at *
        obtain ⟨m1, m2⟩ := m
        dsimp only at sb1 sb2 bb1 bb2 hst ⊢
        by_cases hx : x * s.p < n
        · rw [if_pos hx] at u1 u2 u3 hst
          replace hst := Lib.hid hst
          go_wp2_with fail
          refine (hf.out _).mono ?_
          rintro e wd ⟨rfl, rfl⟩
          go_wp2_with fail
          go_roundw
          case rel => exact ⟨k + 1, by omega, by go_num, by rw [hst.out], by rw [hst.out], hg.alloc _⟩
          case measure => simp [intOf]; omega
        · rw [if_neg hx] at u1 u2 u3 hst
          replace hst := Lib.hid hst
          go_wp2_with fail
          refine (hf.out _).mono ?_
          rintro e wd ⟨rfl, rfl⟩
          go_wp2_with fail
          go_roundw
          case rel => exact ⟨k + 1, by omega, by go_num, by rw [hst.out], by rw [hst.out], hg.alloc _⟩
          case measure => simp [intOf]; omega
      · have hst := untP_gt (n := n) hs hd
        generalize untP l i n k = m at *
        obtain ⟨m1, m2⟩ := m
        dsimp only at sb1 sb2 bb1 bb2 hst ⊢
        by_cases hq : m2 < s.s - 1
        · have hst2 : untP l i n (k + 1) = (m1, s.s - 1) := by rw [hst]; congr 1; omega
          clear hst
          replace hst2 := Lib.hid hst2
          go_wp2_with fail
          go_roundw
          case rel => exact ⟨k + 1, by omega, by go_num, by rw [hst2.out], by rw [hst2.out], hg.alloc _⟩
          case measure => simp [intOf]; omega
        · have hst2 : untP l i n (k + 1) = (m1, m2) := by rw [hst]; congr 1; omega
          clear hst
          replace hst2 := Lib.hid hst2
          go_wp2_with fail
          go_roundw
          case rel => exact ⟨k + 1, by omega, by go_num, by rw [hst2.out], by rw [hst2.out], hg.alloc _⟩
          case measure => simp [intOf]; omega
    · obtain rfl : k = l.length := by omega
      go_wp2_with fail
      go_ret
      exact ⟨rfl, hg⟩
end Go.Proofs.YtglfdnfojpdkjaaGreatDoor
