/- Package demand: the servers. -/
import Derived.Test.YtglfdnfojpdkjaaGreatDoorJ4
namespace Go.Proofs.YtglfdnfojpdkjaaGreatDoor
open Go.RowKit

set_option maxHeartbeats 400000 in
theorem asked_any (s : Srv) (l : Int) (w : World) (hs : Leg s) (hl : LenOk l) :
    Calls Tryz.prog 157 #[.agg #[.int .i64 s.k, .int .i64 s.q, .int .i64 s.t], .int .i64 l] w fun e w' => e = .returned (.int .i64 (askedI s l)) ∧ Gr w w' := by
  have hb := asked_bd hs hl
  obtain ⟨h1, h2, h3, h4, h5⟩ := hs
  obtain ⟨l1, l2⟩ := hl
  have hq := quo_mul_le l1 (show 0 ≤ s.q by omega) (show 1 ≤ s.t by omega) h4
  obtain ⟨q0, q1, q2⟩ := hq
  have m0 := Int.emod_nonneg l (show s.t ≠ 0 by omega)
  have m1 := Int.emod_lt_of_pos l (show 0 < s.t by omega)
  have t1 : 1 ≤ s.t := by omega
  unfold askedI at hb ⊢
  by_cases hk : s.k = 3
  · rw [if_pos hk] at hb ⊢
    have hk' : (s.k == 3) = true := by simpa using hk
    clear hk
    go_enter Tryz.func157, Tryz.ntmps157
    go_wp2_with fail
    go_quiet (fail)
    go_wp2_with fail
    go_quiet (fail)
    go_wp2_with fail
    all_goals
      go_ret
      refine ⟨ret1 (by rw [Int.min_def]; split <;> omega), ?_⟩
      repeat (first | exact Gr.refl _ | apply Gr.alloc | apply Gr.drew | apply Gr.drewN | (refine Gr.setCell ?_ (by simp) _) | (refine Gr.trans ?_ (by assumption)))
  · rw [if_neg hk] at hb ⊢
    have hk' : (s.k == 3) = false := by simpa using hk
    clear hk
    go_enter Tryz.func157, Tryz.ntmps157
    go_wp2_with fail
    go_quiet (fail)
    go_wp2_with fail
    go_ret
    refine ⟨rfl, ?_⟩
    repeat (first | exact Gr.refl _ | apply Gr.alloc | apply Gr.drew | apply Gr.drewN | (refine Gr.setCell ?_ (by simp) _) | (refine Gr.trans ?_ (by assumption)))

set_option maxHeartbeats 400000 in
theorem up_any (a b : Int) (w : World) (ha : 0 ≤ a) (ha' : a ≤ 1099511627776) (hb : 1 ≤ b) (hb' : b ≤ 256) :
    Calls Tryz.prog 174 #[.int .i64 a, .int .i64 b] w fun e w' => e = .returned (.int .i64 (upI a b)) ∧ w = w' := by
  unfold upI
  go_enter Tryz.func174, Tryz.ntmps174
  go_wp2
  go_ret
  exact ⟨rfl, rfl⟩

set_option maxHeartbeats 400000 in
theorem requested_any (s : Srv) (l : Int) (w : World) (hs : Leg s) (hl : LenOk l) :
    Calls Tryz.prog 160 #[.agg #[.int .i64 s.k, .int .i64 s.q, .int .i64 s.t], .int .i64 l] w fun e w' => e = .returned (.int .i64 (reqI s l)) ∧ Gr w w' := by
  obtain ⟨h1, h2, h3, h4, h5⟩ := hs
  obtain ⟨l1, l2⟩ := hl
  obtain ⟨q0, q1, q2⟩ := up_mul_le l1 (show 0 ≤ s.q by omega) (show 1 ≤ s.t by omega) h4
  have t1 : 1 ≤ s.t := by omega
  unfold reqI
  have r1 := GrW.cell (w := w.alloc (.cells #[.int .i64 s.k, .int .i64 s.q, .int .i64 s.t] 24)) (b := w.heap.size) (o := 1) (v := .int .i64 s.q) (by simp [go_sem])
  have r2 := GrW.cell (w := w.alloc (.cells #[.int .i64 s.k, .int .i64 s.q, .int .i64 s.t] 24)) (b := w.heap.size) (o := 2) (v := .int .i64 s.t) (by simp [go_sem])
  by_cases hk : s.k = 3
  · have hk' : (s.k == 3) = true := by simpa using hk
    by_cases h0 : 0 < l
    · rw [if_pos ⟨hk, h0⟩]
      clear hk
      go_enter Tryz.func160, Tryz.ntmps160
      go_wp2_with fail
      refine wp_region_grows (by kernel_rfl) (by kernel_rfl) ?_
      repeat (any_goals (first | go_big_quiet_step (first | (go_at_call 174; exact Calls.grows_same (up_any _ _ _ l1 l2 t1 h5))) | quiet_step (first | (go_at_call 174; exact Calls.grows_same (up_any _ _ _ l1 l2 t1 h5)))))
      refine wpQuiet_nil ?_
      intro wf hwq
      have gf := GrW.of hwq
      clear hwq
      obtain ⟨cf, ff, sf⟩ := gf.cells
      try simp only [size_drewN] at cf ff sf
      try simp only [World.size_alloc] at cf ff sf
      try simp only [World.size_drew] at cf ff sf
      try simp only [World.size_setCell] at cf ff sf
      have zf0 : w.heap.size < wf.heap.size := by omega
      have yf0 : w.heap.size ≤ wf.heap.size := by omega
      have kf0 := fun o => cf (w.heap.size) o (by omega)
      have jf0 := fun o => ff (w.heap.size) o (by omega)
      go_wp2_with fail
      go_ret
      refine ⟨rfl, ?_⟩
      repeat (first | exact Gr.refl _ | apply Gr.alloc | apply Gr.drew | apply Gr.drewN | (refine Gr.setCell ?_ (by simp) _) | (refine Gr.trans ?_ (by assumption)))
    · rw [if_neg (fun h => h0 h.2)]
      clear hk
      go_enter Tryz.func160, Tryz.ntmps160
      go_wp2_with fail
      refine wp_region_grows (by kernel_rfl) (by kernel_rfl) ?_
      repeat (any_goals (first | go_big_quiet_step (first | (go_at_call 174; exact Calls.grows_same (up_any _ _ _ l1 l2 t1 h5))) | quiet_step (first | (go_at_call 174; exact Calls.grows_same (up_any _ _ _ l1 l2 t1 h5)))))
      refine wpQuiet_nil ?_
      intro wf hwq
      have gf := GrW.of hwq
      clear hwq
      obtain ⟨cf, ff, sf⟩ := gf.cells
      try simp only [size_drewN] at cf ff sf
      try simp only [World.size_alloc] at cf ff sf
      try simp only [World.size_drew] at cf ff sf
      try simp only [World.size_setCell] at cf ff sf
      have zf0 : w.heap.size < wf.heap.size := by omega
      have yf0 : w.heap.size ≤ wf.heap.size := by omega
      have kf0 := fun o => cf (w.heap.size) o (by omega)
      have jf0 := fun o => ff (w.heap.size) o (by omega)
      go_wp2_with fail
      go_ret
      refine ⟨rfl, ?_⟩
      repeat (first | exact Gr.refl _ | apply Gr.alloc | apply Gr.drew | apply Gr.drewN | (refine Gr.setCell ?_ (by simp) _) | (refine Gr.trans ?_ (by assumption)))
  · rw [if_neg (fun h => hk h.1)]
    have hk' : (s.k == 3) = false := by simpa using hk
    clear hk
    go_enter Tryz.func160, Tryz.ntmps160
    go_wp2_with fail
    refine wp_region_grows (by kernel_rfl) (by kernel_rfl) ?_
    repeat (any_goals (first | go_big_quiet_step (first | (go_at_call 174; exact Calls.grows_same (up_any _ _ _ l1 l2 t1 h5))) | quiet_step (first | (go_at_call 174; exact Calls.grows_same (up_any _ _ _ l1 l2 t1 h5)))))
    refine wpQuiet_nil ?_
    intro wf hwq
    have gf := GrW.of hwq
    clear hwq
    obtain ⟨cf, ff, sf⟩ := gf.cells
    try simp only [size_drewN] at cf ff sf
    try simp only [World.size_alloc] at cf ff sf
    try simp only [World.size_drew] at cf ff sf
    try simp only [World.size_setCell] at cf ff sf
    have zf0 : w.heap.size < wf.heap.size := by omega
    have yf0 : w.heap.size ≤ wf.heap.size := by omega
    have kf0 := fun o => cf (w.heap.size) o (by omega)
    have jf0 := fun o => ff (w.heap.size) o (by omega)
    go_wp2_with fail
    go_ret
    refine ⟨rfl, ?_⟩
    repeat (first | exact Gr.refl _ | apply Gr.alloc | apply Gr.drew | apply Gr.drewN | (refine Gr.setCell ?_ (by simp) _) | (refine Gr.trans ?_ (by assumption)))

set_option maxHeartbeats 400000 in
theorem length_yes (l : Int) (w : World) (hl : LenOk l) : Calls Tryz.prog 173 #[.int .i64 l] w fun e w' => e = .returned .nilIface ∧ w = w' := by
  obtain ⟨l1, l2⟩ := hl
  go_enter Tryz.func173, Tryz.ntmps173
  go_wp2
  go_ret
  exact ⟨rfl, rfl⟩
set_option maxHeartbeats 400000 in
theorem length_no {G : List Nat} {E : Nat → Addr} (l : Int) (w : World) (hE : EAt G E w) (i2 : 2 ∈ G) (hl : ¬ LenOk l) : Calls Tryz.prog 173 #[.int .i64 l] w fun e w' => e = .returned (Value.iface 258 (.pointer (some (E 2)))) ∧ w = w' := by
  have hc := hE.c0 i2
  by_cases h0 : l < 0
  · go_enter Tryz.func173, Tryz.ntmps173
    go_wp2
    go_ret
    exact ⟨rfl, rfl⟩
  · have h1 : 1099511627776 < l := by
      have : ¬ (0 ≤ l ∧ l ≤ 1099511627776) := hl
      omega
    go_enter Tryz.func173, Tryz.ntmps173
    go_wp2
    go_ret
    exact ⟨rfl, rfl⟩

/-- What is wrong with servers and a length: the sentinel's number. -/
def chkS (l : List Srv) (n : Int) : Option Nat :=
  if allLeg l = false then some 4 else if 8 < l.length then some 7 else if n < 0 ∨ 1099511627776 < n then some 2 else none

theorem chkS_none {l : List Srv} {n : Int} (h : chkS l n = none) : allLeg l = true ∧ l.length ≤ 8 ∧ LenOk n := by
  unfold chkS at h
  split at h
  · cases h
  · split at h
    · cases h
    · split at h
      · cases h
      · rename_i h1 h2 h3
        exact ⟨by simpa using h1, by omega, by unfold LenOk; omega⟩

set_option maxHeartbeats 800000 in
theorem check_yes (a : Option Addr) (l : List Srv) (c : Nat) (n : Int) (w : World) (hl : SrvsAt w a l) (h : chkS l n = none) :
    Calls Tryz.prog 156 #[.slice a l.length c, .int .i64 n] w fun e w' => e = .returned .nilIface ∧ Gr w w' := by
  obtain ⟨h1, h2, h3⟩ := chkS_none h
  clear h
  have h1 := Lib.hid h1
  go_enter Tryz.func156, Tryz.ntmps156
  go_wp2_with fail
  refine (servers_yes a l c _ hl h1.out h2).mono ?_
  rintro e wa ⟨rfl, ga⟩
  obtain ⟨ca, fa, sa⟩ := ga.cells
  try simp only [size_drewN] at ca fa sa
  try simp only [World.size_alloc] at ca fa sa
  try simp only [World.size_drew] at ca fa sa
  try simp only [World.size_setCell] at ca fa sa
  go_wp2_with fail
  refine (length_yes n _ h3).mono ?_
  rintro e wb ⟨rfl, rfl⟩
  go_wp2_with fail
  go_ret
  exact ⟨rfl, ga.alloc _⟩

set_option maxHeartbeats 800000 in
theorem check_no {G : List Nat} {E : Nat → Addr} (a : Option Addr) (l : List Srv) (c : Nat) (n : Int) (w : World) (hE : EAt G E w) (i0 : 4 ∈ G) (i3 : 7 ∈ G) (i2 : 2 ∈ G) (hl : SrvsAt w a l) (hm : l.length ≤ maxLen) (g : Nat) (h : chkS l n = some g) :
    Calls Tryz.prog 156 #[.slice a l.length c, .int .i64 n] w fun e w' => e = .returned (.iface 258 (.pointer (some (E g)))) ∧ Gr w w' := by
  unfold chkS at h
  split at h
  · rename_i h1
    have h1 := Lib.hid h1
    obtain rfl := Option.some.inj h
    clear h
    go_enter Tryz.func156, Tryz.ntmps156
    go_wp2_with fail
    refine (servers_no a l c _ hE i0 hl hm h1.out).mono ?_
    rintro e wa ⟨rfl, ga⟩
    obtain ⟨ca, fa, sa⟩ := ga.cells
    try simp only [size_drewN] at ca fa sa
    try simp only [World.size_alloc] at ca fa sa
    try simp only [World.size_drew] at ca fa sa
    try simp only [World.size_setCell] at ca fa sa
    go_wp2_with fail
    go_ret
    exact ⟨rfl, ga.alloc _⟩
  · rename_i h1
    have h1 : allLeg l = true := by simpa using h1
    have h1 := Lib.hid h1
    split at h
    · rename_i h2
      obtain rfl := Option.some.inj h
      clear h
      go_enter Tryz.func156, Tryz.ntmps156
      go_wp2_with fail
      refine (servers_full a l c _ hE i3 hl hm h1.out h2).mono ?_
      rintro e wa ⟨rfl, ga⟩
      obtain ⟨ca, fa, sa⟩ := ga.cells
      try simp only [size_drewN] at ca fa sa
      try simp only [World.size_alloc] at ca fa sa
      try simp only [World.size_drew] at ca fa sa
      try simp only [World.size_setCell] at ca fa sa
      go_wp2_with fail
      go_ret
      exact ⟨rfl, ga.alloc _⟩
    · rename_i h2
      split at h
      · rename_i h3
        obtain rfl := Option.some.inj h
        clear h
        have h3 : ¬ LenOk n := by unfold LenOk; omega
        have h3 := Lib.hid h3
        go_enter Tryz.func156, Tryz.ntmps156
        go_wp2_with fail
        refine (servers_yes a l c _ hl h1.out (by omega)).mono ?_
        rintro e wa ⟨rfl, ga⟩
        obtain ⟨ca, fa, sa⟩ := ga.cells
        try simp only [size_drewN] at ca fa sa
        try simp only [World.size_alloc] at ca fa sa
        try simp only [World.size_drew] at ca fa sa
        try simp only [World.size_setCell] at ca fa sa
        go_wp2_with fail
        refine (length_no n _ (hE.gr (ga.alloc _)) i2 h3.out).mono ?_
        rintro e wb ⟨rfl, rfl⟩
        go_wp2_with fail
        go_ret
        exact ⟨rfl, ga.alloc _⟩
      · cases h

set_option maxHeartbeats 800000 in
/-- demand.sum over asked. -/
theorem sum_asked_yes (a : Option Addr) (l : List Srv) (c : Nat) (n : Int) (w : World) (hl : SrvsAt w a l) (h : chkS l n = none) :
    Calls Tryz.prog 158 #[.slice a l.length c, .int .i64 n, .func (.func 157) #[] #[]] w fun e w' => e = .returned (.tuple #[.int .i64 (sumI (fun s => askedI s n) l), .nilIface]) ∧ Gr w w' := by
  obtain ⟨h1, h2, h3⟩ := chkS_none h
  have h := Lib.hid h
  have h1 := Lib.hid h1
  go_enter Tryz.func158, Tryz.ntmps158
  go_wp2_with fail
  refine (check_yes a l c n _ hl h.out).mono ?_
  rintro e wa ⟨rfl, ga⟩
  obtain ⟨ca, fa, sa⟩ := ga.cells
  try simp only [size_drewN] at ca fa sa
  try simp only [World.size_alloc] at ca fa sa
  try simp only [World.size_drew] at ca fa sa
  try simp only [World.size_setCell] at ca fa sa
  go_wp2_with fail
  go_loopw [20, 9] (fun i v wr => ∃ k : Nat, k ≤ l.length ∧ i = .int .i64 k ∧ v = .int .i64 (sumI (fun s => askedI s n) (l.take k)) ∧ Gr w wr) (fun i _ _ => l.length - (intOf i).toNat)
  case atStart => exact ⟨0, Nat.zero_le _, rfl, rfl, ga⟩
  case round =>
    obtain ⟨k, hk, rfl, rfl, hg⟩ := hrel
    by_cases hlt : k < l.length
    · obtain ⟨s, hs⟩ := get_some l k hlt
      obtain ⟨b, off, rfl, hb, c0, c1, c2⟩ := (hl.gr hg) k s hs
      have hleg := (Srv.leg_iff _).1 (allLeg_get h1.out hs)
      have bd := asked_bd hleg h3
      have sb := sumI_bd (fun s => askedI s n) (l.take k) (1099511627776 + 512) (fun x hx => by have := asked_bd ((Srv.leg_iff _).1 (List.all_eq_true.1 h1.out x (List.mem_of_mem_take hx))) h3; omega)
      have sl : (List.take k l).length ≤ 8 := by rw [List.length_take]; omega
      have sb2 : sumI (fun s => askedI s n) (l.take k) ≤ 8 * (1099511627776 + 512) := by omega
      have sb1 := sb.1
      have hsn : sumI (fun s => askedI s n) (l.take (k + 1)) = sumI (fun s => askedI s n) (l.take k) + askedI s n := by rw [take_snoc hs, sumI_snoc]
      have hsn := Lib.hid hsn
      clear sb sl
      generalize sumI (fun s => askedI s n) (l.take k) = m at *
      have bd1 := bd.1
      have bd2 := bd.2
      clear bd
      go_wp2_with fail
      refine (asked_any s n _ hleg h3).mono ?_
      rintro e wd ⟨rfl, gd⟩
      obtain ⟨cd, fd, sd⟩ := gd.cells
      try simp only [size_drewN] at cd fd sd
      try simp only [World.size_alloc] at cd fd sd
      try simp only [World.size_drew] at cd fd sd
      try simp only [World.size_setCell] at cd fd sd
      go_wp2_with fail
      go_roundw
      case rel => exact ⟨k + 1, by omega, by go_num, by rw [hsn.out], (hg.alloc _).trans gd⟩
      case measure => simp [intOf]; omega
    · have hall : l.take k = l := List.take_of_length_le (by omega)
      rw [hall]
      go_wp2_with fail
      go_ret2
      exact ⟨rfl, hg⟩

set_option maxHeartbeats 800000 in
/-- demand.sum over requested. -/
theorem sum_requested_yes (a : Option Addr) (l : List Srv) (c : Nat) (n : Int) (w : World) (hl : SrvsAt w a l) (h : chkS l n = none) :
    Calls Tryz.prog 158 #[.slice a l.length c, .int .i64 n, .func (.func 160) #[] #[]] w fun e w' => e = .returned (.tuple #[.int .i64 (sumI (fun s => reqI s n) l), .nilIface]) ∧ Gr w w' := by
  obtain ⟨h1, h2, h3⟩ := chkS_none h
  have h := Lib.hid h
  have h1 := Lib.hid h1
  go_enter Tryz.func158, Tryz.ntmps158
  go_wp2_with fail
  refine (check_yes a l c n _ hl h.out).mono ?_
  rintro e wa ⟨rfl, ga⟩
  obtain ⟨ca, fa, sa⟩ := ga.cells
  try simp only [size_drewN] at ca fa sa
  try simp only [World.size_alloc] at ca fa sa
  try simp only [World.size_drew] at ca fa sa
  try simp only [World.size_setCell] at ca fa sa
  go_wp2_with fail
  go_loopw [20, 9] (fun i v wr => ∃ k : Nat, k ≤ l.length ∧ i = .int .i64 k ∧ v = .int .i64 (sumI (fun s => reqI s n) (l.take k)) ∧ Gr w wr) (fun i _ _ => l.length - (intOf i).toNat)
  case atStart => exact ⟨0, Nat.zero_le _, rfl, rfl, ga⟩
  case round =>
    obtain ⟨k, hk, rfl, rfl, hg⟩ := hrel
    by_cases hlt : k < l.length
    · obtain ⟨s, hs⟩ := get_some l k hlt
      obtain ⟨b, off, rfl, hb, c0, c1, c2⟩ := (hl.gr hg) k s hs
      have hleg := (Srv.leg_iff _).1 (allLeg_get h1.out hs)
      have bd := req_bd hleg h3
      have sb := sumI_bd (fun s => reqI s n) (l.take k) (1099511627776 + 512) (fun x hx => by have := req_bd ((Srv.leg_iff _).1 (List.all_eq_true.1 h1.out x (List.mem_of_mem_take hx))) h3; omega)
      have sl : (List.take k l).length ≤ 8 := by rw [List.length_take]; omega
      have sb2 : sumI (fun s => reqI s n) (l.take k) ≤ 8 * (1099511627776 + 512) := by omega
      have sb1 := sb.1
      have hsn : sumI (fun s => reqI s n) (l.take (k + 1)) = sumI (fun s => reqI s n) (l.take k) + reqI s n := by rw [take_snoc hs, sumI_snoc]
      have hsn := Lib.hid hsn
      clear sb sl
      generalize sumI (fun s => reqI s n) (l.take k) = m at *
      have bd1 := bd.1
      have bd2 := bd.2
      clear bd
      go_wp2_with fail
      refine (requested_any s n _ hleg h3).mono ?_
      rintro e wd ⟨rfl, gd⟩
      obtain ⟨cd, fd, sd⟩ := gd.cells
      try simp only [size_drewN] at cd fd sd
      try simp only [World.size_alloc] at cd fd sd
      try simp only [World.size_drew] at cd fd sd
      try simp only [World.size_setCell] at cd fd sd
      go_wp2_with fail
      go_roundw
      case rel => exact ⟨k + 1, by omega, by go_num, by rw [hsn.out], (hg.alloc _).trans gd⟩
      case measure => simp [intOf]; omega
    · have hall : l.take k = l := List.take_of_length_le (by omega)
      rw [hall]
      go_wp2_with fail
      go_ret2
      exact ⟨rfl, hg⟩

set_option maxHeartbeats 800000 in
theorem sum_no {G : List Nat} {E : Nat → Addr} (F : Value) (a : Option Addr) (l : List Srv) (c : Nat) (n : Int) (w : World) (hE : EAt G E w) (i0 : 4 ∈ G) (i3 : 7 ∈ G) (i2 : 2 ∈ G) (hl : SrvsAt w a l) (hm : l.length ≤ maxLen) (g : Nat) (h : chkS l n = some g) :
    Calls Tryz.prog 158 #[.slice a l.length c, .int .i64 n, F] w fun e w' => e = .returned (.tuple #[.int .i64 0, .iface 258 (.pointer (some (E g)))]) ∧ Gr w w' := by
  have h := Lib.hid h
  go_enter Tryz.func158, Tryz.ntmps158
  go_wp2_with fail
  refine (check_no a l c n _ hE i0 i3 i2 hl hm g h.out).mono ?_
  rintro e wa ⟨rfl, ga⟩
  obtain ⟨ca, fa, sa⟩ := ga.cells
  try simp only [size_drewN] at ca fa sa
  try simp only [World.size_alloc] at ca fa sa
  try simp only [World.size_drew] at ca fa sa
  try simp only [World.size_setCell] at ca fa sa
  go_wp2_with fail
  go_ret2
  exact ⟨rfl, ga⟩
end Go.Proofs.YtglfdnfojpdkjaaGreatDoor
/- Package demand: Server, Request, Servers, Requests; alive of layer 11's laws. -/
namespace Go.Proofs.YtglfdnfojpdkjaaGreatDoor
open Go.RowKit

theorem srvsAt_one {w : World} {b : Nat} {s : Srv} (hb : b < w.heap.size) (h0 : w.cell? ⟨b, 0, none⟩ = some (.int .i64 s.k)) (h1 : w.cell? ⟨b, 1, none⟩ = some (.int .i64 s.q)) (h2 : w.cell? ⟨b, 2, none⟩ = some (.int .i64 s.t)) : SrvsAt w (some ⟨b, 0, none⟩) [s] := by
  intro i x hx
  match i, hx with
  | 0, hx => obtain rfl := Option.some.inj hx; exact ⟨b, 0, rfl, hb, h0, h1, h2⟩

/-- What is wrong with one server and a length. -/
def chk1 (s : Srv) (n : Int) : Option Nat := if s.leg = false then some 4 else if n < 0 ∨ 1099511627776 < n then some 2 else none
theorem chk1_eq (s : Srv) (n : Int) : chkS [s] n = chk1 s n := by
  unfold chkS chk1 allLeg
  simp
theorem chk1_none {s : Srv} {n : Int} (h1 : s.leg = true) (h2 : LenOk n) : chk1 s n = none := by
  unfold chk1; rw [if_neg (by rw [h1]; decide), if_neg (by unfold LenOk at h2; omega)]

set_option maxHeartbeats 400000 in
theorem dservers_yes (a : Option Addr) (l : List Srv) (c : Nat) (n : Int) (w : World) (hl : SrvsAt w a l) (h : chkS l n = none) :
    Calls Tryz.prog 135 #[.slice a l.length c, .int .i64 n] w fun e w' => e = .returned (.tuple #[.int .i64 (sumI (fun s => askedI s n) l), .nilIface]) ∧ Gr w w' := by
  have h := Lib.hid h
  go_enter Tryz.func135, Tryz.ntmps135
  go_wp2_with fail
  refine (sum_asked_yes a l c n _ hl h.out).mono ?_
  rintro e wa ⟨rfl, ga⟩
  obtain ⟨ca, fa, sa⟩ := ga.cells
  try simp only [size_drewN] at ca fa sa
  try simp only [World.size_alloc] at ca fa sa
  try simp only [World.size_drew] at ca fa sa
  try simp only [World.size_setCell] at ca fa sa
  go_wp2_with fail
  go_ret2
  exact ⟨rfl, ga⟩
set_option maxHeartbeats 400000 in
theorem dservers_no {G : List Nat} {E : Nat → Addr} (a : Option Addr) (l : List Srv) (c : Nat) (n : Int) (w : World) (hE : EAt G E w) (i0 : 4 ∈ G) (i3 : 7 ∈ G) (i2 : 2 ∈ G) (hl : SrvsAt w a l) (hm : l.length ≤ maxLen) (g : Nat) (h : chkS l n = some g) :
    Calls Tryz.prog 135 #[.slice a l.length c, .int .i64 n] w fun e w' => e = .returned (.tuple #[.int .i64 0, .iface 258 (.pointer (some (E g)))]) ∧ Gr w w' := by
  have h := Lib.hid h
  go_enter Tryz.func135, Tryz.ntmps135
  go_wp2_with fail
  refine (sum_no _ a l c n _ hE i0 i3 i2 hl hm g h.out).mono ?_
  rintro e wa ⟨rfl, ga⟩
  obtain ⟨ca, fa, sa⟩ := ga.cells
  try simp only [size_drewN] at ca fa sa
  try simp only [World.size_alloc] at ca fa sa
  try simp only [World.size_drew] at ca fa sa
  try simp only [World.size_setCell] at ca fa sa
  go_wp2_with fail
  go_ret2
  exact ⟨rfl, ga⟩

set_option maxHeartbeats 400000 in
theorem drequests_yes (a : Option Addr) (l : List Srv) (c : Nat) (n : Int) (w : World) (hl : SrvsAt w a l) (h : chkS l n = none) :
    Calls Tryz.prog 139 #[.slice a l.length c, .int .i64 n] w fun e w' => e = .returned (.tuple #[.int .i64 (sumI (fun s => reqI s n) l), .nilIface]) ∧ Gr w w' := by
  have h := Lib.hid h
  go_enter Tryz.func139, Tryz.ntmps139
  go_wp2_with fail
  refine (sum_requested_yes a l c n _ hl h.out).mono ?_
  rintro e wa ⟨rfl, ga⟩
  obtain ⟨ca, fa, sa⟩ := ga.cells
  try simp only [size_drewN] at ca fa sa
  try simp only [World.size_alloc] at ca fa sa
  try simp only [World.size_drew] at ca fa sa
  try simp only [World.size_setCell] at ca fa sa
  go_wp2_with fail
  go_ret2
  exact ⟨rfl, ga⟩
set_option maxHeartbeats 400000 in
theorem drequests_no {G : List Nat} {E : Nat → Addr} (a : Option Addr) (l : List Srv) (c : Nat) (n : Int) (w : World) (hE : EAt G E w) (i0 : 4 ∈ G) (i3 : 7 ∈ G) (i2 : 2 ∈ G) (hl : SrvsAt w a l) (hm : l.length ≤ maxLen) (g : Nat) (h : chkS l n = some g) :
    Calls Tryz.prog 139 #[.slice a l.length c, .int .i64 n] w fun e w' => e = .returned (.tuple #[.int .i64 0, .iface 258 (.pointer (some (E g)))]) ∧ Gr w w' := by
  have h := Lib.hid h
  go_enter Tryz.func139, Tryz.ntmps139
  go_wp2_with fail
  refine (sum_no _ a l c n _ hE i0 i3 i2 hl hm g h.out).mono ?_
  rintro e wa ⟨rfl, ga⟩
  obtain ⟨ca, fa, sa⟩ := ga.cells
  try simp only [size_drewN] at ca fa sa
  try simp only [World.size_alloc] at ca fa sa
  try simp only [World.size_drew] at ca fa sa
  try simp only [World.size_setCell] at ca fa sa
  go_wp2_with fail
  go_ret2
  exact ⟨rfl, ga⟩

theorem asked_ex : askedI ⟨1, 2, 5⟩ 14 = 4 := by decide
theorem req_ex : reqI ⟨3, 2, 5⟩ 1 = 4 := by decide

end Go.Proofs.YtglfdnfojpdkjaaGreatDoor
/- almonerref11: floor, Server, Request, Servers, Requests. -/
namespace Go.Proofs.YtglfdnfojpdkjaaGreatDoor
open Go.RowKit

theorem floor_step {x t : Int} (ht : 1 ≤ t) : x / t = (x - t) / t + 1 := by
  have := Int.add_mul_ediv_right (x - t) 1 (show t ≠ 0 by omega)
  rw [Int.one_mul, Int.sub_add_cancel] at this
  exact this
theorem floor_cut {x t n : Int} (ht : 1 ≤ t) : x / t = n + (x - n * t) / t := by
  have := Int.add_mul_ediv_right (x - n * t) n (show t ≠ 0 by omega)
  rw [Int.sub_add_cancel] at this
  omega

set_option maxHeartbeats 800000 in
theorem floor_any (l t : Int) (w : World) (hl : LenOk l) (ht : 1 ≤ t) (ht' : t ≤ 256) :
    Calls Tryz.prog 107 #[.int .i64 l, .int .i64 t] w fun e w' => e = .returned (.int .i64 (l / t)) ∧ w = w' := by
  obtain ⟨l1, l2⟩ := hl
  have q0 := (quo_mul_le l1 (show (0 : Int) ≤ 1 by decide) ht ht).1
  have q1 : l / t ≤ l := Int.ediv_le_self _ l1
  by_cases h : 100 * t < l
  · have c0 := quo_mul_le (l := l - 50 * t) (q := t) (by omega) (by omega) ht (Int.le_refl _)
    obtain ⟨c1, c2, c3⟩ := c0
    have c4 : (l - 50 * t) / t ≤ l - 50 * t := Int.ediv_le_self _ (by omega)
    have hcut := floor_cut (x := l) (n := (l - 50 * t) / t) ht
    replace hcut := Lib.hid hcut
    go_enter Tryz.func107, Tryz.ntmps107
    go_wp2_with fail
    go_loop [0, 5] (fun a b => ∃ x n : Int, 0 ≤ x ∧ x ≤ l ∧ 0 ≤ n ∧ n ≤ l ∧ l / t = n + x / t ∧ a = .int .i64 x ∧ b = .int .i64 n) (fun a _ => (intOf a).toNat)
    case atStart => exact ⟨_, _, by omega, by omega, c1, by omega, hcut.out, rfl, rfl⟩
    case round =>
      obtain ⟨x, n, x1, x2, n1, n2, he, rfl, rfl⟩ := hrel
      by_cases hx : t ≤ x
      · have hs := floor_step (x := x) ht
        have p0 : 0 ≤ (x - t) / t := Int.ediv_nonneg (by omega) (by omega)
        have p1 : n + 1 ≤ l := by omega
        have he2 : l / t = n + 1 + (x - t) / t := by omega
        clear hs he
        replace he2 := Lib.hid he2
        go_wp2_with fail
        go_round
        case rel => exact ⟨_, _, by omega, by omega, by omega, p1, he2.out, rfl, rfl⟩
        case measure => simp [intOf]; omega
      · have hz := Int.ediv_eq_zero_of_lt x1 (show x < t by omega)
        have he2 : n = l / t := by omega
        clear hz he
        replace he2 := Lib.hid he2
        go_wp2_with fail
        go_ret
        exact ⟨ret1 he2.out, rfl⟩
  · go_enter Tryz.func107, Tryz.ntmps107
    go_wp2_with fail
    go_loop [0, 5] (fun a b => ∃ x n : Int, 0 ≤ x ∧ x ≤ l ∧ 0 ≤ n ∧ n ≤ l ∧ l / t = n + x / t ∧ a = .int .i64 x ∧ b = .int .i64 n) (fun a _ => (intOf a).toNat)
    case atStart => exact ⟨l, 0, by omega, by omega, by omega, by omega, by omega, rfl, rfl⟩
    case round =>
      obtain ⟨x, n, x1, x2, n1, n2, he, rfl, rfl⟩ := hrel
      by_cases hx : t ≤ x
      · have hs := floor_step (x := x) ht
        have p0 : 0 ≤ (x - t) / t := Int.ediv_nonneg (by omega) (by omega)
        have p1 : n + 1 ≤ l := by omega
        have he2 : l / t = n + 1 + (x - t) / t := by omega
        clear hs he
        replace he2 := Lib.hid he2
        go_wp2_with fail
        go_round
        case rel => exact ⟨_, _, by omega, by omega, by omega, p1, he2.out, rfl, rfl⟩
        case measure => simp [intOf]; omega
      · have hz := Int.ediv_eq_zero_of_lt x1 (show x < t by omega)
        have he2 : n = l / t := by omega
        clear hz he
        replace he2 := Lib.hid he2
        go_wp2_with fail
        go_ret
        exact ⟨ret1 he2.out, rfl⟩

theorem emod_eq (l t : Int) : l % t = l - l / t * t := by rw [Int.emod_def, Int.mul_comm]

set_option maxHeartbeats 800000 in
theorem rserver_any (s : Srv) (l : Int) (w : World) (hs : Leg s) (hl : LenOk l) :
    Calls Tryz.prog 106 #[.agg #[.int .i64 s.k, .int .i64 s.q, .int .i64 s.t], .int .i64 l] w fun e w' => e = .returned (.int .i64 (askedI s l)) ∧ Gr w w' := by
  have hb := asked_bd hs hl
  obtain ⟨h1, h2, h3, h4, h5⟩ := hs
  have ll := hl
  obtain ⟨l1, l2⟩ := hl
  obtain ⟨q0, q1, q2⟩ := quo_mul_le l1 (show 0 ≤ s.q by omega) (show 1 ≤ s.t by omega) h4
  obtain ⟨q3, q4, q5⟩ := quo_mul_le l1 (show 0 ≤ s.t by omega) (show 1 ≤ s.t by omega) (Int.le_refl _)
  have m0 := Int.emod_nonneg l (show s.t ≠ 0 by omega)
  have m1 := Int.emod_lt_of_pos l (show 0 < s.t by omega)
  have t1 : 1 ≤ s.t := by omega
  unfold askedI at hb ⊢
  rw [emod_eq] at m0 m1 hb ⊢
  have q6 : l / s.t ≤ l := Int.ediv_le_self _ l1
  by_cases hk : s.k = 3
  · rw [if_pos hk] at hb ⊢
    have hk' : (s.k != 3) = false := by simp [hk]
    clear hk
    by_cases hr : s.q < l - l / s.t * s.t
    · go_enter Tryz.func106, Tryz.ntmps106
      go_wp2_with fail
      refine (floor_any l s.t _ ll t1 h5).mono ?_
      rintro e wa ⟨rfl, rfl⟩
      go_wp2_with fail
      go_ret
      refine ⟨ret1 (by omega), ?_⟩
      repeat (first | exact Gr.refl _ | apply Gr.alloc | apply Gr.drew | apply Gr.drewN | (refine Gr.setCell ?_ (by simp) _) | (refine Gr.trans ?_ (by assumption)))
    · go_enter Tryz.func106, Tryz.ntmps106
      go_wp2_with fail
      refine (floor_any l s.t _ ll t1 h5).mono ?_
      rintro e wa ⟨rfl, rfl⟩
      go_wp2_with fail
      go_ret
      refine ⟨ret1 (by omega), ?_⟩
      repeat (first | exact Gr.refl _ | apply Gr.alloc | apply Gr.drew | apply Gr.drewN | (refine Gr.setCell ?_ (by simp) _) | (refine Gr.trans ?_ (by assumption)))
  · rw [if_neg hk] at hb ⊢
    have hk' : (s.k != 3) = true := by simpa using hk
    clear hk
    go_enter Tryz.func106, Tryz.ntmps106
    go_wp2_with fail
    refine (floor_any l s.t _ ll t1 h5).mono ?_
    rintro e wa ⟨rfl, rfl⟩
    go_wp2_with fail
    go_ret
    refine ⟨rfl, ?_⟩
    repeat (first | exact Gr.refl _ | apply Gr.alloc | apply Gr.drew | apply Gr.drewN | (refine Gr.setCell ?_ (by simp) _) | (refine Gr.trans ?_ (by assumption)))

theorem up_floor {l t : Int} (ht : 1 ≤ t) : upI l t = if l / t * t < l then l / t + 1 else l / t := by
  unfold upI
  have e := Int.emod_add_mul_ediv l t
  have e0 := emod_eq l t
  have m0 := Int.emod_nonneg l (show t ≠ 0 by omega)
  have m1 := Int.emod_lt_of_pos l (show 0 < t by omega)
  have hc := floor_cut (x := l + t - 1) (n := l / t) ht
  rw [show l + t - 1 - l / t * t = l % t + t - 1 by omega] at hc
  split
  · have : (l % t + t - 1) / t = 1 := by
      have := floor_step (x := l % t + t - 1) ht
      rw [this, show l % t + t - 1 - t = l % t - 1 by omega, Int.ediv_eq_zero_of_lt (by omega) (by omega)]
      rfl
    omega
  · have : (l % t + t - 1) / t = 0 := Int.ediv_eq_zero_of_lt (by omega) (by omega)
    omega

set_option maxHeartbeats 800000 in
theorem rrequest_any (s : Srv) (l : Int) (w : World) (hs : Leg s) (hl : LenOk l) :
    Calls Tryz.prog 84 #[.agg #[.int .i64 s.k, .int .i64 s.q, .int .i64 s.t], .int .i64 l] w fun e w' => e = .returned (.int .i64 (reqI s l)) ∧ Gr w w' := by
  have hb := req_bd hs hl
  obtain ⟨h1, h2, h3, h4, h5⟩ := hs
  have ll := hl
  obtain ⟨l1, l2⟩ := hl
  obtain ⟨q3, q4, q5⟩ := quo_mul_le l1 (show 0 ≤ s.t by omega) (show 1 ≤ s.t by omega) (Int.le_refl _)
  obtain ⟨q0, q1, q2⟩ := quo_mul_le l1 (show 0 ≤ s.q by omega) (show 1 ≤ s.t by omega) h4
  have t1 : 1 ≤ s.t := by omega
  have q6 : l / s.t ≤ l := Int.ediv_le_self _ l1
  have b1 : (l / s.t + 1) * s.q = l / s.t * s.q + s.q := by rw [Int.add_mul, Int.one_mul]
  have b2 : (l / s.t + 1 + 1) * s.q = l / s.t * s.q + s.q + s.q := by rw [Int.add_mul, Int.add_mul, Int.one_mul]
  have b3 : 0 ≤ (l / s.t + 1) * s.q ∧ (l / s.t + 1) * s.q ≤ 1099511627776 + 256 := by omega
  have b4 : 0 ≤ (l / s.t + 1 + 1) * s.q ∧ (l / s.t + 1 + 1) * s.q ≤ 1099511627776 + 512 := by omega
  obtain ⟨b5, b6⟩ := b3
  obtain ⟨b7, b8⟩ := b4
  have hf := fun w => floor_any l s.t w ll t1 h5
  unfold reqI
  rw [up_floor t1]
  clear hb
  generalize l / s.t = n at *
  replace b1 := Lib.hid b1
  replace b2 := Lib.hid b2
  replace hf := Lib.hid hf
  by_cases hr : n * s.t < l
  · rw [if_pos hr]
    by_cases hk : s.k = 3
    · have hk' : (s.k == 3) = true := by simpa using hk
      by_cases h0 : 0 < l
      · rw [if_pos ⟨hk, h0⟩]
        clear hk
        go_enter Tryz.func84, Tryz.ntmps84
        go_wp2_with fail
        refine (hf.out _).mono ?_
        rintro e wa ⟨rfl, rfl⟩
        go_wp2_with fail
        go_ret
        refine ⟨ret1 (by rw [b2.out, b1.out]), ?_⟩
        repeat (first | exact Gr.refl _ | apply Gr.alloc | apply Gr.drew | apply Gr.drewN | (refine Gr.setCell ?_ (by simp) _) | (refine Gr.trans ?_ (by assumption)))
      · exfalso; omega
    · rw [if_neg (fun h => hk h.1)]
      have hk' : (s.k == 3) = false := by simpa using hk
      clear hk
      go_enter Tryz.func84, Tryz.ntmps84
      go_wp2_with fail
      refine (hf.out _).mono ?_
      rintro e wa ⟨rfl, rfl⟩
      go_wp2_with fail
      go_ret
      refine ⟨rfl, ?_⟩
      repeat (first | exact Gr.refl _ | apply Gr.alloc | apply Gr.drew | apply Gr.drewN | (refine Gr.setCell ?_ (by simp) _) | (refine Gr.trans ?_ (by assumption)))
  · rw [if_neg hr]
    by_cases hk : s.k = 3
    · have hk' : (s.k == 3) = true := by simpa using hk
      by_cases h0 : 0 < l
      · rw [if_pos ⟨hk, h0⟩]
        clear hk
        go_enter Tryz.func84, Tryz.ntmps84
        go_wp2_with fail
        refine (hf.out _).mono ?_
        rintro e wa ⟨rfl, rfl⟩
        go_wp2_with fail
        go_ret
        refine ⟨ret1 b1.out, ?_⟩
        repeat (first | exact Gr.refl _ | apply Gr.alloc | apply Gr.drew | apply Gr.drewN | (refine Gr.setCell ?_ (by simp) _) | (refine Gr.trans ?_ (by assumption)))
      · rw [if_neg (fun h => h0 h.2)]
        clear hk
        go_enter Tryz.func84, Tryz.ntmps84
        go_wp2_with fail
        refine (hf.out _).mono ?_
        rintro e wa ⟨rfl, rfl⟩
        go_wp2_with fail
        go_ret
        refine ⟨rfl, ?_⟩
        repeat (first | exact Gr.refl _ | apply Gr.alloc | apply Gr.drew | apply Gr.drewN | (refine Gr.setCell ?_ (by simp) _) | (refine Gr.trans ?_ (by assumption)))
    · rw [if_neg (fun h => hk h.1)]
      have hk' : (s.k == 3) = false := by simpa using hk
      clear hk
      go_enter Tryz.func84, Tryz.ntmps84
      go_wp2_with fail
      refine (hf.out _).mono ?_
      rintro e wa ⟨rfl, rfl⟩
      go_wp2_with fail
      go_ret
      refine ⟨rfl, ?_⟩
      repeat (first | exact Gr.refl _ | apply Gr.alloc | apply Gr.drew | apply Gr.drewN | (refine Gr.setCell ?_ (by simp) _) | (refine Gr.trans ?_ (by assumption)))

set_option maxHeartbeats 800000 in
theorem rservers11_any (a : Option Addr) (l : List Srv) (c : Nat) (n : Int) (w : World) (hl : SrvsAt w a l) (h : allLeg l = true) (h8 : l.length ≤ 8) (h3 : LenOk n) :
    Calls Tryz.prog 82 #[.slice a l.length c, .int .i64 n] w fun e w' => e = .returned (.int .i64 (sumI (fun s => askedI s n) l)) ∧ Gr w w' := by
  replace h := Lib.hid h
  go_enter Tryz.func82, Tryz.ntmps82
  go_wp2_with fail
  go_loopw [10, 5] (fun i v wr => ∃ k : Nat, k ≤ l.length ∧ i = .int .i64 k ∧ v = .int .i64 (sumI (fun s => askedI s n) (l.take k)) ∧ Gr w wr) (fun i _ _ => l.length - (intOf i).toNat)
  case atStart => exact ⟨0, Nat.zero_le _, rfl, rfl, Gr.refl _⟩
  case round =>
    obtain ⟨k, hk, rfl, rfl, hg⟩ := hrel
    by_cases hlt : k < l.length
    · obtain ⟨s, hs⟩ := get_some l k hlt
      obtain ⟨b, off, rfl, hb, c0, c1, c2⟩ := (hl.gr hg) k s hs
      have hleg := (Srv.leg_iff _).1 (allLeg_get h.out hs)
      have bd := asked_bd hleg h3
      have sb := sumI_bd (fun s => askedI s n) (l.take k) (1099511627776 + 512) (fun x hx => by have := asked_bd ((Srv.leg_iff _).1 (List.all_eq_true.1 h.out x (List.mem_of_mem_take hx))) h3; omega)
      have sl : (List.take k l).length ≤ 8 := by rw [List.length_take]; omega
      have sb2 : sumI (fun s => askedI s n) (l.take k) ≤ 8 * (1099511627776 + 512) := by omega
      have sb1 := sb.1
      have hsn : sumI (fun s => askedI s n) (l.take (k + 1)) = sumI (fun s => askedI s n) (l.take k) + askedI s n := by rw [take_snoc hs, sumI_snoc]
      replace hsn := Lib.hid hsn
      clear sb sl
      generalize sumI (fun s => askedI s n) (l.take k) = m at *
      obtain ⟨bd1, bd2⟩ := bd
      go_wp2_with fail
      refine (rserver_any s n _ hleg h3).mono ?_
      rintro e wd ⟨rfl, gd⟩
      obtain ⟨cd, fd, sd⟩ := gd.cells
      try simp only [size_drewN] at cd fd sd
      try simp only [World.size_alloc] at cd fd sd
      try simp only [World.size_drew] at cd fd sd
      try simp only [World.size_setCell] at cd fd sd
      go_wp2_with fail
      go_roundw
      case rel => exact ⟨k + 1, by omega, by go_num, by rw [hsn.out], (hg.alloc _).trans gd⟩
      case measure => simp [intOf]; omega
    · have hall : l.take k = l := List.take_of_length_le (by omega)
      rw [hall]
      go_wp2_with fail
      go_ret
      exact ⟨rfl, hg⟩

set_option maxHeartbeats 800000 in
theorem rrequests11_any (a : Option Addr) (l : List Srv) (c : Nat) (n : Int) (w : World) (hl : SrvsAt w a l) (h : allLeg l = true) (h8 : l.length ≤ 8) (h3 : LenOk n) :
    Calls Tryz.prog 65 #[.slice a l.length c, .int .i64 n] w fun e w' => e = .returned (.int .i64 (sumI (fun s => reqI s n) l)) ∧ Gr w w' := by
  replace h := Lib.hid h
  go_enter Tryz.func65, Tryz.ntmps65
  go_wp2_with fail
  go_loopw [10, 5] (fun i v wr => ∃ k : Nat, k ≤ l.length ∧ i = .int .i64 k ∧ v = .int .i64 (sumI (fun s => reqI s n) (l.take k)) ∧ Gr w wr) (fun i _ _ => l.length - (intOf i).toNat)
  case atStart => exact ⟨0, Nat.zero_le _, rfl, rfl, Gr.refl _⟩
  case round =>
    obtain ⟨k, hk, rfl, rfl, hg⟩ := hrel
    by_cases hlt : k < l.length
    · obtain ⟨s, hs⟩ := get_some l k hlt
      obtain ⟨b, off, rfl, hb, c0, c1, c2⟩ := (hl.gr hg) k s hs
      have hleg := (Srv.leg_iff _).1 (allLeg_get h.out hs)
      have bd := req_bd hleg h3
      have sb := sumI_bd (fun s => reqI s n) (l.take k) (1099511627776 + 512) (fun x hx => by have := req_bd ((Srv.leg_iff _).1 (List.all_eq_true.1 h.out x (List.mem_of_mem_take hx))) h3; omega)
      have sl : (List.take k l).length ≤ 8 := by rw [List.length_take]; omega
      have sb2 : sumI (fun s => reqI s n) (l.take k) ≤ 8 * (1099511627776 + 512) := by omega
      have sb1 := sb.1
      have hsn : sumI (fun s => reqI s n) (l.take (k + 1)) = sumI (fun s => reqI s n) (l.take k) + reqI s n := by rw [take_snoc hs, sumI_snoc]
      replace hsn := Lib.hid hsn
      clear sb sl
      generalize sumI (fun s => reqI s n) (l.take k) = m at *
      obtain ⟨bd1, bd2⟩ := bd
      go_wp2_with fail
      refine (rrequest_any s n _ hleg h3).mono ?_
      rintro e wd ⟨rfl, gd⟩
      obtain ⟨cd, fd, sd⟩ := gd.cells
      try simp only [size_drewN] at cd fd sd
      try simp only [World.size_alloc] at cd fd sd
      try simp only [World.size_drew] at cd fd sd
      try simp only [World.size_setCell] at cd fd sd
      go_wp2_with fail
      go_roundw
      case rel => exact ⟨k + 1, by omega, by go_num, by rw [hsn.out], (hg.alloc _).trans gd⟩
      case measure => simp [intOf]; omega
    · have hall : l.take k = l := List.take_of_length_le (by omega)
      rw [hall]
      go_wp2_with fail
      go_ret
      exact ⟨rfl, hg⟩

def goodB (l : Int) : Bool := decide (0 ≤ l ∧ l ≤ 1099511627776)
theorem goodB_true {l : Int} (h : LenOk l) : goodB l = true := decide_eq_true h
theorem goodB_false {l : Int} (h : ¬ LenOk l) : goodB l = false := decide_eq_false h
end Go.Proofs.YtglfdnfojpdkjaaGreatDoor
