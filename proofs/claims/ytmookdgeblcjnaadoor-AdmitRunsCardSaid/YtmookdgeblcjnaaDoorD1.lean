/- Package demand: the servers. -/
import Derived.Test.YtmookdgeblcjnaaDoorD0
import Derived.Test.YtmookdgeblcjnaaDoorA3
namespace Go.Proofs.YtmookdgeblcjnaaDoor
open Go.RowKit

set_option maxHeartbeats 400000 in
theorem asked_any (s : Srv) (l : Int) (w : World) (hs : Leg s) (hl : LenOk l) :
    Calls Tryd.prog 55 #[.agg #[.int .i64 s.k, .int .i64 s.q, .int .i64 s.t], .int .i64 l] w fun e w' => e = .returned (.int .i64 (askedI s l)) ∧ Gr w w' := by
  have hb := asked_bd hs hl
  obtain ⟨h1, h2, h3, h4, h5⟩ := hs
  obtain ⟨l1, l2⟩ := hl
  have hq := quo_mul_le l1 (show 0 ≤ s.q by omega) (show 1 ≤ s.t by omega) h4
  obtain ⟨q0, q1, q2⟩ := hq
  have m0 := Int.emod_nonneg l (show s.t ≠ 0 by omega)
  have m1 := Int.emod_lt_of_pos l (show 0 < s.t by omega)
  have t1 : 1 ≤ s.t := by omega
  unfold askedI at hb ⊢
  by_cases hk : s.k = 3
  · rw [if_pos hk] at hb ⊢
    have hk' : (s.k == 3) = true := by simpa using hk
    clear hk
    go_enter Tryd.func55, Tryd.ntmps55
    go_wp2_with fail
    go_quiet (fail)
    go_wp2_with fail
    go_quiet (fail)
    go_wp2_with fail
    all_goals
      go_ret
      refine ⟨ret1 (by rw [Int.min_def]; split <;> omega), ?_⟩
      repeat (first | exact Gr.refl _ | apply Gr.alloc | apply Gr.drew | apply Gr.drewN | (refine Gr.setCell ?_ (by simp) _) | (refine Gr.trans ?_ (by assumption)))
  · rw [if_neg hk] at hb ⊢
    have hk' : (s.k == 3) = false := by simpa using hk
    clear hk
    go_enter Tryd.func55, Tryd.ntmps55
    go_wp2_with fail
    go_quiet (fail)
    go_wp2_with fail
    go_ret
    refine ⟨rfl, ?_⟩
    repeat (first | exact Gr.refl _ | apply Gr.alloc | apply Gr.drew | apply Gr.drewN | (refine Gr.setCell ?_ (by simp) _) | (refine Gr.trans ?_ (by assumption)))

set_option maxHeartbeats 400000 in
theorem up_any (a b : Int) (w : World) (ha : 0 ≤ a) (ha' : a ≤ 1099511627776) (hb : 1 ≤ b) (hb' : b ≤ 256) :
    Calls Tryd.prog 82 #[.int .i64 a, .int .i64 b] w fun e w' => e = .returned (.int .i64 (upI a b)) ∧ w = w' := by
  unfold upI
  go_enter Tryd.func82, Tryd.ntmps82
  go_wp2
  go_ret
  exact ⟨rfl, rfl⟩

set_option maxHeartbeats 400000 in
theorem requested_any (s : Srv) (l : Int) (w : World) (hs : Leg s) (hl : LenOk l) :
    Calls Tryd.prog 61 #[.agg #[.int .i64 s.k, .int .i64 s.q, .int .i64 s.t], .int .i64 l] w fun e w' => e = .returned (.int .i64 (reqI s l)) ∧ Gr w w' := by
  obtain ⟨h1, h2, h3, h4, h5⟩ := hs
  obtain ⟨l1, l2⟩ := hl
  obtain ⟨q0, q1, q2⟩ := up_mul_le l1 (show 0 ≤ s.q by omega) (show 1 ≤ s.t by omega) h4
  have t1 : 1 ≤ s.t := by omega
  unfold reqI
  have r1 := GrW.cell (w := w.alloc (.cells #[.int .i64 s.k, .int .i64 s.q, .int .i64 s.t] 23)) (b := w.heap.size) (o := 1) (v := .int .i64 s.q) (by simp [go_sem])
  have r2 := GrW.cell (w := w.alloc (.cells #[.int .i64 s.k, .int .i64 s.q, .int .i64 s.t] 23)) (b := w.heap.size) (o := 2) (v := .int .i64 s.t) (by simp [go_sem])
  by_cases hk : s.k = 3
  · have hk' : (s.k == 3) = true := by simpa using hk
    by_cases h0 : 0 < l
    · rw [if_pos ⟨hk, h0⟩]
      clear hk
      go_enter Tryd.func61, Tryd.ntmps61
      go_wp2_with fail
      refine wp_region_grows (by kernel_rfl) (by kernel_rfl) ?_
      repeat (any_goals (first | go_big_quiet_step (first | (go_at_call 82; exact Calls.grows_same (up_any _ _ _ l1 l2 t1 h5))) | quiet_step (first | (go_at_call 82; exact Calls.grows_same (up_any _ _ _ l1 l2 t1 h5)))))
      refine wpQuiet_nil ?_
      intro wf hwq
      have gf := GrW.of hwq
      clear hwq
      obtain ⟨cf, ff, sf⟩ := gf.cells
      try simp only [size_drewN] at cf ff sf
      try simp only [World.size_alloc] at cf ff sf
      try simp only [World.size_drew] at cf ff sf
      try simp only [World.size_setCell] at cf ff sf
      have zf0 : w.heap.size < wf.heap.size := by omega
      have yf0 : w.heap.size ≤ wf.heap.size := by omega
      have kf0 := fun o => cf (w.heap.size) o (by omega)
      have jf0 := fun o => ff (w.heap.size) o (by omega)
      go_wp2_with fail
      go_ret
      refine ⟨rfl, ?_⟩
      repeat (first | exact Gr.refl _ | apply Gr.alloc | apply Gr.drew | apply Gr.drewN | (refine Gr.setCell ?_ (by simp) _) | (refine Gr.trans ?_ (by assumption)))
    · rw [if_neg (fun h => h0 h.2)]
      clear hk
      go_enter Tryd.func61, Tryd.ntmps61
      go_wp2_with fail
      refine wp_region_grows (by kernel_rfl) (by kernel_rfl) ?_
      repeat (any_goals (first | go_big_quiet_step (first | (go_at_call 82; exact Calls.grows_same (up_any _ _ _ l1 l2 t1 h5))) | quiet_step (first | (go_at_call 82; exact Calls.grows_same (up_any _ _ _ l1 l2 t1 h5)))))
      refine wpQuiet_nil ?_
      intro wf hwq
      have gf := GrW.of hwq
      clear hwq
      obtain ⟨cf, ff, sf⟩ := gf.cells
      try simp only [size_drewN] at cf ff sf
      try simp only [World.size_alloc] at cf ff sf
      try simp only [World.size_drew] at cf ff sf
      try simp only [World.size_setCell] at cf ff sf
      have zf0 : w.heap.size < wf.heap.size := by omega
      have yf0 : w.heap.size ≤ wf.heap.size := by omega
      have kf0 := fun o => cf (w.heap.size) o (by omega)
      have jf0 := fun o => ff (w.heap.size) o (by omega)
      go_wp2_with fail
      go_ret
      refine ⟨rfl, ?_⟩
      repeat (first | exact Gr.refl _ | apply Gr.alloc | apply Gr.drew | apply Gr.drewN | (refine Gr.setCell ?_ (by simp) _) | (refine Gr.trans ?_ (by assumption)))
  · rw [if_neg (fun h => hk h.1)]
    have hk' : (s.k == 3) = false := by simpa using hk
    clear hk
    go_enter Tryd.func61, Tryd.ntmps61
    go_wp2_with fail
    refine wp_region_grows (by kernel_rfl) (by kernel_rfl) ?_
    repeat (any_goals (first | go_big_quiet_step (first | (go_at_call 82; exact Calls.grows_same (up_any _ _ _ l1 l2 t1 h5))) | quiet_step (first | (go_at_call 82; exact Calls.grows_same (up_any _ _ _ l1 l2 t1 h5)))))
    refine wpQuiet_nil ?_
    intro wf hwq
    have gf := GrW.of hwq
    clear hwq
    obtain ⟨cf, ff, sf⟩ := gf.cells
    try simp only [size_drewN] at cf ff sf
    try simp only [World.size_alloc] at cf ff sf
    try simp only [World.size_drew] at cf ff sf
    try simp only [World.size_setCell] at cf ff sf
    have zf0 : w.heap.size < wf.heap.size := by omega
    have yf0 : w.heap.size ≤ wf.heap.size := by omega
    have kf0 := fun o => cf (w.heap.size) o (by omega)
    have jf0 := fun o => ff (w.heap.size) o (by omega)
    go_wp2_with fail
    go_ret
    refine ⟨rfl, ?_⟩
    repeat (first | exact Gr.refl _ | apply Gr.alloc | apply Gr.drew | apply Gr.drewN | (refine Gr.setCell ?_ (by simp) _) | (refine Gr.trans ?_ (by assumption)))

set_option maxHeartbeats 400000 in
theorem length_yes (l : Int) (w : World) (hl : LenOk l) : Calls Tryd.prog 75 #[.int .i64 l] w fun e w' => e = .returned .nilIface ∧ w = w' := by
  obtain ⟨l1, l2⟩ := hl
  go_enter Tryd.func75, Tryd.ntmps75
  go_wp2
  go_ret
  exact ⟨rfl, rfl⟩
set_option maxHeartbeats 400000 in
theorem length_no {G : List Nat} {E : Nat → Addr} (l : Int) (w : World) (hE : EAt G E w) (i2 : 2 ∈ G) (hl : ¬ LenOk l) : Calls Tryd.prog 75 #[.int .i64 l] w fun e w' => e = .returned (Value.iface 146 (.pointer (some (E 2)))) ∧ w = w' := by
  have hc := hE.c0 i2
  by_cases h0 : l < 0
  · go_enter Tryd.func75, Tryd.ntmps75
    go_wp2
    go_ret
    exact ⟨rfl, rfl⟩
  · have h1 : 1099511627776 < l := by
      have : ¬ (0 ≤ l ∧ l ≤ 1099511627776) := hl
      omega
    go_enter Tryd.func75, Tryd.ntmps75
    go_wp2
    go_ret
    exact ⟨rfl, rfl⟩

/-- What is wrong with servers and a length: the sentinel's number. -/
def chkS (l : List Srv) (n : Int) : Option Nat :=
  if allLeg l = false then some 0 else if 8 < l.length then some 3 else if n < 0 ∨ 1099511627776 < n then some 2 else none

theorem chkS_none {l : List Srv} {n : Int} (h : chkS l n = none) : allLeg l = true ∧ l.length ≤ 8 ∧ LenOk n := by
  unfold chkS at h
  split at h
  · cases h
  · split at h
    · cases h
    · split at h
      · cases h
      · rename_i h1 h2 h3
        exact ⟨by simpa using h1, by omega, by unfold LenOk; omega⟩

set_option maxHeartbeats 800000 in
theorem check_yes (a : Option Addr) (l : List Srv) (c : Nat) (n : Int) (w : World) (hl : SrvsAt w a l) (h : chkS l n = none) :
    Calls Tryd.prog 54 #[.slice a l.length c, .int .i64 n] w fun e w' => e = .returned .nilIface ∧ Gr w w' := by
  obtain ⟨h1, h2, h3⟩ := chkS_none h
  clear h
  have h1 := Lib.hid h1
  go_enter Tryd.func54, Tryd.ntmps54
  go_wp2_with fail
  refine (servers_yes a l c _ hl h1.out h2).mono ?_
  rintro e wa ⟨rfl, ga⟩
  obtain ⟨ca, fa, sa⟩ := ga.cells
  try simp only [size_drewN] at ca fa sa
  try simp only [World.size_alloc] at ca fa sa
  try simp only [World.size_drew] at ca fa sa
  try simp only [World.size_setCell] at ca fa sa
  go_wp2_with fail
  refine (length_yes n _ h3).mono ?_
  rintro e wb ⟨rfl, rfl⟩
  go_wp2_with fail
  go_ret
  exact ⟨rfl, ga.alloc _⟩

set_option maxHeartbeats 800000 in
theorem check_no {G : List Nat} {E : Nat → Addr} (a : Option Addr) (l : List Srv) (c : Nat) (n : Int) (w : World) (hE : EAt G E w) (i0 : 0 ∈ G) (i3 : 3 ∈ G) (i2 : 2 ∈ G) (hl : SrvsAt w a l) (hm : l.length ≤ maxLen) (g : Nat) (h : chkS l n = some g) :
    Calls Tryd.prog 54 #[.slice a l.length c, .int .i64 n] w fun e w' => e = .returned (.iface 146 (.pointer (some (E g)))) ∧ Gr w w' := by
  unfold chkS at h
  split at h
  · rename_i h1
    have h1 := Lib.hid h1
    obtain rfl := Option.some.inj h
    clear h
    go_enter Tryd.func54, Tryd.ntmps54
    go_wp2_with fail
    refine (servers_no a l c _ hE i0 hl hm h1.out).mono ?_
    rintro e wa ⟨rfl, ga⟩
    obtain ⟨ca, fa, sa⟩ := ga.cells
    try simp only [size_drewN] at ca fa sa
    try simp only [World.size_alloc] at ca fa sa
    try simp only [World.size_drew] at ca fa sa
    try simp only [World.size_setCell] at ca fa sa
    go_wp2_with fail
    go_ret
    exact ⟨rfl, ga.alloc _⟩
  · rename_i h1
    have h1 : allLeg l = true := by simpa using h1
    have h1 := Lib.hid h1
    split at h
    · rename_i h2
      obtain rfl := Option.some.inj h
      clear h
      go_enter Tryd.func54, Tryd.ntmps54
      go_wp2_with fail
      refine (servers_full a l c _ hE i3 hl hm h1.out h2).mono ?_
      rintro e wa ⟨rfl, ga⟩
      obtain ⟨ca, fa, sa⟩ := ga.cells
      try simp only [size_drewN] at ca fa sa
      try simp only [World.size_alloc] at ca fa sa
      try simp only [World.size_drew] at ca fa sa
      try simp only [World.size_setCell] at ca fa sa
      go_wp2_with fail
      go_ret
      exact ⟨rfl, ga.alloc _⟩
    · rename_i h2
      split at h
      · rename_i h3
        obtain rfl := Option.some.inj h
        clear h
        have h3 : ¬ LenOk n := by unfold LenOk; omega
        have h3 := Lib.hid h3
        go_enter Tryd.func54, Tryd.ntmps54
        go_wp2_with fail
        refine (servers_yes a l c _ hl h1.out (by omega)).mono ?_
        rintro e wa ⟨rfl, ga⟩
        obtain ⟨ca, fa, sa⟩ := ga.cells
        try simp only [size_drewN] at ca fa sa
        try simp only [World.size_alloc] at ca fa sa
        try simp only [World.size_drew] at ca fa sa
        try simp only [World.size_setCell] at ca fa sa
        go_wp2_with fail
        refine (length_no n _ (hE.gr (ga.alloc _)) i2 h3.out).mono ?_
        rintro e wb ⟨rfl, rfl⟩
        go_wp2_with fail
        go_ret
        exact ⟨rfl, ga.alloc _⟩
      · cases h

set_option maxHeartbeats 800000 in
/-- demand.sum over asked. -/
theorem sum_asked_yes (a : Option Addr) (l : List Srv) (c : Nat) (n : Int) (w : World) (hl : SrvsAt w a l) (h : chkS l n = none) :
    Calls Tryd.prog 56 #[.slice a l.length c, .int .i64 n, .func (.func 55) #[] #[]] w fun e w' => e = .returned (.tuple #[.int .i64 (sumI (fun s => askedI s n) l), .nilIface]) ∧ Gr w w' := by
  obtain ⟨h1, h2, h3⟩ := chkS_none h
  have h := Lib.hid h
  have h1 := Lib.hid h1
  go_enter Tryd.func56, Tryd.ntmps56
  go_wp2_with fail
  refine (check_yes a l c n _ hl h.out).mono ?_
  rintro e wa ⟨rfl, ga⟩
  obtain ⟨ca, fa, sa⟩ := ga.cells
  try simp only [size_drewN] at ca fa sa
  try simp only [World.size_alloc] at ca fa sa
  try simp only [World.size_drew] at ca fa sa
  try simp only [World.size_setCell] at ca fa sa
  go_wp2_with fail
  go_loopw [20, 9] (fun i v wr => ∃ k : Nat, k ≤ l.length ∧ i = .int .i64 k ∧ v = .int .i64 (sumI (fun s => askedI s n) (l.take k)) ∧ Gr w wr) (fun i _ _ => l.length - (intOf i).toNat)
  case atStart => exact ⟨0, Nat.zero_le _, rfl, rfl, ga⟩
  case round =>
    obtain ⟨k, hk, rfl, rfl, hg⟩ := hrel
    by_cases hlt : k < l.length
    · obtain ⟨s, hs⟩ := get_some l k hlt
      obtain ⟨b, off, rfl, hb, c0, c1, c2⟩ := (hl.gr hg) k s hs
      have hleg := (Srv.leg_iff _).1 (allLeg_get h1.out hs)
      have bd := asked_bd hleg h3
      have sb := sumI_bd (fun s => askedI s n) (l.take k) (1099511627776 + 512) (fun x hx => by have := asked_bd ((Srv.leg_iff _).1 (List.all_eq_true.1 h1.out x (List.mem_of_mem_take hx))) h3; omega)
      have sl : (List.take k l).length ≤ 8 := by rw [List.length_take]; omega
      have sb2 : sumI (fun s => askedI s n) (l.take k) ≤ 8 * (1099511627776 + 512) := by omega
      have sb1 := sb.1
      have hsn : sumI (fun s => askedI s n) (l.take (k + 1)) = sumI (fun s => askedI s n) (l.take k) + askedI s n := by rw [take_snoc hs, sumI_snoc]
      have hsn := Lib.hid hsn
      clear sb sl
      generalize sumI (fun s => askedI s n) (l.take k) = m at *
      have bd1 := bd.1
      have bd2 := bd.2
      clear bd
      go_wp2_with fail
      refine (asked_any s n _ hleg h3).mono ?_
      rintro e wd ⟨rfl, gd⟩
      obtain ⟨cd, fd, sd⟩ := gd.cells
      try simp only [size_drewN] at cd fd sd
      try simp only [World.size_alloc] at cd fd sd
      try simp only [World.size_drew] at cd fd sd
      try simp only [World.size_setCell] at cd fd sd
      go_wp2_with fail
      go_roundw
      case rel => exact ⟨k + 1, by omega, by go_num, by rw [hsn.out], (hg.alloc _).trans gd⟩
      case measure => simp [intOf]; omega
    · have hall : l.take k = l := List.take_of_length_le (by omega)
      rw [hall]
      go_wp2_with fail
      go_ret2
      exact ⟨rfl, hg⟩

set_option maxHeartbeats 800000 in
/-- demand.sum over requested. -/
theorem sum_requested_yes (a : Option Addr) (l : List Srv) (c : Nat) (n : Int) (w : World) (hl : SrvsAt w a l) (h : chkS l n = none) :
    Calls Tryd.prog 56 #[.slice a l.length c, .int .i64 n, .func (.func 61) #[] #[]] w fun e w' => e = .returned (.tuple #[.int .i64 (sumI (fun s => reqI s n) l), .nilIface]) ∧ Gr w w' := by
  obtain ⟨h1, h2, h3⟩ := chkS_none h
  have h := Lib.hid h
  have h1 := Lib.hid h1
  go_enter Tryd.func56, Tryd.ntmps56
  go_wp2_with fail
  refine (check_yes a l c n _ hl h.out).mono ?_
  rintro e wa ⟨rfl, ga⟩
  obtain ⟨ca, fa, sa⟩ := ga.cells
  try simp only [size_drewN] at ca fa sa
  try simp only [World.size_alloc] at ca fa sa
  try simp only [World.size_drew] at ca fa sa
  try simp only [World.size_setCell] at ca fa sa
  go_wp2_with fail
  go_loopw [20, 9] (fun i v wr => ∃ k : Nat, k ≤ l.length ∧ i = .int .i64 k ∧ v = .int .i64 (sumI (fun s => reqI s n) (l.take k)) ∧ Gr w wr) (fun i _ _ => l.length - (intOf i).toNat)
  case atStart => exact ⟨0, Nat.zero_le _, rfl, rfl, ga⟩
  case round =>
    obtain ⟨k, hk, rfl, rfl, hg⟩ := hrel
    by_cases hlt : k < l.length
    · obtain ⟨s, hs⟩ := get_some l k hlt
      obtain ⟨b, off, rfl, hb, c0, c1, c2⟩ := (hl.gr hg) k s hs
      have hleg := (Srv.leg_iff _).1 (allLeg_get h1.out hs)
      have bd := req_bd hleg h3
      have sb := sumI_bd (fun s => reqI s n) (l.take k) (1099511627776 + 512) (fun x hx => by have := req_bd ((Srv.leg_iff _).1 (List.all_eq_true.1 h1.out x (List.mem_of_mem_take hx))) h3; omega)
      have sl : (List.take k l).length ≤ 8 := by rw [List.length_take]; omega
      have sb2 : sumI (fun s => reqI s n) (l.take k) ≤ 8 * (1099511627776 + 512) := by omega
      have sb1 := sb.1
      have hsn : sumI (fun s => reqI s n) (l.take (k + 1)) = sumI (fun s => reqI s n) (l.take k) + reqI s n := by rw [take_snoc hs, sumI_snoc]
      have hsn := Lib.hid hsn
      clear sb sl
      generalize sumI (fun s => reqI s n) (l.take k) = m at *
      have bd1 := bd.1
      have bd2 := bd.2
      clear bd
      go_wp2_with fail
      refine (requested_any s n _ hleg h3).mono ?_
      rintro e wd ⟨rfl, gd⟩
      obtain ⟨cd, fd, sd⟩ := gd.cells
      try simp only [size_drewN] at cd fd sd
      try simp only [World.size_alloc] at cd fd sd
      try simp only [World.size_drew] at cd fd sd
      try simp only [World.size_setCell] at cd fd sd
      go_wp2_with fail
      go_roundw
      case rel => exact ⟨k + 1, by omega, by go_num, by rw [hsn.out], (hg.alloc _).trans gd⟩
      case measure => simp [intOf]; omega
    · have hall : l.take k = l := List.take_of_length_le (by omega)
      rw [hall]
      go_wp2_with fail
      go_ret2
      exact ⟨rfl, hg⟩

set_option maxHeartbeats 800000 in
theorem sum_no {G : List Nat} {E : Nat → Addr} (F : Value) (a : Option Addr) (l : List Srv) (c : Nat) (n : Int) (w : World) (hE : EAt G E w) (i0 : 0 ∈ G) (i3 : 3 ∈ G) (i2 : 2 ∈ G) (hl : SrvsAt w a l) (hm : l.length ≤ maxLen) (g : Nat) (h : chkS l n = some g) :
    Calls Tryd.prog 56 #[.slice a l.length c, .int .i64 n, F] w fun e w' => e = .returned (.tuple #[.int .i64 0, .iface 146 (.pointer (some (E g)))]) ∧ Gr w w' := by
  have h := Lib.hid h
  go_enter Tryd.func56, Tryd.ntmps56
  go_wp2_with fail
  refine (check_no a l c n _ hE i0 i3 i2 hl hm g h.out).mono ?_
  rintro e wa ⟨rfl, ga⟩
  obtain ⟨ca, fa, sa⟩ := ga.cells
  try simp only [size_drewN] at ca fa sa
  try simp only [World.size_alloc] at ca fa sa
  try simp only [World.size_drew] at ca fa sa
  try simp only [World.size_setCell] at ca fa sa
  go_wp2_with fail
  go_ret2
  exact ⟨rfl, ga⟩
end Go.Proofs.YtmookdgeblcjnaaDoor
