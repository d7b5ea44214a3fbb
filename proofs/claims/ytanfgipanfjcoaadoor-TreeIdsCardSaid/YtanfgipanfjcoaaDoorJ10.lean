/- Package demand: the servers. -/
import Derived.Test.YtanfgipanfjcoaaDoorJ4
namespace Go.Proofs.YtanfgipanfjcoaaDoor
open Go.RowKit

set_option maxHeartbeats 400000 in
theorem asked_any (s : Srv) (l : Int) (w : World) (hs : Leg s) (hl : LenOk l) :
    Calls Tryd.prog 62 #[.agg #[.int .i64 s.k, .int .i64 s.q, .int .i64 s.t], .int .i64 l] w fun e w' => e = .returned (.int .i64 (askedI s l)) ∧ Gr w w' := by
  have hb := asked_bd hs hl
  obtain ⟨h1, h2, h3, h4, h5⟩ := hs
  obtain ⟨l1, l2⟩ := hl
  have hq := quo_mul_le l1 (show 0 ≤ s.q by omega) (show 1 ≤ s.t by omega) h4
  obtain ⟨q0, q1, q2⟩ := hq
  have m0 := Int.emod_nonneg l (show s.t ≠ 0 by omega)
  have m1 := Int.emod_lt_of_pos l (show 0 < s.t by omega)
  have t1 : 1 ≤ s.t := by omega
  unfold askedI at hb ⊢
  by_cases hk : s.k = 3
  · rw [if_pos hk] at hb ⊢
    have hk' : (s.k == 3) = true := by simpa using hk
    clear hk
    go_enter Tryd.func62, Tryd.ntmps62
    go_wp2_with fail
    go_quiet (fail)
    go_wp2_with fail
    go_quiet (fail)
    go_wp2_with fail
    all_goals
      go_ret
      refine ⟨ret1 (by rw [Int.min_def]; split <;> omega), ?_⟩
      repeat (first | exact Gr.refl _ | apply Gr.alloc | apply Gr.drew | apply Gr.drewN | (refine Gr.setCell ?_ (by simp) _) | (refine Gr.trans ?_ (by assumption)))
  · rw [if_neg hk] at hb ⊢
    have hk' : (s.k == 3) = false := by simpa using hk
    clear hk
    go_enter Tryd.func62, Tryd.ntmps62
    go_wp2_with fail
    go_quiet (fail)
    go_wp2_with fail
    go_ret
    refine ⟨rfl, ?_⟩
    repeat (first | exact Gr.refl _ | apply Gr.alloc | apply Gr.drew | apply Gr.drewN | (refine Gr.setCell ?_ (by simp) _) | (refine Gr.trans ?_ (by assumption)))

set_option maxHeartbeats 400000 in
theorem up_any (a b : Int) (w : World) (ha : 0 ≤ a) (ha' : a ≤ 1099511627776) (hb : 1 ≤ b) (hb' : b ≤ 256) :
    Calls Tryd.prog 63 #[.int .i64 a, .int .i64 b] w fun e w' => e = .returned (.int .i64 (upI a b)) ∧ w = w' := by
  unfold upI
  go_enter Tryd.func63, Tryd.ntmps63
  go_wp2
  go_ret
  exact ⟨rfl, rfl⟩

set_option maxHeartbeats 400000 in
theorem requested_any (s : Srv) (l : Int) (w : World) (hs : Leg s) (hl : LenOk l) :
    Calls Tryd.prog 44 #[.agg #[.int .i64 s.k, .int .i64 s.q, .int .i64 s.t], .int .i64 l] w fun e w' => e = .returned (.int .i64 (reqI s l)) ∧ Gr w w' := by
  obtain ⟨h1, h2, h3, h4, h5⟩ := hs
  obtain ⟨l1, l2⟩ := hl
  obtain ⟨q0, q1, q2⟩ := up_mul_le l1 (show 0 ≤ s.q by omega) (show 1 ≤ s.t by omega) h4
  have t1 : 1 ≤ s.t := by omega
  unfold reqI
  have r1 := GrW.cell (w := w.alloc (.cells #[.int .i64 s.k, .int .i64 s.q, .int .i64 s.t] 24)) (b := w.heap.size) (o := 1) (v := .int .i64 s.q) (by simp [go_sem])
  have r2 := GrW.cell (w := w.alloc (.cells #[.int .i64 s.k, .int .i64 s.q, .int .i64 s.t] 24)) (b := w.heap.size) (o := 2) (v := .int .i64 s.t) (by simp [go_sem])
  by_cases hk : s.k = 3
  · have hk' : (s.k == 3) = true := by simpa using hk
    by_cases h0 : 0 < l
    · rw [if_pos ⟨hk, h0⟩]
      clear hk
      go_enter Tryd.func44, Tryd.ntmps44
      go_wp2_with fail
      refine wp_region_grows (by kernel_rfl) (by kernel_rfl) ?_
      repeat (any_goals (first | go_big_quiet_step (first | (go_at_call 63; exact Calls.grows_same (up_any _ _ _ l1 l2 t1 h5))) | quiet_step (first | (go_at_call 63; exact Calls.grows_same (up_any _ _ _ l1 l2 t1 h5)))))
      refine wpQuiet_nil ?_
      intro wf hwq
      have gf := GrW.of hwq
      clear hwq
      obtain ⟨cf, ff, sf⟩ := gf.cells
      try simp only [size_drewN] at cf ff sf
      try simp only [World.size_alloc] at cf ff sf
      try simp only [World.size_drew] at cf ff sf
      try simp only [World.size_setCell] at cf ff sf
      have zf0 : w.heap.size < wf.heap.size := by omega
      have yf0 : w.heap.size ≤ wf.heap.size := by omega
      have kf0 := fun o => cf (w.heap.size) o (by omega)
      have jf0 := fun o => ff (w.heap.size) o (by omega)
      go_wp2_with fail
      go_ret
      refine ⟨rfl, ?_⟩
      repeat (first | exact Gr.refl _ | apply Gr.alloc | apply Gr.drew | apply Gr.drewN | (refine Gr.setCell ?_ (by simp) _) | (refine Gr.trans ?_ (by assumption)))
    · rw [if_neg (fun h => h0 h.2)]
      clear hk
      go_enter Tryd.func44, Tryd.ntmps44
      go_wp2_with fail
      refine wp_region_grows (by kernel_rfl) (by kernel_rfl) ?_
      repeat (any_goals (first | go_big_quiet_step (first | (go_at_call 63; exact Calls.grows_same (up_any _ _ _ l1 l2 t1 h5))) | quiet_step (first | (go_at_call 63; exact Calls.grows_same (up_any _ _ _ l1 l2 t1 h5)))))
      refine wpQuiet_nil ?_
      intro wf hwq
      have gf := GrW.of hwq
      clear hwq
      obtain ⟨cf, ff, sf⟩ := gf.cells
      try simp only [size_drewN] at cf ff sf
      try simp only [World.size_alloc] at cf ff sf
      try simp only [World.size_drew] at cf ff sf
      try simp only [World.size_setCell] at cf ff sf
      have zf0 : w.heap.size < wf.heap.size := by omega
      have yf0 : w.heap.size ≤ wf.heap.size := by omega
      have kf0 := fun o => cf (w.heap.size) o (by omega)
      have jf0 := fun o => ff (w.heap.size) o (by omega)
      go_wp2_with fail
      go_ret
      refine ⟨rfl, ?_⟩
      repeat (first | exact Gr.refl _ | apply Gr.alloc | apply Gr.drew | apply Gr.drewN | (refine Gr.setCell ?_ (by simp) _) | (refine Gr.trans ?_ (by assumption)))
  · rw [if_neg (fun h => hk h.1)]
    have hk' : (s.k == 3) = false := by simpa using hk
    clear hk
    go_enter Tryd.func44, Tryd.ntmps44
    go_wp2_with fail
    refine wp_region_grows (by kernel_rfl) (by kernel_rfl) ?_
    repeat (any_goals (first | go_big_quiet_step (first | (go_at_call 63; exact Calls.grows_same (up_any _ _ _ l1 l2 t1 h5))) | quiet_step (first | (go_at_call 63; exact Calls.grows_same (up_any _ _ _ l1 l2 t1 h5)))))
    refine wpQuiet_nil ?_
    intro wf hwq
    have gf := GrW.of hwq
    clear hwq
    obtain ⟨cf, ff, sf⟩ := gf.cells
    try simp only [size_drewN] at cf ff sf
    try simp only [World.size_alloc] at cf ff sf
    try simp only [World.size_drew] at cf ff sf
    try simp only [World.size_setCell] at cf ff sf
    have zf0 : w.heap.size < wf.heap.size := by omega
    have yf0 : w.heap.size ≤ wf.heap.size := by omega
    have kf0 := fun o => cf (w.heap.size) o (by omega)
    have jf0 := fun o => ff (w.heap.size) o (by omega)
    go_wp2_with fail
    go_ret
    refine ⟨rfl, ?_⟩
    repeat (first | exact Gr.refl _ | apply Gr.alloc | apply Gr.drew | apply Gr.drewN | (refine Gr.setCell ?_ (by simp) _) | (refine Gr.trans ?_ (by assumption)))

set_option maxHeartbeats 400000 in
theorem length_yes (l : Int) (w : World) (hl : LenOk l) : Calls Tryd.prog 75 #[.int .i64 l] w fun e w' => e = .returned .nilIface ∧ w = w' := by
  obtain ⟨l1, l2⟩ := hl
  go_enter Tryd.func75, Tryd.ntmps75
  go_wp2
  go_ret
  exact ⟨rfl, rfl⟩
set_option maxHeartbeats 400000 in
theorem length_no {G : List Nat} {E : Nat → Addr} (l : Int) (w : World) (hE : EAt G E w) (i2 : 1 ∈ G) (hl : ¬ LenOk l) : Calls Tryd.prog 75 #[.int .i64 l] w fun e w' => e = .returned (Value.iface 165 (.pointer (some (E 1)))) ∧ w = w' := by
  have hc := hE.c0 i2
  by_cases h0 : l < 0
  · go_enter Tryd.func75, Tryd.ntmps75
    go_wp2
    go_ret
    exact ⟨rfl, rfl⟩
  · have h1 : 1099511627776 < l := by
      have : ¬ (0 ≤ l ∧ l ≤ 1099511627776) := hl
      omega
    go_enter Tryd.func75, Tryd.ntmps75
    go_wp2
    go_ret
    exact ⟨rfl, rfl⟩

/-- What is wrong with servers and a length: the sentinel's number. -/
def chkS (l : List Srv) (n : Int) : Option Nat :=
  if allLeg l = false then some 3 else if 8 < l.length then some 2 else if n < 0 ∨ 1099511627776 < n then some 1 else none

theorem chkS_none {l : List Srv} {n : Int} (h : chkS l n = none) : allLeg l = true ∧ l.length ≤ 8 ∧ LenOk n := by
  unfold chkS at h
  split at h
  · cases h
  · split at h
    · cases h
    · split at h
      · cases h
      · rename_i h1 h2 h3
        exact ⟨by simpa using h1, by omega, by unfold LenOk; omega⟩

set_option maxHeartbeats 800000 in
theorem check_yes (a : Option Addr) (l : List Srv) (c : Nat) (n : Int) (w : World) (hl : SrvsAt w a l) (h : chkS l n = none) :
    Calls Tryd.prog 61 #[.slice a l.length c, .int .i64 n] w fun e w' => e = .returned .nilIface ∧ Gr w w' := by
  obtain ⟨h1, h2, h3⟩ := chkS_none h
  clear h
  have h1 := Lib.hid h1
  go_enter Tryd.func61, Tryd.ntmps61
  go_wp2_with fail
  refine (servers_yes a l c _ hl h1.out h2).mono ?_
  rintro e wa ⟨rfl, ga⟩
  obtain ⟨ca, fa, sa⟩ := ga.cells
  try simp only [size_drewN] at ca fa sa
  try simp only [World.size_alloc] at ca fa sa
  try simp only [World.size_drew] at ca fa sa
  try simp only [World.size_setCell] at ca fa sa
  go_wp2_with fail
  refine (length_yes n _ h3).mono ?_
  rintro e wb ⟨rfl, rfl⟩
  go_wp2_with fail
  go_ret
  exact ⟨rfl, ga.alloc _⟩

set_option maxHeartbeats 800000 in
theorem check_no {G : List Nat} {E : Nat → Addr} (a : Option Addr) (l : List Srv) (c : Nat) (n : Int) (w : World) (hE : EAt G E w) (i0 : 3 ∈ G) (i3 : 2 ∈ G) (i2 : 1 ∈ G) (hl : SrvsAt w a l) (hm : l.length ≤ maxLen) (g : Nat) (h : chkS l n = some g) :
    Calls Tryd.prog 61 #[.slice a l.length c, .int .i64 n] w fun e w' => e = .returned (.iface 165 (.pointer (some (E g)))) ∧ Gr w w' := by
  unfold chkS at h
  split at h
  · rename_i h1
    have h1 := Lib.hid h1
    obtain rfl := Option.some.inj h
    clear h
    go_enter Tryd.func61, Tryd.ntmps61
    go_wp2_with fail
    refine (servers_no a l c _ hE i0 hl hm h1.out).mono ?_
    rintro e wa ⟨rfl, ga⟩
    obtain ⟨ca, fa, sa⟩ := ga.cells
    try simp only [size_drewN] at ca fa sa
    try simp only [World.size_alloc] at ca fa sa
    try simp only [World.size_drew] at ca fa sa
    try simp only [World.size_setCell] at ca fa sa
    go_wp2_with fail
    go_ret
    exact ⟨rfl, ga.alloc _⟩
  · rename_i h1
    have h1 : allLeg l = true := by simpa using h1
    have h1 := Lib.hid h1
    split at h
    · rename_i h2
      obtain rfl := Option.some.inj h
      clear h
      go_enter Tryd.func61, Tryd.ntmps61
      go_wp2_with fail
      refine (servers_full a l c _ hE i3 hl hm h1.out h2).mono ?_
      rintro e wa ⟨rfl, ga⟩
      obtain ⟨ca, fa, sa⟩ := ga.cells
      try simp only [size_drewN] at ca fa sa
      try simp only [World.size_alloc] at ca fa sa
      try simp only [World.size_drew] at ca fa sa
      try simp only [World.size_setCell] at ca fa sa
      go_wp2_with fail
      go_ret
      exact ⟨rfl, ga.alloc _⟩
    · rename_i h2
      split at h
      · rename_i h3
        obtain rfl := Option.some.inj h
        clear h
        have h3 : ¬ LenOk n := by unfold LenOk; omega
        have h3 := Lib.hid h3
        go_enter Tryd.func61, Tryd.ntmps61
        go_wp2_with fail
        refine (servers_yes a l c _ hl h1.out (by omega)).mono ?_
        rintro e wa ⟨rfl, ga⟩
        obtain ⟨ca, fa, sa⟩ := ga.cells
        try simp only [size_drewN] at ca fa sa
        try simp only [World.size_alloc] at ca fa sa
        try simp only [World.size_drew] at ca fa sa
        try simp only [World.size_setCell] at ca fa sa
        go_wp2_with fail
        refine (length_no n _ (hE.gr (ga.alloc _)) i2 h3.out).mono ?_
        rintro e wb ⟨rfl, rfl⟩
        go_wp2_with fail
        go_ret
        exact ⟨rfl, ga.alloc _⟩
      · cases h

set_option maxHeartbeats 800000 in
/-- demand.sum over asked. -/
theorem sum_asked_yes (a : Option Addr) (l : List Srv) (c : Nat) (n : Int) (w : World) (hl : SrvsAt w a l) (h : chkS l n = none) :
    Calls Tryd.prog 43 #[.slice a l.length c, .int .i64 n, .func (.func 62) #[] #[]] w fun e w' => e = .returned (.tuple #[.int .i64 (sumI (fun s => askedI s n) l), .nilIface]) ∧ Gr w w' := by
  obtain ⟨h1, h2, h3⟩ := chkS_none h
  have h := Lib.hid h
  have h1 := Lib.hid h1
  go_enter Tryd.func43, Tryd.ntmps43
  go_wp2_with fail
  refine (check_yes a l c n _ hl h.out).mono ?_
  rintro e wa ⟨rfl, ga⟩
  obtain ⟨ca, fa, sa⟩ := ga.cells
  try simp only [size_drewN] at ca fa sa
  try simp only [World.size_alloc] at ca fa sa
  try simp only [World.size_drew] at ca fa sa
  try simp only [World.size_setCell] at ca fa sa
  go_wp2_with fail
  go_loopw [20, 9] (fun i v wr => ∃ k : Nat, k ≤ l.length ∧ i = .int .i64 k ∧ v = .int .i64 (sumI (fun s => askedI s n) (l.take k)) ∧ Gr w wr) (fun i _ _ => l.length - (intOf i).toNat)
  case atStart => exact ⟨0, Nat.zero_le _, rfl, rfl, ga⟩
  case round =>
    obtain ⟨k, hk, rfl, rfl, hg⟩ := hrel
    by_cases hlt : k < l.length
    · obtain ⟨s, hs⟩ := get_some l k hlt
      obtain ⟨b, off, rfl, hb, c0, c1, c2⟩ := (hl.gr hg) k s hs
      have hleg := (Srv.leg_iff _).1 (allLeg_get h1.out hs)
      have bd := asked_bd hleg h3
      have sb := sumI_bd (fun s => askedI s n) (l.take k) (1099511627776 + 512) (fun x hx => by have := asked_bd ((Srv.leg_iff _).1 (List.all_eq_true.1 h1.out x (List.mem_of_mem_take hx))) h3; omega)
      have sl : (List.take k l).length ≤ 8 := by rw [List.length_take]; omega
      have sb2 : sumI (fun s => askedI s n) (l.take k) ≤ 8 * (1099511627776 + 512) := by omega
      have sb1 := sb.1
      have hsn : sumI (fun s => askedI s n) (l.take (k + 1)) = sumI (fun s => askedI s n) (l.take k) + askedI s n := by rw [take_snoc hs, sumI_snoc]
      have hsn := Lib.hid hsn
      clear sb sl
      generalize sumI (fun s => askedI s n) (l.take k) = m at *
      have bd1 := bd.1
      have bd2 := bd.2
      clear bd
      go_wp2_with fail
      refine (asked_any s n _ hleg h3).mono ?_
      rintro e wd ⟨rfl, gd⟩
      obtain ⟨cd, fd, sd⟩ := gd.cells
      try simp only [size_drewN] at cd fd sd
      try simp only [World.size_alloc] at cd fd sd
      try simp only [World.size_drew] at cd fd sd
      try simp only [World.size_setCell] at cd fd sd
      go_wp2_with fail
      go_roundw
      case rel => exact ⟨k + 1, by omega, by go_num, by rw [hsn.out], (hg.alloc _).trans gd⟩
      case measure => simp [intOf]; omega
    · have hall : l.take k = l := List.take_of_length_le (by omega)
      rw [hall]
      go_wp2_with fail
      go_ret2
      exact ⟨rfl, hg⟩

set_option maxHeartbeats 800000 in
/-- demand.sum over requested. -/
theorem sum_requested_yes (a : Option Addr) (l : List Srv) (c : Nat) (n : Int) (w : World) (hl : SrvsAt w a l) (h : chkS l n = none) :
    Calls Tryd.prog 43 #[.slice a l.length c, .int .i64 n, .func (.func 44) #[] #[]] w fun e w' => e = .returned (.tuple #[.int .i64 (sumI (fun s => reqI s n) l), .nilIface]) ∧ Gr w w' := by
  obtain ⟨h1, h2, h3⟩ := chkS_none h
  have h := Lib.hid h
  have h1 := Lib.hid h1
  go_enter Tryd.func43, Tryd.ntmps43
  go_wp2_with fail
  refine (check_yes a l c n _ hl h.out).mono ?_
  rintro e wa ⟨rfl, ga⟩
  obtain ⟨ca, fa, sa⟩ := ga.cells
  try simp only [size_drewN] at ca fa sa
  try simp only [World.size_alloc] at ca fa sa
  try simp only [World.size_drew] at ca fa sa
  try simp only [World.size_setCell] at ca fa sa
  go_wp2_with fail
  go_loopw [20, 9] (fun i v wr => ∃ k : Nat, k ≤ l.length ∧ i = .int .i64 k ∧ v = .int .i64 (sumI (fun s => reqI s n) (l.take k)) ∧ Gr w wr) (fun i _ _ => l.length - (intOf i).toNat)
  case atStart => exact ⟨0, Nat.zero_le _, rfl, rfl, ga⟩
  case round =>
    obtain ⟨k, hk, rfl, rfl, hg⟩ := hrel
    by_cases hlt : k < l.length
    · obtain ⟨s, hs⟩ := get_some l k hlt
      obtain ⟨b, off, rfl, hb, c0, c1, c2⟩ := (hl.gr hg) k s hs
      have hleg := (Srv.leg_iff _).1 (allLeg_get h1.out hs)
      have bd := req_bd hleg h3
      have sb := sumI_bd (fun s => reqI s n) (l.take k) (1099511627776 + 512) (fun x hx => by have := req_bd ((Srv.leg_iff _).1 (List.all_eq_true.1 h1.out x (List.mem_of_mem_take hx))) h3; omega)
      have sl : (List.take k l).length ≤ 8 := by rw [List.length_take]; omega
      have sb2 : sumI (fun s => reqI s n) (l.take k) ≤ 8 * (1099511627776 + 512) := by omega
      have sb1 := sb.1
      have hsn : sumI (fun s => reqI s n) (l.take (k + 1)) = sumI (fun s => reqI s n) (l.take k) + reqI s n := by rw [take_snoc hs, sumI_snoc]
      have hsn := Lib.hid hsn
      clear sb sl
      generalize sumI (fun s => reqI s n) (l.take k) = m at *
      have bd1 := bd.1
      have bd2 := bd.2
      clear bd
      go_wp2_with fail
      refine (requested_any s n _ hleg h3).mono ?_
      rintro e wd ⟨rfl, gd⟩
      obtain ⟨cd, fd, sd⟩ := gd.cells
      try simp only [size_drewN] at cd fd sd
      try simp only [World.size_alloc] at cd fd sd
      try simp only [World.size_drew] at cd fd sd
      try simp only [World.size_setCell] at cd fd sd
      go_wp2_with fail
      go_roundw
      case rel => exact ⟨k + 1, by omega, by go_num, by rw [hsn.out], (hg.alloc _).trans gd⟩
      case measure => simp [intOf]; omega
    · have hall : l.take k = l := List.take_of_length_le (by omega)
      rw [hall]
      go_wp2_with fail
      go_ret2
      exact ⟨rfl, hg⟩

set_option maxHeartbeats 800000 in
theorem sum_no {G : List Nat} {E : Nat → Addr} (F : Value) (a : Option Addr) (l : List Srv) (c : Nat) (n : Int) (w : World) (hE : EAt G E w) (i0 : 3 ∈ G) (i3 : 2 ∈ G) (i2 : 1 ∈ G) (hl : SrvsAt w a l) (hm : l.length ≤ maxLen) (g : Nat) (h : chkS l n = some g) :
    Calls Tryd.prog 43 #[.slice a l.length c, .int .i64 n, F] w fun e w' => e = .returned (.tuple #[.int .i64 0, .iface 165 (.pointer (some (E g)))]) ∧ Gr w w' := by
  have h := Lib.hid h
  go_enter Tryd.func43, Tryd.ntmps43
  go_wp2_with fail
  refine (check_no a l c n _ hE i0 i3 i2 hl hm g h.out).mono ?_
  rintro e wa ⟨rfl, ga⟩
  obtain ⟨ca, fa, sa⟩ := ga.cells
  try simp only [size_drewN] at ca fa sa
  try simp only [World.size_alloc] at ca fa sa
  try simp only [World.size_drew] at ca fa sa
  try simp only [World.size_setCell] at ca fa sa
  go_wp2_with fail
  go_ret2
  exact ⟨rfl, ga⟩
end Go.Proofs.YtanfgipanfjcoaaDoor
/- Package demand: Server, Request, Servers, Requests; alive of layer 11's laws. -/
namespace Go.Proofs.YtanfgipanfjcoaaDoor
open Go.RowKit

theorem srvsAt_one {w : World} {b : Nat} {s : Srv} (hb : b < w.heap.size) (h0 : w.cell? ⟨b, 0, none⟩ = some (.int .i64 s.k)) (h1 : w.cell? ⟨b, 1, none⟩ = some (.int .i64 s.q)) (h2 : w.cell? ⟨b, 2, none⟩ = some (.int .i64 s.t)) : SrvsAt w (some ⟨b, 0, none⟩) [s] := by
  intro i x hx
  match i, hx with
  | 0, hx => obtain rfl := Option.some.inj hx; exact ⟨b, 0, rfl, hb, h0, h1, h2⟩

/-- What is wrong with one server and a length. -/
def chk1 (s : Srv) (n : Int) : Option Nat := if s.leg = false then some 3 else if n < 0 ∨ 1099511627776 < n then some 1 else none
theorem chk1_eq (s : Srv) (n : Int) : chkS [s] n = chk1 s n := by
  unfold chkS chk1 allLeg
  simp
theorem chk1_none {s : Srv} {n : Int} (h1 : s.leg = true) (h2 : LenOk n) : chk1 s n = none := by
  unfold chk1; rw [if_neg (by rw [h1]; decide), if_neg (by unfold LenOk at h2; omega)]

set_option maxHeartbeats 400000 in
theorem dservers_yes (a : Option Addr) (l : List Srv) (c : Nat) (n : Int) (w : World) (hl : SrvsAt w a l) (h : chkS l n = none) :
    Calls Tryd.prog 42 #[.slice a l.length c, .int .i64 n] w fun e w' => e = .returned (.tuple #[.int .i64 (sumI (fun s => askedI s n) l), .nilIface]) ∧ Gr w w' := by
  have h := Lib.hid h
  go_enter Tryd.func42, Tryd.ntmps42
  go_wp2_with fail
  refine (sum_asked_yes a l c n _ hl h.out).mono ?_
  rintro e wa ⟨rfl, ga⟩
  obtain ⟨ca, fa, sa⟩ := ga.cells
  try simp only [size_drewN] at ca fa sa
  try simp only [World.size_alloc] at ca fa sa
  try simp only [World.size_drew] at ca fa sa
  try simp only [World.size_setCell] at ca fa sa
  go_wp2_with fail
  go_ret2
  exact ⟨rfl, ga⟩
set_option maxHeartbeats 400000 in
theorem dservers_no {G : List Nat} {E : Nat → Addr} (a : Option Addr) (l : List Srv) (c : Nat) (n : Int) (w : World) (hE : EAt G E w) (i0 : 3 ∈ G) (i3 : 2 ∈ G) (i2 : 1 ∈ G) (hl : SrvsAt w a l) (hm : l.length ≤ maxLen) (g : Nat) (h : chkS l n = some g) :
    Calls Tryd.prog 42 #[.slice a l.length c, .int .i64 n] w fun e w' => e = .returned (.tuple #[.int .i64 0, .iface 165 (.pointer (some (E g)))]) ∧ Gr w w' := by
  have h := Lib.hid h
  go_enter Tryd.func42, Tryd.ntmps42
  go_wp2_with fail
  refine (sum_no _ a l c n _ hE i0 i3 i2 hl hm g h.out).mono ?_
  rintro e wa ⟨rfl, ga⟩
  obtain ⟨ca, fa, sa⟩ := ga.cells
  try simp only [size_drewN] at ca fa sa
  try simp only [World.size_alloc] at ca fa sa
  try simp only [World.size_drew] at ca fa sa
  try simp only [World.size_setCell] at ca fa sa
  go_wp2_with fail
  go_ret2
  exact ⟨rfl, ga⟩

set_option maxHeartbeats 400000 in
theorem drequests_yes (a : Option Addr) (l : List Srv) (c : Nat) (n : Int) (w : World) (hl : SrvsAt w a l) (h : chkS l n = none) :
    Calls Tryd.prog 25 #[.slice a l.length c, .int .i64 n] w fun e w' => e = .returned (.tuple #[.int .i64 (sumI (fun s => reqI s n) l), .nilIface]) ∧ Gr w w' := by
  have h := Lib.hid h
  go_enter Tryd.func25, Tryd.ntmps25
  go_wp2_with fail
  refine (sum_requested_yes a l c n _ hl h.out).mono ?_
  rintro e wa ⟨rfl, ga⟩
  obtain ⟨ca, fa, sa⟩ := ga.cells
  try simp only [size_drewN] at ca fa sa
  try simp only [World.size_alloc] at ca fa sa
  try simp only [World.size_drew] at ca fa sa
  try simp only [World.size_setCell] at ca fa sa
  go_wp2_with fail
  go_ret2
  exact ⟨rfl, ga⟩
set_option maxHeartbeats 400000 in
theorem drequests_no {G : List Nat} {E : Nat → Addr} (a : Option Addr) (l : List Srv) (c : Nat) (n : Int) (w : World) (hE : EAt G E w) (i0 : 3 ∈ G) (i3 : 2 ∈ G) (i2 : 1 ∈ G) (hl : SrvsAt w a l) (hm : l.length ≤ maxLen) (g : Nat) (h : chkS l n = some g) :
    Calls Tryd.prog 25 #[.slice a l.length c, .int .i64 n] w fun e w' => e = .returned (.tuple #[.int .i64 0, .iface 165 (.pointer (some (E g)))]) ∧ Gr w w' := by
  have h := Lib.hid h
  go_enter Tryd.func25, Tryd.ntmps25
  go_wp2_with fail
  refine (sum_no _ a l c n _ hE i0 i3 i2 hl hm g h.out).mono ?_
  rintro e wa ⟨rfl, ga⟩
  obtain ⟨ca, fa, sa⟩ := ga.cells
  try simp only [size_drewN] at ca fa sa
  try simp only [World.size_alloc] at ca fa sa
  try simp only [World.size_drew] at ca fa sa
  try simp only [World.size_setCell] at ca fa sa
  go_wp2_with fail
  go_ret2
  exact ⟨rfl, ga⟩

theorem asked_ex : askedI ⟨1, 2, 5⟩ 14 = 4 := by decide
theorem req_ex : reqI ⟨3, 2, 5⟩ 1 = 4 := by decide

end Go.Proofs.YtanfgipanfjcoaaDoor
/- almonerref11: floor, Server, Request, Servers, Requests. -/
namespace Go.Proofs.YtanfgipanfjcoaaDoor
open Go.RowKit

theorem floor_step {x t : Int} (ht : 1 ≤ t) : x / t = (x - t) / t + 1 := by
  have := Int.add_mul_ediv_right (x - t) 1 (show t ≠ 0 by omega)
  rw [Int.one_mul, Int.sub_add_cancel] at this
  exact this
theorem floor_cut {x t n : Int} (ht : 1 ≤ t) : x / t = n + (x - n * t) / t := by
  have := Int.add_mul_ediv_right (x - n * t) n (show t ≠ 0 by omega)
  rw [Int.sub_add_cancel] at this
  omega

theorem emod_eq (l t : Int) : l % t = l - l / t * t := by rw [Int.emod_def, Int.mul_comm]

theorem up_floor {l t : Int} (ht : 1 ≤ t) : upI l t = if l / t * t < l then l / t + 1 else l / t := by
  unfold upI
  have e := Int.emod_add_mul_ediv l t
  have e0 := emod_eq l t
  have m0 := Int.emod_nonneg l (show t ≠ 0 by omega)
  have m1 := Int.emod_lt_of_pos l (show 0 < t by omega)
  have hc := floor_cut (x := l + t - 1) (n := l / t) ht
  rw [show l + t - 1 - l / t * t = l % t + t - 1 by omega] at hc
  split
  · have : (l % t + t - 1) / t = 1 := by
      have := floor_step (x := l % t + t - 1) ht
      rw [this, show l % t + t - 1 - t = l % t - 1 by omega, Int.ediv_eq_zero_of_lt (by omega) (by omega)]
      rfl
    omega
  · have : (l % t + t - 1) / t = 0 := Int.ediv_eq_zero_of_lt (by omega) (by omega)
    omega

def goodB (l : Int) : Bool := decide (0 ≤ l ∧ l ≤ 1099511627776)
theorem goodB_true {l : Int} (h : LenOk l) : goodB l = true := decide_eq_true h
theorem goodB_false {l : Int} (h : ¬ LenOk l) : goodB l = false := decide_eq_false h
end Go.Proofs.YtanfgipanfjcoaaDoor
