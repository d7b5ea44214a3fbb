/- plan: tasks and guests; the reference's Legal, LegalTask, LegalGuest. -/
import Derived.Test.YtmookdgeblcjnaaDoorA2
namespace Go.Proofs.YtmookdgeblcjnaaDoor
open Go.RowKit

def allLegT (l : List Tsk) : Bool := l.all Tsk.leg
theorem allLegT_snoc (l : List Tsk) (s : Tsk) : allLegT (l ++ [s]) = (allLegT l && s.leg) := by simp [allLegT]
theorem allLegT_get {l : List Tsk} (h : allLegT l = true) {i : Nat} {s : Tsk} (hi : l[i]? = some s) : s.leg = true := List.all_eq_true.1 h _ (get_mem hi)
def guestOk (p : Int) (l : List Tsk) : Bool := decide (p = 1 ∨ p = 2) && decide (1 ≤ l.length ∧ l.length ≤ 8) && allLegT l

set_option maxHeartbeats 400000 in
theorem legalTask_any (s : Tsk) (w : World) :
    Calls Tryd.prog 83 #[.agg #[.int .i64 s.c, .int .i64 s.p, .int .i64 s.d, .int .i64 s.s]] w fun e w' => e = .returned (.bool s.leg) ∧ Gr w w' := by
  cases h : s.leg
  · have h : ¬ (1 ≤ s.c ∧ s.c ≤ s.d ∧ s.d ≤ s.p ∧ s.p ≤ 256 ∧ 0 ≤ s.s ∧ s.s ≤ s.c) := fun x => by rw [(Tsk.leg_iff _).2 x] at h; cases h
    go_enter Tryd.func83, Tryd.ntmps83
    go_wp2
    all_goals (go_ret; first | exact ⟨rfl, (Gr.refl _).alloc _⟩ | skip)
    all_goals (exact ⟨retb (by simp; omega), (Gr.refl _).alloc _⟩)
  · obtain ⟨h1, h2, h3, h4, h5, h6⟩ := (Tsk.leg_iff _).1 h
    go_enter Tryd.func83, Tryd.ntmps83
    go_wp2
    go_ret
    exact ⟨rfl, (Gr.refl _).alloc _⟩

set_option maxHeartbeats 400000 in
theorem rlegal_any (s : Srv) (w : World) :
    Calls Tryd.prog 22 #[.agg #[.int .i64 s.k, .int .i64 s.q, .int .i64 s.t]] w fun e w' => e = .returned (.bool s.leg) ∧ Gr w w' := by
  cases h : s.leg
  · have h : ¬ (1 ≤ s.k ∧ s.k ≤ 3 ∧ 1 ≤ s.q ∧ s.q ≤ s.t ∧ s.t ≤ 256) := fun x => by rw [(Srv.leg_iff _).2 x] at h; cases h
    go_enter Tryd.func22, Tryd.ntmps22
    go_wp2
    all_goals (go_ret; first | exact ⟨rfl, (Gr.refl _).alloc _⟩ | skip)
    all_goals (exact ⟨retb (by simp; omega), (Gr.refl _).alloc _⟩)
  · obtain ⟨h1, h2, h3, h4, h5⟩ := (Srv.leg_iff _).1 h
    go_enter Tryd.func22, Tryd.ntmps22
    go_wp2
    all_goals (go_ret; exact ⟨retb (by first | rfl | (simp; done) | (simp; omega)), (Gr.refl _).alloc _⟩)

set_option maxHeartbeats 400000 in
theorem rlegalTask_any (s : Tsk) (w : World) :
    Calls Tryd.prog 43 #[.agg #[.int .i64 s.c, .int .i64 s.p, .int .i64 s.d, .int .i64 s.s]] w fun e w' => e = .returned (.bool s.leg) ∧ Gr w w' := by
  cases h : s.leg
  · have h : ¬ (1 ≤ s.c ∧ s.c ≤ s.d ∧ s.d ≤ s.p ∧ s.p ≤ 256 ∧ 0 ≤ s.s ∧ s.s ≤ s.c) := fun x => by rw [(Tsk.leg_iff _).2 x] at h; cases h
    go_enter Tryd.func43, Tryd.ntmps43
    go_wp2
    all_goals (go_ret; first | exact ⟨rfl, (Gr.refl _).alloc _⟩ | skip)
    all_goals (exact ⟨retb (by simp; omega), (Gr.refl _).alloc _⟩)
  · obtain ⟨h1, h2, h3, h4, h5, h6⟩ := (Tsk.leg_iff _).1 h
    go_enter Tryd.func43, Tryd.ntmps43
    go_wp2
    go_ret
    exact ⟨rfl, (Gr.refl _).alloc _⟩

def tasksOk (l : List Tsk) : Bool := allLegT l && decide (l.length ≤ 8)

set_option maxHeartbeats 800000 in
theorem checkTasks_no {G : List Nat} {E : Nat → Addr} (a : Option Addr) (l : List Tsk) (c : Nat) (w : World) (hE : EAt G E w) (i0 : 4 ∈ G) (hl : TsksAt w a l) (hm : l.length ≤ maxLen) (h : tasksOk l = false) :
    Calls Tryd.prog 63 #[.slice a l.length c] w fun e w' => e = .returned (Value.iface 146 (.pointer (some (E 4)))) ∧ Gr w w' := by
  unfold maxLen at hm
  have h := Lib.hid h
  go_enter Tryd.func63, Tryd.ntmps63
  go_wp2_with fail
  go_loopw [7] (fun i wr => ∃ k : Nat, k ≤ l.length ∧ allLegT (l.take k) = true ∧ i = .int .i64 k ∧ Gr w wr) (fun i _ => l.length - (intOf i).toNat)
  case atStart => exact ⟨0, Nat.zero_le _, rfl, rfl, Gr.refl _⟩
  case round =>
    obtain ⟨k, hk, hal, rfl, hg⟩ := hrel
    have hal := Lib.hid hal
    by_cases hlt : k < l.length
    · obtain ⟨s, hs⟩ := get_some l k hlt
      obtain ⟨b, off, rfl, hb, h0, h1, h2, h3⟩ := (hl.gr hg) k s hs
      cases hleg : s.leg
      · have hc := legalTask_any s
        rw [hleg] at hc
        have hc := Lib.hid hc
        have hleg := Lib.hid hleg
        go_wp2_with fail
        refine (hc.out _).mono ?_
        rintro e wa ⟨rfl, ga⟩
        obtain ⟨ca, fa, sa⟩ := ga.cells
        try simp only [size_drewN] at ca fa sa
        try simp only [World.size_alloc] at ca fa sa
        try simp only [World.size_drew] at ca fa sa
        try simp only [World.size_setCell] at ca fa sa
        have e1 := ((hE.gr hg).gr ((Gr.refl _).alloc (.cells #[.int .i64 s.c, .int .i64 s.p, .int .i64 s.d, .int .i64 s.s] 56))).gr ga
        have e2 := e1.c0 i0
        go_wp2_with fail
        go_ret
        exact ⟨rfl, (hg.alloc _).trans ga⟩
      · have hc := legalTask_any s
        rw [hleg] at hc
        have hc := Lib.hid hc
        have hleg := Lib.hid hleg
        go_wp2_with fail
        refine (hc.out _).mono ?_
        rintro e wa ⟨rfl, ga⟩
        obtain ⟨ca, fa, sa⟩ := ga.cells
        try simp only [size_drewN] at ca fa sa
        try simp only [World.size_alloc] at ca fa sa
        try simp only [World.size_drew] at ca fa sa
        try simp only [World.size_setCell] at ca fa sa
        go_wp2_with fail
        go_roundw
        case rel => exact ⟨k + 1, by omega, by rw [take_snoc hs, allLegT_snoc, hal.out, hleg.out]; rfl, by go_num, (hg.alloc _).trans ga⟩
        case measure => simp [intOf]; omega
    · have e2 := (hE.gr hg).c0 i0
      have h8 : 8 < l.length := by
        have h1 : l.take k = l := List.take_of_length_le (by omega)
        have h2 := hal.out
        have h3 := h.out
        rw [h1] at h2
        unfold tasksOk at h3
        rw [h2] at h3
        simpa using h3
      go_wp2_with fail
      go_ret
      exact ⟨rfl, hg⟩

set_option maxHeartbeats 800000 in
theorem checkTasks_yes (a : Option Addr) (l : List Tsk) (c : Nat) (w : World) (hl : TsksAt w a l) (h : tasksOk l = true) :
    Calls Tryd.prog 63 #[.slice a l.length c] w fun e w' => e = .returned .nilIface ∧ Gr w w' := by
  simp only [tasksOk, Bool.and_eq_true, decide_eq_true_eq] at h
  obtain ⟨hal, h8⟩ := h
  have hal := Lib.hid hal
  go_enter Tryd.func63, Tryd.ntmps63
  go_wp2_with fail
  go_loopw [7] (fun i wr => ∃ k : Nat, k ≤ l.length ∧ i = .int .i64 k ∧ Gr w wr) (fun i _ => l.length - (intOf i).toNat)
  case atStart => exact ⟨0, Nat.zero_le _, rfl, Gr.refl _⟩
  case round =>
    obtain ⟨k, hk, rfl, hg⟩ := hrel
    by_cases hlt : k < l.length
    · obtain ⟨s, hs⟩ := get_some l k hlt
      obtain ⟨b, off, rfl, hb, h0, h1, h2, h3⟩ := (hl.gr hg) k s hs
      have hc := legalTask_any s
      rw [allLegT_get hal.out hs] at hc
      have hc := Lib.hid hc
      go_wp2_with fail
      refine (hc.out _).mono ?_
      rintro e wa ⟨rfl, ga⟩
      obtain ⟨ca, fa, sa⟩ := ga.cells
      try simp only [size_drewN] at ca fa sa
      try simp only [World.size_alloc] at ca fa sa
      try simp only [World.size_drew] at ca fa sa
      try simp only [World.size_setCell] at ca fa sa
      go_wp2_with fail
      go_roundw
      case rel => exact ⟨k + 1, by omega, by go_num, (hg.alloc _).trans ga⟩
      case measure => simp [intOf]; omega
    · go_wp2_with fail
      go_ret
      exact ⟨rfl, hg⟩

theorem guestOk_iff (p : Int) (l : List Tsk) : guestOk p l = true ↔ (p = 1 ∨ p = 2) ∧ 1 ≤ l.length ∧ tasksOk l = true := by
  unfold guestOk tasksOk
  simp only [Bool.and_eq_true, decide_eq_true_eq]
  exact ⟨fun ⟨⟨a, b, c⟩, d⟩ => ⟨a, b, d, c⟩, fun ⟨a, b, d, c⟩ => ⟨⟨a, b, c⟩, d⟩⟩

set_option maxHeartbeats 800000 in
theorem checkGuest_yes (p : Int) (a : Option Addr) (l : List Tsk) (c : Nat) (w : World) (hl : TsksAt w a l) (h : guestOk p l = true) :
    Calls Tryd.prog 34 #[.int .i64 p, .slice a l.length c] w fun e w' => e = .returned .nilIface ∧ Gr w w' := by
  obtain ⟨hp, h1, h2⟩ := (guestOk_iff p l).1 h
  have h2 := Lib.hid h2
  clear h
  have n1 : ((l.length : Int) == 0) = false := by simp; intro hh; rw [hh] at h1; simp at h1
  rcases hp with rfl | rfl
  all_goals
    go_enter Tryd.func34, Tryd.ntmps34
    go_wp2_with fail
    refine (checkTasks_yes a l c _ hl h2.out).mono ?_
    rintro e wa ⟨rfl, ga⟩
    obtain ⟨ca, fa, sa⟩ := ga.cells
    try simp only [size_drewN] at ca fa sa
    try simp only [World.size_alloc] at ca fa sa
    try simp only [World.size_drew] at ca fa sa
    try simp only [World.size_setCell] at ca fa sa
    go_wp2_with fail
    go_ret
    exact ⟨rfl, ga⟩

set_option maxHeartbeats 800000 in
theorem checkGuest_no {G : List Nat} {E : Nat → Addr} (p : Int) (a : Option Addr) (l : List Tsk) (c : Nat) (w : World) (hE : EAt G E w) (i0 : 4 ∈ G) (hl : TsksAt w a l) (hm : l.length ≤ maxLen) (h : guestOk p l = false) :
    Calls Tryd.prog 34 #[.int .i64 p, .slice a l.length c] w fun e w' => e = .returned (Value.iface 146 (.pointer (some (E 4)))) ∧ Gr w w' := by
  have e2 := hE.c0 i0
  by_cases hp : p = 1 ∨ p = 2
  · by_cases h1 : l.length = 0
    · have n1 : ((l.length : Int) == 0) = true := by simp; exact List.length_eq_zero_iff.1 h1
      have h1 := Lib.hid h1
      rcases hp with rfl | rfl
      all_goals
        go_enter Tryd.func34, Tryd.ntmps34
        go_wp2_with fail
        go_ret
        exact ⟨rfl, Gr.refl _⟩
    · have n1 : ((l.length : Int) == 0) = false := by simp; intro hh; rw [hh] at h1; simp at h1
      have h2 : tasksOk l = false := by
        cases hh : tasksOk l
        · rfl
        · rw [(guestOk_iff p l).2 ⟨hp, by omega, hh⟩] at h; cases h
      have h2 := Lib.hid h2
      clear h
      rcases hp with rfl | rfl
      all_goals
        go_enter Tryd.func34, Tryd.ntmps34
        go_wp2_with fail
        refine (checkTasks_no a l c _ hE i0 hl hm h2.out).mono ?_
        rintro e wa ⟨rfl, ga⟩
        obtain ⟨ca, fa, sa⟩ := ga.cells
        try simp only [size_drewN] at ca fa sa
        try simp only [World.size_alloc] at ca fa sa
        try simp only [World.size_drew] at ca fa sa
        try simp only [World.size_setCell] at ca fa sa
        go_wp2_with fail
        go_ret
        exact ⟨rfl, ga⟩
  · have q1 : (p != 1) = true := by simp; omega
    have q2 : (p != 2) = true := by simp; omega
    clear hp h
    go_enter Tryd.func34, Tryd.ntmps34
    go_wp2_with fail
    go_ret
    exact ⟨rfl, Gr.refl _⟩

theorem bool_and_false (b : Bool) : (false && b) = false := rfl

set_option maxHeartbeats 800000 in
theorem rlegalGuest_no (p : Int) (a : Option Addr) (l : List Tsk) (c : Nat) (w : World) (hl : TsksAt w a l) (hm : l.length ≤ maxLen) (h : ¬ ((p = 1 ∨ p = 2) ∧ 1 ≤ l.length ∧ l.length ≤ 8)) :
    Calls Tryd.prog 19 #[.int .i64 p, .slice a l.length c] w fun e w' => e = .returned (.bool false) ∧ Gr w w' := by
  unfold maxLen at hm
  have hcase : (¬ p = 1 ∧ ¬ p = 2) ∨ p = 1 ∧ (l.length = 0 ∨ 8 < l.length) ∨ p = 2 ∧ (l.length = 0 ∨ 8 < l.length) := by omega
  clear h
  have hz : l.length = 0 ∨ 8 < l.length → (1 ≤ (l.length : Int) → 8 < (l.length : Int)) := by omega
  rcases hcase with ⟨h1, h2⟩ | ⟨rfl, hq⟩ | ⟨rfl, hq⟩
  · have q1 : (p == 1) = false := by simpa using h1
    have q2 : (p == 2) = false := by simpa using h2
    clear h1 h2 hz
    go_enter Tryd.func19, Tryd.ntmps19
    go_wp2_with fail
    go_loopw [26, 5] (fun i v wr => ∃ k : Nat, k ≤ l.length ∧ i = .int .i64 k ∧ v = .bool false ∧ Gr w wr) (fun i _ _ => l.length - (intOf i).toNat)
    case atStart => exact ⟨0, Nat.zero_le _, rfl, rfl, Gr.refl _⟩
    case round =>
      obtain ⟨k, hk, rfl, rfl, hg⟩ := hrel
      by_cases hlt : k < l.length
      · obtain ⟨s, hs⟩ := get_some l k hlt
        obtain ⟨b, off, rfl, hb, h0, h1, h2, h3⟩ := (hl.gr hg) k s hs
        go_wp2_with fail
        go_roundw
        case rel => exact ⟨k + 1, by omega, by go_num, rfl, hg.alloc _⟩
        case measure => simp [intOf]; omega
      · go_wp2_with fail
        go_ret
        exact ⟨rfl, hg⟩
  all_goals
    have hz := Lib.hid (hz hq)
    rcases hq with hq | hq
    · obtain rfl : l = [] := List.length_eq_zero_iff.1 hq
      clear hq
      go_enter Tryd.func19, Tryd.ntmps19
      go_wp2_with fail
      refine wp_loop_rounds 1 ?_
      rw [rounds_succ]
      go_wp2_with fail
      go_ret
      exact ⟨rfl, Gr.refl _⟩
    · have d1 : decide (1 ≤ (l.length : Int)) = true := by simp; omega
      have d8 : decide ((l.length : Int) ≤ 8) = false := by simp; omega
      go_enter Tryd.func19, Tryd.ntmps19
      go_wp2_with fail
      go_loopw [26, 5] (fun i v wr => ∃ k : Nat, k ≤ l.length ∧ i = .int .i64 k ∧ v = .bool false ∧ Gr w wr) (fun i _ _ => l.length - (intOf i).toNat)
      case atStart => exact ⟨0, Nat.zero_le _, rfl, rfl, Gr.refl _⟩
      case round =>
        obtain ⟨k, hk, rfl, rfl, hg⟩ := hrel
        by_cases hlt : k < l.length
        · obtain ⟨s, hs⟩ := get_some l k hlt
          obtain ⟨b, off, rfl, hb, h0, h1, h2, h3⟩ := (hl.gr hg) k s hs
          go_wp2_with fail
          go_roundw
          case rel => exact ⟨k + 1, by omega, by go_num, rfl, hg.alloc _⟩
          case measure => simp [intOf]; omega
        · go_wp2_with fail
          go_ret
          exact ⟨rfl, hg⟩

set_option maxHeartbeats 800000 in
theorem rlegalGuest_yes (p : Int) (a : Option Addr) (l : List Tsk) (c : Nat) (w : World) (hl : TsksAt w a l) (hp : p = 1 ∨ p = 2) (h1 : 1 ≤ l.length) (h8 : l.length ≤ 8) :
    Calls Tryd.prog 19 #[.int .i64 p, .slice a l.length c] w fun e w' => e = .returned (.bool (allLegT l)) ∧ Gr w w' := by
  have d1 : decide (1 ≤ (l.length : Int)) = true := by simp; omega
  have d8 : decide ((l.length : Int) ≤ 8) = true := by simp; omega
  rcases hp with rfl | rfl
  all_goals
    go_enter Tryd.func19, Tryd.ntmps19
    go_wp2_with fail
    go_loopw [26, 5] (fun i v wr => ∃ k : Nat, k ≤ l.length ∧ i = .int .i64 k ∧ v = .bool (allLegT (l.take k)) ∧ Gr w wr) (fun i _ _ => l.length - (intOf i).toNat)
    case atStart => exact ⟨0, Nat.zero_le _, rfl, rfl, Gr.refl _⟩
    case round =>
      obtain ⟨k, hk, rfl, rfl, hg⟩ := hrel
      by_cases hlt : k < l.length
      · obtain ⟨s, hs⟩ := get_some l k hlt
        obtain ⟨b, off, rfl, hb, h0, h1, h2, h3⟩ := (hl.gr hg) k s hs
        have hsn : allLegT (l.take (k + 1)) = (allLegT (l.take k) && s.leg) := by rw [take_snoc hs, allLegT_snoc]
        have hsn := Lib.hid hsn
        cases hq : allLegT (l.take k)
        · rw [hq] at hsn
          have hq := Lib.hid hq
          go_wp2_with fail
          go_roundw
          case rel => exact ⟨k + 1, by omega, by go_num, by rw [hsn.out]; rfl, hg.alloc _⟩
          case measure => simp [intOf]; omega
        · rw [hq] at hsn
          have hq := Lib.hid hq
          go_wp2_with fail
          refine (rlegalTask_any s _).mono ?_
          rintro e wa ⟨rfl, ga⟩
          obtain ⟨ca, fa, sa⟩ := ga.cells
          try simp only [size_drewN] at ca fa sa
          try simp only [World.size_alloc] at ca fa sa
          try simp only [World.size_drew] at ca fa sa
          try simp only [World.size_setCell] at ca fa sa
          go_wp2_with fail
          go_roundw
          case rel => exact ⟨k + 1, by omega, by go_num, by rw [hsn.out]; rfl, (hg.alloc _).trans ga⟩
          case measure => simp [intOf]; omega
      · have hall : l.take k = l := List.take_of_length_le (by omega)
        rw [hall]
        go_wp2_with fail
        go_ret
        exact ⟨rfl, hg⟩

theorem rlegalGuest_any (p : Int) (a : Option Addr) (l : List Tsk) (c : Nat) (w : World) (hl : TsksAt w a l) (hm : l.length ≤ maxLen) :
    Calls Tryd.prog 19 #[.int .i64 p, .slice a l.length c] w fun e w' => e = .returned (.bool (guestOk p l)) ∧ Gr w w' := by
  by_cases h : (p = 1 ∨ p = 2) ∧ 1 ≤ l.length ∧ l.length ≤ 8
  · have e : guestOk p l = allLegT l := by
      unfold guestOk
      rw [decide_eq_true h.1, decide_eq_true h.2]; rfl
    rw [e]
    exact rlegalGuest_yes p a l c w hl h.1 h.2.1 h.2.2
  · have e : guestOk p l = false := by
      cases hh : guestOk p l
      · rfl
      · obtain ⟨x, y, z⟩ := (guestOk_iff p l).1 hh
        unfold tasksOk at z
        simp only [Bool.and_eq_true, decide_eq_true_eq] at z
        exact absurd ⟨x, y, z.2⟩ h
    rw [e]
    exact rlegalGuest_no p a l c w hl hm h
end Go.Proofs.YtmookdgeblcjnaaDoor
