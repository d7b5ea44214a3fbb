/- plan: tasks and guests; the reference's Legal, LegalTask, LegalGuest. -/
import Derived.Test.YtglfdnfojpdkjaaGreatDoorJ3
import Derived.Test.YtglfdnfojpdkjaaGreatDoorJ7
import Derived.Outline
import Derived.Test.YtglfdnfojpdkjaaGreatDoorJ4
namespace Go.Proofs.YtglfdnfojpdkjaaGreatDoor
open Go.RowKit

def allLegT (l : List Tsk) : Bool := l.all Tsk.leg
theorem allLegT_snoc (l : List Tsk) (s : Tsk) : allLegT (l ++ [s]) = (allLegT l && s.leg) := by simp [allLegT]
theorem allLegT_get {l : List Tsk} (h : allLegT l = true) {i : Nat} {s : Tsk} (hi : l[i]? = some s) : s.leg = true := List.all_eq_true.1 h _ (get_mem hi)
def guestOk (p : Int) (l : List Tsk) : Bool := decide (p = 1 ∨ p = 2) && decide (1 ≤ l.length ∧ l.length ≤ 8) && allLegT l

set_option maxHeartbeats 400000 in
theorem legalTask_any (s : Tsk) (w : World) :
    Calls Tryz.prog 162 #[.agg #[.int .i64 s.c, .int .i64 s.p, .int .i64 s.d, .int .i64 s.s]] w fun e w' => e = .returned (.bool s.leg) ∧ Gr w w' := by
  cases h : s.leg
  · have h : ¬ (1 ≤ s.c ∧ s.c ≤ s.d ∧ s.d ≤ s.p ∧ s.p ≤ 256 ∧ 0 ≤ s.s ∧ s.s ≤ s.c) := fun x => by rw [(Tsk.leg_iff _).2 x] at h; cases h
    go_enter Tryz.func162, Tryz.ntmps162
    go_wp2
    all_goals (go_ret; first | exact ⟨rfl, (Gr.refl _).alloc _⟩ | skip)
    all_goals (exact ⟨retb (by simp; omega), (Gr.refl _).alloc _⟩)
  · obtain ⟨h1, h2, h3, h4, h5, h6⟩ := (Tsk.leg_iff _).1 h
    go_enter Tryz.func162, Tryz.ntmps162
    go_wp2
    go_ret
    exact ⟨rfl, (Gr.refl _).alloc _⟩

set_option maxHeartbeats 400000 in
theorem rlegal_any (s : Srv) (w : World) :
    Calls Tryz.prog 39 #[.agg #[.int .i64 s.k, .int .i64 s.q, .int .i64 s.t]] w fun e w' => e = .returned (.bool s.leg) ∧ Gr w w' := by
  cases h : s.leg
  · have h : ¬ (1 ≤ s.k ∧ s.k ≤ 3 ∧ 1 ≤ s.q ∧ s.q ≤ s.t ∧ s.t ≤ 256) := fun x => by rw [(Srv.leg_iff _).2 x] at h; cases h
    go_enter Tryz.func39, Tryz.ntmps39
    go_wp2
    all_goals (go_ret; first | exact ⟨rfl, (Gr.refl _).alloc _⟩ | skip)
    all_goals (exact ⟨retb (by simp; omega), (Gr.refl _).alloc _⟩)
  · obtain ⟨h1, h2, h3, h4, h5⟩ := (Srv.leg_iff _).1 h
    go_enter Tryz.func39, Tryz.ntmps39
    go_wp2
    all_goals (go_ret; exact ⟨retb (by first | rfl | (simp; done) | (simp; omega)), (Gr.refl _).alloc _⟩)

set_option maxHeartbeats 400000 in
theorem rlegalTask_any (s : Tsk) (w : World) :
    Calls Tryz.prog 61 #[.agg #[.int .i64 s.c, .int .i64 s.p, .int .i64 s.d, .int .i64 s.s]] w fun e w' => e = .returned (.bool s.leg) ∧ Gr w w' := by
  cases h : s.leg
  · have h : ¬ (1 ≤ s.c ∧ s.c ≤ s.d ∧ s.d ≤ s.p ∧ s.p ≤ 256 ∧ 0 ≤ s.s ∧ s.s ≤ s.c) := fun x => by rw [(Tsk.leg_iff _).2 x] at h; cases h
    go_enter Tryz.func61, Tryz.ntmps61
    go_wp2
    all_goals (go_ret; first | exact ⟨rfl, (Gr.refl _).alloc _⟩ | skip)
    all_goals (exact ⟨retb (by simp; omega), (Gr.refl _).alloc _⟩)
  · obtain ⟨h1, h2, h3, h4, h5, h6⟩ := (Tsk.leg_iff _).1 h
    go_enter Tryz.func61, Tryz.ntmps61
    go_wp2
    go_ret
    exact ⟨rfl, (Gr.refl _).alloc _⟩

def tasksOk (l : List Tsk) : Bool := allLegT l && decide (l.length ≤ 8)

set_option maxHeartbeats 800000 in
theorem checkTasks_no {G : List Nat} {E : Nat → Addr} (a : Option Addr) (l : List Tsk) (c : Nat) (w : World) (hE : EAt G E w) (i0 : 6 ∈ G) (hl : TsksAt w a l) (hm : l.length ≤ maxLen) (h : tasksOk l = false) :
    Calls Tryz.prog 141 #[.slice a l.length c] w fun e w' => e = .returned (Value.iface 258 (.pointer (some (E 6)))) ∧ Gr w w' := by
  unfold maxLen at hm
  have h := Lib.hid h
  go_enter Tryz.func141, Tryz.ntmps141
  go_wp2_with fail
  go_loopw [7] (fun i wr => ∃ k : Nat, k ≤ l.length ∧ allLegT (l.take k) = true ∧ i = .int .i64 k ∧ Gr w wr) (fun i _ => l.length - (intOf i).toNat)
  case atStart => exact ⟨0, Nat.zero_le _, rfl, rfl, Gr.refl _⟩
  case round =>
    obtain ⟨k, hk, hal, rfl, hg⟩ := hrel
    have hal := Lib.hid hal
    by_cases hlt : k < l.length
    · obtain ⟨s, hs⟩ := get_some l k hlt
      obtain ⟨b, off, rfl, hb, h0, h1, h2, h3⟩ := (hl.gr hg) k s hs
      cases hleg : s.leg
      · have hc := legalTask_any s
        rw [hleg] at hc
        have hc := Lib.hid hc
        have hleg := Lib.hid hleg
        go_wp2_with fail
        refine (hc.out _).mono ?_
        rintro e wa ⟨rfl, ga⟩
        obtain ⟨ca, fa, sa⟩ := ga.cells
        try simp only [size_drewN] at ca fa sa
        try simp only [World.size_alloc] at ca fa sa
        try simp only [World.size_drew] at ca fa sa
        try simp only [World.size_setCell] at ca fa sa
        have e1 := ((hE.gr hg).gr ((Gr.refl _).alloc (.cells #[.int .i64 s.c, .int .i64 s.p, .int .i64 s.d, .int .i64 s.s] 115))).gr ga
        have e2 := e1.c0 i0
        go_wp2_with fail
        go_ret
        exact ⟨rfl, (hg.alloc _).trans ga⟩
      · have hc := legalTask_any s
        rw [hleg] at hc
        have hc := Lib.hid hc
        have hleg := Lib.hid hleg
        go_wp2_with fail
        refine (hc.out _).mono ?_
        rintro e wa ⟨rfl, ga⟩
        obtain ⟨ca, fa, sa⟩ := ga.cells
        try simp only [size_drewN] at ca fa sa
        try simp only [World.size_alloc] at ca fa sa
        try simp only [World.size_drew] at ca fa sa
        try simp only [World.size_setCell] at ca fa sa
        go_wp2_with fail
        go_roundw
        case rel => exact ⟨k + 1, by omega, by rw [take_snoc hs, allLegT_snoc, hal.out, hleg.out]; rfl, by go_num, (hg.alloc _).trans ga⟩
        case measure => simp [intOf]; omega
    · have e2 := (hE.gr hg).c0 i0
      have h8 : 8 < l.length := by
        have h1 : l.take k = l := List.take_of_length_le (by omega)
        have h2 := hal.out
        have h3 := h.out
        rw [h1] at h2
        unfold tasksOk at h3
        rw [h2] at h3
        simpa using h3
      go_wp2_with fail
      go_ret
      exact ⟨rfl, hg⟩

set_option maxHeartbeats 800000 in
theorem checkTasks_yes (a : Option Addr) (l : List Tsk) (c : Nat) (w : World) (hl : TsksAt w a l) (h : tasksOk l = true) :
    Calls Tryz.prog 141 #[.slice a l.length c] w fun e w' => e = .returned .nilIface ∧ Gr w w' := by
  simp only [tasksOk, Bool.and_eq_true, decide_eq_true_eq] at h
  obtain ⟨hal, h8⟩ := h
  have hal := Lib.hid hal
  go_enter Tryz.func141, Tryz.ntmps141
  go_wp2_with fail
  go_loopw [7] (fun i wr => ∃ k : Nat, k ≤ l.length ∧ i = .int .i64 k ∧ Gr w wr) (fun i _ => l.length - (intOf i).toNat)
  case atStart => exact ⟨0, Nat.zero_le _, rfl, Gr.refl _⟩
  case round =>
    obtain ⟨k, hk, rfl, hg⟩ := hrel
    by_cases hlt : k < l.length
    · obtain ⟨s, hs⟩ := get_some l k hlt
      obtain ⟨b, off, rfl, hb, h0, h1, h2, h3⟩ := (hl.gr hg) k s hs
      have hc := legalTask_any s
      rw [allLegT_get hal.out hs] at hc
      have hc := Lib.hid hc
      go_wp2_with fail
      refine (hc.out _).mono ?_
      rintro e wa ⟨rfl, ga⟩
      obtain ⟨ca, fa, sa⟩ := ga.cells
      try simp only [size_drewN] at ca fa sa
      try simp only [World.size_alloc] at ca fa sa
      try simp only [World.size_drew] at ca fa sa
      try simp only [World.size_setCell] at ca fa sa
      go_wp2_with fail
      go_roundw
      case rel => exact ⟨k + 1, by omega, by go_num, (hg.alloc _).trans ga⟩
      case measure => simp [intOf]; omega
    · go_wp2_with fail
      go_ret
      exact ⟨rfl, hg⟩

theorem guestOk_iff (p : Int) (l : List Tsk) : guestOk p l = true ↔ (p = 1 ∨ p = 2) ∧ 1 ≤ l.length ∧ tasksOk l = true := by
  unfold guestOk tasksOk
  simp only [Bool.and_eq_true, decide_eq_true_eq]
  exact ⟨fun ⟨⟨a, b, c⟩, d⟩ => ⟨a, b, d, c⟩, fun ⟨a, b, d, c⟩ => ⟨⟨a, b, c⟩, d⟩⟩

set_option maxHeartbeats 800000 in
theorem checkGuest_yes (p : Int) (a : Option Addr) (l : List Tsk) (c : Nat) (w : World) (hl : TsksAt w a l) (h : guestOk p l = true) :
    Calls Tryz.prog 122 #[.int .i64 p, .slice a l.length c] w fun e w' => e = .returned .nilIface ∧ Gr w w' := by
  obtain ⟨hp, h1, h2⟩ := (guestOk_iff p l).1 h
  have h2 := Lib.hid h2
  clear h
  have n1 : ((l.length : Int) == 0) = false := by simp; intro hh; rw [hh] at h1; simp at h1
  rcases hp with rfl | rfl
  all_goals
    go_enter Tryz.func122, Tryz.ntmps122
    go_wp2_with fail
    refine (checkTasks_yes a l c _ hl h2.out).mono ?_
    rintro e wa ⟨rfl, ga⟩
    obtain ⟨ca, fa, sa⟩ := ga.cells
    try simp only [size_drewN] at ca fa sa
    try simp only [World.size_alloc] at ca fa sa
    try simp only [World.size_drew] at ca fa sa
    try simp only [World.size_setCell] at ca fa sa
    go_wp2_with fail
    go_ret
    exact ⟨rfl, ga⟩

set_option maxHeartbeats 800000 in
theorem checkGuest_no {G : List Nat} {E : Nat → Addr} (p : Int) (a : Option Addr) (l : List Tsk) (c : Nat) (w : World) (hE : EAt G E w) (i0 : 6 ∈ G) (hl : TsksAt w a l) (hm : l.length ≤ maxLen) (h : guestOk p l = false) :
    Calls Tryz.prog 122 #[.int .i64 p, .slice a l.length c] w fun e w' => e = .returned (Value.iface 258 (.pointer (some (E 6)))) ∧ Gr w w' := by
  have e2 := hE.c0 i0
  by_cases hp : p = 1 ∨ p = 2
  · by_cases h1 : l.length = 0
    · have n1 : ((l.length : Int) == 0) = true := by simp; exact List.length_eq_zero_iff.1 h1
      have h1 := Lib.hid h1
      rcases hp with rfl | rfl
      all_goals
        go_enter Tryz.func122, Tryz.ntmps122
        go_wp2_with fail
        go_ret
        exact ⟨rfl, Gr.refl _⟩
    · have n1 : ((l.length : Int) == 0) = false := by simp; intro hh; rw [hh] at h1; simp at h1
      have h2 : tasksOk l = false := by
        cases hh : tasksOk l
        · rfl
        · rw [(guestOk_iff p l).2 ⟨hp, by omega, hh⟩] at h; cases h
      have h2 := Lib.hid h2
      clear h
      rcases hp with rfl | rfl
      all_goals
        go_enter Tryz.func122, Tryz.ntmps122
        go_wp2_with fail
        refine (checkTasks_no a l c _ hE i0 hl hm h2.out).mono ?_
        rintro e wa ⟨rfl, ga⟩
        obtain ⟨ca, fa, sa⟩ := ga.cells
        try simp only [size_drewN] at ca fa sa
        try simp only [World.size_alloc] at ca fa sa
        try simp only [World.size_drew] at ca fa sa
        try simp only [World.size_setCell] at ca fa sa
        go_wp2_with fail
        go_ret
        exact ⟨rfl, ga⟩
  · have q1 : (p != 1) = true := by simp; omega
    have q2 : (p != 2) = true := by simp; omega
    clear hp h
    go_enter Tryz.func122, Tryz.ntmps122
    go_wp2_with fail
    go_ret
    exact ⟨rfl, Gr.refl _⟩

theorem bool_and_false (b : Bool) : (false && b) = false := rfl

set_option maxHeartbeats 800000 in
theorem rlegalGuest_no (p : Int) (a : Option Addr) (l : List Tsk) (c : Nat) (w : World) (hl : TsksAt w a l) (hm : l.length ≤ maxLen) (h : ¬ ((p = 1 ∨ p = 2) ∧ 1 ≤ l.length ∧ l.length ≤ 8)) :
    Calls Tryz.prog 40 #[.int .i64 p, .slice a l.length c] w fun e w' => e = .returned (.bool false) ∧ Gr w w' := by
  unfold maxLen at hm
  have hcase : (¬ p = 1 ∧ ¬ p = 2) ∨ p = 1 ∧ (l.length = 0 ∨ 8 < l.length) ∨ p = 2 ∧ (l.length = 0 ∨ 8 < l.length) := by omega
  clear h
  have hz : l.length = 0 ∨ 8 < l.length → (1 ≤ (l.length : Int) → 8 < (l.length : Int)) := by omega
  rcases hcase with ⟨h1, h2⟩ | ⟨rfl, hq⟩ | ⟨rfl, hq⟩
  · have q1 : (p == 1) = false := by simpa using h1
    have q2 : (p == 2) = false := by simpa using h2
    clear h1 h2 hz
    go_enter Tryz.func40, Tryz.ntmps40
    go_wp2_with fail
    go_loopw [26, 5] (fun i v wr => ∃ k : Nat, k ≤ l.length ∧ i = .int .i64 k ∧ v = .bool false ∧ Gr w wr) (fun i _ _ => l.length - (intOf i).toNat)
    case atStart => exact ⟨0, Nat.zero_le _, rfl, rfl, Gr.refl _⟩
    case round =>
      obtain ⟨k, hk, rfl, rfl, hg⟩ := hrel
      by_cases hlt : k < l.length
      · obtain ⟨s, hs⟩ := get_some l k hlt
        obtain ⟨b, off, rfl, hb, h0, h1, h2, h3⟩ := (hl.gr hg) k s hs
        go_wp2_with fail
        go_roundw
        case rel => exact ⟨k + 1, by omega, by go_num, rfl, hg.alloc _⟩
        case measure => simp [intOf]; omega
      · go_wp2_with fail
        go_ret
        exact ⟨rfl, hg⟩
  all_goals
    have hz := Lib.hid (hz hq)
    rcases hq with hq | hq
    · obtain rfl : l = [] := List.length_eq_zero_iff.1 hq
      clear hq
      go_enter Tryz.func40, Tryz.ntmps40
      go_wp2_with fail
      refine wp_loop_rounds 1 ?_
      rw [rounds_succ]
      go_wp2_with fail
      go_ret
      exact ⟨rfl, Gr.refl _⟩
    · have d1 : decide (1 ≤ (l.length : Int)) = true := by simp; omega
      have d8 : decide ((l.length : Int) ≤ 8) = false := by simp; omega
      go_enter Tryz.func40, Tryz.ntmps40
      go_wp2_with fail
      go_loopw [26, 5] (fun i v wr => ∃ k : Nat, k ≤ l.length ∧ i = .int .i64 k ∧ v = .bool false ∧ Gr w wr) (fun i _ _ => l.length - (intOf i).toNat)
      case atStart => exact ⟨0, Nat.zero_le _, rfl, rfl, Gr.refl _⟩
      case round =>
        obtain ⟨k, hk, rfl, rfl, hg⟩ := hrel
        by_cases hlt : k < l.length
        · obtain ⟨s, hs⟩ := get_some l k hlt
          obtain ⟨b, off, rfl, hb, h0, h1, h2, h3⟩ := (hl.gr hg) k s hs
          go_wp2_with fail
          go_roundw
          case rel => exact ⟨k + 1, by omega, by go_num, rfl, hg.alloc _⟩
          case measure => simp [intOf]; omega
        · go_wp2_with fail
          go_ret
          exact ⟨rfl, hg⟩

set_option maxHeartbeats 800000 in
theorem rlegalGuest_yes (p : Int) (a : Option Addr) (l : List Tsk) (c : Nat) (w : World) (hl : TsksAt w a l) (hp : p = 1 ∨ p = 2) (h1 : 1 ≤ l.length) (h8 : l.length ≤ 8) :
    Calls Tryz.prog 40 #[.int .i64 p, .slice a l.length c] w fun e w' => e = .returned (.bool (allLegT l)) ∧ Gr w w' := by
  have d1 : decide (1 ≤ (l.length : Int)) = true := by simp; omega
  have d8 : decide ((l.length : Int) ≤ 8) = true := by simp; omega
  rcases hp with rfl | rfl
  all_goals
    go_enter Tryz.func40, Tryz.ntmps40
    go_wp2_with fail
    go_loopw [26, 5] (fun i v wr => ∃ k : Nat, k ≤ l.length ∧ i = .int .i64 k ∧ v = .bool (allLegT (l.take k)) ∧ Gr w wr) (fun i _ _ => l.length - (intOf i).toNat)
    case atStart => exact ⟨0, Nat.zero_le _, rfl, rfl, Gr.refl _⟩
    case round =>
      obtain ⟨k, hk, rfl, rfl, hg⟩ := hrel
      by_cases hlt : k < l.length
      · obtain ⟨s, hs⟩ := get_some l k hlt
        obtain ⟨b, off, rfl, hb, h0, h1, h2, h3⟩ := (hl.gr hg) k s hs
        have hsn : allLegT (l.take (k + 1)) = (allLegT (l.take k) && s.leg) := by rw [take_snoc hs, allLegT_snoc]
        have hsn := Lib.hid hsn
        cases hq : allLegT (l.take k)
        · rw [hq] at hsn
          have hq := Lib.hid hq
          go_wp2_with fail
          go_roundw
          case rel => exact ⟨k + 1, by omega, by go_num, by rw [hsn.out]; rfl, hg.alloc _⟩
          case measure => simp [intOf]; omega
        · rw [hq] at hsn
          have hq := Lib.hid hq
          go_wp2_with fail
          refine (rlegalTask_any s _).mono ?_
          rintro e wa ⟨rfl, ga⟩
          obtain ⟨ca, fa, sa⟩ := ga.cells
          try simp only [size_drewN] at ca fa sa
          try simp only [World.size_alloc] at ca fa sa
          try simp only [World.size_drew] at ca fa sa
          try simp only [World.size_setCell] at ca fa sa
          go_wp2_with fail
          go_roundw
          case rel => exact ⟨k + 1, by omega, by go_num, by rw [hsn.out]; rfl, (hg.alloc _).trans ga⟩
          case measure => simp [intOf]; omega
      · have hall : l.take k = l := List.take_of_length_le (by omega)
        rw [hall]
        go_wp2_with fail
        go_ret
        exact ⟨rfl, hg⟩

theorem rlegalGuest_any (p : Int) (a : Option Addr) (l : List Tsk) (c : Nat) (w : World) (hl : TsksAt w a l) (hm : l.length ≤ maxLen) :
    Calls Tryz.prog 40 #[.int .i64 p, .slice a l.length c] w fun e w' => e = .returned (.bool (guestOk p l)) ∧ Gr w w' := by
  by_cases h : (p = 1 ∨ p = 2) ∧ 1 ≤ l.length ∧ l.length ≤ 8
  · have e : guestOk p l = allLegT l := by
      unfold guestOk
      rw [decide_eq_true h.1, decide_eq_true h.2]; rfl
    rw [e]
    exact rlegalGuest_yes p a l c w hl h.1 h.2.1 h.2.2
  · have e : guestOk p l = false := by
      cases hh : guestOk p l
      · rfl
      · obtain ⟨x, y, z⟩ := (guestOk_iff p l).1 hh
        unfold tasksOk at z
        simp only [Bool.and_eq_true, decide_eq_true_eq] at z
        exact absurd ⟨x, y, z.2⟩ h
    rw [e]
    exact rlegalGuest_no p a l c w hl hm h
end Go.Proofs.YtglfdnfojpdkjaaGreatDoor
/- almonerref02: Compare, Against; almonerref08: share, Within. -/
namespace Go.Proofs.YtglfdnfojpdkjaaGreatDoor
open Go.RowKit

theorem bless8 (a b : Option Addr) (da db : List Int) (ca cb : Nat) (x y : Int) (w : World) (ha : BigAt w a da) (hb : BigAt w b db) (ga : Dig da) (gb : Dig db) (hx : valD da = x) (hy : valD db = y) (la : da.length ≤ 8) (lb : db.length ≤ 8) (r : Bool) (hr : decide (x < y) = r) :
    Calls Tryz.prog 90 #[.slice a da.length ca, .slice b db.length cb] w fun e w' => e = .returned (.bool r) ∧ w = w' := by
  have h := bless_any a b da db ca cb w ha hb ga gb (by omega) (by omega)
  rw [hx, hy, hr] at h
  exact h

set_option maxHeartbeats 800000 in
theorem rshare_any (n d q t : Int) (w : World) (hn : Wide n) (hd : Wide d) (h0 : 0 < d) (hq : 0 ≤ q) (hq' : q ≤ 4294967296) (ht : 1 ≤ t) (ht' : t ≤ 4294967296) (h1 : Wide (n * t + d * q)) (h2 : Wide (d * t)) :
    Calls Tryz.prog 87 #[.agg #[.int .u64 (hiW n), .int .u64 (loW n), .int .u64 (hiW d), .int .u64 (loW d)], .int .i64 q, .int .i64 t] w fun e w' => e = .returned (.agg #[.int .u64 (hiW (n * t + d * q)), .int .u64 (loW (n * t + d * q)), .int .u64 (hiW (d * t)), .int .u64 (loW (d * t))]) ∧ Gr w w' := by
  go_enter Tryz.func87, Tryz.ntmps87
  go_wp2_with fail
  refine (rplus_any n d q t _ hn hd h0 hq hq' ht ht' h1 h2).mono ?_
  rintro e wa ⟨rfl, ga⟩
  obtain ⟨ca, fa, sa⟩ := ga.cells
  try simp only [size_drewN] at ca fa sa
  try simp only [World.size_alloc] at ca fa sa
  try simp only [World.size_drew] at ca fa sa
  try simp only [World.size_setCell] at ca fa sa
  have za0 : w.heap.size < wa.heap.size := by omega
  have ya0 : w.heap.size ≤ wa.heap.size := by omega
  have ka0 := fun o => ca (w.heap.size) o (by omega)
  have ja0 := fun o => fa (w.heap.size) o (by omega)
  have za1 : w.heap.size + 1 < wa.heap.size := by omega
  have ka1 := fun o => ca (w.heap.size + 1) o (by omega)
  have ja1 := fun o => fa (w.heap.size + 1) o (by omega)
  go_wp2_with fail
  refine bodyPost_ret (v := .agg #[.int .u64 (hiW (n * t + d * q)), .int .u64 (loW (n * t + d * q)), .int .u64 (hiW (d * t)), .int .u64 (loW (d * t))]) (by simp (maxDischargeDepth := 8) [results, Tryz.results87, go_sem, *]) rfl ⟨rfl, ?_⟩
  repeat (first | exact Gr.refl _ | apply Gr.alloc | apply Gr.drew | apply Gr.drewN | (refine Gr.setCell ?_ (by simp) _) | (refine Gr.trans ?_ (by assumption)))

end Go.Proofs.YtglfdnfojpdkjaaGreatDoor
/- plan.Tasks. -/
namespace Go.Proofs.YtglfdnfojpdkjaaGreatDoor
open Go.RowKit

def shareT (l : List Tsk) : Int × Int := l.foldl (fun p s => plusP p s.c s.p) (0, 1)
theorem shareT_snoc (l : List Tsk) (s : Tsk) : shareT (l ++ [s]) = plusP (shareT l) s.c s.p := by
  unfold shareT; rw [List.foldl_append]; rfl
theorem shareT_bd (l : List Tsk) (h : allLegT l = true) (i : Nat) (hi : i ≤ l.length) :
    0 ≤ (shareT (l.take i)).1 ∧ (shareT (l.take i)).1 ≤ i * P256 i ∧ 1 ≤ (shareT (l.take i)).2 ∧ (shareT (l.take i)).2 ≤ P256 i := by
  induction i with
  | zero => rw [List.take_zero]; exact ⟨by decide, by decide, by decide, by decide⟩
  | succ i ih =>
    obtain ⟨s, hs⟩ := get_some l i (by omega)
    have hl := (Tsk.leg_iff _).1 (allLegT_get h hs)
    rw [take_snoc hs, shareT_snoc]
    have := plusP_bd (ih (by omega)) ⟨hl.1, Int.le_trans hl.2.1 hl.2.2.1, hl.2.2.2.1⟩
    exact ⟨this.1, this.2.1, this.2.2.1, this.2.2.2.1⟩

set_option maxHeartbeats 800000 in
theorem tasks_no {G : List Nat} {E : Nat → Addr} (a : Option Addr) (l : List Tsk) (c : Nat) (w : World) (hE : EAt G E w) (i1 : 6 ∈ G) (hl : TsksAt w a l) (hm : l.length ≤ maxLen) (h : tasksOk l = false) :
    Calls Tryz.prog 143 #[.slice a l.length c] w fun e w' => e = .returned (.tuple #[partZ, (Value.iface 258 (.pointer (some (E 6))))]) ∧ Gr w w' := by
  replace h := Lib.hid h
  go_enter Tryz.func143, Tryz.ntmps143
  go_wp2_with fail
  refine (checkTasks_no a l c _ (hE.gr ((Gr.refl w).alloc _)) i1 (hl.gr ((Gr.refl w).alloc _)) hm h.out).mono ?_
  rintro e wa ⟨rfl, ga⟩
  obtain ⟨ca, fa, sa⟩ := ga.cells
  try simp only [size_drewN] at ca fa sa
  try simp only [World.size_alloc] at ca fa sa
  try simp only [World.size_drew] at ca fa sa
  try simp only [World.size_setCell] at ca fa sa
  have za0 : w.heap.size < wa.heap.size := by omega
  have ya0 : w.heap.size ≤ wa.heap.size := by omega
  have ka0 := fun o => ca (w.heap.size) o (by omega)
  have ja0 := fun o => fa (w.heap.size) o (by omega)
  go_wp2_with fail
  refine bodyPost_ret (v := .tuple #[partZ, (Value.iface 258 (.pointer (some (E 6))))]) (by simp (maxDischargeDepth := 8) [results, Tryz.results143, go_sem, *]) rfl ⟨rfl, ?_⟩
  repeat (first | exact Gr.refl _ | apply Gr.alloc | apply Gr.drew | apply Gr.drewN | (refine Gr.setCell ?_ (by simp) _) | (refine Gr.trans ?_ (by assumption)))

set_option maxHeartbeats 1600000 in
theorem tasks_yes (a : Option Addr) (l : List Tsk) (c : Nat) (w : World) (hl : TsksAt w a l) (hok : tasksOk l = true) :
    Calls Tryz.prog 143 #[.slice a l.length c] w fun e w' => e = .returned (.tuple #[partV (shareT l), .nilIface]) ∧ Gr w w' := by
  have hok' := hok
  simp only [tasksOk, Bool.and_eq_true, decide_eq_true_eq] at hok'
  obtain ⟨h, h8⟩ := hok'
  replace hok := Lib.hid hok
  go_enter Tryz.func143, Tryz.ntmps143
  go_wp2_with fail
  refine (checkTasks_yes a l c _ (hl.gr ((Gr.refl w).alloc _)) hok.out).mono ?_
  rintro e wa ⟨rfl, ga⟩
  obtain ⟨ca, fa, sa⟩ := ga.cells
  try simp only [size_drewN] at ca fa sa
  try simp only [World.size_alloc] at ca fa sa
  try simp only [World.size_drew] at ca fa sa
  try simp only [World.size_setCell] at ca fa sa
  have za0 : w.heap.size < wa.heap.size := by omega
  have ya0 : w.heap.size ≤ wa.heap.size := by omega
  have ka0 := fun o => ca (w.heap.size) o (by omega)
  have ja0 := fun o => fa (w.heap.size) o (by omega)
  go_wp2_with fail
  refine (nothing_any _).mono ?_
  rintro e wb ⟨rfl, gb⟩
  obtain ⟨cb, fb, sb⟩ := gb.cells
  try simp only [size_drewN] at cb fb sb
  try simp only [World.size_alloc] at cb fb sb
  try simp only [World.size_drew] at cb fb sb
  try simp only [World.size_setCell] at cb fb sb
  have zb0 : w.heap.size < wb.heap.size := by omega
  have yb0 : w.heap.size ≤ wb.heap.size := by omega
  have kb0 := fun o => cb (w.heap.size) o (by omega)
  have jb0 := fun o => fb (w.heap.size) o (by omega)
  go_wp2_with fail
  have gb0 : Gr w wb := (((Gr.refl w).alloc _).trans ga).trans gb
  go_loopw [17] (fun i wx => ∃ j : Nat, j ≤ l.length ∧ i = .int .i64 j ∧ Gr wb wx ∧ wb.heap.size < wx.heap.size ∧ (∀ o, wx.frozen? ⟨wb.heap.size, o, none⟩ = false) ∧ wx.cell? ⟨wb.heap.size, 0, none⟩ = some (.int .u64 (hiW (shareT (l.take j)).1)) ∧ wx.cell? ⟨wb.heap.size, 1, none⟩ = some (.int .u64 (loW (shareT (l.take j)).1)) ∧ wx.cell? ⟨wb.heap.size, 2, none⟩ = some (.int .u64 (hiW (shareT (l.take j)).2)) ∧ wx.cell? ⟨wb.heap.size, 3, none⟩ = some (.int .u64 (loW (shareT (l.take j)).2))) (fun i _ => l.length - (intOf i).toNat)
  case atStart => exact ⟨0, Nat.zero_le _, rfl, (Gr.refl _).alloc _, by simp, by simp [go_sem], by simp [go_sem]; rfl, by simp [go_sem]; rfl, by simp [go_sem]; rfl, by simp [go_sem]; rfl⟩
  case round =>
    obtain ⟨j, hj, rfl, gx, zx, fx, x0, x1, x2, x3⟩ := hrel
    have hgx : Gr w wr := gb0.trans gx
    obtain ⟨cx, fx', _⟩ := gx.cells
    have zx0 : w.heap.size < wr.heap.size := by omega
    have bd := shareT_bd l h j hj
    by_cases hlt2 : j < l.length
    · obtain ⟨s, hs⟩ := get_some l j hlt2
      obtain ⟨b, off, rfl, hb, h0, h1, h2, h3⟩ := (hl.gr hgx) j s hs
      have hleg := (Tsk.leg_iff _).1 (allLegT_get h hs)
      obtain ⟨s1, s2, s3, s4, s5, s6, s7, s8, s9⟩ := share_step (by omega) bd ⟨hleg.1, Int.le_trans hleg.2.1 hleg.2.2.1, hleg.2.2.2.1⟩
      have hsn : shareT (l.take (j + 1)) = plusP (shareT (l.take j)) s.c s.p := by rw [take_snoc hs, shareT_snoc]
      have hsn := Lib.hid hsn
      generalize shareT (l.take j) = p at *
      obtain ⟨n, d⟩ := p
      dsimp only at s1 s2 s3 s4 s5 s6 s7 s8 s9 x0 x1 x2 x3
      clear bd
      go_wp2_with fail
      refine (plus_any n d s.c s.p _ s1 s2 s3 s4 s5 s6 s7 s8 s9).mono ?_
      rintro e wp ⟨rfl, gp⟩
      obtain ⟨cp, fp, sp⟩ := gp.cells
      try simp only [size_drewN] at cp fp sp
      try simp only [World.size_alloc] at cp fp sp
      try simp only [World.size_drew] at cp fp sp
      try simp only [World.size_setCell] at cp fp sp
      have zp0 : w.heap.size < wp.heap.size := by omega
      have yp0 : w.heap.size ≤ wp.heap.size := by omega
      have kp0 := fun o => cp (w.heap.size) o (by omega)
      have jp0 := fun o => fp (w.heap.size) o (by omega)
      have zp1 : wb.heap.size < wp.heap.size := by omega
      have yp1 : wb.heap.size ≤ wp.heap.size := by omega
      have kp1 := fun o => cp (wb.heap.size) o (by omega)
      have jp1 := fun o => fp (wb.heap.size) o (by omega)
      go_wp2_with fail
      go_roundw
      case rel =>
        refine ⟨j + 1, by omega, by go_num, ?_, by simp; omega, fun o => by simp [go_sem, *], ?_, ?_, ?_, ?_⟩
        · have := (gx.alloc (.cells #[.int .i64 s.c, .int .i64 s.p, .int .i64 s.d, .int .i64 s.s] 115)).trans gp
          repeat (first | exact this | (refine Gr.setCell ?_ (by simp) _))
        all_goals (rw [hsn.out]; simp (maxDischargeDepth := 8) [go_sem, plusP, *])
      case measure => simp [intOf]; omega
    · have hj' : j = l.length := by omega
      subst hj'
      rw [List.take_length] at x0 x1 x2 x3
      go_wp2_with fail
      refine bodyPost_ret (v := .tuple #[partV (shareT l), .nilIface]) (by simp (maxDischargeDepth := 8) [results, Tryz.results143, go_sem, *]) rfl ⟨rfl, ?_⟩
      repeat (first | exact Gr.refl _ | apply Gr.alloc | apply Gr.drew | apply Gr.drewN | (refine Gr.setCell ?_ (by simp) _) | (refine Gr.trans ?_ (by assumption)))
end Go.Proofs.YtglfdnfojpdkjaaGreatDoor
/- almonerref08: Servers, Tasks. -/
namespace Go.Proofs.YtglfdnfojpdkjaaGreatDoor
open Go.RowKit

abbrev z4 : Obj := .cells #[.int .u64 0, .int .u64 0, .int .u64 0, .int .u64 0] 136
abbrev z1 : Obj := .cells #[.int .u64 0, .int .u64 0, .int .u64 0, .int .u64 1] 136

set_option maxHeartbeats 1600000 in
theorem rservers_no (a : Option Addr) (l : List Srv) (c : Nat) (w : World) (hl : SrvsAt w a l) (hm : l.length ≤ maxLen) (h : allLeg l = false) :
    Calls Tryz.prog 81 #[.slice a l.length c] w fun e w' => e = .returned (.tuple #[partZ, .int .i64 10]) ∧ Gr w w' := by
  unfold maxLen at hm
  replace h := Lib.hid h
  go_enter Tryz.func81, Tryz.ntmps81
  go_wp2_with fail
  go_loopw [13] (fun i wr => ∃ k : Nat, k ≤ l.length ∧ allLeg (l.take k) = true ∧ i = .int .i64 k ∧ Gr ((w.alloc z4).alloc z1) wr) (fun i _ => l.length - (intOf i).toNat)
  case atStart => exact ⟨0, Nat.zero_le _, rfl, rfl, Gr.refl _⟩
  case round =>
    obtain ⟨k, hk, hal, rfl, hg⟩ := hrel
    replace hal := Lib.hid hal
    have hgw : Gr w wr := (((Gr.refl _).alloc _).alloc _).trans hg
    have zw : w.heap.size + 1 < wr.heap.size := by have := hg.size; simp at this; omega
    have zw0 : w.heap.size < wr.heap.size := by omega
    obtain ⟨cw, fw, _⟩ := hg.cells
    simp only [World.size_alloc] at cw fw
    by_cases hlt : k < l.length
    · obtain ⟨s, hs⟩ := get_some l k hlt
      obtain ⟨b, off, rfl, hb, h0, h1, h2⟩ := (hl.gr hgw) k s hs
      have hc := rlegal_any s
      cases hleg : s.leg
      · rw [hleg] at hc
        replace hc := Lib.hid hc
        replace hleg := Lib.hid hleg
        go_wp2_with fail
        refine (hc.out _).mono ?_
        rintro e wa ⟨rfl, ga⟩
        obtain ⟨ca, fa, sa⟩ := ga.cells
        try simp only [size_drewN] at ca fa sa
        try simp only [World.size_alloc] at ca fa sa
        try simp only [World.size_drew] at ca fa sa
        try simp only [World.size_setCell] at ca fa sa
        have za0 : w.heap.size < wa.heap.size := by omega
        have ya0 : w.heap.size ≤ wa.heap.size := by omega
        have ka0 := fun o => ca (w.heap.size) o (by omega)
        have ja0 := fun o => fa (w.heap.size) o (by omega)
        go_wp2_with fail
        refine bodyPost_ret (v := .tuple #[partZ, .int .i64 10]) (by simp (maxDischargeDepth := 8) [results, Tryz.results81, go_sem, *]) rfl ⟨rfl, ?_⟩
        repeat (first | exact Gr.refl _ | apply Gr.alloc | apply Gr.drew | apply Gr.drewN | (refine Gr.setCell ?_ (by simp) _) | (refine Gr.trans ?_ (by assumption)))
      · rw [hleg] at hc
        replace hc := Lib.hid hc
        replace hleg := Lib.hid hleg
        go_wp2_with fail
        refine (hc.out _).mono ?_
        rintro e wa ⟨rfl, ga⟩
        obtain ⟨ca, fa, sa⟩ := ga.cells
        try simp only [size_drewN] at ca fa sa
        try simp only [World.size_alloc] at ca fa sa
        try simp only [World.size_drew] at ca fa sa
        try simp only [World.size_setCell] at ca fa sa
        have za0 : w.heap.size < wa.heap.size := by omega
        have ya0 : w.heap.size ≤ wa.heap.size := by omega
        have ka0 := fun o => ca (w.heap.size) o (by omega)
        have ja0 := fun o => fa (w.heap.size) o (by omega)
        go_wp2_with fail
        go_roundw
        case rel => exact ⟨k + 1, by omega, by rw [take_snoc hs, allLeg_snoc, hal.out, hleg.out]; rfl, by go_num, (hg.alloc _).trans ga⟩
        case measure => simp [intOf]; omega
    · have h1 := hal.out
      have h2 := h.out
      have : l.take k = l := List.take_of_length_le (by omega)
      rw [this, h2] at h1
      cases h1

set_option maxHeartbeats 1600000 in
theorem rservers_full (a : Option Addr) (l : List Srv) (c : Nat) (w : World) (hl : SrvsAt w a l) (hm : l.length ≤ maxLen) (h : allLeg l = true) (h8 : 8 < l.length) :
    Calls Tryz.prog 81 #[.slice a l.length c] w fun e w' => e = .returned (.tuple #[partZ, .int .i64 7]) ∧ Gr w w' := by
  unfold maxLen at hm
  replace h := Lib.hid h
  go_enter Tryz.func81, Tryz.ntmps81
  go_wp2_with fail
  go_loopw [13] (fun i wr => ∃ k : Nat, k ≤ l.length ∧ i = .int .i64 k ∧ Gr ((w.alloc z4).alloc z1) wr) (fun i _ => l.length - (intOf i).toNat)
  case atStart => exact ⟨0, Nat.zero_le _, rfl, Gr.refl _⟩
  case round =>
    obtain ⟨k, hk, rfl, hg⟩ := hrel
    have hgw : Gr w wr := (((Gr.refl _).alloc _).alloc _).trans hg
    have zw : w.heap.size + 1 < wr.heap.size := by have := hg.size; simp at this; omega
    have zw0 : w.heap.size < wr.heap.size := by omega
    obtain ⟨cw, fw, _⟩ := hg.cells
    simp only [World.size_alloc] at cw fw
    by_cases hlt : k < l.length
    · obtain ⟨s, hs⟩ := get_some l k hlt
      obtain ⟨b, off, rfl, hb, h0, h1, h2⟩ := (hl.gr hgw) k s hs
      have hc := rlegal_any s
      rw [allLeg_get h.out hs] at hc
      replace hc := Lib.hid hc
      go_wp2_with fail
      refine (hc.out _).mono ?_
      rintro e wa ⟨rfl, ga⟩
      obtain ⟨ca, fa, sa⟩ := ga.cells
      try simp only [size_drewN] at ca fa sa
      try simp only [World.size_alloc] at ca fa sa
      try simp only [World.size_drew] at ca fa sa
      try simp only [World.size_setCell] at ca fa sa
      have za0 : w.heap.size < wa.heap.size := by omega
      have ya0 : w.heap.size ≤ wa.heap.size := by omega
      have ka0 := fun o => ca (w.heap.size) o (by omega)
      have ja0 := fun o => fa (w.heap.size) o (by omega)
      go_wp2_with fail
      go_roundw
      case rel => exact ⟨k + 1, by omega, by go_num, (hg.alloc _).trans ga⟩
      case measure => simp [intOf]; omega
    · go_wp2_with fail
      refine bodyPost_ret (v := .tuple #[partZ, .int .i64 7]) (by simp (maxDischargeDepth := 8) [results, Tryz.results81, go_sem, *]) rfl ⟨rfl, ?_⟩
      repeat (first | exact Gr.refl _ | apply Gr.alloc | apply Gr.drew | apply Gr.drewN | (refine Gr.setCell ?_ (by simp) _) | (refine Gr.trans ?_ (by assumption)))

set_option maxHeartbeats 1600000 in
theorem rservers_yes (a : Option Addr) (l : List Srv) (c : Nat) (w : World) (hl : SrvsAt w a l) (h : allLeg l = true) (h8 : l.length ≤ 8) :
    Calls Tryz.prog 81 #[.slice a l.length c] w fun e w' => e = .returned (.tuple #[partV (shareS l), .int .i64 0]) ∧ Gr w w' := by
  go_enter Tryz.func81, Tryz.ntmps81
  go_wp2_with fail
  go_loopw [13] (fun i wr => ∃ k : Nat, k ≤ l.length ∧ i = .int .i64 k ∧ Gr ((w.alloc z4).alloc z1) wr) (fun i _ => l.length - (intOf i).toNat)
  case atStart => exact ⟨0, Nat.zero_le _, rfl, Gr.refl _⟩
  case round =>
    obtain ⟨k, hk, rfl, hg⟩ := hrel
    have hgw : Gr w wr := (((Gr.refl _).alloc _).alloc _).trans hg
    have zw : w.heap.size + 1 < wr.heap.size := by have := hg.size; simp at this; omega
    have zw0 : w.heap.size < wr.heap.size := by omega
    obtain ⟨cw, fw, _⟩ := hg.cells
    simp only [World.size_alloc] at cw fw
    by_cases hlt : k < l.length
    · obtain ⟨s, hs⟩ := get_some l k hlt
      obtain ⟨b, off, rfl, hb, h0, h1, h2⟩ := (hl.gr hgw) k s hs
      have hc := rlegal_any s
      rw [allLeg_get h hs] at hc
      replace hc := Lib.hid hc
      go_wp2_with fail
      refine (hc.out _).mono ?_
      rintro e wa ⟨rfl, ga⟩
      obtain ⟨ca, fa, sa⟩ := ga.cells
      try simp only [size_drewN] at ca fa sa
      try simp only [World.size_alloc] at ca fa sa
      try simp only [World.size_drew] at ca fa sa
      try simp only [World.size_setCell] at ca fa sa
      have za0 : w.heap.size < wa.heap.size := by omega
      have ya0 : w.heap.size ≤ wa.heap.size := by omega
      have ka0 := fun o => ca (w.heap.size) o (by omega)
      have ja0 := fun o => fa (w.heap.size) o (by omega)
      go_wp2_with fail
      go_roundw
      case rel => exact ⟨k + 1, by omega, by go_num, (hg.alloc _).trans ga⟩
      case measure => simp [intOf]; omega
    · go_wp2_with fail
      obtain ⟨wo, rfl⟩ : ∃ wo : World, wo = wr := ⟨_, rfl⟩
      have q0 : wo.cell? ⟨w.heap.size, 0, none⟩ = some (.int .u64 0) := by simp [go_sem, *]
      have q1 : wo.cell? ⟨w.heap.size, 1, none⟩ = some (.int .u64 0) := by simp [go_sem, *]
      have q2 : wo.cell? ⟨w.heap.size, 2, none⟩ = some (.int .u64 0) := by simp [go_sem, *]
      have q3 : wo.cell? ⟨w.heap.size, 3, none⟩ = some (.int .u64 0) := by simp [go_sem, *]
      have qf : ∀ o, wo.frozen? ⟨w.heap.size, o, none⟩ = false := fun o => by simp [go_sem, *]
      have p0 : wo.cell? ⟨w.heap.size + 1, 0, none⟩ = some (.int .u64 (hiW (shareS (l.take 0)).1)) := by simp [go_sem, *]; rfl
      have p1 : wo.cell? ⟨w.heap.size + 1, 1, none⟩ = some (.int .u64 (loW (shareS (l.take 0)).1)) := by simp [go_sem, *]; rfl
      have p2 : wo.cell? ⟨w.heap.size + 1, 2, none⟩ = some (.int .u64 (hiW (shareS (l.take 0)).2)) := by simp [go_sem, *]; rfl
      have p3 : wo.cell? ⟨w.heap.size + 1, 3, none⟩ = some (.int .u64 (loW (shareS (l.take 0)).2)) := by simp [go_sem, *]; rfl
      have pf : ∀ o, wo.frozen? ⟨w.heap.size + 1, o, none⟩ = false := fun o => by simp [go_sem, *]
      clear cw fw hg
      go_loopw [28] (fun i wx => ∃ j : Nat, j ≤ l.length ∧ i = .int .i64 j ∧ Gr w wx ∧ w.heap.size + 1 < wx.heap.size ∧ (∀ o, wx.frozen? ⟨w.heap.size, o, none⟩ = false) ∧ wx.cell? ⟨w.heap.size, 0, none⟩ = some (.int .u64 0) ∧ wx.cell? ⟨w.heap.size, 1, none⟩ = some (.int .u64 0) ∧ wx.cell? ⟨w.heap.size, 2, none⟩ = some (.int .u64 0) ∧ wx.cell? ⟨w.heap.size, 3, none⟩ = some (.int .u64 0) ∧ (∀ o, wx.frozen? ⟨w.heap.size + 1, o, none⟩ = false) ∧ wx.cell? ⟨w.heap.size + 1, 0, none⟩ = some (.int .u64 (hiW (shareS (l.take j)).1)) ∧ wx.cell? ⟨w.heap.size + 1, 1, none⟩ = some (.int .u64 (loW (shareS (l.take j)).1)) ∧ wx.cell? ⟨w.heap.size + 1, 2, none⟩ = some (.int .u64 (hiW (shareS (l.take j)).2)) ∧ wx.cell? ⟨w.heap.size + 1, 3, none⟩ = some (.int .u64 (loW (shareS (l.take j)).2))) (fun i _ => l.length - (intOf i).toNat)
      case atStart => exact ⟨0, Nat.zero_le _, rfl, hgw, zw, qf, q0, q1, q2, q3, pf, p0, p1, p2, p3⟩
      case round =>
        clear q0 q1 q2 q3 qf p0 p1 p2 p3 pf hgw zw zw0
        obtain ⟨j, hj, rfl, gx, zx, qf, q0, q1, q2, q3, fx, x0, x1, x2, x3⟩ := hrel
        have zx0 : w.heap.size < wr.heap.size := by omega
        have bd := shareS_bd l h j hj
        by_cases hlt2 : j < l.length
        · obtain ⟨s, hs⟩ := get_some l j hlt2
          obtain ⟨b, off, rfl, hb, h0, h1, h2⟩ := (hl.gr gx) j s hs
          have hleg := (Srv.leg_iff _).1 (allLeg_get h hs)
          obtain ⟨s1, s2, s3, s4, s5, s6, s7, s8, s9⟩ := share_step (by omega) bd ⟨hleg.2.2.1, hleg.2.2.2.1, hleg.2.2.2.2⟩
          have hsn : shareS (l.take (j + 1)) = plusP (shareS (l.take j)) s.q s.t := by rw [take_snoc hs, shareS_snoc]
          replace hsn := Lib.hid hsn
          generalize shareS (l.take j) = p at *
          obtain ⟨n, d⟩ := p
          dsimp only at s1 s2 s3 s4 s5 s6 s7 s8 s9 x0 x1 x2 x3
          clear bd
          go_wp2_with fail
          refine (rshare_any n d s.q s.t _ s1 s2 s3 s4 s5 s6 s7 s8 s9).mono ?_
          rintro e wp ⟨rfl, gp⟩
          obtain ⟨cp, fp, sp⟩ := gp.cells
          try simp only [size_drewN] at cp fp sp
          try simp only [World.size_alloc] at cp fp sp
          try simp only [World.size_drew] at cp fp sp
          try simp only [World.size_setCell] at cp fp sp
          have zp0 : w.heap.size < wp.heap.size := by omega
          have yp0 : w.heap.size ≤ wp.heap.size := by omega
          have kp0 := fun o => cp (w.heap.size) o (by omega)
          have jp0 := fun o => fp (w.heap.size) o (by omega)
          have zp1 : w.heap.size + 1 < wp.heap.size := by omega
          have kp1 := fun o => cp (w.heap.size + 1) o (by omega)
          have jp1 := fun o => fp (w.heap.size + 1) o (by omega)
          go_wp2_with fail
          go_roundw
          case rel =>
            refine ⟨j + 1, by omega, by go_num, ?_, by simp; omega, fun o => by simp [go_sem, *], ?_, ?_, ?_, ?_, fun o => by simp [go_sem, *], ?_, ?_, ?_, ?_⟩
            focus
              repeat (first | exact Gr.refl _ | apply Gr.alloc | apply Gr.drew | apply Gr.drewN | (refine Gr.setCell ?_ (by simp) _) | (refine Gr.trans ?_ (by assumption)))
            all_goals (first | (simp (maxDischargeDepth := 8) [go_sem, *]; done) | (rw [hsn.out]; simp (maxDischargeDepth := 8) [go_sem, plusP, *]))
          case measure => simp [intOf]; omega
        · have hj' : j = l.length := by omega
          subst hj'
          rw [List.take_length] at x0 x1 x2 x3
          go_wp2_with fail
          refine bodyPost_ret (v := .tuple #[partV (shareS l), .int .i64 0]) (by simp (maxDischargeDepth := 8) [results, Tryz.results81, go_sem, *]) rfl ⟨rfl, ?_⟩
          repeat (first | exact Gr.refl _ | apply Gr.alloc | apply Gr.drew | apply Gr.drewN | (refine Gr.setCell ?_ (by simp) _) | (refine Gr.trans ?_ (by assumption)))
end Go.Proofs.YtglfdnfojpdkjaaGreatDoor
