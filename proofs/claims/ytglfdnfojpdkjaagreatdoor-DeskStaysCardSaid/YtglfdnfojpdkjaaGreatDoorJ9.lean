/- almonerref08: Tasks; what plan and the reference tell of servers and tasks, each in one contract. -/
import Derived.Test.YtglfdnfojpdkjaaGreatDoorJ8
import Derived.Test.YtglfdnfojpdkjaaGreatDoorJ3
namespace Go.Proofs.YtglfdnfojpdkjaaGreatDoor
open Go.RowKit

def srvErr (l : List Srv) : Option Nat := if allLeg l = false then some 4 else if 8 < l.length then some 7 else none
def tskErr (l : List Tsk) : Option Nat := if tasksOk l = false then some 6 else none
def errV (E : Nat → Addr) : Option Nat → Value
  | none => .nilIface
  | some g => errAt E g
/-- The words of a share, noughts where there is an error. -/
def pw (o : Option Nat) (p : Int × Int) (i : Nat) : Int :=
  match o with
  | some _ => 0
  | none => match i with
    | 0 => hiW p.1
    | 1 => loW p.1
    | 2 => hiW p.2
    | _ => loW p.2
abbrev pv (o : Option Nat) (p : Int × Int) : Value := .agg #[.int .u64 (pw o p 0), .int .u64 (pw o p 1), .int .u64 (pw o p 2), .int .u64 (pw o p 3)]
theorem pv_some (g : Nat) (p : Int × Int) : pv (some g) p = partZ := rfl
theorem pv_none (p : Int × Int) : pv none p = partV p := rfl

theorem tskErr_bad {l : List Tsk} (h : allLegT l = false ∨ 8 < l.length) : tskErr l = some 6 := by
  unfold tskErr tasksOk
  rw [if_pos]
  rcases h with h | h
  · rw [h]; rfl
  · rw [decide_eq_false (by omega), Bool.and_false]
theorem tskErr_good {l : List Tsk} (h : allLegT l = true) (h8 : l.length ≤ 8) : tskErr l = none := by
  unfold tskErr tasksOk
  rw [if_neg]
  rw [h, decide_eq_true h8]; decide
theorem allLegT_not {l : List Tsk} {i : Nat} {s : Tsk} (hi : l[i]? = some s) (h : s.leg = false) : allLegT l = false := by
  cases hh : allLegT l
  · rfl
  · rw [allLegT_get hh hi] at h; cases h
theorem shareT_bd' (l : List Tsk) (i : Nat) (hi : i ≤ l.length) (h : allLegT (l.take i) = true) :
    0 ≤ (shareT (l.take i)).1 ∧ (shareT (l.take i)).1 ≤ i * P256 i ∧ 1 ≤ (shareT (l.take i)).2 ∧ (shareT (l.take i)).2 ≤ P256 i := by
  have := shareT_bd (l.take i) h i (by rw [List.length_take]; omega)
  rwa [List.take_take, Nat.min_self] at this

end Go.Proofs.YtglfdnfojpdkjaaGreatDoor
/- plan.Within and the reference's, each in one contract. -/
namespace Go.Proofs.YtglfdnfojpdkjaaGreatDoor
open Go.RowKit

/-- How a share compares with a server's; whether there is an answer. -/
def wiB (o : Option Nat) (s : Srv) : Bool := (o == none) && (decide (s.k = 0 ∧ s.q = 0 ∧ s.t = 0) || s.leg)
def wiC (o : Option Nat) (p : Int × Int) (s : Srv) : Int := if wiB o s = true then (if s.k = 0 ∧ s.q = 0 ∧ s.t = 0 then cmpI p.1 p.2 else cmpI (p.1 * s.t) (p.2 * s.q)) else 0

set_option maxHeartbeats 800000 in
theorem within_bad {G : List Nat} {E : Nat → Addr} (a b c d : Int) (s : Srv) (w : World) (hE : EAt G E w) (i0 : 4 ∈ G) (hs : s.leg = false) (hz : ¬ (s.k = 0 ∧ s.q = 0 ∧ s.t = 0)) :
    Calls Tryz.prog 152 #[.agg #[.int .u64 a, .int .u64 b, .int .u64 c, .int .u64 d], .agg #[.int .i64 s.k, .int .i64 s.q, .int .i64 s.t]] w fun e w' => e = .returned (.tuple #[.int .i64 0, .bool false]) ∧ Gr w w' := by
  obtain ⟨k, q, t⟩ := s
  dsimp only at hz ⊢
  replace hs := Lib.hid hs
  have hE2 := hE.gr (((Gr.refl w).alloc (.cells #[.int .u64 a, .int .u64 b, .int .u64 c, .int .u64 d] 136)).alloc (.cells #[.int .i64 k, .int .i64 q, .int .i64 t] 24))
  by_cases hk : k = 0
  · subst hk
    by_cases hq : q = 0
    · subst hq
      have ht : ¬ t = 0 := fun h => hz ⟨rfl, rfl, h⟩
      have ht' : (t == 0) = false := by simpa using ht
      clear hz ht
      go_enter Tryz.func152, Tryz.ntmps152
      go_wp2_with fail
      refine (checkServer_no 0 0 t _ hE2 i0 hs.out).mono ?_
      rintro e wa ⟨rfl, ga⟩
      obtain ⟨ca, fa, sa⟩ := ga.cells
      try simp only [size_drewN] at ca fa sa
      try simp only [World.size_alloc] at ca fa sa
      try simp only [World.size_drew] at ca fa sa
      try simp only [World.size_setCell] at ca fa sa
      have za0 : w.heap.size < wa.heap.size := by omega
      have ya0 : w.heap.size ≤ wa.heap.size := by omega
      have ka0 := fun o => ca (w.heap.size) o (by omega)
      have ja0 := fun o => fa (w.heap.size) o (by omega)
      have za1 : w.heap.size + 1 < wa.heap.size := by omega
      have ka1 := fun o => ca (w.heap.size + 1) o (by omega)
      have ja1 := fun o => fa (w.heap.size + 1) o (by omega)
      go_wp2_with fail
      go_ret2
      refine ⟨rfl, ?_⟩
      repeat (first | exact Gr.refl _ | apply Gr.alloc | apply Gr.drew | apply Gr.drewN | (refine Gr.setCell ?_ (by simp) _) | (refine Gr.trans ?_ (by assumption)))
    · have hq' : (q == 0) = false := by simpa using hq
      clear hz hq
      go_enter Tryz.func152, Tryz.ntmps152
      go_wp2_with fail
      refine (checkServer_no 0 q t _ hE2 i0 hs.out).mono ?_
      rintro e wa ⟨rfl, ga⟩
      obtain ⟨ca, fa, sa⟩ := ga.cells
      try simp only [size_drewN] at ca fa sa
      try simp only [World.size_alloc] at ca fa sa
      try simp only [World.size_drew] at ca fa sa
      try simp only [World.size_setCell] at ca fa sa
      have za0 : w.heap.size < wa.heap.size := by omega
      have ya0 : w.heap.size ≤ wa.heap.size := by omega
      have ka0 := fun o => ca (w.heap.size) o (by omega)
      have ja0 := fun o => fa (w.heap.size) o (by omega)
      have za1 : w.heap.size + 1 < wa.heap.size := by omega
      have ka1 := fun o => ca (w.heap.size + 1) o (by omega)
      have ja1 := fun o => fa (w.heap.size + 1) o (by omega)
      go_wp2_with fail
      go_ret2
      refine ⟨rfl, ?_⟩
      repeat (first | exact Gr.refl _ | apply Gr.alloc | apply Gr.drew | apply Gr.drewN | (refine Gr.setCell ?_ (by simp) _) | (refine Gr.trans ?_ (by assumption)))
  · have hk' : (k == 0) = false := by simpa using hk
    clear hz hk
    go_enter Tryz.func152, Tryz.ntmps152
    go_wp2_with fail
    refine (checkServer_no k q t _ hE2 i0 hs.out).mono ?_
    rintro e wa ⟨rfl, ga⟩
    obtain ⟨ca, fa, sa⟩ := ga.cells
    try simp only [size_drewN] at ca fa sa
    try simp only [World.size_alloc] at ca fa sa
    try simp only [World.size_drew] at ca fa sa
    try simp only [World.size_setCell] at ca fa sa
    have za0 : w.heap.size < wa.heap.size := by omega
    have ya0 : w.heap.size ≤ wa.heap.size := by omega
    have ka0 := fun o => ca (w.heap.size) o (by omega)
    have ja0 := fun o => fa (w.heap.size) o (by omega)
    have za1 : w.heap.size + 1 < wa.heap.size := by omega
    have ka1 := fun o => ca (w.heap.size + 1) o (by omega)
    have ja1 := fun o => fa (w.heap.size + 1) o (by omega)
    go_wp2_with fail
    go_ret2
    refine ⟨rfl, ?_⟩
    repeat (first | exact Gr.refl _ | apply Gr.alloc | apply Gr.drew | apply Gr.drewN | (refine Gr.setCell ?_ (by simp) _) | (refine Gr.trans ?_ (by assumption)))

set_option maxHeartbeats 800000 in
theorem within_leg0 (s : Srv) (w : World) (hs : s.leg = true) :
    Calls Tryz.prog 152 #[partZ, .agg #[.int .i64 s.k, .int .i64 s.q, .int .i64 s.t]] w fun e w' => e = .returned (.tuple #[.int .i64 0, .bool false]) ∧ Gr w w' := by
  obtain ⟨h1, h2, h3, h4, h5⟩ := (Srv.leg_iff _).1 hs
  replace hs := Lib.hid hs
  have ha := fun w => against_zero 0 s.q s.t w
  have e0 : hiW 0 = 0 ∧ loW 0 = 0 := by decide
  rw [e0.1, e0.2] at ha
  replace ha := Lib.hid ha
  clear e0
  go_enter Tryz.func152, Tryz.ntmps152
  go_wp2_with fail
  refine (checkServer_yes s.k s.q s.t _ hs.out).mono ?_
  rintro e wa ⟨rfl, ga⟩
  obtain ⟨ca, fa, sa⟩ := ga.cells
  try simp only [size_drewN] at ca fa sa
  try simp only [World.size_alloc] at ca fa sa
  try simp only [World.size_drew] at ca fa sa
  try simp only [World.size_setCell] at ca fa sa
  have za0 : w.heap.size < wa.heap.size := by omega
  have ya0 : w.heap.size ≤ wa.heap.size := by omega
  have ka0 := fun o => ca (w.heap.size) o (by omega)
  have ja0 := fun o => fa (w.heap.size) o (by omega)
  have za1 : w.heap.size + 1 < wa.heap.size := by omega
  have ka1 := fun o => ca (w.heap.size + 1) o (by omega)
  have ja1 := fun o => fa (w.heap.size + 1) o (by omega)
  go_wp2_with fail
  refine (ha.out _).mono ?_
  rintro e wb ⟨rfl, gb⟩
  obtain ⟨cb, fb, sb⟩ := gb.cells
  try simp only [size_drewN] at cb fb sb
  try simp only [World.size_alloc] at cb fb sb
  try simp only [World.size_drew] at cb fb sb
  try simp only [World.size_setCell] at cb fb sb
  have zb0 : w.heap.size < wb.heap.size := by omega
  have yb0 : w.heap.size ≤ wb.heap.size := by omega
  have kb0 := fun o => cb (w.heap.size) o (by omega)
  have jb0 := fun o => fb (w.heap.size) o (by omega)
  have zb1 : w.heap.size + 1 < wb.heap.size := by omega
  have kb1 := fun o => cb (w.heap.size + 1) o (by omega)
  have jb1 := fun o => fb (w.heap.size + 1) o (by omega)
  go_wp2_with fail
  go_ret2
  refine ⟨rfl, ?_⟩
  repeat (first | exact Gr.refl _ | apply Gr.alloc | apply Gr.drew | apply Gr.drewN | (refine Gr.setCell ?_ (by simp) _) | (refine Gr.trans ?_ (by assumption)))
set_option maxHeartbeats 800000 in
theorem within_whole0 (w : World) :
    Calls Tryz.prog 152 #[partZ, .agg #[.int .i64 0, .int .i64 0, .int .i64 0]] w fun e w' => e = .returned (.tuple #[.int .i64 0, .bool false]) ∧ Gr w w' := by
  have ha := fun w => against_zero 0 1 1 w
  have e0 : hiW 0 = 0 ∧ loW 0 = 0 := by decide
  rw [e0.1, e0.2] at ha
  replace ha := Lib.hid ha
  clear e0
  go_enter Tryz.func152, Tryz.ntmps152
  go_wp2_with fail
  refine (ha.out _).mono ?_
  rintro e wb ⟨rfl, gb⟩
  obtain ⟨cb, fb, sb⟩ := gb.cells
  try simp only [size_drewN] at cb fb sb
  try simp only [World.size_alloc] at cb fb sb
  try simp only [World.size_drew] at cb fb sb
  try simp only [World.size_setCell] at cb fb sb
  have zb0 : w.heap.size < wb.heap.size := by omega
  have yb0 : w.heap.size ≤ wb.heap.size := by omega
  have kb0 := fun o => cb (w.heap.size) o (by omega)
  have jb0 := fun o => fb (w.heap.size) o (by omega)
  have zb1 : w.heap.size + 1 < wb.heap.size := by omega
  have kb1 := fun o => cb (w.heap.size + 1) o (by omega)
  have jb1 := fun o => fb (w.heap.size + 1) o (by omega)
  go_wp2_with fail
  go_ret2
  refine ⟨rfl, ?_⟩
  repeat (first | exact Gr.refl _ | apply Gr.alloc | apply Gr.drew | apply Gr.drewN | (refine Gr.setCell ?_ (by simp) _) | (refine Gr.trans ?_ (by assumption)))

theorem plan_within {G : List Nat} {E : Nat → Addr} (o : Option Nat) (p : Int × Int) (s : Srv) (w : World) (hE : EAt G E w) (i0 : 4 ∈ G) (hp : o = none → Shr p) :
    Calls Tryz.prog 152 #[pv o p, .agg #[.int .i64 s.k, .int .i64 s.q, .int .i64 s.t]] w fun e w' => e = .returned (.tuple #[.int .i64 (wiC o p s), .bool (wiB o s)]) ∧ Gr w w' := by
  by_cases hz : s.k = 0 ∧ s.q = 0 ∧ s.t = 0
  · obtain ⟨k, q, t⟩ := s
    dsimp only at hz
    obtain ⟨rfl, rfl, rfl⟩ := hz
    cases o with
    | none => exact within_whole p w (hp rfl)
    | some g => exact within_whole0 w
  · cases hs : s.leg
    · have : wiB o s = false := by unfold wiB; rw [decide_eq_false hz, hs]; simp
      unfold wiC
      rw [this]
      exact within_bad _ _ _ _ s w hE i0 hs hz
    · cases o with
      | none =>
        have : wiB none s = true := by unfold wiB; rw [hs]; simp
        unfold wiC
        rw [this, if_pos rfl, if_neg hz]
        exact within_leg p s w (hp rfl) hs
      | some g =>
        have : wiB (some g) s = false := rfl
        unfold wiC
        rw [this]
        exact within_leg0 s w hs

theorem srvErr_shr {l : List Srv} (h : srvErr l = none) : Shr (shareS l) := by
  unfold srvErr at h
  split at h
  · cases h
  · rename_i h1
    split at h
    · cases h
    · rename_i h2; exact shr_share (by simpa using h1) (by omega)
end Go.Proofs.YtglfdnfojpdkjaaGreatDoor
