/- almonerref08: Tasks; what plan and the reference tell of servers and tasks, each in one contract. -/
import Derived.Test.YtmookdgeblcjnaaDoorN8
import Derived.Test.YtmookdgeblcjnaaDoorA6
namespace Go.Proofs.YtmookdgeblcjnaaDoor
open Go.RowKit

def srvErr (l : List Srv) : Option Nat := if allLeg l = false then some 0 else if 8 < l.length then some 3 else none
def tskErr (l : List Tsk) : Option Nat := if tasksOk l = false then some 4 else none
def errV (E : Nat → Addr) : Option Nat → Value
  | none => .nilIface
  | some g => errAt E g
/-- The words of a share, noughts where there is an error. -/
def pw (o : Option Nat) (p : Int × Int) (i : Nat) : Int :=
  match o with
  | some _ => 0
  | none => match i with
    | 0 => hiW p.1
    | 1 => loW p.1
    | 2 => hiW p.2
    | _ => loW p.2
abbrev pv (o : Option Nat) (p : Int × Int) : Value := .agg #[.int .u64 (pw o p 0), .int .u64 (pw o p 1), .int .u64 (pw o p 2), .int .u64 (pw o p 3)]
theorem pv_some (g : Nat) (p : Int × Int) : pv (some g) p = partZ := rfl
theorem pv_none (p : Int × Int) : pv none p = partV p := rfl

theorem tskErr_bad {l : List Tsk} (h : allLegT l = false ∨ 8 < l.length) : tskErr l = some 4 := by
  unfold tskErr tasksOk
  rw [if_pos]
  rcases h with h | h
  · rw [h]; rfl
  · rw [decide_eq_false (by omega), Bool.and_false]
theorem tskErr_good {l : List Tsk} (h : allLegT l = true) (h8 : l.length ≤ 8) : tskErr l = none := by
  unfold tskErr tasksOk
  rw [if_neg]
  rw [h, decide_eq_true h8]; decide
theorem allLegT_not {l : List Tsk} {i : Nat} {s : Tsk} (hi : l[i]? = some s) (h : s.leg = false) : allLegT l = false := by
  cases hh : allLegT l
  · rfl
  · rw [allLegT_get hh hi] at h; cases h
theorem shareT_bd' (l : List Tsk) (i : Nat) (hi : i ≤ l.length) (h : allLegT (l.take i) = true) :
    0 ≤ (shareT (l.take i)).1 ∧ (shareT (l.take i)).1 ≤ i * P256 i ∧ 1 ≤ (shareT (l.take i)).2 ∧ (shareT (l.take i)).2 ≤ P256 i := by
  have := shareT_bd (l.take i) h i (by rw [List.length_take]; omega)
  rwa [List.take_take, Nat.min_self] at this

end Go.Proofs.YtmookdgeblcjnaaDoor
