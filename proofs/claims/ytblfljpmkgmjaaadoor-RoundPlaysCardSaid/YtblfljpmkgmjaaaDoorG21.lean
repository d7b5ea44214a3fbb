/- almonerref09.SameOrder where only servers, policies and the tasks' number may differ; InForm. -/
import Derived.Test.YtblfljpmkgmjaaaDoorG20
namespace Go.Proofs.YtblfljpmkgmjaaaDoor
open Go.RowKit

theorem srv_neq (a b : Srv) (w : World) : (binOp .neq 31 (.agg #[.int .i64 a.k, .int .i64 a.q, .int .i64 a.t]) (.agg #[.int .i64 b.k, .int .i64 b.q, .int .i64 b.t])).run Tryd.prog w = .ok (.bool (!decide (a.k = b.k ∧ a.q = b.q ∧ a.t = b.t))) w := by
  by_cases h1 : a.k = b.k
  · by_cases h2 : a.q = b.q
    · by_cases h3 : a.t = b.t
      · simp [go_sem, h1, h2, h3]
      · simp [go_sem, h1, h2, h3]
    · simp [go_sem, h1, h2]
  · simp [go_sem, h1]

def sameO (a b : Srv) (p q : Int) (m n : Nat) : Bool := decide (a.k = b.k ∧ a.q = b.q ∧ a.t = b.t) && decide (p = q) && decide (m = n)
set_option maxRecDepth 100000 in
set_option maxHeartbeats 3200000 in
theorem sameOrder_any (e : Ent) (s2 : Srv) (p2 : Int) (l2 : List Tsk) (a1 a2 : Option Addr) (c1 c2 : Nat) (w : World) (h1 : (⟨e, a1, c1⟩ : EntM).ok Any w) (h2 : (⟨{e with srv := s2, po := p2, tasks := l2}, a2, c2⟩ : EntM).ok Any w) (hl : l2 = [] ∨ l2 = e.tasks) :
    Calls Tryd.prog 59 #[.agg #[.int .i64 e.kd, .int .i64 e.id, .int .i64 e.srv.k, .int .i64 e.srv.q, .int .i64 e.srv.t, .int .i64 e.po, .slice a1 e.tasks.length c1, .int .i64 e.at_], .agg #[.int .i64 e.kd, .int .i64 e.id, .int .i64 s2.k, .int .i64 s2.q, .int .i64 s2.t, .int .i64 p2, .slice a2 l2.length c2, .int .i64 e.at_]] w fun x w' => x = .returned (.bool (sameO e.srv s2 e.po p2 e.tasks.length l2.length)) ∧ Gr w w' := by
  unfold sameO
  have hs := fun w => srv_neq e.srv s2 w
  have gw := ((Gr.refl w).alloc (.cells #[.int .i64 e.kd, .int .i64 e.id, .int .i64 e.srv.k, .int .i64 e.srv.q, .int .i64 e.srv.t, .int .i64 e.po, .slice a1 e.tasks.length c1, .int .i64 e.at_] 34)).alloc (.cells #[.int .i64 e.kd, .int .i64 e.id, .int .i64 s2.k, .int .i64 s2.q, .int .i64 s2.t, .int .i64 p2, .slice a2 l2.length c2, .int .i64 e.at_] 34)
  cases hz : decide (e.srv.k = s2.k ∧ e.srv.q = s2.q ∧ e.srv.t = s2.t) with
  | false =>
    rw [hz] at hs
    replace hz := Lib.hid hz
    replace gw := Lib.hid gw
    clear h1 h2 hl
    go_enter Tryd.func59, Tryd.ntmps59
    go_wp2_with fail
    go_ret
    exact ⟨rfl, gw.out⟩
  | true =>
    rw [hz] at hs
    obtain ⟨z1, z2, z3⟩ := of_decide_eq_true hz
    by_cases hp : e.po = p2
    · by_cases hn : e.tasks.length = l2.length
      · have hl2 : l2 = e.tasks := by
          rcases hl with rfl | rfl
          · exact (List.length_eq_zero_iff.1 hn).symm
          · rfl
        have hs2 : s2 = e.srv := by obtain ⟨k, q, t⟩ := s2; obtain ⟨_, _, _, _, ⟨_, _, _⟩, _, _, _⟩ := e; simp at z1 z2 z3; simp [z1, z2, z3]
        subst hl2 hs2 hp
        rw [decide_eq_true (rfl : e.po = e.po), decide_eq_true (rfl : e.tasks.length = e.tasks.length)]
        exact sameOrder_eq e a1 a2 c1 c2 w h1 h2
      · rw [decide_eq_false hn, decide_eq_true hp]
        have e1 : ((e.tasks.length : Int) == (l2.length : Int)) = false := by simpa using fun h => hn (by omega)
        have e2 : ((e.tasks.length : Int) != (l2.length : Int)) = true := by simpa using fun h => hn (by omega)
        have e3 : (e.po != p2) = false := by simpa using hp
        replace hz := Lib.hid hz
        replace gw := Lib.hid gw
        clear h1 h2 hl hn hp z1 z2 z3
        go_enter Tryd.func59, Tryd.ntmps59
        go_wp2_with fail
        go_ret
        exact ⟨rfl, gw.out⟩
    · rw [decide_eq_false hp]
      have e3 : (e.po != p2) = true := by simpa using hp
      replace hz := Lib.hid hz
      replace gw := Lib.hid gw
      clear h1 h2 hl hp z1 z2 z3
      go_enter Tryd.func59, Tryd.ntmps59
      go_wp2_with fail
      go_ret
      exact ⟨rfl, gw.out⟩
end Go.Proofs.YtblfljpmkgmjaaaDoor
