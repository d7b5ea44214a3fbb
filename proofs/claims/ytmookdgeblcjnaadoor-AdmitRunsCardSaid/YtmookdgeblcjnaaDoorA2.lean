/- Package plan: CheckServer. -/
import Derived.Test.YtmookdgeblcjnaaDoorA1
import Derived.Test.YtmookdgeblcjnaaDoorS0
namespace Go.Proofs.YtmookdgeblcjnaaDoor
open Go.RowKit

set_option maxHeartbeats 400000 in
theorem checkServer_yes (k q t : Int) (w : World) (h : (Srv.mk k q t).leg = true) :
    Calls Tryd.prog 46 #[.agg #[.int .i64 k, .int .i64 q, .int .i64 t]] w fun e w' => e = .returned .nilIface ∧ Gr w w' := by
  have h := (Srv.leg_iff _).1 h
  obtain ⟨h1, h2, h3, h4, h5⟩ := h
  dsimp only at h1 h2 h3 h4 h5
  go_enter Tryd.func46, Tryd.ntmps46
  go_wp2
  go_ret
  exact ⟨rfl, (Gr.refl _).alloc _⟩

set_option maxHeartbeats 400000 in
theorem checkServer_no {G : List Nat} {E : Nat → Addr} (k q t : Int) (w : World) (hE : EAt G E w) (i0 : 0 ∈ G) (h : (Srv.mk k q t).leg = false) :
    Calls Tryd.prog 46 #[.agg #[.int .i64 k, .int .i64 q, .int .i64 t]] w fun e w' => e = .returned (Value.iface 146 (.pointer (some (E 0)))) ∧ Gr w w' := by
  have h : ¬ (1 ≤ k ∧ k ≤ 3 ∧ 1 ≤ q ∧ q ≤ t ∧ t ≤ 256) := fun x => by rw [(Srv.leg_iff _).2 x] at h; cases h
  have hc := hE.c0 i0
  have hl := hE.lt 0 i0
  by_cases h1 : k < 1 ∨ 3 < k ∨ q < 1 ∨ t < q
  all_goals
    go_enter Tryd.func46, Tryd.ntmps46
    go_wp2
  all_goals (go_ret; exact ⟨rfl, (Gr.refl _).alloc _⟩)
end Go.Proofs.YtmookdgeblcjnaaDoor
