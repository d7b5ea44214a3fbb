/- RoundPlays, for every input. -/
import Derived.Test.YtblfljpmkgmjaaaDoorQ31
namespace Go.Proofs.YtblfljpmkgmjaaaDoor
open Go.RowKit

theorem roundPlays_any {G : List Nat} {E : Nat → Addr} (W : World) (hE : EAt G E W) (hG : ∀ g ∈ sentG, g ∈ G) (nodes : Int) (x : EntM) (hx : x.ok Any W) (aS : Option Addr) (cS : Nat) (S : List OpM) (hS : RecsIn Any 8 OpM.cells W aS S) (hS8 : S.length * 80 ≤ 140737488351232) (hSx : ∀ y ∈ S, y.ok W) :
    Calls Tryd.prog 6 #[.int .i64 nodes, .agg #[.int .i64 x.e.cl, .int .i64 x.e.nu, .int .i64 x.e.kd, .int .i64 x.e.id, .int .i64 x.e.srv.k, .int .i64 x.e.srv.q, .int .i64 x.e.srv.t, .int .i64 x.e.po, .slice x.a x.e.tasks.length x.c, .int .i64 x.e.at_], .slice aS S.length cS] W fun e w' => e = .returned (.bool true) ∧ Gr W w' := by
  by_cases hn : nodes < 1 ∨ 7 < nodes
  · exact plays_no W hE hG nodes x hx aS cS S.length (fun U g => refused_num (hE.gr g) hG nodes x hn)
  · have h1 : ¬ nodes < 1 := fun h => hn (.inl h)
    have h7 : ¬ 7 < nodes := fun h => hn (.inr h)
    cases hf : entF x.e with
    | false => exact plays_no W hE hG nodes x hx aS cS S.length (fun U g => refused_form (hE.gr g) hG nodes x (hx.gr g) h1 h7 hf)
    | true =>
      obtain ⟨N, rfl⟩ : ∃ N : Nat, nodes = (N : Int) := ⟨nodes.toNat, by omega⟩
      exact plays_ok W hE hG N x hx (by omega) (by omega) hf aS cS S hS (by omega) hSx
end Go.Proofs.YtblfljpmkgmjaaaDoor
