/- TreeTimes: the walk. Printed by gen_w3.py. -/
import Derived.Test.YtanfgipanfjcoaaGreatDoorJ36
import Derived.Test.YtanfgipanfjcoaaGreatDoorJ37
namespace Go.Proofs.YtanfgipanfjcoaaGreatDoor
open Go.RowKit

theorem made_at {L : List OrM} {m : Nat} {T : TM} (h : T.v = madeV ((L.take m).map (·.e))) : Sane m T.v ∧ Fit T.v ∧ Live T.v := by
  rw [h]
  refine ⟨(sane_made _).more ?_, fit_made _, live_made _⟩
  rw [List.length_map, List.length_take]
  omega
theorem take_next {L : List OrM} {k : Nat} {x : OrM} (hx : L[k]? = some x) : (L.take (k + 1)).map (·.e) = (L.take k).map (·.e) ++ [x.e] := by
  rw [take_snoc hx, List.map_append]
  rfl
/-- A tree that was made anew, in a variable behind it. -/
theorem held_new {w wf : World} {B tb : Nat} {T : TM} (hT : TreeAt (fun k => B ≤ k) w T) (ht : w.heap.size ≤ tb) (g : Gr w wf) (hb : Blk wf tb T.row 27) : Held wf tb T := ⟨hb, (hT.mono (K' := fun k => k ≠ tb) (fun b hb _ => by omega)).gr g⟩
end Go.Proofs.YtanfgipanfjcoaaGreatDoor
