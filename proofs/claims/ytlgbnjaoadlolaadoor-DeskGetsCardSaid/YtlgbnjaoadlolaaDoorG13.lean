/- A round: New. -/
import Derived.Test.YtlgbnjaoadlolaaDoorG12
import Derived.Deep.OwnRows
namespace Go.Proofs.YtlgbnjaoadlolaaDoor
open Go.RowKit

theorem Tryd.infoBoo : (Tryd.prog.info? 4).map (fun i => (i.zero, i.size, i.bytes)) = some (some (.bool false), 1, 1) := by kernel_rfl
theorem made_false (n : Nat) : madeCells #[.bool false] n = ((List.replicate n false).map Value.bool).toArray := by
  apply Array.ext
  · simp [madeCells]
  · intro i h1 h2
    have h3 : i < n := by simpa [madeCells] using h1
    simp [madeCells, Nat.mod_one]

def RndV.new (n : Nat) (x : Ent) (reads : Bool) : RndV := ⟨List.replicate n false, x, reads, ⟨0, 0⟩, 0, ⟨0, 0⟩, [], 0⟩
abbrev Rnd.new (n : Nat) (x : EntM) (reads : Bool) : Rnd := ⟨List.replicate n false, x, reads, ⟨0, 0⟩, 0, ⟨0, 0⟩, none, 0, [], 0⟩
end Go.Proofs.YtlgbnjaoadlolaaDoor
