/- A round: Begin. -/
import Derived.Test.YtlgbnjaoadlolaaDoorG11
namespace Go.Proofs.YtlgbnjaoadlolaaDoor
open Go.RowKit
variable {K0 : Nat → Prop}

def RndV.begin (r : RndV) (b : Bal) : RndV := {r.clr with bal := b, st := 1, nw := ⟨0, 0⟩, led := [], begun := r.begun + 1}

end Go.Proofs.YtlgbnjaoadlolaaDoor
