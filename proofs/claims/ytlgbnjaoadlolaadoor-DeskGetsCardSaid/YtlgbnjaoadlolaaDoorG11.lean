/- A round: Promise. Printed by gen_g11.py. -/
import Derived.Test.YtlgbnjaoadlolaaDoorG10
namespace Go.Proofs.YtlgbnjaoadlolaaDoor
open Go.RowKit
variable {K0 : Nat → Prop}

def RndV.hearNew (r : RndV) (fr : Int) (acc : Bal) (l : List Ent) : RndV := if aboveB acc r.nw then {r.note fr with nw := acc, led := l} else r.note fr
def RndV.promise (r : RndV) (fr : Int) (b acc : Bal) (l : List Ent) : Bool × RndV :=
  if r.hears 1 fr b then (true, if (r.hearNew fr acc l).most then (r.hearNew fr acc l).tell else r.hearNew fr acc l) else (false, r)

end Go.Proofs.YtlgbnjaoadlolaaDoor
