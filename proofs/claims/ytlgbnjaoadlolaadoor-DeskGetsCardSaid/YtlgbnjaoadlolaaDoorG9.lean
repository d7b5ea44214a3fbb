/- A round: tell, Accepted, Promise, Ledger, Place. -/
import Derived.Test.YtlgbnjaoadlolaaDoorG8
namespace Go.Proofs.YtlgbnjaoadlolaaDoor
open Go.RowKit
variable {K0 : Nat → Prop}

theorem LedM.any {K : Nat → Prop} {w : World} {a : Option Addr} {L : List EntM} (h : LedM K w a L) : LedM Any w a L := h.mono (fun _ _ _ => trivial)

end Go.Proofs.YtlgbnjaoadlolaaDoor
