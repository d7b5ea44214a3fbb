/- A round: Accepted, Ledger, Place. -/
import Derived.Test.YtlgbnjaoadlolaaDoorG9
namespace Go.Proofs.YtlgbnjaoadlolaaDoor
open Go.RowKit
variable {K0 : Nat → Prop}

def RndV.hears (r : RndV) (st fr : Int) (b : Bal) : Bool := decide (r.st = st ∧ b.r = r.bal.r ∧ b.n = r.bal.n ∧ 0 ≤ fr ∧ r.an[fr.toNat]? = some false)
def RndV.note (r : RndV) (fr : Int) : RndV := {r with an := r.an.set fr.toNat true}
def RndV.accepted (r : RndV) (fr : Int) (b : Bal) : Bool × RndV :=
  if r.hears 2 fr b then (true, if (r.note fr).most then {r.note fr with st := 3} else r.note fr) else (false, r)

def RndV.ledger (r : RndV) : List Ent := if r.told then r.led else []
/-- A ledger as new memory. -/
def NewLed (L : List Ent) (w : World) (e : Ending) (w' : World) : Prop :=
  ∃ a c L', e = .returned (.slice a L'.length c) ∧ L'.map (·.e) = L ∧ LedM (fun b => w.heap.size ≤ b) w' a L' ∧ (a = none → c = 0) ∧ L'.length ≤ c ∧ c ≤ maxLen ∧ Gr w w'

def RndV.place (r : RndV) : Int := if r.told then (if r.reads then (r.led.length : Int) else plE r.led r.x.cl r.x.nu + 1) else 0
end Go.Proofs.YtlgbnjaoadlolaaDoor
