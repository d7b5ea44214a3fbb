/- A round in memory; hear, told, Stage. -/
import Derived.Test.YtlgbnjaoadlolaaDoorG6
namespace Go.Proofs.YtlgbnjaoadlolaaDoor
open Go.RowKit
variable {K0 : Nat → Prop}

/-- A round. -/
structure Rnd where
  an : List Bool
  x : EntM
  reads : Bool
  bal : Bal
  st : Int
  nw : Bal
  la : Option Addr
  lc : Nat
  led : List EntM
  begun : Int
abbrev Rnd.row (R : Rnd) (ab : Nat) : Array Value :=
  #[.slice (some ⟨ab, 0, none⟩) R.an.length R.an.length, .int .i64 R.x.e.cl, .int .i64 R.x.e.nu, .int .i64 R.x.e.kd, .int .i64 R.x.e.id, .int .i64 R.x.e.srv.k, .int .i64 R.x.e.srv.q, .int .i64 R.x.e.srv.t, .int .i64 R.x.e.po, .slice R.x.a R.x.e.tasks.length R.x.c, .int .i64 R.x.e.at_,
    .bool R.reads, .int .i64 R.bal.r, .int .i64 R.bal.n, .int .i64 R.st, .int .i64 R.nw.r, .int .i64 R.nw.n, .slice R.la R.led.length R.lc, .int .i64 R.begun]
def Rnd.hears (R : Rnd) (st fr : Int) (b : Bal) : Bool := decide (R.st = st ∧ b.r = R.bal.r ∧ b.n = R.bal.n ∧ 0 ≤ fr ∧ R.an[fr.toNat]? = some false)

end Go.Proofs.YtlgbnjaoadlolaaDoor
