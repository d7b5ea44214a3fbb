/- order.copied; almonerref09.Copy. -/
import Derived.Test.YtlgbnjaoadlolaaDoorG3
import Derived.Deep.DeepCutAuto
namespace Go.Proofs.YtlgbnjaoadlolaaDoor
open Go.RowKit

end Go.Proofs.YtlgbnjaoadlolaaDoor
