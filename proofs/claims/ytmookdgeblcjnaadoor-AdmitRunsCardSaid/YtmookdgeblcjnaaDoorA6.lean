/- almonernum.Num: the number of a sentinel. -/
import Derived.Test.YtmookdgeblcjnaaDoorA2
namespace Go.Proofs.YtmookdgeblcjnaaDoor
open Go.RowKit

end Go.Proofs.YtmookdgeblcjnaaDoor
