import Derived.Test.YtnieamciihdfpaaOpsI
import Derived.Test.YtnieamciihdfpaaOpsP
namespace Go.Proofs.Ytnieamciihdfpaa
open Go.Abs Go.Bag
def vsum : List Row → Int
  | [] => 0
  | r :: l => r.2.1 * r.2.2 + vsum l
def hv (kind : Int) (xs : List Row) : Option Int :=
  if kind = 5 then some (w (vsum xs)) else if kind = 6 then some (w (tot xs)) else if kind = 8 then ((xs.find? fun r => decide (r.2.2 > 0)).map fun r => r.2.1) else some 0
end Go.Proofs.Ytnieamciihdfpaa
