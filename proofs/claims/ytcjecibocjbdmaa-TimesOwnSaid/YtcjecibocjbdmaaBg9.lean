import Derived.Test.YtcjecibocjbdmaaAbsSubF
import Derived.Test.YtcjecibocjbdmaaAbsRo
import Derived.Test.YtcjecibocjbdmaaAbsSort
import Derived.Test.YtcjecibocjbdmaaAbsOrd
import Derived.Test.YtcjecibocjbdmaaAbsLat
import Derived.Test.YtcjecibocjbdmaaProg
import Derived.Shelf.SlGeneric
import Derived.Ground.SlsfProg
import Derived.KernelRfl
namespace Go.Proofs.Ytcjecibocjbdmaa
open Go.Abs
def bodyOf(f:Func):Code:=f.body.getD .skip
shelf_lay_g SlLaysF0.n6 Slsf 6 at Try 47 as lay_sortRow
end Go.Proofs.Ytcjecibocjbdmaa
