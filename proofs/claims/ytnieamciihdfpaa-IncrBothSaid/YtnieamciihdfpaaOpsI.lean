import Derived.Test.YtnieamciihdfpaaBagsS
import Derived.Test.YtnieamciihdfpaaAbsFrag
import Derived.Test.YtnieamciihdfpaaAbsLp
import Derived.Test.YtnieamciihdfpaaProg
import Derived.KernelRfl
import Derived.RangeFuncBox
import Derived.RangeFuncLeaves
import Derived.Shelf.Abstract
import Derived.WalkKit
import Derived.OwnWalkIn
import Derived.TacticsInMore
import Derived.LoopNIn
import Derived.LoopIn
import Derived.Sort.QuietIn
namespace Go.Proofs.Ytnieamciihdfpaa
open Go.Abs Go.RowKit Go.Shelf
attribute [local go_sem] Oper.semAt_some
end Go.Proofs.Ytnieamciihdfpaa
