/- ops.group's iterator: the rows of each key, one behind the other. -/
import Derived.Test.YtfcjibfkhmnolaaBagsS
import Derived.Test.YtfcjibfkhmnolaaAbsFrag
import Derived.Test.YtfcjibfkhmnolaaAbsLp
import Derived.Test.YtfcjibfkhmnolaaProg
import Derived.KernelRfl
import Derived.RangeFuncBox
import Derived.RangeFuncLeaves
import Derived.Shelf.Abstract
import Derived.WalkKit
import Derived.OwnWalkIn
import Derived.TacticsInMore
import Derived.LoopNIn
import Derived.LoopIn
import Derived.Sort.QuietIn
namespace Go.Proofs.Ytfcjibfkhmnolaa
open Go.Abs Go.RowKit Go.Shelf
attribute [local go_sem] Oper.semAt_some
end Go.Proofs.Ytfcjibfkhmnolaa
