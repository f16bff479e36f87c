/- ops: operators of two bags: the functions. -/
import Derived.Test.YtfcjibfkhmnolaaOpsA
namespace Go.Proofs.Ytfcjibfkhmnolaa
open Go.Abs
end Go.Proofs.Ytfcjibfkhmnolaa
