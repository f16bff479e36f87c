import Derived.Test.YtnieamciihdfpaaOpsA
namespace Go.Proofs.Ytnieamciihdfpaa
open Go.Abs
end Go.Proofs.Ytnieamciihdfpaa
