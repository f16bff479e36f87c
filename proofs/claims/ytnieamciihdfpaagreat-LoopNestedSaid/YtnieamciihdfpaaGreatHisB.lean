import Derived.Test.YtnieamciihdfpaaGreatHisS
namespace Go.Proofs.YtnieamciihdfpaaGreat
open Go.Abs
end Go.Proofs.YtnieamciihdfpaaGreat
