/- Histories behind a front: the functions. -/
import Derived.Test.YtnieamciihdfpaaHisS
namespace Go.Proofs.Ytnieamciihdfpaa
open Go.Abs
-- watershed/times.greater
-- watershed/times.lesser
-- watershed/times.zip[int]
-- watershed/times.zip[int]
-- watershed/times.pair
-- watershed/times.pair
-- watershed/times.Over
-- watershed/times.Meet
-- watershed/diffs.Advance
-- watershed/watershedref.TimesOpen
end Go.Proofs.Ytnieamciihdfpaa
