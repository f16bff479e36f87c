/- Histories: the functions. -/
import Derived.Test.YtnieamciihdfpaaDifS
namespace Go.Proofs.Ytnieamciihdfpaa
open Go.Abs
-- watershed/diffs.KeyOf
-- slices.Clone[[]int,int]
-- (watershed/diffs.Key).Time
-- cmp.isNaN[int]
-- cmp.Compare[int]
-- slices.Compare[[]int,int]
-- (watershed/diffs.History).Tells$1
shelf_lay_g SlLaysF0.n6 Slsf 6 at Try 57 as lay_sortDiff
-- (with objects) (watershed/diffs.History).Pour
-- (with objects) watershed/diffs.Of
-- (with objects) (watershed/diffs.History).Tells
-- watershed/diffs.Tidy
-- watershed/watershedkeep.totals
-- watershed/watershedref.TimesSame
-- watershed/watershedref.DiffsSame
end Go.Proofs.Ytnieamciihdfpaa
