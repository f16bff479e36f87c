/- How many pairs of rows with one key there are. -/
import Derived.Test.YtfcjibfkhmnolaaJoinT
namespace Go.Proofs.Ytfcjibfkhmnolaa
open Go.Abs Go.Bag
-- watershed/watershedkeep.totalPairs
theorem twoF_join (A B : Int) (a b : List Row) : twoF 10 A B a b = JL A B a b := rfl
theorem tot_cg' {a b : List Row} (h : ∀ e, Cg (amt a e) (amt b e)) : w (tot a) = w (tot b) := tot_cg h
end Go.Proofs.Ytfcjibfkhmnolaa
