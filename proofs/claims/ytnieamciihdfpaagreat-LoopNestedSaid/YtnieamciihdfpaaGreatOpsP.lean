import Derived.Test.YtnieamciihdfpaaGreatBagP
namespace Go.Bag
open Go.Abs
def amtO (o : Option Row) (e : Key) : Int := match o with | some r => if ky r = e then r.2.2 else 0 | none => 0
theorem amt_filterMap (f : Row → Option Row) (r : Row) (l : List Row) (e : Key) : amt ((r :: l).filterMap f) e = amtO (f r) e + amt (l.filterMap f) e := by
 cases q : f r with
 | none => rw [List.filterMap_cons_none q]; simp [amtO]
 | some s => rw [List.filterMap_cons_some q]; rfl
end Go.Bag
