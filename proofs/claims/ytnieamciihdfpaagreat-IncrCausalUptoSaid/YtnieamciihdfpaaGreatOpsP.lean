/- Operators that work row by row, plainly: what they make of bags hangs on the bags alone. -/
import Derived.Test.YtnieamciihdfpaaGreatBagP
namespace Go.Bag
open Go.Abs
/-- What an operator that works row by row makes of a row. -/
def rowF (k A B : Int) (r : Row) : Option Row :=
  if k = 1 then some (w (r.1 + A), w (r.2.1 + B), r.2.2)
  else if k = 2 then some (r.2.1, r.1, r.2.2)
  else if k = 3 then (if iand .i64 r.1 A = B then some r else none)
  else some (r.1, r.2.1, w (0 - r.2.2))
/-- The amounts of what a row becomes. -/
def amtO (o : Option Row) (e : Key) : Int := match o with | some r => if ky r = e then r.2.2 else 0 | none => 0
theorem amt_filterMap (f : Row → Option Row) (r : Row) (l : List Row) (e : Key) : amt ((r :: l).filterMap f) e = amtO (f r) e + amt (l.filterMap f) e := by
  cases q : f r with
  | none => rw [List.filterMap_cons_none q]; simp [amtO]
  | some s => rw [List.filterMap_cons_some q]; rfl
end Go.Bag
