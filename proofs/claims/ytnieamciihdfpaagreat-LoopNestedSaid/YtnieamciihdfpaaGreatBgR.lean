import Derived.Test.YtnieamciihdfpaaGreatBagsS
import Derived.Test.YtnieamciihdfpaaGreatAbsRo
namespace Go.Proofs.YtnieamciihdfpaaGreat
open Go.Abs Go.Bag
theorem RowsR_eq {N : Nat} {f : Key → Int} {d : Bg} (h : BOk f d) (hN : d.2.length + 10 < N) (hb : d.2.length * 24 ≤ 140737488355328) :
  ∃ out : List Row, roR (q := Q_bags_Rows) (s := .sl (.pair (.int .i64) (.pair (.int .i64) (.int .i64)))) (D_bags_Bag_Rows_h N) d = some out ∧ IsBag f out ∧ out.length = d.2.length := by
 obtain ⟨out, h1, h2, h3⟩ := Rows_eq h hN hb
 exact ⟨out, roR_of (q := Q_bags_Rows) (s := .sl (.pair (.int .i64) (.pair (.int .i64) (.int .i64)))) h1, h2, h3⟩
end Go.Proofs.YtnieamciihdfpaaGreat
