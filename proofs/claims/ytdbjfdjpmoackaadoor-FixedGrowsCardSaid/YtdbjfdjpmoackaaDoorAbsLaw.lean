/- Arguments of laws. -/
import Derived.Test.YtdbjfdjpmoackaaDoorAbsWords
import Derived.Test.YtdbjfdjpmoackaaDoorAbsOpn
namespace Go.Abs
theorem wfS_u32 {n : Int} : wfS (.int .u32) n ↔ W32 n := by
  have h1 : IntKind.u32.min = 0 := rfl
  have h2 : IntKind.u32.max = 4294967295 := rfl
  simp only [wfS, h1, h2]
theorem wfS_i64 {n : Int} : wfS (.int .i64) n ↔ -9223372036854775808 ≤ n ∧ n ≤ 9223372036854775807 := by
  have h1 : IntKind.i64.min = -9223372036854775808 := rfl
  have h2 : IntKind.i64.max = 9223372036854775807 := rfl
  simp only [wfS, h1, h2]
theorem wfS_sl {s : Sh} {xs : List s.den} : wfS (.sl s) xs ↔ xs.length ≤ maxI ∧ ∀ x ∈ xs, wfS s x := Iff.rfl
theorem wfS_pair {a b : Sh} {x : a.den × b.den} : wfS (.pair a b) x ↔ wfS a x.1 ∧ wfS b x.2 := Iff.rfl
theorem wfK_dat {s : Sh} {x : s.den} : wfK (.dat s) x ↔ wfS s x := Iff.rfl
theorem WL_of {xs : List Int} (h : wfS (.sl (.int .u32)) xs) : WL xs := fun x hx => wfS_u32.1 (h.2 x hx)
end Go.Abs
