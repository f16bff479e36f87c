/- lattice.Table: what its operations answer. -/
import Derived.Test.YtagghgmpdjoknaaDoorTableD
import Derived.Test.YtagghgmpdjoknaaDoorLatticeS
namespace Go.Proofs.YtagghgmpdjoknaaDoor
open Go.Abs
theorem wrap_at2 {m a b : Nat} (hm : m ≤ 16) (ha : a < m) (hb : b < m) : IntKind.i64.wrap (IntKind.i64.wrap ((a : Int) * (m : Int)) + (b : Int)) = ((a * m + b : Nat) : Int) := by
  have h1 := at_lt ha hb
  have : m * m ≤ 16 * 16 := Nat.mul_le_mul hm hm
  rw [← Int.natCast_mul, w64 (n := ((a * m : Nat) : Int)) (by omega) (by omega), w64 (by omega) (by omega)]
  omega
section
variable {N m : Nat} {up J M : List Int} {B T : Int} (h : IsLat m up J M B T) (hm : m ≤ 16)
include h hm
theorem tor_eq (a b : Nat) (ha : a < m) (hb : b < m) : D_lattice_Table_Or N ((((m : Int), up), (J, (M, (B, T)))), (a : Int), (b : Int), ()) = some (((jo m J a b : Nat) : Int), ()) := by
  have h1 := at_lt ha hb
  have h2 := h.jl
  simp only [D_lattice_Table_Or, lattice_Table_Or_1, wrap_at2 hm ha hb, ge0_d, lt_d (show a * m + b < J.length by omega), Bool.and_self, cond_true, Int.toNat_natCast, h.jn a b ha hb]
theorem tand_eq (a b : Nat) (ha : a < m) (hb : b < m) : D_lattice_Table_And N ((((m : Int), up), (J, (M, (B, T)))), (a : Int), (b : Int), ()) = some (((jo m M a b : Nat) : Int), ()) := by
  have h1 := at_lt ha hb
  have h2 := h.ml
  simp only [D_lattice_Table_And, lattice_Table_And_1, wrap_at2 hm ha hb, ge0_d, lt_d (show a * m + b < M.length by omega), Bool.and_self, cond_true, Int.toNat_natCast, h.mn a b ha hb]
end
theorem tunder_eq {N m : Nat} {up J M : List Int} {B T : Int} (hw : WL up) (hl : up.length = m) (a b : Nat) (ha : a < m) : D_lattice_Table_Under N ((((m : Int), up), (J, (M, (B, T)))), (a : Int), (b : Int), ()) = some (bt (nth 0 up a) b, ()) := by
  simp only [D_lattice_Table_Under, lattice_Table_Under_1, ge0_d, lt_d (show a < up.length by omega), Bool.and_self, cond_true, Int.toNat_natCast, Has_eq N (hw.nth a) b, Option.bind_some]
end Go.Proofs.YtagghgmpdjoknaaDoor
