/- The laws' boards: what open, or, and answer. -/
import Derived.Test.YtkijpiphgnnonaaDoorBoard
import Derived.Test.YtkijpiphgnnonaaDoorLatticeS
import Derived.Test.YtkijpiphgnnonaaDoorKeepS
namespace Go.Proofs.YtkijpiphgnnonaaDoor
open Go.Abs
theorem place {m t : Nat} (ht : t < m * m) : ∃ a b, a < m ∧ b < m ∧ t = a * m + b := by
  have hm : 0 < m := Nat.pos_of_ne_zero fun h => by subst h; simp at ht
  exact ⟨t / m, t % m, Nat.div_lt_of_lt_mul ht, Nat.mod_lt _ hm, by have := Nat.div_add_mod t m; rw [Nat.mul_comm] at this; exact this.symm⟩
theorem IsLat.allJ {m : Nat} {up J M : List Int} {B T : Int} (h : IsLat m up J M B T) : ∀ x ∈ J, 0 ≤ x ∧ x < (m : Int) := fun x hx => by
  obtain ⟨t, ht, rfl⟩ := mem_nth (z := (0 : Int)) hx
  obtain ⟨a, b, ha, hb, rfl⟩ := place (by rw [← h.jl]; exact ht)
  rw [h.jn a b ha hb]
  have := h.lat.jlt a b ha hb
  omega
theorem IsLat.allM {m : Nat} {up J M : List Int} {B T : Int} (h : IsLat m up J M B T) : ∀ x ∈ M, 0 ≤ x ∧ x < (m : Int) := fun x hx => by
  obtain ⟨t, ht, rfl⟩ := mem_nth (z := (0 : Int)) hx
  obtain ⟨a, b, ha, hb, rfl⟩ := place (by rw [← h.ml]; exact ht)
  rw [h.mn a b ha hb]
  have := h.lat.klt a b ha hb
  omega
theorem wrap_mm {m : Nat} (hm : m ≤ 16) : IntKind.i64.wrap ((m : Int) * (m : Int)) = ((m * m : Nat) : Int) := by
  have : m * m ≤ 16 * 16 := Nat.mul_le_mul hm hm
  rw [← Int.natCast_mul]
  exact w64 (by omega) (by omega)
theorem wrap_at {m a b : Nat} (hm : m ≤ 16) (ha : a < m) (hb : b < m) : IntKind.i64.wrap (IntKind.i64.wrap ((a : Int) * (m : Int)) + (b : Int)) = ((a * m + b : Nat) : Int) := by
  have h1 := at_lt ha hb
  have : m * m ≤ 16 * 16 := Nat.mul_le_mul hm hm
  rw [← Int.natCast_mul, w64 (n := ((a * m : Nat) : Int)) (by omega) (by omega), w64 (by omega) (by omega)]
  omega
theorem or_eq {N m : Nat} {up J M : List Int} {B T : Int} (h : IsLat m up J M B T) (hm : m ≤ 16) (w : Bool) (a b : Nat) (ha : a < m) (hb : b < m) :
    D_keep_board_or N ((((m : Int), up), ((J, (M, (B, T))), w)), (a : Int), (b : Int), ()) = some (((jo m J a b : Nat) : Int), ()) := by
  have h1 := at_lt ha hb
  have h2 := h.jl
  simp only [D_keep_board_or, keep_board_or_1, wrap_at hm ha hb, ge0_d, lt_d (show a * m + b < J.length by omega), Bool.and_self, cond_true, Int.toNat_natCast, h.jn a b ha hb]
theorem and_eq {N m : Nat} {up J M : List Int} {B T : Int} (h : IsLat m up J M B T) (hm : m ≤ 16) (w : Bool) (a b : Nat) (ha : a < m) (hb : b < m) :
    D_keep_board_and N ((((m : Int), up), ((J, (M, (B, T))), w)), (a : Int), (b : Int), ()) = some (((jo m M a b : Nat) : Int), ()) := by
  have h1 := at_lt ha hb
  have h2 := h.ml
  simp only [D_keep_board_and, keep_board_and_1, wrap_at hm ha hb, ge0_d, lt_d (show a * m + b < M.length by omega), Bool.and_self, cond_true, Int.toNat_natCast, h.mn a b ha hb]
theorem open_spec {N : Nat} (hN : 1000 ≤ N) {up : List Int} (hw : WL up) (n : Int) :
    (∃ e, e ≠ 0 ∧ D_lattice_Of N ((n, up), ()) = some (zeroT, e, ()) ∧ (Ord n up → e = 5 ∧ ¬ HasLat n.toNat up) ∧ D_keep_open N ((n, up), ()) = some (((n, up), (([], ([], (0, 0))), false)), false, ())) ∨
    (∃ (m : Nat) (J M : List Int) (b t : Nat), n = (m : Int) ∧ m ≤ 16 ∧ up.length = m ∧ Ord (m : Int) up ∧ IsLat m up J M (b : Int) (t : Int) ∧ D_lattice_Of N ((n, up), ()) = some ((((m : Int), up), (J, (M, ((b : Int), (t : Int))))), 0, ()) ∧
      D_keep_open N ((n, up), ()) = some ((((m : Int), up), ((J, (M, ((b : Int), (t : Int)))), false)), true, ())) := by
  rcases LatOf_spec hN hw n with ⟨e, he, h1, h2⟩ | ⟨m, J, M, B, T, rfl, ho, hL, h1⟩
  · refine .inl ⟨e, he, h1, h2, ?_⟩
    simp only [D_keep_open, keep_open_1, D_lattice_Make, lattice_Make_1, h1, Option.bind_some, show (e != 0) = true from bne_iff_ne.2 he, cond_true]
  · obtain ⟨b, rfl⟩ : ∃ b : Nat, B = (b : Int) := ⟨B.toNat, by have := hL.b0; omega⟩
    obtain ⟨t, rfl⟩ : ∃ t : Nat, T = (t : Int) := ⟨T.toNat, by have := hL.t0; omega⟩
    have hm : m ≤ 16 := by have := ho.h1; omega
    have hmm : m * m ≤ 16 * 16 := Nat.mul_le_mul hm hm
    have hj := hL.jl
    have hk := hL.ml
    have hbl := hL.lat.blt
    have htl := hL.lat.tlt
    simp only [Int.toNat_natCast] at hbl htl
    refine .inr ⟨m, J, M, b, t, rfl, hm, by have := ho.len; omega, ho, hL, h1, ?_⟩
    obtain ⟨s, s1, s2⟩ := sound_eq (N := N) (by omega) hw (m : Int)
    obtain rfl := s2.2 ho
    obtain ⟨w1, p1, q1⟩ := within_eq (N := N) (n := (m : Int)) (xs := [(b : Int), (t : Int)]) (by simp; omega) (by simp)
    obtain ⟨w2, p2, q2⟩ := within_eq (N := N) (n := (m : Int)) (xs := J) (by omega) (by omega)
    obtain ⟨w3, p3, q3⟩ := within_eq (N := N) (n := (m : Int)) (xs := M) (by omega) (by omega)
    obtain rfl := q1.2 (by simp; omega)
    obtain rfl := q2.2 hL.allJ
    obtain rfl := q3.2 hL.allM
    simp only [D_keep_open, keep_open_1, D_lattice_Make, lattice_Make_1, h1, Option.bind_some, bne_self_eq_false, cond_false, s1, Bool.not_true, wrap_mm hm, hj, hk, p1, p2, p3]
end Go.Proofs.YtkijpiphgnnonaaDoor
