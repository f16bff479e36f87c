/- keep.size, keep.loose: what they come to. -/
import Derived.Test.YtgnhcmdmlcjpkaaDoorLoose
import Derived.Test.YtgnhcmdmlcjpkaaDoorKeepS
namespace Go.Proofs.YtgnhcmdmlcjpkaaDoor
open Go.Abs
theorem size_eq {N : Nat} (hN : 1000 ≤ N) {w : Int} (hw : W32 w) : D_keep_size N (w, ()) = some ((((els w).length : Nat) : Int), ()) := by
  simp only [D_keep_size, keep_size_3, joinD, loopE]
  refine loopD_path (N := N) 32 (fun i => (((((List.range i).filter fun t => bt w t).length : Nat) : Int), (i : Int))) (fun i hi kn => ?_) (fun kn => ?_) (by omega)
  · have hl : ((List.range i).filter fun t => bt w t).length ≤ i := by
      have := List.length_filter_le (fun t => bt w t) (List.range i)
      rwa [List.length_range] at this
    simp only [keep_size_2, d_true (show (i : Int) < 32 by omega), cond_true, Bit_eq N hw (show i < 4611686018427387904 by omega), Option.bind_some, backE_eq, w64 (show -9223372036854775808 ≤ (i : Int) + 1 by omega) (show (i : Int) + 1 ≤ 9223372036854775807 by omega), w64 (show -9223372036854775808 ≤ ((((List.range i).filter fun t => bt w t).length : Nat) : Int) + 1 by omega) (show ((((List.range i).filter fun t => bt w t).length : Nat) : Int) + 1 ≤ 9223372036854775807 by omega)]
    rw [List.range_succ, List.filter_append]
    cases q : bt w i <;> simp [q]
  · simp only [keep_size_2, show decide (((32 : Nat) : Int) < 32) = false from rfl, cond_false, keep_size_1]
    rfl
theorem loose_eq {N m : Nat} (hN : 1000 ≤ N) (hm : m ≤ 16) {up : List Int} (hw : WL up) (ho : Ord (m : Int) up) {w : Int} (hW : W32 w) (hin : ∀ i, bt w i = true → i < m) : ∃ b, D_keep_loose N (((m : Int), up), w, ()) = some (b, ()) ∧ (b = true ↔ Loose up w) := by
  classical
  have hlu : up.length = m := by have := ho.len; omega
  have hin1 : ∀ i, i < m → ∀ k kn, (loopD (fun (s : Int) kn => keep_loose_4 N k w (i : Int) (m : Int) up s (backE (w, (i : Int), (m : Int), up) kn)) N 0 = kn) ↔ kn = if (∃ j, j < m ∧ bt w i = true ∧ bt w j = true ∧ le up i j ∧ i ≠ j) then some (false, ()) else k (w, (i : Int), (m : Int), up) := fun i hi k kn => by
    have hbody : ∀ j, j < m → ∀ kn, keep_loose_4 N k w (i : Int) (m : Int) up (j : Int) (backE (w, (i : Int), (m : Int), up) kn) = if bt w i = true ∧ bt w j = true ∧ le up i j ∧ i ≠ j then some (false, ()) else kn ((j : Int) + 1) := fun j hj kn => by
      simp only [keep_loose_4, lt_d hj, cond_true, joinD, Bit_eq N hW (show i < 4611686018427387904 by omega), Bit_eq N hW (show j < 4611686018427387904 by omega), kunder_eq N hw (show i < up.length by omega) (show j < 4611686018427387904 by omega), Option.bind_some, keep_loose_3, backE_eq, w1 hm hj]
      cases q1 : bt w i
      · rw [if_neg fun h => by cases h.1]; rfl
      cases q2 : bt w j
      · rw [if_neg fun h => by cases h.2.1]; rfl
      by_cases q3 : le up i j
      · by_cases q4 : i = j
        · rw [if_neg fun h => h.2.2.2 q4, show (decide (i ≠ j) && bt (nth 0 up i) j) = false from by simp [q4]]; rfl
        · rw [if_pos ⟨rfl, rfl, q3, q4⟩, show (decide (i ≠ j) && bt (nth 0 up i) j) = true from by rw [show bt (nth 0 up i) j = true from q3]; simp [q4]]; rfl
      · rw [if_neg fun h => q3 h.2.2.1, show (decide (i ≠ j) && bt (nth 0 up i) j) = false from by rw [show bt (nth 0 up i) j = false from Bool.eq_false_iff.2 q3]; simp]; rfl
    have key : loopD (fun (s : Int) kn => keep_loose_4 N k w (i : Int) (m : Int) up s (backE (w, (i : Int), (m : Int), up) kn)) N 0 = if (∃ j, j < m ∧ bt w i = true ∧ bt w j = true ∧ le up i j ∧ i ≠ j) then some (false, ()) else k (w, (i : Int), (m : Int), up) := by
      by_cases hex : ∃ j, j < m ∧ bt w i = true ∧ bt w j = true ∧ le up i j ∧ i ≠ j
      · rw [if_pos hex]
        exact loopD_hit (n := m) (by omega) (fun j => bt w i = true ∧ bt w j = true ∧ le up i j ∧ i ≠ j) (fun j hj hb kn => by rw [hbody j hj, if_pos hb]) (fun j hj hb kn => by rw [hbody j hj, if_neg hb]) (by omega) hex
      · rw [if_neg hex]
        exact loopD_pass (n := m) (by omega) (fun j hj kn => by rw [hbody j hj, if_neg fun h => hex ⟨j, hj, h⟩]) (fun kn => by simp only [keep_loose_4, lt_self, cond_false]) (by omega)
    rw [key]
    exact eq_comm
  have hin2 : ∀ i, i < m → ∀ k, loopD (fun (s : Int) kn => keep_loose_4 N k w (i : Int) (m : Int) up s (backE (w, (i : Int), (m : Int), up) kn)) N 0 = if (∃ j, j < m ∧ bt w i = true ∧ bt w j = true ∧ le up i j ∧ i ≠ j) then some (false, ()) else k (w, (i : Int), (m : Int), up) := fun i hi k => (hin1 i hi k _).2 rfl
  simp only [D_keep_loose, keep_loose_6, joinD, loopE]
  by_cases hl : ∃ i j, i < m ∧ j < m ∧ bt w i = true ∧ bt w j = true ∧ le up i j ∧ i ≠ j
  · refine ⟨false, loopD_hit (n := m) (by omega) (fun i => ∃ j, j < m ∧ bt w i = true ∧ bt w j = true ∧ le up i j ∧ i ≠ j) (fun i hi hb kn => ?_) (fun i hi hb kn => ?_) (by omega) (by obtain ⟨i, j, hi, h⟩ := hl; exact ⟨i, hi, j, h⟩), fun h => Bool.noConfusion h, fun h => ?_⟩
    · simp only [keep_loose_5, lt_d hi, cond_true, joinD, loopE, hin2 i hi]
      exact if_pos hb
    · simp only [keep_loose_5, lt_d hi, cond_true, joinD, loopE, hin2 i hi]
      rw [if_neg hb]
      simp only [keep_loose_2, w1 hm hi, backE_eq]
    · obtain ⟨i, j, hi, hj, h1, h2, h3, h4⟩ := hl
      exact absurd (h i j h1 h2 h3) h4
  · refine ⟨true, loopD_pass (n := m) (by omega) (fun i hi kn => ?_) (fun kn => by simp only [keep_loose_5, lt_self, cond_false, keep_loose_1]) (by omega), fun _ i j h1 h2 h3 => Classical.byContradiction fun hne => hl ⟨i, j, hin i h1, hin j h2, h1, h2, h3, hne⟩, fun _ => rfl⟩
    simp only [keep_loose_5, lt_d hi, cond_true, joinD, loopE, hin2 i hi]
    rw [if_neg fun ⟨j, hj, h⟩ => hl ⟨i, j, hi, hj, h⟩]
    simp only [keep_loose_2, w1 hm hi, backE_eq]
end Go.Proofs.YtgnhcmdmlcjpkaaDoor
