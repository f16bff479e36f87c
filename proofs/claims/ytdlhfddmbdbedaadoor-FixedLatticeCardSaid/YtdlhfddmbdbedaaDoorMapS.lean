/- fixed.Map: what a list is into. -/
import Derived.Test.YtdlhfddmbdbedaaDoorMapD
import Derived.Test.YtdlhfddmbdbedaaDoorKeepS
namespace Go.Proofs.YtdlhfddmbdbedaaDoor
open Go.Abs
/-- What a map makes of an element. -/
def fm (f : List Int) (i : Nat) : Nat := (nth 0 f i).toNat
/-- All of a list are below a number. -/
def allIn (most : Int) (f : List Int) : Prop := ∀ x ∈ f, 0 ≤ x ∧ x < most
theorem allIn.at {m : Nat} {f : List Int} (h : allIn (m : Int) f) {i : Nat} (hi : i < f.length) : nth 0 f i = ((fm f i : Nat) : Int) ∧ fm f i < m := by
  have := h _ (nth_mem (z := (0 : Int)) hi)
  unfold fm
  omega
theorem allIn_iff {most : Int} {f : List Int} : allIn most f ↔ ¬ ∃ i : Nat, i < f.length ∧ ¬ (0 ≤ nth 0 f i ∧ nth 0 f i < most) := by
  constructor
  · rintro h ⟨i, hi, hb⟩
    exact hb (h _ (nth_mem hi))
  · intro h x hx
    obtain ⟨i, hi, rfl⟩ := mem_nth (z := (0 : Int)) hx
    exact Classical.byContradiction fun hb => h ⟨i, hi, hb⟩
theorem into_eq {N : Nat} {f : List Int} {n most : Int} (hN : f.length < N) (hl : f.length ≤ 9223372036854775807) : ∃ b, D_fixed_Map_into N (f, n, most, ()) = some (b, ()) ∧ (b = true ↔ (f.length : Int) = n ∧ allIn most f) := by
  simp only [D_fixed_Map_into, fixed_Map_into_9, fixed_Map_into_8, fixed_Map_into_6, fixed_Map_into_5, fixed_Map_into_2, fixed_Map_into_1]
  have hbad : ∀ i : Nat, i < f.length → ¬ (0 ≤ nth 0 f i ∧ nth 0 f i < most) → ∀ kn k, fixed_Map_into_3 N f most (i : Int) kn k = some (false, ()) := fun i hi hb kn k => by
    simp only [fixed_Map_into_3, lt_d hi, ge0_d, cond_true, Bool.and_self, Int.toNat_natCast]
    by_cases h1 : nth 0 f i < 0
    · rw [d_true h1]; rfl
    · rw [d_false h1, cond_false, d_true (show nth 0 f i ≥ most by omega)]; rfl
  have hok : ∀ i : Nat, i < f.length → (0 ≤ nth 0 f i ∧ nth 0 f i < most) → ∀ kn k, fixed_Map_into_3 N f most (i : Int) kn k = kn ((i : Int) + 1) := fun i hi hb kn k => by
    simp only [fixed_Map_into_3, lt_d hi, ge0_d, cond_true, Bool.and_self, Int.toNat_natCast, d_false (show ¬ (nth 0 f i < 0) by omega), d_false (show ¬ (nth 0 f i ≥ most) by omega), cond_false, w64 (show -9223372036854775808 ≤ (i : Int) + 1 by omega) (show (i : Int) + 1 ≤ 9223372036854775807 by omega)]
  unfold fixed_Map_into_4
  by_cases h : ∃ i : Nat, i < f.length ∧ ¬ (0 ≤ nth 0 f i ∧ nth 0 f i < most)
  · refine ⟨false, loopD_hitU (n := f.length) (fun i : Nat => ¬ (0 ≤ nth 0 f i ∧ nth 0 f i < most)) (fun i hi hb kn => hbad i hi hb _ _) (fun i hi hb kn => hok i hi (Classical.not_not.1 hb) _ _) hN h, ?_⟩
    exact ⟨fun h => Bool.noConfusion h, fun e => absurd h (allIn_iff.1 e.2)⟩
  · refine ⟨((f.length : Int) == n), ?_, ?_⟩
    · refine loopD_passU (n := f.length) (fun i hi kn => hok i hi (Classical.byContradiction fun hb => h ⟨i, hi, hb⟩) _ _) (fun kn => by simp only [fixed_Map_into_3, lt_self, cond_false, fixed_Map_into_7]) hN
    · rw [beq_iff_eq]
      exact ⟨fun e => ⟨e, allIn_iff.2 h⟩, fun e => e.1⟩
theorem MapInto_eq {N : Nat} {f : List Int} {n most : Int} (hN : f.length < N) (hl : f.length ≤ 9223372036854775807) : ∃ b, D_ref_MapInto N (f, n, most, ()) = some (b, ()) ∧ (b = true ↔ (f.length : Int) = n ∧ allIn most f) := by
  simp only [D_ref_MapInto, ref_MapInto_11, ref_MapInto_10, ref_MapInto_9, ref_MapInto_7, ref_MapInto_6, ref_MapInto_3, ref_MapInto_2, ref_MapInto_1]
  have hbad : ∀ i : Nat, i < f.length → ¬ (0 ≤ nth 0 f i ∧ nth 0 f i < most) → ∀ kn k, ref_MapInto_4 N f most (i : Int) kn k = some (false, ()) := fun i hi hb kn k => by
    simp only [ref_MapInto_4, lt_d hi, ge0_d, cond_true, Bool.and_self, Int.toNat_natCast]
    by_cases h1 : nth 0 f i < 0
    · rw [d_true h1]; rfl
    · rw [d_false h1, cond_false, d_true (show nth 0 f i ≥ most by omega)]; rfl
  have hok : ∀ i : Nat, i < f.length → (0 ≤ nth 0 f i ∧ nth 0 f i < most) → ∀ kn k, ref_MapInto_4 N f most (i : Int) kn k = kn ((i : Int) + 1) := fun i hi hb kn k => by
    simp only [ref_MapInto_4, lt_d hi, ge0_d, cond_true, Bool.and_self, Int.toNat_natCast, d_false (show ¬ (nth 0 f i < 0) by omega), d_false (show ¬ (nth 0 f i ≥ most) by omega), cond_false, w64 (show -9223372036854775808 ≤ (i : Int) + 1 by omega) (show (i : Int) + 1 ≤ 9223372036854775807 by omega)]
  by_cases hn : (f.length : Int) = n
  · rw [show ((f.length : Int) != n) = false from by rw [bne, beq_iff_eq.2 hn]; rfl, cond_false]
    unfold ref_MapInto_5
    by_cases h : ∃ i : Nat, i < f.length ∧ ¬ (0 ≤ nth 0 f i ∧ nth 0 f i < most)
    · refine ⟨false, loopD_hitU (n := f.length) (fun i : Nat => ¬ (0 ≤ nth 0 f i ∧ nth 0 f i < most)) (fun i hi hb kn => hbad i hi hb _ _) (fun i hi hb kn => hok i hi (Classical.not_not.1 hb) _ _) hN h, ?_⟩
      exact ⟨fun h => Bool.noConfusion h, fun e => absurd h (allIn_iff.1 e.2)⟩
    · refine ⟨true, loopD_passU (n := f.length) (fun i hi kn => hok i hi (Classical.byContradiction fun hb => h ⟨i, hi, hb⟩) _ _) (fun kn => by simp only [ref_MapInto_4, lt_self, cond_false, ref_MapInto_8]) hN, fun _ => ⟨hn, allIn_iff.2 h⟩, fun _ => rfl⟩
  · rw [show ((f.length : Int) != n) = true from bne_iff_ne.2 hn, cond_true]
    exact ⟨false, rfl, fun h => Bool.noConfusion h, fun e => absurd e.1 hn⟩
end Go.Proofs.YtdlhfddmbdbedaaDoor
