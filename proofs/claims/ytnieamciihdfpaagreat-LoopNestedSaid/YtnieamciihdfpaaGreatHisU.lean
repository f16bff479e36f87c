import Derived.Test.YtnieamciihdfpaaGreatHisB
import Derived.Test.YtnieamciihdfpaaGreatHisT
namespace Go.Proofs.YtnieamciihdfpaaGreat
open Go.Abs Go.Bag Go.His
theorem tok_iff {t : List Int} : tok t = true ↔ (1 ≤ t.length ∧ t.length ≤ 4) ∧ ∀ i, i < t.length → 0 ≤ nth 0 t i ∧ nth 0 t i ≤ 1048576 := by
 have hall : (t.all fun x => decide (0 ≤ x) && decide (x ≤ 1048576)) = true ↔ ∀ i, i < t.length → 0 ≤ nth 0 t i ∧ nth 0 t i ≤ 1048576 := by
  rw [List.all_eq_true]
  constructor
  ·intro h i hi
   simpa using h _ (nth_mem (z := 0) hi)
  ·intro h x hx
   obtain ⟨i, hi, rfl⟩ := mem_nth (z := (0 : Int)) hx
   simpa using h i hi
 rw [← hall]; simp [tok]
structure Frt (f : List (List Int)) (k : Nat) : Prop where
 ne : f ≠ []
 one : ∀ u ∈ f, u.length = k
def alk (a b : List Int) : Bool := decide (a.length = b.length) && (tok a && tok b)
def leqT (a b : List Int) : Bool := alk a b && undr a b
theorem RCheck_eq {N : Nat} (hN : 1000 ≤ N) (t : List Int) : ∃ e, D_ref_TimesCheck N (t, ()) = some (e, ()) ∧ (e = 0 ↔ tok t = true) := by
 simp only [D_ref_TimesCheck, ref_TimesCheck_3]
 by_cases h0 : t.length = 0
 ·exact ⟨1, by rw [d_true (show (t.length : Int) < 1 by omega), cond_true], by simp [tok, h0]⟩
 rw [d_false (show ¬ (t.length : Int) < 1 by omega), cond_false]
 by_cases h4 : 4 < t.length
 ·exact ⟨1, by rw [d_true (by omega), cond_true], by simp [tok]; omega⟩
 rw [d_false (by omega), cond_false]
 simp only [joinD, loopE]
 have hbody : ∀ i, i < t.length → ∀ kn, ref_TimesCheck_2 N (fun _ => ref_TimesCheck_1 N) t (t.length : Int) (i : Int) (backE (t, (t.length : Int)) kn) = if 0 ≤ nth 0 t i ∧ nth 0 t i ≤ 1048576 then kn ((i : Int) + 1) else some (2, ()) := fun i hi kn => by
  simp only [ref_TimesCheck_2, lt_d hi, ge0_d, Bool.and_self, cond_true, Int.toNat_natCast, backE_eq, ix1 hi (show t.length ≤ 4611686018427387904 by omega)]
  by_cases q1 : nth 0 t i < 0
  ·rw [d_true q1, cond_true, if_neg (by omega)]
  ·rw [d_false q1, cond_false]
   by_cases q2 : nth 0 t i > 1048576
   ·rw [d_true q2, cond_true, if_neg (by omega)]
   ·rw [d_false q2, cond_false, if_pos (by omega)]
 have htok : tok t = true ↔ ∀ i, i < t.length → 0 ≤ nth 0 t i ∧ nth 0 t i ≤ 1048576 := by
  rw [tok_iff]; exact ⟨fun h => h.2, fun h => ⟨by omega, h⟩⟩
 by_cases hg : ∀ i, i < t.length → 0 ≤ nth 0 t i ∧ nth 0 t i ≤ 1048576
 ·refine ⟨0, loopD_pass (n := t.length) (by omega) (fun i hi kn => by rw [hbody i hi, if_pos (hg i hi)]) (fun kn => by simp only [ref_TimesCheck_2, lt_self, cond_false, ref_TimesCheck_1]) (by omega), by rw [htok]; exact ⟨fun _ => hg, fun _ => rfl⟩⟩
 ·refine ⟨2, loopD_hit (n := t.length) (by omega) (fun i => ¬ (0 ≤ nth 0 t i ∧ nth 0 t i ≤ 1048576)) (fun i hi hb kn => by rw [hbody i hi, if_neg hb]) (fun i hi hb kn => by rw [hbody i hi, if_pos (Classical.not_not.1 hb)]) (by omega) ?_, by rw [htok]; exact ⟨fun h => absurd h (by decide), fun h => absurd h hg⟩⟩
  exact Classical.byContradiction fun hn => hg fun i hi => Classical.byContradiction fun hb => hn ⟨i, hi, hb⟩
theorem RLeq_eq {N : Nat} (hN : 1000 ≤ N) (a b : List Int) : D_ref_TimesLeq N (a, b, ()) = some (leqT a b, ()) := by
 obtain ⟨e, e1, e2⟩ := RCheck_eq hN a
 obtain ⟨f, f1, f2⟩ := RCheck_eq hN b
 simp only [D_ref_TimesLeq, ref_TimesLeq_3, e1, f1, Option.bind_some]
 by_cases hl : a.length = b.length
 case neg => rw [show ((a.length : Int) != (b.length : Int)) = true from bne_iff_ne.2 (by omega), cond_true]; simp [leqT, alk, hl]
 rw [show ((a.length : Int) != (b.length : Int)) = false by rw [hl]; exact bne_self_eq_false _, cond_false]
 by_cases ha : tok a = true
 case neg => rw [bne_iff_ne.2 fun h => ha (e2.1 h), cond_true]; simp [leqT, alk, ha]
 obtain rfl := e2.2 ha
 rw [bne_self_eq_false, cond_false]
 by_cases hb : tok b = true
 case neg => rw [bne_iff_ne.2 fun h => hb (f2.1 h), cond_true]; simp [leqT, alk, hb]
 obtain rfl := f2.2 hb
 rw [bne_self_eq_false, cond_false]
 have hu := undr_iff hl
 have ht := tok_len ha
 have hle : leqT a b = undr a b := by simp [leqT, alk, hl, ha, hb]
 rw [hle]
 simp only [joinD, loopE]
 have hbody : ∀ i, i < a.length → ∀ kn, ref_TimesLeq_2 N (fun _ => ref_TimesLeq_1 N) a b (i : Int) (backE (a, b) kn) = if nth 0 a i ≤ nth 0 b i then kn ((i : Int) + 1) else some (false, ()) := fun i hi kn => by
  simp only [ref_TimesLeq_2, lt_d hi, lt_d (show i < b.length by omega), ge0_d, Bool.and_self, cond_true, Int.toNat_natCast, backE_eq, ix1 hi (show a.length ≤ 4611686018427387904 by omega)]
  by_cases q : nth 0 a i ≤ nth 0 b i
  ·rw [d_false (by omega), cond_false, if_pos q]
  ·rw [d_true (by omega), cond_true, if_neg q]
 by_cases hg : ∀ i, i < a.length → nth 0 a i ≤ nth 0 b i
 ·rw [hu.2 hg]
  exact loopD_pass (n := a.length) (by omega) (fun i hi kn => by rw [hbody i hi, if_pos (hg i hi)]) (fun kn => by simp only [ref_TimesLeq_2, lt_self, cond_false, ref_TimesLeq_1]) (by omega)
 ·rw [Bool.eq_false_iff.2 fun h => hg (hu.1 h)]
  refine loopD_hit (n := a.length) (by omega) (fun i => ¬ nth 0 a i ≤ nth 0 b i) (fun i hi hb kn => by rw [hbody i hi, if_neg hb]) (fun i hi hb kn => by rw [hbody i hi, if_pos (Classical.not_not.1 hb)]) (by omega) ?_
  exact Classical.byContradiction fun hn => hg fun i hi => Classical.byContradiction fun hb => hn ⟨i, hi, hb⟩
end Go.Proofs.YtnieamciihdfpaaGreat
