/- Histories behind a front. -/
import Derived.Test.YtnieamciihdfpaaGreatHisB
import Derived.Test.YtnieamciihdfpaaGreatHisT
namespace Go.Proofs.YtnieamciihdfpaaGreat
open Go.Abs Go.Bag Go.His
/-- The greater numbers, the lesser ones. -/
def ovr (a b : List Int) : List Int := List.zipWith (fun x y => if y > x then y else x) a b
theorem ovr_len {a b : List Int} (h : a.length = b.length) : (ovr a b).length = a.length := by unfold ovr; rw [List.length_zipWith]; omega
theorem ovr_nth {a b : List Int} (h : a.length = b.length) {i : Nat} (hi : i < a.length) : nth 0 (ovr a b) i = if nth 0 b i > nth 0 a i then nth 0 b i else nth 0 a i := by
  rw [nth_lt (by rw [ovr_len h]; exact hi), nth_lt hi, nth_lt (by omega)]
  unfold ovr
  rw [List.getElem_zipWith]
theorem undr_ovr {a b c : List Int} (h : a.length = b.length) (h' : a.length = c.length) : undr (ovr a b) c = true ↔ undr a c = true ∧ undr b c = true := by
  rw [undr_iff (by rw [ovr_len h]; exact h'), undr_iff h', undr_iff (by omega), ovr_len h]
  constructor
  · intro H
    refine ⟨fun i hi => ?_, fun i hi => ?_⟩
    · have := H i hi
      rw [ovr_nth h hi] at this
      split at this <;> omega
    · have := H i (by omega)
      rw [ovr_nth h (by omega)] at this
      split at this <;> omega
  · rintro ⟨H1, H2⟩ i hi
    have := H1 i hi
    have := H2 i (by omega)
    rw [ovr_nth h hi]
    split <;> omega
theorem tok_iff {t : List Int} : tok t = true ↔ (1 ≤ t.length ∧ t.length ≤ 4) ∧ ∀ i, i < t.length → 0 ≤ nth 0 t i ∧ nth 0 t i ≤ 1048576 := by
  have hall : (t.all fun x => decide (0 ≤ x) && decide (x ≤ 1048576)) = true ↔ ∀ i, i < t.length → 0 ≤ nth 0 t i ∧ nth 0 t i ≤ 1048576 := by
    rw [List.all_eq_true]
    constructor
    · intro h i hi
      simpa using h _ (nth_mem (z := 0) hi)
    · intro h x hx
      obtain ⟨i, hi, rfl⟩ := mem_nth (z := (0 : Int)) hx
      simpa using h i hi
  rw [← hall]; simp [tok]
theorem tok_ovr {a b : List Int} (h : a.length = b.length) (ha : tok a = true) (hb : tok b = true) : tok (ovr a b) = true := by
  rw [tok_iff] at ha hb ⊢
  rw [ovr_len h]
  refine ⟨ha.1, fun i hi => ?_⟩
  rw [ovr_nth h hi]
  have := ha.2 i hi
  have := hb.2 i (by omega)
  split <;> omega
structure Frt (f : List (List Int)) (k : Nat) : Prop where
  ne : f ≠ []
  one : ∀ u ∈ f, u.length = k
theorem le_ovr {a b : List Int} (h : a.length = b.length) : undr a (ovr a b) = true ∧ undr b (ovr a b) = true := (undr_ovr h (by rw [ovr_len h])).1 (undr_refl _)
theorem Over_eq {N : Nat} (hN : 1000 ≤ N) {a b : List Int} (h : a.length = b.length) (h4 : a.length ≤ 4) : D_times_zip_int_times_greater N (a, b, (), ()) = some (ovr a b) := by
  simp only [D_times_zip_int_times_greater, times_zip_int_times_greater_3]
  rw [d_true (show (0 : Int) ≤ (a.length : Int) by omega), d_true (show (a.length : Int) ≤ (a.length : Int) by omega), d_true (show (a.length : Int) * 8 ≤ 281474976710656 by omega), Bool.and_self, Bool.and_self, cond_true]
  simp only [joinD, loopE, Int.toNat_natCast]
  obtain ⟨s, ⟨l, rfl, hl, hp⟩, hs⟩ := loopD_inv (N := N) (g := fun (s : Int × List Int) kn => times_zip_int_times_greater_2 N (fun s => times_zip_int_times_greater_1 N s) a b (a.length : Int) s.1 s.2 (backE (a, b, (a.length : Int)) kn)) (k := fun s => some s.2) a.length
    (fun i s => ∃ l : List Int, s = ((i : Int), l) ∧ l.length = a.length ∧ ∀ j, j < i → nth 0 l j = nth 0 (ovr a b) j)
    (fun i s hi hI => by
      obtain ⟨l, rfl, hl, hp⟩ := hI
      refine ⟨(((i + 1 : Nat) : Int), l.set i (nth 0 (ovr a b) i)), ⟨_, rfl, by simpa using hl, fun j hj => ?_⟩, fun kn => ?_⟩
      · rw [nth_set (by omega)]
        split
        · rename_i e; rw [e]
        · exact hp j (by omega)
      · simp only [times_zip_int_times_greater_2, lt_d hi, ge0_d, lt_d (show i < b.length by omega), lt_d (show i < l.length by omega), Bool.and_self, cond_true, Int.toNat_natCast, D_times_greater, times_greater_1, Option.bind_some, backE_eq, ix1 hi (show a.length ≤ 4611686018427387904 by omega), ovr_nth h hi]
        rfl)
    (fun s hI kn => by
      obtain ⟨l, rfl, _⟩ := hI
      simp only [times_zip_int_times_greater_2, lt_self, cond_false, times_zip_int_times_greater_1])
    (by omega) (s := (0, List.replicate a.length 0)) ⟨_, rfl, by simp, fun j hj => by omega⟩
  rw [hs]
  congr 1
  apply List.ext_getElem (by rw [hl, ovr_len h])
  intro i h1 h2
  have h1' : i < l.length := h1
  have := hp i (by omega)
  rwa [nth_lt h1, nth_lt h2] at this
theorem Ovr_eq {N : Nat} (hN : 1000 ≤ N) {a b : List Int} (h : a.length = b.length) (h4 : a.length ≤ 4) : D_times_Over N (a, b, ()) = some (ovr a b) := by
  simp only [D_times_Over, times_Over_1, Over_eq hN h h4, Option.bind_some]
end Go.Proofs.YtnieamciihdfpaaGreat
