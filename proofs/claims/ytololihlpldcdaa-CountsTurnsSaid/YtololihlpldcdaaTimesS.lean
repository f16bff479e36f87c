/- What the functions of times come to. -/
import Derived.Test.YtololihlpldcdaaTimes
import Derived.Test.YtololihlpldcdaaTimesP
import Derived.Test.YtololihlpldcdaaAbsLat
namespace Go.Proofs.Ytololihlpldcdaa
open Go.Abs
theorem lt_d {i m : Nat} (h : i < m) : decide ((i : Int) < (m : Int)) = true := d_true (by omega)
theorem lt_self (m : Nat) : decide ((m : Int) < (m : Int)) = false := d_false (by omega)
theorem ge0_d (i : Nat) : decide ((0 : Int) ≤ (i : Int)) = true := d_true (by omega)
theorem mem_nth {α : Type} {z a : α} {xs : List α} (h : a ∈ xs) : ∃ t, t < xs.length ∧ nth z xs t = a := by
  obtain ⟨t, ht, e⟩ := List.getElem_of_mem h
  exact ⟨t, ht, by rw [nth_lt ht, e]⟩
def tok (t : List Int) : Bool := decide (1 ≤ t.length) && decide (t.length ≤ 4) && t.all fun x => decide (0 ≤ x) && decide (x ≤ 1048576)
theorem tok_len {t : List Int} (h : tok t = true) : 1 ≤ t.length ∧ t.length ≤ 4 := by
  simp only [tok, Bool.and_eq_true, decide_eq_true_eq] at h; exact h.1
theorem ix1 {n i : Nat} (h : i < n) (hn : n ≤ 100000) : IntKind.i64.wrap ((i : Int) + 1) = (i : Int) + 1 := w64 (by omega) (by omega)
theorem Check_eq {N : Nat} (hN : 1000 ≤ N) (t : List Int) : ∃ e, D_times_Check N (t, ()) = some (e, ()) ∧ (e = 0 ↔ tok t = true) := by
  simp only [D_times_Check, times_Check_3]
  by_cases h0 : t.length = 0
  · refine ⟨1, ?_, by simp [tok, h0]⟩
    rw [show ((t.length : Int) == 0) = true from by rw [beq_iff_eq]; omega, cond_true]
  rw [show ((t.length : Int) == 0) = false from beq_false_of_ne (by omega), cond_false]
  by_cases h4 : 4 < t.length
  · refine ⟨1, ?_, by simp [tok]; omega⟩
    rw [d_true (by omega), cond_true]
  rw [d_false (by omega), cond_false]
  simp only [joinD, loopE]
  have hbody : ∀ i, i < t.length → ∀ kn, times_Check_2 N (fun _ => times_Check_1 N) t (t.length : Int) (i : Int) (backE (t, (t.length : Int)) kn) = if 0 ≤ nth 0 t i ∧ nth 0 t i ≤ 1048576 then kn ((i : Int) + 1) else some (2, ()) := fun i hi kn => by
    simp only [times_Check_2, lt_d hi, ge0_d, Bool.and_self, cond_true, Int.toNat_natCast, backE_eq, ix1 hi (by omega)]
    by_cases q1 : nth 0 t i < 0
    · rw [d_true q1, cond_true, if_neg (by omega)]
    · rw [d_false q1, cond_false]
      by_cases q2 : nth 0 t i > 1048576
      · rw [d_true q2, cond_true, if_neg (by omega)]
      · rw [d_false q2, cond_false, if_pos (by omega)]
  have hall : (t.all fun x => decide (0 ≤ x) && decide (x ≤ 1048576)) = true ↔ ∀ i, i < t.length → 0 ≤ nth 0 t i ∧ nth 0 t i ≤ 1048576 := by
    rw [List.all_eq_true]
    constructor
    · intro h i hi
      simpa using h _ (nth_mem (z := 0) hi)
    · intro h x hx
      obtain ⟨i, hi, rfl⟩ := mem_nth (z := (0 : Int)) hx
      simpa using h i hi
  have htok : tok t = true ↔ ∀ i, i < t.length → 0 ≤ nth 0 t i ∧ nth 0 t i ≤ 1048576 := by
    rw [← hall]; simp [tok]; omega
  by_cases hg : ∀ i, i < t.length → 0 ≤ nth 0 t i ∧ nth 0 t i ≤ 1048576
  · refine ⟨0, loopD_pass (n := t.length) (by omega) (fun i hi kn => by rw [hbody i hi, if_pos (hg i hi)]) (fun kn => by simp only [times_Check_2, lt_self, cond_false, times_Check_1]) (by omega), by rw [htok]; exact ⟨fun _ => hg, fun _ => rfl⟩⟩
  · refine ⟨2, loopD_hit (n := t.length) (by omega) (fun i => ¬ (0 ≤ nth 0 t i ∧ nth 0 t i ≤ 1048576)) (fun i hi hb kn => by rw [hbody i hi, if_neg hb]) (fun i hi hb kn => by rw [hbody i hi, if_pos (Classical.not_not.1 hb)]) (by omega) ?_, by rw [htok]; exact ⟨fun h => absurd h (by decide), fun h => absurd h hg⟩⟩
    exact Classical.byContradiction fun hn => hg fun i hi => Classical.byContradiction fun hb => hn ⟨i, hi, hb⟩
theorem nth_cons_zero {α : Type} (z x : α) (xs : List α) : nth z (x :: xs) 0 = x := rfl
theorem nth_cons_succ {α : Type} (z x : α) (xs : List α) (i : Nat) : nth z (x :: xs) (i + 1) = nth z xs i := by simp [nth]
theorem undr_iff : ∀ {a b : List Int}, a.length = b.length → (undr a b = true ↔ ∀ i, i < a.length → nth 0 a i ≤ nth 0 b i)
  | [], _, _ => ⟨fun _ i h => absurd h (Nat.not_lt_zero _), fun _ => rfl⟩
  | _ :: _, [], h => by cases h
  | x :: xs, y :: ys, h => by
    have ih := undr_iff (a := xs) (b := ys) (by simpa using h)
    simp only [undr, Bool.and_eq_true, decide_eq_true_eq, ih]
    constructor
    · rintro ⟨h1, h2⟩ i hi
      cases i with
      | zero => exact h1
      | succ i => rw [nth_cons_succ, nth_cons_succ]; exact h2 i (by simpa using hi)
    · intro h
      refine ⟨h 0 (by simp), fun i hi => ?_⟩
      have := h (i + 1) (by simpa using hi)
      rwa [nth_cons_succ, nth_cons_succ] at this
theorem Under_eq {N : Nat} {a b : List Int} (hl : a.length = b.length) (h1 : a.length ≤ 4) (hN : 1000 ≤ N) : D_times_Under N (a, b, ()) = some (undr a b, ()) := by
  simp only [D_times_Under, times_Under_3, joinD, loopE]
  have hbody : ∀ i, i < a.length → ∀ kn, times_Under_2 N (fun _ => times_Under_1 N) a b (a.length : Int) (i : Int) (backE (a, b, (a.length : Int)) kn) = if nth 0 a i ≤ nth 0 b i then kn ((i : Int) + 1) else some (false, ()) := fun i hi kn => by
    simp only [times_Under_2, lt_d hi, lt_d (show i < b.length by omega), ge0_d, Bool.and_self, cond_true, Int.toNat_natCast, backE_eq, ix1 hi (by omega)]
    by_cases q : nth 0 a i ≤ nth 0 b i
    · rw [d_false (by omega), cond_false, if_pos q]
    · rw [d_true (by omega), cond_true, if_neg q]
  have hu := undr_iff hl
  by_cases hg : ∀ i, i < a.length → nth 0 a i ≤ nth 0 b i
  · rw [hu.2 hg]
    exact loopD_pass (n := a.length) (by omega) (fun i hi kn => by rw [hbody i hi, if_pos (hg i hi)]) (fun kn => by simp only [times_Under_2, lt_self, cond_false, times_Under_1]) (by omega)
  · rw [Bool.eq_false_iff.2 fun h => hg (hu.1 h)]
    refine loopD_hit (n := a.length) (by omega) (fun i => ¬ nth 0 a i ≤ nth 0 b i) (fun i hi hb kn => by rw [hbody i hi, if_neg hb]) (fun i hi hb kn => by rw [hbody i hi, if_pos (Classical.not_not.1 hb)]) (by omega) ?_
    exact Classical.byContradiction fun hn => hg fun i hi => Classical.byContradiction fun hb => hn ⟨i, hi, hb⟩
def alk (a b : List Int) : Bool := decide (a.length = b.length) && (tok a && tok b)
theorem Alike_eq {N : Nat} (hN : 1000 ≤ N) (a b : List Int) : D_times_alike N (a, b, ()) = some (alk a b, ()) := by
  obtain ⟨e, e1, e2⟩ := Check_eq hN a
  obtain ⟨f, f1, f2⟩ := Check_eq hN b
  simp only [D_times_alike, times_alike_1, alk]
  by_cases hl : a.length = b.length
  · rw [show ((a.length : Int) == (b.length : Int)) = true from by rw [beq_iff_eq]; omega, cond_true, e1, Option.bind_some, show (e == 0) = tok a from by rw [Bool.eq_iff_iff, beq_iff_eq]; exact e2]
    cases tok a with
    | false => simp
    | true => rw [cond_true, f1, Option.bind_some, show (f == 0) = tok b from by rw [Bool.eq_iff_iff, beq_iff_eq]; exact f2]; simp [hl]
  · rw [show ((a.length : Int) == (b.length : Int)) = false from beq_false_of_ne (by omega), cond_false]; simp [hl]
def leqT (a b : List Int) : Bool := alk a b && undr a b
theorem alk_iff {a b : List Int} : alk a b = true ↔ a.length = b.length ∧ tok a = true ∧ tok b = true := by simp [alk]
theorem Leq_eq {N : Nat} (hN : 1000 ≤ N) (a b : List Int) : D_times_Leq N (a, b, ()) = some (leqT a b, ()) := by
  simp only [D_times_Leq, times_Leq_1, Alike_eq hN a b, Option.bind_some, leqT]
  cases h : alk a b with
  | false => rfl
  | true =>
    obtain ⟨h1, h2, -⟩ := alk_iff.1 h
    rw [cond_true, Under_eq h1 (tok_len h2).2 hN]
    rfl
theorem Cmp_eq (N : Nat) (x y : Int) : D_cmp_Compare_int N (x, y, ()) = some (if x < y then -1 else if y < x then 1 else 0, ()) := by
  simp only [D_cmp_Compare_int, cmp_Compare_int_1, D_cmp_isNaN_int, cmp_isNaN_int_1, bne_self_eq_false, Option.bind_some, cond_false]
  by_cases h1 : x < y
  · rw [d_true h1, cond_true, if_pos h1]
  · rw [d_false h1, cond_false, if_neg h1]
    by_cases h2 : y < x
    · rw [d_true h2, cond_true, if_pos h2]
    · rw [d_false h2, cond_false, if_neg h2]
/-- The lists compared from a place on. -/
theorem lexc_drop {a b : List Int} {i : Nat} (h1 : i < a.length) (h2 : i < b.length) : lexc (a.drop i) (b.drop i) = if nth 0 a i < nth 0 b i then -1 else if nth 0 b i < nth 0 a i then 1 else lexc (a.drop (i + 1)) (b.drop (i + 1)) := by
  rw [List.drop_eq_getElem_cons h1, List.drop_eq_getElem_cons h2, nth_lt h1, nth_lt h2]
  rfl
theorem Compare_eq {N : Nat} {a b : List Int} (h1 : a.length ≤ 4) (hN : 1000 ≤ N) : D_slices_Compare_Lint_int N (a, b, ()) = some (lexc a b, ()) := by
  simp only [D_slices_Compare_Lint_int, slices_Compare_Lint_int_3, joinD, loopE]
  refine loopD_const (fun s => ∃ i : Nat, s = (i : Int) ∧ i ≤ a.length ∧ i ≤ b.length ∧ lexc (a.drop i) (b.drop i) = lexc a b) (fun s => a.length - s.toNat) _ ?_ N _ ⟨0, rfl, Nat.zero_le _, Nat.zero_le _, rfl⟩ (by simp; omega)
  rintro s ⟨i, rfl, hi, hib, hx⟩ kn hkn
  by_cases hia : i < a.length
  · simp only [slices_Compare_Lint_int_2, lt_d hia, ge0_d, Bool.and_self, cond_true, Int.toNat_natCast]
    by_cases hb : i < b.length
    · rw [d_false (by omega), cond_false, Cmp_eq, Option.bind_some, lt_d hb, Bool.and_self, cond_true]
      rw [lexc_drop hia hb] at hx
      by_cases q1 : nth 0 a i < nth 0 b i
      · rw [if_pos q1] at hx ⊢
        rw [← hx]; rfl
      · rw [if_neg q1] at hx ⊢
        by_cases q2 : nth 0 b i < nth 0 a i
        · rw [if_pos q2] at hx ⊢
          rw [← hx]; rfl
        · rw [if_neg q2] at hx ⊢
          simp only [bne_self_eq_false, cond_false, backE_eq, ix1 hia (by omega)]
          exact hkn _ ⟨i + 1, rfl, by omega, by omega, hx⟩ (by simp; omega)
    · rw [d_true (by omega), cond_true, ← hx, List.drop_of_length_le (l := b) (by omega), List.drop_eq_getElem_cons hia]
      rfl
  · have hia : i = a.length := by omega
    subst hia
    simp only [slices_Compare_Lint_int_2, lt_self, cond_false, slices_Compare_Lint_int_1]
    rw [← hx, List.drop_of_length_le (Nat.le_refl _)]
    by_cases hb : a.length < b.length
    · rw [d_true (by omega), cond_true, List.drop_eq_getElem_cons hb]; rfl
    · rw [d_false (by omega), cond_false, List.drop_of_length_le (by omega)]; rfl
theorem clone_eq {N : Nat} {a : List Int} (h : a.length ≤ 1000) : D_slices_Clone_Lint_int N (a, ()) = some a := by
  simp only [D_slices_Clone_Lint_int, slices_Clone_Lint_int_1]
  rw [d_true (by simp; omega)]
  cases a with
  | nil => simp [dem2]; rfl
  | cons x xs => simp; rfl
theorem cloneL_eq {N : Nat} {a : List (List Int)} (h : a.length ≤ 1000) : D_slices_Clone_LLint_Lint N (a, ()) = some a := by
  simp only [D_slices_Clone_LLint_Lint, slices_Clone_LLint_Lint_1]
  rw [d_true (by simp; omega)]
  cases a with
  | nil => simp [dem2]; rfl
  | cons x xs => simp; rfl
end Go.Proofs.Ytololihlpldcdaa
