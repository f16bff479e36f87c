/- The closed sets one behind the other, by the last place at which they differ. -/
import Derived.Test.YtkijpiphgnnonaaDoorAbsOrd
namespace Go.Pol
open Go.Abs
/-- The last place at which they differ is the second one's. -/
def lx (a b : Int) : Prop := ∃ i, bt b i = true ∧ bt a i = false ∧ ∀ j, i < j → bt a j = bt b j
def sbs (a b : Int) : Prop := ∀ i, bt a i = true → bt b i = true
theorem lx_irr {a : Int} : ¬ lx a a := fun ⟨i, h1, h2, _⟩ => by rw [h1] at h2; cases h2
theorem lx_trans {a b c : Int} (h : lx a b) (h' : lx b c) : lx a c := by
  obtain ⟨i, p1, p2, p3⟩ := h
  obtain ⟨j, q1, q2, q3⟩ := h'
  rcases Nat.lt_trichotomy i j with e | e | e
  · exact ⟨j, q1, by rw [p3 j e]; exact q2, fun k hk => by rw [p3 k (by omega), q3 k hk]⟩
  · subst e; rw [p1] at q2; cases q2
  · exact ⟨i, by rw [← q3 i e]; exact p1, p2, fun k hk => by rw [p3 k hk, q3 k (by omega)]⟩
theorem lx_tri {a b : Int} (ha : W32 a) (hb : W32 b) : a = b ∨ lx a b ∨ lx b a := by
  by_cases q : ∃ i, bt a i ≠ bt b i
  · right
    have hlt : ∀ i, bt a i ≠ bt b i → i < 32 := fun i hi => by
      cases e : bt a i with
      | true => exact bt_lt ha e
      | false =>
        cases e' : bt b i with
        | true => exact bt_lt hb e'
        | false => rw [e, e'] at hi; exact absurd rfl hi
    obtain ⟨d, ⟨i, hi, hid⟩, hmin⟩ := least (p := fun d => ∃ i, bt a i ≠ bt b i ∧ 32 - i = d) (by obtain ⟨i, hi⟩ := q; exact ⟨_, i, hi, rfl⟩)
    have habove : ∀ j, i < j → bt a j = bt b j := fun j hj => by
      by_cases e : bt a j = bt b j
      · exact e
      · have := hmin _ ⟨j, e, rfl⟩
        have := hlt j e
        omega
    cases e : bt a i with
    | true =>
      right
      have : bt b i = false := by
        cases e' : bt b i with
        | true => rw [e, e'] at hi; exact absurd rfl hi
        | false => rfl
      exact ⟨i, e, this, fun j hj => (habove j hj).symm⟩
    | false =>
      left
      have : bt b i = true := by
        cases e' : bt b i with
        | true => rfl
        | false => rw [e, e'] at hi; exact absurd rfl hi
      exact ⟨i, this, e, habove⟩
  · left
    refine bt_ext ha hb fun i _ => ?_
    by_cases e : bt a i = bt b i
    · exact e
    · exact absurd ⟨i, e⟩ q
theorem lx_sbs {a b : Int} (ha : W32 a) (hb : W32 b) (h : sbs a b) : a = b ∨ lx a b := by
  rcases lx_tri ha hb with e | e | ⟨i, h1, h2, _⟩
  · exact .inl e
  · exact .inr e
  · rw [h i h1] at h2; cases h2
/-- A closure. -/
structure Clo (n : Nat) (cl : Int → Int) : Prop where
  w : ∀ x, W32 (cl x)
  lt : ∀ x i, bt (cl x) i = true → i < n
  ext : ∀ x, (∀ i, bt x i = true → i < n) → sbs x (cl x)
  mono : ∀ x y, sbs x y → sbs (cl x) (cl y)
  idem : ∀ x, (∀ i, bt x i = true → i < n) → cl (cl x) = cl x
/-- A closed set. -/
structure Cls (n : Nat) (cl : Int → Int) (a : Int) : Prop where
  w : W32 a
  lt : ∀ i, bt a i = true → i < n
  eq : cl a = a
def bas (a : Int) (i : Nat) : Int := ior .u32 (iandNot .u32 a (allw (i : Int))) (one i)
def agr (a b : Int) (i : Nat) : Prop := ∀ j, i < j → bt a j = bt b j
section
variable {n : Nat} (hn : n ≤ 16) {cl : Int → Int} (hc : Clo n cl)
include hn
theorem bt_bas {a : Int} (ha : W32 a) {i : Nat} (hi : i < n) (hai : bt a i = false) (j : Nat) : bt (bas a i) j = true ↔ (i < j ∧ bt a j = true) ∨ j = i := by
  unfold bas
  rw [bt_ior W32.iandNot (W32.one i), bt_iandNot ha (W32.allw _), bt_allw (by omega) (by omega), bt_one (by omega), Bool.or_eq_true, Bool.and_eq_true, Bool.not_eq_true', decide_eq_true_eq, decide_eq_false_iff_not, Int.toNat_natCast]
  constructor
  · rintro (⟨h1, h2⟩ | h)
    · refine .inl ⟨?_, h1⟩
      rcases Nat.lt_or_ge i j with h | h
      · exact h
      · have : j = i := by omega
        subst this; rw [hai] at h1; cases h1
    · exact .inr h
  · rintro (⟨h1, h2⟩ | h)
    · exact .inl ⟨h2, by omega⟩
    · exact .inr h
include hc
theorem bas_cls {a : Int} (ha : Cls n cl a) {i : Nat} (hi : i < n) (hai : bt a i = false) : Cls n cl (cl (bas a i)) ∧ bt (cl (bas a i)) i = true ∧ ∀ j, i < j → bt a j = true → bt (cl (bas a i)) j = true := by
  have hb : ∀ j, bt (bas a i) j = true → j < n := fun j hj => by
    rcases (bt_bas hn ha.w hi hai j).1 hj with h | rfl
    · exact ha.lt j h.2
    · exact hi
  exact ⟨⟨hc.w _, hc.lt _, hc.idem _ hb⟩, hc.ext _ hb i ((bt_bas hn ha.w hi hai i).2 (.inr rfl)), fun j hj h => hc.ext _ hb j ((bt_bas hn ha.w hi hai j).2 (.inl ⟨hj, h⟩))⟩
theorem reach {a b : Int} (ha : Cls n cl a) (hb : Cls n cl b) {k : Nat} (h1 : bt b k = true) (h2 : bt a k = false) (h3 : agr a b k) : sbs (cl (bas a k)) b ∧ agr (cl (bas a k)) a k := by
  have hk := hb.lt k h1
  have hs : sbs (cl (bas a k)) b := by
    rw [← hb.eq]
    refine hc.mono _ _ fun j hj => ?_
    rcases (bt_bas hn ha.w hk h2 j).1 hj with h | rfl
    · rw [← h3 j h.1]; exact h.2
    · exact h1
  refine ⟨hs, fun j hj => Bool.eq_iff_iff.2 ⟨fun h => ?_, fun h => (bas_cls hn hc ha hk h2).2.2 j hj h⟩⟩
  rw [h3 j hj]; exact hs j h
theorem step_ok {a : Int} (ha : Cls n cl a) {i : Nat} (hi : i < n) (hai : bt a i = false) (hg : agr (cl (bas a i)) a i) (hmin : ∀ j, j < i → bt a j = false → ¬ agr (cl (bas a j)) a j) :
    Cls n cl (cl (bas a i)) ∧ lx a (cl (bas a i)) ∧ ∀ b, Cls n cl b → lx a b → b = cl (bas a i) ∨ lx (cl (bas a i)) b := by
  obtain ⟨c1, c2, c3⟩ := bas_cls hn hc ha hi hai
  refine ⟨c1, ⟨i, c2, hai, fun j hj => (hg j hj).symm⟩, fun b hb ⟨k, h1, h2, h3⟩ => ?_⟩
  obtain ⟨s1, s2⟩ := reach hn hc ha hb h1 h2 h3
  rcases Nat.lt_trichotomy k i with e | e | e
  · exact absurd s2 (hmin k e h2)
  · subst e
    rcases lx_sbs c1.w hb.w s1 with e | e
    · exact .inl e.symm
    · exact .inr e
  · exact .inr ⟨k, h1, by rw [hg k e]; exact h2, fun j hj => by rw [hg j (by omega)]; exact h3 j hj⟩
theorem step_no {a : Int} (ha : Cls n cl a) (hno : ∀ j, j < n → bt a j = false → ¬ agr (cl (bas a j)) a j) {b : Int} (hb : Cls n cl b) : ¬ lx a b := fun ⟨k, h1, h2, h3⟩ =>
  hno k (hb.lt k h1) h2 (reach hn hc ha hb h1 h2 h3).2
omit hn in
theorem first_cls : Cls n cl (cl 0) ∧ ∀ b, Cls n cl b → b = cl 0 ∨ lx (cl 0) b := by
  have h0 : ∀ i, bt 0 i = true → i < n := fun i h => by rw [bt_zero] at h; cases h
  have hcl : Cls n cl (cl 0) := ⟨hc.w _, hc.lt _, hc.idem _ h0⟩
  refine ⟨hcl, fun b hb => ?_⟩
  have hs : sbs (cl 0) b := by
    rw [← hb.eq]
    exact hc.mono _ _ fun j hj => by rw [bt_zero] at hj; cases hj
  rcases lx_sbs hcl.w hb.w hs with e | e
  · exact .inl e.symm
  · exact .inr e
end
end Go.Pol
