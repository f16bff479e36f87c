import Derived.Test.YtnieamciihdfpaaBagP
namespace Go.Bag
open Go.Abs
def wsum (φ : Key → Int) : List Row → Int
  | [] => 0
  | r :: l => φ (ky r) * r.2.2 + wsum φ l
theorem wsum_append (φ : Key → Int) (a b : List Row) : wsum φ (a ++ b) = wsum φ a + wsum φ b := by
  induction a with
  | nil => simp [wsum]
  | cons r a ih => simp only [List.cons_append, wsum, ih]; omega
theorem wsum_neg (φ : Key → Int) (l : List Row) : wsum φ (negR l) = -wsum φ l := by
  induction l with
  | nil => simp [negR, wsum]
  | cons r l ih =>
    have : ky (r.1, r.2.1, -r.2.2) = ky r := rfl
    simp only [negR, List.map_cons, wsum, this] at ih ⊢
    rw [ih, Int.mul_neg]; omega
theorem wsum_filter (φ : Key → Int) (l : List Row) (k : Key) : wsum φ l = φ k * amt l k + wsum φ (l.filter fun r => decide (ky r ≠ k)) := by
  induction l with
  | nil => simp [amt, wsum]
  | cons r l ih =>
    by_cases h : ky r = k
    · rw [List.filter_cons_of_neg (by simp [h])]; simp only [amt, wsum, Int.mul_add]; rw [if_pos h, h]; omega
    · rw [List.filter_cons_of_pos (by simp [h])]; simp only [amt, wsum, Int.mul_add]; rw [if_neg h, Int.mul_zero]; omega
theorem wsum_zero (φ : Key → Int) : ∀ n (l : List Row), l.length ≤ n → (∀ e, Cg (amt l e) 0) → Cg (wsum φ l) 0
  | 0, l, hl, _ => by
    have : l = [] := List.eq_nil_of_length_eq_zero (by omega)
    subst this; exact Cg.rfl
  | n + 1, [], _, _ => Cg.rfl
  | n + 1, r :: l, hl, h => by
    rw [wsum_filter φ (r :: l) (ky r)]
    have h1 := (Cg.rfl (a := φ (ky r))).mul (h (ky r))
    have h2 : Cg (wsum φ ((r :: l).filter fun s => decide (ky s ≠ ky r))) 0 := by
      refine wsum_zero φ n _ ?_ fun e => ?_
      · rw [List.filter_cons_of_neg (by simp)]
        have := List.length_filter_le (fun s => decide (ky s ≠ ky r)) l
        simp only [List.length_cons] at hl
        omega
      · rw [amt_filter_ne]
        by_cases he : e = ky r
        · rw [if_pos he]; exact Cg.rfl
        · rw [if_neg he]; exact h e
    simpa using h1.add h2
theorem wsum_cg (φ : Key → Int) {a b : List Row} (h : ∀ e, Cg (amt a e) (amt b e)) : Cg (wsum φ a) (wsum φ b) := by
  have h1 := wsum_zero φ _ (a ++ negR b) (Nat.le_refl _) fun e => by
    rw [amt_append, amt_neg]
    have := (h e).add (Cg.rfl (a := -amt b e))
    rwa [Int.add_right_neg] at this
  rw [wsum_append, wsum_neg] at h1
  have h2 := h1.add (Cg.rfl (a := wsum φ b))
  rw [Int.zero_add, show wsum φ a + -wsum φ b + wsum φ b = wsum φ a by omega] at h2
  exact h2
def amtO (o : Option Row) (e : Key) : Int := match o with | some r => if ky r = e then r.2.2 else 0 | none => 0
theorem amt_filterMap (f : Row → Option Row) (r : Row) (l : List Row) (e : Key) : amt ((r :: l).filterMap f) e = amtO (f r) e + amt (l.filterMap f) e := by
  cases q : f r with
  | none => rw [List.filterMap_cons_none q]; simp [amtO]
  | some s => rw [List.filterMap_cons_some q]; rfl
end Go.Bag
