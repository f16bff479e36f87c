/- Operators that work row by row, plainly: what they make of bags hangs on the bags alone. -/
import Derived.Test.YtfcjibfkhmnolaaBagP
namespace Go.Bag
open Go.Abs
def wsum (φ : Key → Int) : List Row → Int
  | [] => 0
  | r :: l => φ (ky r) * r.2.2 + wsum φ l
theorem wsum_append (φ : Key → Int) (a b : List Row) : wsum φ (a ++ b) = wsum φ a + wsum φ b := by
  induction a with
  | nil => simp [wsum]
  | cons r a ih => simp only [List.cons_append, wsum, ih]; omega
theorem wsum_neg (φ : Key → Int) (l : List Row) : wsum φ (negR l) = -wsum φ l := by
  induction l with
  | nil => simp [negR, wsum]
  | cons r l ih =>
    have : ky (r.1, r.2.1, -r.2.2) = ky r := rfl
    simp only [negR, List.map_cons, wsum, this] at ih ⊢
    rw [ih, Int.mul_neg]; omega
theorem wsum_filter (φ : Key → Int) (l : List Row) (k : Key) : wsum φ l = φ k * amt l k + wsum φ (l.filter fun r => decide (ky r ≠ k)) := by
  induction l with
  | nil => simp [amt, wsum]
  | cons r l ih =>
    by_cases h : ky r = k
    · rw [List.filter_cons_of_neg (by simp [h])]; simp only [amt, wsum, Int.mul_add]; rw [if_pos h, h]; omega
    · rw [List.filter_cons_of_pos (by simp [h])]; simp only [amt, wsum, Int.mul_add]; rw [if_neg h, Int.mul_zero]; omega
theorem wsum_zero (φ : Key → Int) : ∀ n (l : List Row), l.length ≤ n → (∀ e, Cg (amt l e) 0) → Cg (wsum φ l) 0
  | 0, l, hl, _ => by
    have : l = [] := List.eq_nil_of_length_eq_zero (by omega)
    subst this; exact Cg.rfl
  | n + 1, [], _, _ => Cg.rfl
  | n + 1, r :: l, hl, h => by
    rw [wsum_filter φ (r :: l) (ky r)]
    have h1 := (Cg.rfl (a := φ (ky r))).mul (h (ky r))
    have h2 : Cg (wsum φ ((r :: l).filter fun s => decide (ky s ≠ ky r))) 0 := by
      refine wsum_zero φ n _ ?_ fun e => ?_
      · rw [List.filter_cons_of_neg (by simp)]
        have := List.length_filter_le (fun s => decide (ky s ≠ ky r)) l
        simp only [List.length_cons] at hl
        omega
      · rw [amt_filter_ne]
        by_cases he : e = ky r
        · rw [if_pos he]; exact Cg.rfl
        · rw [if_neg he]; exact h e
    simpa using h1.add h2
theorem wsum_cg (φ : Key → Int) {a b : List Row} (h : ∀ e, Cg (amt a e) (amt b e)) : Cg (wsum φ a) (wsum φ b) := by
  have h1 := wsum_zero φ _ (a ++ negR b) (Nat.le_refl _) fun e => by
    rw [amt_append, amt_neg]
    have := (h e).add (Cg.rfl (a := -amt b e))
    rwa [Int.add_right_neg] at this
  rw [wsum_append, wsum_neg] at h1
  have h2 := h1.add (Cg.rfl (a := wsum φ b))
  rw [Int.zero_add, show wsum φ a + -wsum φ b + wsum φ b = wsum φ a by omega] at h2
  exact h2
/-- What an operator that works row by row makes of a row. -/
def rowF (k A B : Int) (r : Row) : Option Row :=
  if k = 1 then some (w (r.1 + A), w (r.2.1 + B), r.2.2)
  else if k = 2 then some (r.2.1, r.1, r.2.2)
  else if k = 3 then (if iand .i64 r.1 A = B then some r else none)
  else some (r.1, r.2.1, w (0 - r.2.2))
def gk (k A B : Int) (d : Key) : Option Key :=
  if k = 1 then some (w (d.1 + A), w (d.2 + B))
  else if k = 2 then some (d.2, d.1)
  else if k = 3 then (if iand .i64 d.1 A = B then some d else none)
  else some d
def sg (k : Int) : Int := if k = 1 then 1 else if k = 2 then 1 else if k = 3 then 1 else -1
/-- The amounts of what a row becomes. -/
def amtO (o : Option Row) (e : Key) : Int := match o with | some r => if ky r = e then r.2.2 else 0 | none => 0
theorem amt_filterMap (f : Row → Option Row) (r : Row) (l : List Row) (e : Key) : amt ((r :: l).filterMap f) e = amtO (f r) e + amt (l.filterMap f) e := by
  cases q : f r with
  | none => rw [List.filterMap_cons_none q]; simp [amtO]
  | some s => rw [List.filterMap_cons_some q]; rfl
theorem amtO_row (k A B : Int) (r : Row) (e : Key) : Cg (amtO (rowF k A B r) e) ((if gk k A B (ky r) = some e then sg k else 0) * r.2.2) := by
  unfold rowF gk sg amtO
  by_cases h1 : k = 1
  · simp only [if_pos h1]
    by_cases q : (w (r.1 + A), w (r.2.1 + B)) = e
    · rw [if_pos (by simp [ky, q]), if_pos (show some (w ((ky r).1 + A), w ((ky r).2 + B)) = some e by rw [← q]; rfl), Int.one_mul]; exact Cg.rfl
    · rw [if_neg (by simpa [ky] using q), if_neg (show ¬ some (w ((ky r).1 + A), w ((ky r).2 + B)) = some e from fun h => q (Option.some.inj h)), Int.zero_mul]; exact Cg.rfl
  by_cases h2 : k = 2
  · simp only [if_neg h1, if_pos h2]
    by_cases q : (r.2.1, r.1) = e
    · rw [if_pos (by simp [ky, q]), if_pos (show some ((ky r).2, (ky r).1) = some e by rw [← q]; rfl), Int.one_mul]; exact Cg.rfl
    · rw [if_neg (by simpa [ky] using q), if_neg (show ¬ some ((ky r).2, (ky r).1) = some e from fun h => q (Option.some.inj h)), Int.zero_mul]; exact Cg.rfl
  by_cases h3 : k = 3
  · simp only [if_neg h1, if_neg h2, if_pos h3]
    have hk : (ky r).1 = r.1 := rfl
    rw [hk]
    by_cases q : iand .i64 r.1 A = B
    · rw [if_pos q, if_pos q]
      by_cases q2 : ky r = e
      · simp only [if_pos q2, if_pos (congrArg some q2), Int.one_mul]; exact Cg.rfl
      · simp only [if_neg q2, if_neg (fun h => q2 (Option.some.inj h)), Int.zero_mul]; exact Cg.rfl
    · rw [if_neg q, if_neg q]
      simp only [if_neg (show ¬ (none : Option Key) = some e by simp), Int.zero_mul]; exact Cg.rfl
  · simp only [if_neg h1, if_neg h2, if_neg h3]
    have hk : ky (r.1, r.2.1, w (0 - r.2.2)) = ky r := rfl
    rw [hk]
    by_cases q2 : ky r = e
    · simp only [if_pos q2, if_pos (congrArg some q2)]
      exact (cg_w _).trans (.of_eq (by omega))
    · simp only [if_neg q2, if_neg (fun h => q2 (Option.some.inj h)), Int.zero_mul]; exact Cg.rfl
theorem amt_lin (k A B : Int) (l : List Row) (e : Key) : Cg (amt (l.filterMap (rowF k A B)) e) (wsum (fun d => if gk k A B d = some e then sg k else 0) l) := by
  induction l with
  | nil => exact Cg.rfl
  | cons r l ih =>
    rw [amt_filterMap]
    simp only [wsum]
    exact (amtO_row k A B r e).add ih
/-- What is made hangs on the amounts alone. -/
theorem lin_cg (k A B : Int) {a b : List Row} (h : ∀ e, Cg (amt a e) (amt b e)) (e : Key) : Cg (amt (a.filterMap (rowF k A B)) e) (amt (b.filterMap (rowF k A B)) e) :=
  (amt_lin k A B a e).trans ((wsum_cg _ h).trans (amt_lin k A B b e).symm)
end Go.Bag
