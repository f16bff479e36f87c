import Derived.Test.YtnieamciihdfpaaOpsP
namespace Go.Bag
open Go.Abs
def jrow (A B : Int) (r s : Row) : Row := (r.1, w (w (A * r.2.1) + w (B * s.2.1)), w (r.2.2 * s.2.2))
def JL1 (A B : Int) (b : List Row) (r : Row) : List Row := (b.filter fun s => decide (s.1 = r.1)).map (jrow A B r)
def JL (A B : Int) (a b : List Row) : List Row := a.flatMap (JL1 A B b)
def jw (A B : Int) (φ : Key → Int) (d d' : Key) : Int := if d'.1 = d.1 then φ (d.1, w (w (A * d.2) + w (B * d'.2))) else 0
theorem amt_wsum (l : List Row) (e : Key) : amt l e = wsum (fun d => if d = e then 1 else 0) l := by
  induction l with
  | nil => rfl
  | cons r l ih =>
    simp only [amt, wsum, ih]
    by_cases h : ky r = e
    · rw [if_pos h, if_pos h, Int.one_mul]
    · rw [if_neg h, if_neg h, Int.zero_mul]
theorem wsum_fun {φ ψ : Key → Int} (h : ∀ d, Cg (φ d) (ψ d)) (l : List Row) : Cg (wsum φ l) (wsum ψ l) := by
  induction l with
  | nil => exact Cg.rfl
  | cons r l ih => exact ((h _).mul Cg.rfl).add ih
theorem wsum_JL1 (A B : Int) (φ : Key → Int) (b : List Row) (r : Row) : Cg (wsum φ (JL1 A B b r)) (wsum (jw A B φ (ky r)) b * r.2.2) := by
  unfold JL1
  induction b with
  | nil => simp only [List.filter_nil, List.map_nil, wsum, Int.zero_mul]; exact Cg.rfl
  | cons s b ih =>
    simp only [wsum, Int.add_mul]
    by_cases h : s.1 = r.1
    · rw [List.filter_cons_of_pos (by simp [h]), List.map_cons]
      simp only [wsum]
      refine Cg.add ?_ ih
      rw [show jw A B φ (ky r) (ky s) = φ (ky (jrow A B r s)) from if_pos h]
      refine (Cg.rfl.mul (cg_w (r.2.2 * s.2.2))).trans (.of_eq ?_)
      rw [Int.mul_assoc, Int.mul_comm s.2.2]
    · rw [List.filter_cons_of_neg (by simp [h])]
      rw [show jw A B φ (ky r) (ky s) = 0 from if_neg h, Int.zero_mul, Int.zero_mul, Int.zero_add]
      exact ih
theorem wsum_JL (A B : Int) (φ : Key → Int) (a b : List Row) : Cg (wsum φ (JL A B a b)) (wsum (fun d => wsum (jw A B φ d) b) a) := by
  unfold JL
  induction a with
  | nil => exact Cg.rfl
  | cons r a ih =>
    rw [List.flatMap_cons, wsum_append]
    exact (wsum_JL1 A B φ b r).add ih
theorem wsum_JL_cg (A B : Int) (φ : Key → Int) {a b a' b' : List Row} (ha : ∀ e, Cg (amt a e) (amt a' e)) (hb : ∀ e, Cg (amt b e) (amt b' e)) : Cg (wsum φ (JL A B a b)) (wsum φ (JL A B a' b')) :=
  (wsum_JL A B φ a b).trans (((wsum_cg _ ha).trans (wsum_fun (fun d => wsum_cg _ hb) a')).trans (wsum_JL A B φ a' b').symm)
theorem JL_cg (A B : Int) {a b a' b' : List Row} (ha : ∀ e, Cg (amt a e) (amt a' e)) (hb : ∀ e, Cg (amt b e) (amt b' e)) (e : Key) : Cg (amt (JL A B a b) e) (amt (JL A B a' b') e) := by
  rw [amt_wsum, amt_wsum]; exact wsum_JL_cg A B _ ha hb
theorem JL1_len (A B : Int) (b : List Row) (r : Row) : (JL1 A B b r).length ≤ b.length := by
  unfold JL1; rw [List.length_map]; exact List.length_filter_le _ _
theorem JL_len (A B : Int) (a b : List Row) : (JL A B a b).length ≤ a.length * b.length := by
  unfold JL
  induction a with
  | nil => simp
  | cons r a ih =>
    have := JL1_len A B b r
    rw [List.flatMap_cons, List.length_append, List.length_cons, Nat.succ_mul]
    omega
end Go.Bag
