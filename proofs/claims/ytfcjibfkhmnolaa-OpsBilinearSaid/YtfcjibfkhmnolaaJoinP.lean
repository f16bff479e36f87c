/- Joins of bags, plainly: bilinear. -/
import Derived.Test.YtfcjibfkhmnolaaOpsP
namespace Go.Bag
open Go.Abs
/-- What a join makes of two rows with one key. -/
def jrow (A B : Int) (r s : Row) : Row := (r.1, w (w (A * r.2.1) + w (B * s.2.1)), w (r.2.2 * s.2.2))
def JL1 (A B : Int) (b : List Row) (r : Row) : List Row := (b.filter fun s => decide (s.1 = r.1)).map (jrow A B r)
def JL (A B : Int) (a b : List Row) : List Row := a.flatMap (JL1 A B b)
/-- A weight of what two keys join to. -/
def jw (A B : Int) (φ : Key → Int) (d d' : Key) : Int := if d'.1 = d.1 then φ (d.1, w (w (A * d.2) + w (B * d'.2))) else 0
theorem amt_wsum (l : List Row) (e : Key) : amt l e = wsum (fun d => if d = e then 1 else 0) l := by
  induction l with
  | nil => rfl
  | cons r l ih =>
    simp only [amt, wsum, ih]
    by_cases h : ky r = e
    · rw [if_pos h, if_pos h, Int.one_mul]
    · rw [if_neg h, if_neg h, Int.zero_mul]
theorem wsum_smul (φ : Key → Int) (c : Int) (l : List Row) : wsum (fun d => c * φ d) l = c * wsum φ l := by
  induction l with
  | nil => simp [wsum]
  | cons r l ih => simp only [wsum, ih, Int.mul_add, Int.mul_assoc]
theorem wsum_add (φ ψ : Key → Int) (l : List Row) : wsum (fun d => φ d + ψ d) l = wsum φ l + wsum ψ l := by
  induction l with
  | nil => simp [wsum]
  | cons r l ih => simp only [wsum, ih, Int.add_mul]; omega
theorem wsum_const0 (l : List Row) : wsum (fun _ => 0) l = 0 := by
  induction l with
  | nil => rfl
  | cons r l ih => simp only [wsum, ih, Int.zero_mul, Int.add_zero]
theorem wsum_fun {φ ψ : Key → Int} (h : ∀ d, Cg (φ d) (ψ d)) (l : List Row) : Cg (wsum φ l) (wsum ψ l) := by
  induction l with
  | nil => exact Cg.rfl
  | cons r l ih => exact ((h _).mul Cg.rfl).add ih
theorem wsum_swap (f : Key → Key → Int) (a b : List Row) : wsum (fun d => wsum (f d) b) a = wsum (fun d' => wsum (fun d => f d d') a) b := by
  induction a with
  | nil => simp only [wsum, wsum_const0]
  | cons r a ih =>
    simp only [wsum, ih]
    rw [wsum_add, show wsum (fun d' => f (ky r) d' * r.2.2) b = wsum (f (ky r)) b * r.2.2 by
      rw [show (fun d' => f (ky r) d' * r.2.2) = fun d' => r.2.2 * f (ky r) d' by funext d'; exact Int.mul_comm _ _, wsum_smul, Int.mul_comm]]
theorem wsum_JL1 (A B : Int) (φ : Key → Int) (b : List Row) (r : Row) : Cg (wsum φ (JL1 A B b r)) (wsum (jw A B φ (ky r)) b * r.2.2) := by
  unfold JL1
  induction b with
  | nil => simp only [List.filter_nil, List.map_nil, wsum, Int.zero_mul]; exact Cg.rfl
  | cons s b ih =>
    simp only [wsum, Int.add_mul]
    by_cases h : s.1 = r.1
    · rw [List.filter_cons_of_pos (by simp [h]), List.map_cons]
      simp only [wsum]
      refine Cg.add ?_ ih
      rw [show jw A B φ (ky r) (ky s) = φ (ky (jrow A B r s)) from if_pos h]
      refine (Cg.rfl.mul (cg_w (r.2.2 * s.2.2))).trans (.of_eq ?_)
      rw [Int.mul_assoc, Int.mul_comm s.2.2]
    · rw [List.filter_cons_of_neg (by simp [h])]
      rw [show jw A B φ (ky r) (ky s) = 0 from if_neg h, Int.zero_mul, Int.zero_mul, Int.zero_add]
      exact ih
/-- A join, under any weight. -/
theorem wsum_JL (A B : Int) (φ : Key → Int) (a b : List Row) : Cg (wsum φ (JL A B a b)) (wsum (fun d => wsum (jw A B φ d) b) a) := by
  unfold JL
  induction a with
  | nil => exact Cg.rfl
  | cons r a ih =>
    rw [List.flatMap_cons, wsum_append]
    exact (wsum_JL1 A B φ b r).add ih
theorem wsum_JL_cg (A B : Int) (φ : Key → Int) {a b a' b' : List Row} (ha : ∀ e, Cg (amt a e) (amt a' e)) (hb : ∀ e, Cg (amt b e) (amt b' e)) : Cg (wsum φ (JL A B a b)) (wsum φ (JL A B a' b')) :=
  (wsum_JL A B φ a b).trans (((wsum_cg _ ha).trans (wsum_fun (fun d => wsum_cg _ hb) a')).trans (wsum_JL A B φ a' b').symm)
theorem JL_cg (A B : Int) {a b a' b' : List Row} (ha : ∀ e, Cg (amt a e) (amt a' e)) (hb : ∀ e, Cg (amt b e) (amt b' e)) (e : Key) : Cg (amt (JL A B a b) e) (amt (JL A B a' b') e) := by
  rw [amt_wsum, amt_wsum]; exact wsum_JL_cg A B _ ha hb
theorem JL_append (A B : Int) (a a' b : List Row) : JL A B (a ++ a') b = JL A B a b ++ JL A B a' b := List.flatMap_append
theorem JL_turn (A B : Int) (a b : List Row) (e : Key) : Cg (amt (JL A B a b) e) (amt (JL B A b a) e) := by
  rw [amt_wsum, amt_wsum]
  refine (wsum_JL A B _ a b).trans (Cg.trans (.of_eq ?_) (wsum_JL B A _ b a).symm)
  rw [wsum_swap]
  congr 1
  funext d'
  congr 1
  funext d
  unfold jw
  by_cases h : d'.1 = d.1
  · rw [if_pos h, if_pos h.symm, h, Int.add_comm]
  · rw [if_neg h, if_neg (fun q => h q.symm)]
theorem JL1_len (A B : Int) (b : List Row) (r : Row) : (JL1 A B b r).length ≤ b.length := by
  unfold JL1; rw [List.length_map]; exact List.length_filter_le _ _
theorem JL_len (A B : Int) (a b : List Row) : (JL A B a b).length ≤ a.length * b.length := by
  unfold JL
  induction a with
  | nil => simp
  | cons r a ih =>
    have := JL1_len A B b r
    rw [List.flatMap_cons, List.length_append, List.length_cons, Nat.succ_mul]
    omega
end Go.Bag
