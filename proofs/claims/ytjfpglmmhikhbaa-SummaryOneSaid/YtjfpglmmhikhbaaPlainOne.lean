/- Plain: unlike summaries do not make the same of zeros and of ones. -/
import Derived.Test.YtjfpglmmhikhbaaPlainComp
namespace Go.Proofs.Ytjfpglmmhikhbaa
open Go.RowKit

def resA (s : Sm) (t : List Int) : List Int := if applyErr s t = 0 then applyL s t else []
def dif (s r : Sm) (n : Nat) (x : Int) : Bool := (applyErr s (List.replicate n x) != applyErr r (List.replicate n x)) || !eqB (resA s (List.replicate n x)) (resA r (List.replicate n x))
def sameTo (s r : Sm) (n : Nat) : Nat → Bool
  | 0 => true
  | k + 1 => sameTo s r n k && !dif s r n k
theorem nth_rep (n i : Nat) (x : Int) (h : i < n) : nth (List.replicate n x) i = x := by
  rw [nth_eq _ i (by simpa using h)]; simp
theorem rep_time {n : Nat} {x : Int} (h1 : 1 ≤ n) (h2 : n ≤ 4) (hx : 0 ≤ x) (hx' : x ≤ 1) : timeCheck (List.replicate n x) = 0 := by
  refine timeCheck_zero.2 ⟨by simpa using h1, by simpa using h2, fun i hi => ?_⟩
  rw [nth_rep n i x (by simpa using hi)]; omega
theorem rep_err {s : Sm} {n : Nat} {x : Int} (h : sumCheck s n = 0) (hx : 0 ≤ x) (hx' : x ≤ 1) : applyErr s (List.replicate n x) = if x + s.add ≤ 1048576 then 0 else 6 := by
  obtain ⟨k1, k2, k3, k4, k5, k6, k7⟩ := sumCheck_iff.1 h
  have ht := rep_time (n := n) (x := x) (by omega) (by omega) hx hx'
  unfold applyErr
  rw [if_neg (by simp [ht]), if_neg (by simp [h]), nth_rep n _ x (by omega)]
  by_cases c : x + s.add ≤ 1048576
  · rw [if_pos c, badCoord_false.2 ⟨by omega, c⟩]; rfl
  · rw [if_neg c, badCoord_hi (by omega)]; rfl
theorem one_law {s r : Sm} {n : Nat} (hs : sumCheck s n = 0) (hr : sumCheck r n = 0) (ho : s.keep + s.push.length = r.keep + r.push.length) : (sameTo s r n 2 == eqS s r) = true := by
  obtain ⟨k1, k2, k3, k4, k5, k6, k7⟩ := sumCheck_iff.1 hs
  obtain ⟨l1, l2, l3, l4, l5, l6, l7⟩ := sumCheck_iff.1 hr
  have es0 := rep_err hs (x := 0) (by omega) (by omega)
  have er0 := rep_err hr (x := 0) (by omega) (by omega)
  have es1 := rep_err hs (x := 1) (by omega) (by omega)
  have er1 := rep_err hr (x := 1) (by omega) (by omega)
  rw [if_pos (by omega)] at es0 er0
  cases hq : eqS s r with
  | true =>
    obtain ⟨q1, q2, q3⟩ := eqS_iff.1 hq
    have e : s = r := by cases s; cases r; simp at *; exact ⟨q1, q2, q3⟩
    subst e
    simp [sameTo, dif, eqB]
  | false =>
    have hn : ¬ (s.keep = r.keep ∧ s.add = r.add ∧ s.push = r.push) := fun h => by rw [eqS_iff.2 h] at hq; cases hq
    cases hd : sameTo s r n 2 with
    | false => rfl
    | true =>
      exfalso
      apply hn
      simp only [sameTo, dif, Bool.true_and, Bool.and_eq_true, Bool.not_eq_true', Bool.or_eq_false_iff, Bool.not_eq_false', bne_eq_false_iff_eq] at hd
      simp only [show ((0 : Nat) : Int) = 0 from rfl, show ((1 : Nat) : Int) = 1 from rfl] at hd
      obtain ⟨⟨d1, d2⟩, d3, d4⟩ := hd
      rw [eqB_true] at d2 d4
      simp only [resA] at d2 d4
      rw [if_pos (by simpa using es0), if_pos (by simpa using er0)] at d2
      have p0 : ∀ i, i < n → nth (List.replicate n (0 : Int)) i = 0 := fun i hi => nth_rep n i 0 hi
      have p1 : ∀ i, i < n → nth (List.replicate n (1 : Int)) i = 1 := fun i hi => nth_rep n i 1 hi
      have as0 := fun i => nth_applyL (s := s) (t := List.replicate n (0 : Int)) k3 (by simpa using k4) i
      have ar0 := fun i => nth_applyL (s := r) (t := List.replicate n (0 : Int)) l3 (by simpa using l4) i
      have as1 := fun i => nth_applyL (s := s) (t := List.replicate n (1 : Int)) k3 (by simpa using k4) i
      have ar1 := fun i => nth_applyL (s := r) (t := List.replicate n (1 : Int)) l3 (by simpa using l4) i
      have e0 : ∀ i, nth (applyL s (List.replicate n (0 : Int))) i = nth (applyL r (List.replicate n (0 : Int))) i := fun i => by rw [d2]
      have hk : s.keep = r.keep := by
        by_cases c : 1 + s.add ≤ 1048576
        · rw [if_pos c] at es1
          have c' : 1 + r.add ≤ 1048576 := by
            apply Classical.byContradiction
            intro h
            rw [if_neg h] at er1
            rw [es1, er1] at d3
            omega
          rw [if_pos c'] at er1
          rw [if_pos es1, if_pos er1] at d4
          have e1 : ∀ i, nth (applyL s (List.replicate n (1 : Int))) i = nth (applyL r (List.replicate n (1 : Int))) i := fun i => by rw [d4]
          rcases Int.lt_trichotomy s.keep r.keep with h | h | h
          · exfalso
            have a := e0 s.keep.toNat
            have b := e1 s.keep.toNat
            rw [as0, ar0, p0 _ (by omega), if_neg (by omega), if_neg (by omega)] at a
            rw [as1, ar1, p1 _ (by omega), if_neg (by omega), if_neg (by omega)] at b
            by_cases g : s.keep.toNat + 1 = r.keep.toNat
            · rw [if_pos g] at a b; omega
            · rw [if_neg g, if_pos (by omega)] at a b; omega
          · exact h
          · exfalso
            have a := e0 r.keep.toNat
            have b := e1 r.keep.toNat
            rw [as0, ar0, p0 _ (by omega), if_neg (show ¬ r.keep.toNat + 1 = r.keep.toNat by omega), if_neg (show ¬ r.keep.toNat < r.keep.toNat by omega)] at a
            rw [as1, ar1, p1 _ (by omega), if_neg (show ¬ r.keep.toNat + 1 = r.keep.toNat by omega), if_neg (show ¬ r.keep.toNat < r.keep.toNat by omega)] at b
            by_cases g : r.keep.toNat + 1 = s.keep.toNat
            · rw [if_pos g] at a b; omega
            · rw [if_neg g, if_pos (by omega)] at a b; omega
        · rw [if_neg c] at es1
          have c' : ¬ 1 + r.add ≤ 1048576 := fun h => by
            rw [if_pos h] at er1
            rw [es1, er1] at d3
            omega
          rcases Int.lt_trichotomy s.keep r.keep with h | h | h
          · exfalso
            have a := e0 (s.keep.toNat - 1)
            rw [as0, ar0, p0 _ (by omega), if_pos (by omega), if_neg (by omega), if_pos (by omega)] at a
            omega
          · exact h
          · exfalso
            have a := e0 (r.keep.toNat - 1)
            rw [as0, ar0, p0 _ (by omega), if_neg (by omega), if_pos (by omega), if_pos (by omega)] at a
            omega
      refine ⟨hk, ?_, nth_ext (by omega) fun j hj => ?_⟩
      · have a := e0 (s.keep.toNat - 1)
        rw [as0, ar0, if_pos (by omega), if_pos (by omega)] at a
        omega
      · have a := e0 (s.keep.toNat + j)
        rw [as0, ar0, if_neg (by omega), if_neg (by omega), if_neg (by omega), if_neg (by omega)] at a
        rw [nth_congr (xs := s.push) (show s.keep.toNat + j - s.keep.toNat = j by omega), nth_congr (xs := r.push) (show s.keep.toNat + j - r.keep.toNat = j by omega)] at a
        exact a
end Go.Proofs.Ytjfpglmmhikhbaa
