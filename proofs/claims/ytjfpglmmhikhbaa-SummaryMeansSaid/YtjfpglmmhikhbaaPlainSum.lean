/- Plain facts on summaries and what they make of times. -/
import Derived.Test.YtjfpglmmhikhbaaSummary3
import Derived.Test.YtjfpglmmhikhbaaPlainTimes
namespace Go.Proofs.Ytjfpglmmhikhbaa

theorem badCoord_false {x : Int} : badCoord x = false ↔ 0 ≤ x ∧ x ≤ 1048576 := by
  simp [badCoord]
theorem any_bad_false {xs : List Int} : xs.any badCoord = false ↔ ∀ i, i < xs.length → 0 ≤ nth xs i ∧ nth xs i ≤ 1048576 := by
  rw [List.any_eq_false]
  constructor
  · intro h i hi
    exact badCoord_false.1 (by simpa using h _ (nth_mem xs i hi))
  · intro h x hx
    obtain ⟨i, hi, rfl⟩ := mem_nth hx
    simp [badCoord_false.2 (h i hi)]
theorem sumCheck_iff {s : Sm} {n : Int} : sumCheck s n = 0 ↔ (1 ≤ n ∧ n ≤ 4 ∧ 1 ≤ s.keep ∧ s.keep ≤ n ∧ s.keep + s.push.length ≤ 4 ∧ (0 ≤ s.add ∧ s.add ≤ 1048576) ∧ ∀ i, i < s.push.length → 0 ≤ nth s.push i ∧ nth s.push i ≤ 1048576) := by
  constructor
  · intro h
    obtain ⟨a, b, c, d, e, f, g⟩ := sumCheck_zero h
    exact ⟨a, b, c, d, e, badCoord_false.1 f, any_bad_false.1 g⟩
  · rintro ⟨a, b, c, d, e, f, g⟩
    refine sumCheck_ok (by unfold sumLarge; omega) ?_
    rw [List.any_cons, badCoord_false.2 f, any_bad_false.2 g]; rfl
theorem applyErr_zero {s : Sm} {t : List Int} : applyErr s t = 0 ↔ timeCheck t = 0 ∧ sumCheck s t.length = 0 ∧ badCoord (nth t (s.keep.toNat - 1) + s.add) = false := by
  unfold applyErr
  constructor
  · intro h
    by_cases h1 : timeCheck t = 0
    · by_cases h2 : sumCheck s t.length = 0
      · rw [if_neg (by simp [h1]), if_neg (by simp [h2])] at h
        refine ⟨h1, h2, ?_⟩
        cases hb : badCoord (nth t (s.keep.toNat - 1) + s.add)
        · rfl
        · rw [hb] at h; simp at h
      · rw [if_neg (by simp [h1]), if_pos h2] at h; exact absurd h h2
    · rw [if_pos h1] at h; exact absurd h h1
  · rintro ⟨h1, h2, h3⟩
    simp [h1, h2, h3]
theorem applyL_length {s : Sm} {t : List Int} (h1 : 1 ≤ s.keep) (h2 : s.keep ≤ t.length) : (applyL s t).length = s.keep.toNat + s.push.length := by
  simp [applyL]; omega
theorem nth_applyL {s : Sm} {t : List Int} (h1 : 1 ≤ s.keep) (h2 : s.keep ≤ t.length) (i : Nat) :
    nth (applyL s t) i = if i + 1 = s.keep.toNat then nth t i + s.add else if i < s.keep.toNat then nth t i else nth s.push (i - s.keep.toNat) := by
  unfold applyL
  have hl : (t.take s.keep.toNat).length = s.keep.toNat := by simp; omega
  rw [nth_set]
  by_cases h : i + 1 = s.keep.toNat
  · rw [if_pos h, if_pos ⟨by omega, by simp; omega⟩]
    have : s.keep.toNat - 1 = i := by omega
    rw [this]
  · rw [if_neg h, if_neg (by omega)]
    by_cases h' : i < s.keep.toNat
    · rw [if_pos h', nth_append_left _ _ _ (by omega), nth_take _ _ _ h']
    · rw [if_neg h', nth_append_right _ _ _ (by omega), hl]
theorem apply_time {s : Sm} {t : List Int} (h : applyErr s t = 0) : timeCheck (applyL s t) = 0 := by
  obtain ⟨h1, h2, h3⟩ := applyErr_zero.1 h
  obtain ⟨k1, k2, k3, k4, k5, k6, k7⟩ := sumCheck_iff.1 h2
  have ht := (timeCheck_zero.1 h1).2.2
  have hb := badCoord_false.1 h3
  rw [timeCheck_zero, applyL_length k3 (by omega)]
  refine ⟨by omega, by omega, fun i hi => ?_⟩
  rw [nth_applyL k3 (by omega)]
  by_cases c : i + 1 = s.keep.toNat
  · rw [if_pos c]
    have : s.keep.toNat - 1 = i := by omega
    rw [this] at hb
    exact hb
  · rw [if_neg c]
    by_cases c' : i < s.keep.toNat
    · rw [if_pos c']; exact ht i (by omega)
    · rw [if_neg c']; exact k7 _ (by omega)
theorem leqB_iff {xs ys : List Int} : leqB xs ys = true ↔ xs.length = ys.length ∧ timeCheck xs = 0 ∧ timeCheck ys = 0 ∧ ∀ i, i < xs.length → nth xs i ≤ nth ys i := by
  rw [leqB_true, alikeB_true]
  simp only [underB, decide_eq_true_eq]
  constructor
  · rintro ⟨⟨a, b, c⟩, d⟩; exact ⟨a, b, c, d⟩
  · rintro ⟨a, b, c, d⟩; exact ⟨⟨a, b, c⟩, d⟩
end Go.Proofs.Ytjfpglmmhikhbaa
