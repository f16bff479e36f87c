/- Plain: what a composition makes of a time. -/
import Derived.Test.YtjfpglmmhikhbaaPlainThen
namespace Go.Proofs.Ytjfpglmmhikhbaa

set_option maxHeartbeats 4000000 in
theorem composes {s r : Sm} {t : List Int} (h1 : applyErr s t = 0) (h2 : applyErr r (applyL s t) = 0) :
    thenErr s r = 0 ∧ applyErr (thenS s r) t = 0 ∧ applyL r (applyL s t) = applyL (thenS s r) t := by
  have hu := apply_time h1
  obtain ⟨a1, a2, a3⟩ := applyErr_zero.1 h1
  obtain ⟨b1, b2, b3⟩ := applyErr_zero.1 h2
  obtain ⟨s1, s2, s3, s4, s5, s6, s7⟩ := sumCheck_iff.1 a2
  have hlu := applyL_length (s := s) (t := t) s3 s4
  obtain ⟨r1, r2, r3, r4, r5, r6, r7⟩ := sumCheck_iff.1 b2
  have ht := (timeCheck_zero.1 a1).2.2
  have hnu := fun i => nth_applyL (s := s) (t := t) s3 s4 i
  rw [badCoord_false] at a3 b3
  have hrk : r.keep ≤ s.keep + s.push.length := by omega
  have hla : badCoord (lastOf s r) = false := by
    rw [badCoord_false]
    unfold lastOf
    by_cases c : r.keep = s.keep
    · rw [if_pos c]
      rw [hnu, if_pos (by omega)] at b3
      have := ht (r.keep.toNat - 1) (by omega)
      omega
    · rw [if_neg c]
      by_cases c' : s.keep < r.keep
      · rw [if_pos c']
        rw [hnu, if_neg (by omega), if_neg (by omega)] at b3
        rw [nth_congr (xs := s.push) (show (r.keep - s.keep - 1).toNat = r.keep.toNat - 1 - s.keep.toNat by omega)]
        exact b3
      · rw [if_neg c']; exact r6
  have hb2 : sumCheck r (s.keep + s.push.length) = 0 := sumCheck_iff.2 ⟨by omega, by omega, r3, by omega, r5, r6, r7⟩
  have ht0 : thenErr s r = 0 := thenErr_zero.2 ⟨sumCheck_iff.2 ⟨by omega, by omega, s3, by omega, s5, s6, s7⟩, hb2, hla⟩
  have ka := thenS_keep s r
  have la := thenS_len (s := s) (r := r) hrk
  have na := thenS_nth (s := s) (r := r) hrk
  have da := thenS_add s r
  have oa := thenS_out (s := s) (r := r) hrk
  rw [badCoord_false] at hla
  unfold lastOf at hla
  generalize thenS s r = A at *
  have hk : 1 ≤ A.keep ∧ A.keep ≤ t.length := by rw [ka]; split <;> omega
  have hbd : 0 ≤ nth t (A.keep.toNat - 1) + A.add ∧ nth t (A.keep.toNat - 1) + A.add ≤ 1048576 := by
    by_cases c : r.keep = s.keep
    · rw [if_pos c] at da
      rw [if_neg (by omega)] at ka
      rw [hnu, if_pos (by omega)] at b3
      rw [ka, da]
      omega
    · rw [if_neg c] at da
      by_cases c' : s.keep < r.keep
      · rw [if_pos c'] at ka da
        rw [ka, da]; exact a3
      · rw [if_neg c'] at ka da
        rw [hnu, if_neg (by omega), if_pos (by omega)] at b3
        rw [ka, da]; exact b3
  have hA0 : applyErr A t = 0 := by
    refine applyErr_zero.2 ⟨a1, sumCheck_iff.2 ⟨s1, s2, hk.1, hk.2, by omega, ?_, fun i hi => ?_⟩, badCoord_false.2 hbd⟩
    · by_cases c : r.keep = s.keep
      · rw [if_pos c] at da hla; omega
      · rw [if_neg c] at da
        by_cases c' : s.keep < r.keep
        · rw [if_pos c'] at da; omega
        · rw [if_neg c'] at da; omega
    · rw [na i]
      by_cases c' : s.keep < r.keep
      · rw [if_pos c'] at la ⊢
        rw [if_neg (by omega), if_pos c'] at hla
        by_cases e1 : s.keep + i + 1 = r.keep
        · rw [if_pos e1]
          rw [nth_congr (xs := s.push) (show (r.keep - s.keep - 1).toNat = i by omega)] at hla
          exact hla
        · rw [if_neg e1]
          by_cases e2 : s.keep + i < r.keep
          · rw [if_pos e2]; exact s7 i (by omega)
          · rw [if_neg e2]; exact r7 _ (by omega)
      · rw [if_neg c'] at la ⊢
        exact r7 i (by omega)
  refine ⟨ht0, hA0, nth_ext ?_ fun i hi => ?_⟩
  · rw [applyL_length r3 r4, applyL_length hk.1 hk.2]; omega
  · rw [applyL_length r3 r4] at hi
    rw [nth_applyL r3 r4, nth_applyL hk.1 hk.2]
    simp only [hnu, na]
    by_cases c : r.keep = s.keep
    · rw [if_pos c] at da
      have e : ¬ s.keep < r.keep := by omega
      simp only [if_neg e] at ka la ⊢
      repeat' split
      all_goals first
        | omega
        | exact nth_congr (by omega)
    · rw [if_neg c] at da
      by_cases c' : s.keep < r.keep
      · simp only [if_pos c'] at ka la da ⊢
        repeat' split
        all_goals first
          | omega
          | exact nth_congr (by omega)
          | (rw [nth_congr (xs := s.push) (show i - s.keep.toNat = i - A.keep.toNat by omega)])
      · simp only [if_neg c'] at ka la da ⊢
        repeat' split
        all_goals first
          | omega
          | exact nth_congr (by omega)
end Go.Proofs.Ytjfpglmmhikhbaa
