/- Plain facts on the composition of summaries. -/
import Derived.Test.YtjfpglmmhikhbaaSummary4
import Derived.Test.YtjfpglmmhikhbaaPlainSum
namespace Go.Proofs.Ytjfpglmmhikhbaa

theorem thenErr_zero {s r : Sm} : thenErr s r = 0 ↔ sumCheck s 4 = 0 ∧ sumCheck r (s.keep + s.push.length) = 0 ∧ badCoord (lastOf s r) = false := by
  unfold thenErr
  constructor
  · intro h
    by_cases h1 : sumCheck s 4 = 0
    · by_cases h2 : sumCheck r (s.keep + s.push.length) = 0
      · rw [if_neg (by simp [h1]), if_neg (by simp [h2])] at h
        refine ⟨h1, h2, ?_⟩
        cases hb : badCoord (lastOf s r)
        · rfl
        · rw [hb] at h; simp at h
      · rw [if_neg (by simp [h1]), if_pos h2] at h; exact absurd h h2
    · rw [if_pos h1] at h; exact absurd h h1
  · rintro ⟨h1, h2, h3⟩
    simp [h1, h2, h3]
/-- The composition, field by field. -/
theorem thenS_keep (s r : Sm) : (thenS s r).keep = if s.keep < r.keep then s.keep else r.keep := by
  unfold thenS
  by_cases h : r.keep = s.keep
  · rw [if_pos h, if_neg (by omega)]
  · rw [if_neg h]
    by_cases h' : s.keep < r.keep
    · rw [if_pos h', if_pos h']
    · rw [if_neg h', if_neg h']
theorem thenS_add (s r : Sm) : (thenS s r).add = if r.keep = s.keep then r.add + s.add else if s.keep < r.keep then s.add else r.add := by
  unfold thenS
  by_cases h : r.keep = s.keep
  · rw [if_pos h, if_pos h]
  · rw [if_neg h, if_neg h]
    by_cases h' : s.keep < r.keep
    · rw [if_pos h', if_pos h']
    · rw [if_neg h', if_neg h']
theorem thenS_push (s r : Sm) : (thenS s r).push = if s.keep < r.keep then (s.push.take (r.keep - s.keep).toNat).set ((r.keep - s.keep).toNat - 1) (nth s.push (r.keep - s.keep - 1).toNat + r.add) ++ r.push else r.push := by
  unfold thenS
  by_cases h : r.keep = s.keep
  · rw [if_pos h, if_neg (by omega)]
  · rw [if_neg h]
    by_cases h' : s.keep < r.keep
    · rw [if_pos h', if_pos h']
    · rw [if_neg h', if_neg h']
theorem thenS_len {s r : Sm} (h1 : r.keep ≤ s.keep + s.push.length) : ((thenS s r).push.length : Int) = if s.keep < r.keep then r.keep - s.keep + r.push.length else r.push.length := by
  rw [thenS_push]
  split
  · simp; omega
  · rfl
theorem thenS_out {s r : Sm} (h1 : r.keep ≤ s.keep + s.push.length) : (thenS s r).keep + (thenS s r).push.length = r.keep + r.push.length := by
  rw [thenS_len h1, thenS_keep]
  split <;> omega
theorem thenS_nth {s r : Sm} (h1 : r.keep ≤ s.keep + s.push.length) (i : Nat) :
    nth (thenS s r).push i = if s.keep < r.keep then (if s.keep + i + 1 = r.keep then nth s.push i + r.add else if s.keep + i < r.keep then nth s.push i else nth r.push (i - (r.keep - s.keep).toNat)) else nth r.push i := by
  rw [thenS_push]
  by_cases h : s.keep < r.keep
  · rw [if_pos h, if_pos h]
    have hl : ((s.push.take (r.keep - s.keep).toNat).set ((r.keep - s.keep).toNat - 1) (nth s.push (r.keep - s.keep - 1).toNat + r.add)).length = (r.keep - s.keep).toNat := by simp; omega
    by_cases c : s.keep + i + 1 = r.keep
    · rw [if_pos c, nth_append_left _ _ _ (by omega), nth_set, if_pos ⟨by omega, by simp; omega⟩, show (r.keep - s.keep - 1).toNat = i by omega]
    · rw [if_neg c]
      by_cases c' : s.keep + i < r.keep
      · rw [if_pos c', nth_append_left _ _ _ (by omega), nth_set, if_neg (by omega), nth_take _ _ _ (by omega)]
      · rw [if_neg c', nth_append_right _ _ _ (by omega), hl]
  · rw [if_neg h, if_neg h]
theorem eqS_iff {s r : Sm} : eqS s r = true ↔ s.keep = r.keep ∧ s.add = r.add ∧ s.push = r.push := by
  simp [eqS, eqB]
theorem nth_congr {xs : List Int} {i j : Nat} (h : i = j) : nth xs i = nth xs j := by rw [h]

/-! ### Units -/
theorem unit_ahead {s : Sm} {n : Int} (h : sumCheck s n = 0) : thenErr ⟨n, 0, []⟩ s = 0 ∧ eqS (thenS ⟨n, 0, []⟩ s) s = true := by
  obtain ⟨k1, k2, k3, k4, k5, k6, k7⟩ := sumCheck_iff.1 h
  refine ⟨thenErr_zero.2 ⟨sumCheck_iff.2 ⟨by omega, by omega, by simpa using k1, by simpa using k2, by simpa using k2, by simp, by simp⟩, by simpa using h, ?_⟩, ?_⟩
  · rw [badCoord_false]
    unfold lastOf
    simp only
    by_cases c : s.keep = n
    · rw [if_pos c]; omega
    · rw [if_neg c, if_neg (by omega)]; exact k6
  · have hn : ¬ n < s.keep := by omega
    rw [eqS_iff, thenS_keep, thenS_add, thenS_push]
    simp only
    refine ⟨by rw [if_neg hn], ?_, by rw [if_neg hn]⟩
    by_cases c : s.keep = n
    · rw [if_pos c]; omega
    · rw [if_neg c, if_neg hn]
theorem unit_behind {s : Sm} {n : Int} (h : sumCheck s n = 0) : thenErr s ⟨s.keep + s.push.length, 0, []⟩ = 0 ∧ eqS (thenS s ⟨s.keep + s.push.length, 0, []⟩) s = true := by
  obtain ⟨k1, k2, k3, k4, k5, k6, k7⟩ := sumCheck_iff.1 h
  have hl : badCoord (lastOf s ⟨s.keep + s.push.length, 0, []⟩) = false := by
    rw [badCoord_false]
    unfold lastOf
    simp only
    by_cases c : s.keep + s.push.length = s.keep
    · rw [if_pos c]; omega
    · rw [if_neg c, if_pos (by omega)]
      have := k7 (s.keep + s.push.length - s.keep - 1).toNat (by omega)
      omega
  refine ⟨thenErr_zero.2 ⟨sumCheck_iff.2 ⟨by omega, by omega, k3, by omega, k5, k6, k7⟩, sumCheck_iff.2 ⟨by omega, by omega, by simp only; omega, by simp, by simp only [List.length_nil]; omega, by simp, by simp⟩, hl⟩, ?_⟩
  rw [eqS_iff, thenS_keep, thenS_add]
  refine ⟨?_, ?_, ?_⟩
  · simp only; split <;> omega
  · simp only
    by_cases c : s.keep + s.push.length = s.keep
    · rw [if_pos c]; omega
    · rw [if_neg c, if_pos (by omega)]
  · have hlen := thenS_len (s := s) (r := ⟨s.keep + s.push.length, 0, []⟩) (by simp)
    simp only [List.length_nil] at hlen
    refine nth_ext (by split at hlen <;> omega) fun i hi => ?_
    rw [thenS_nth (by simp)]
    simp only
    have hi' : i < s.push.length := by split at hlen <;> omega
    rw [if_pos (by omega)]
    split
    · omega
    · rw [if_pos (by omega)]

/-! ### Brackets -/
set_option maxHeartbeats 4000000 in
theorem brackets {s r q : Sm} (h1 : thenErr s r = 0) (h2 : thenErr r q = 0) (h3 : thenErr (thenS s r) q = 0) (h4 : thenErr s (thenS r q) = 0) :
    eqS (thenS (thenS s r) q) (thenS s (thenS r q)) = true ∧ (thenS (thenS s r) q).keep + (thenS (thenS s r) q).push.length = q.keep + q.push.length := by
  obtain ⟨a1, a2, a3⟩ := thenErr_zero.1 h1
  obtain ⟨b1, b2, b3⟩ := thenErr_zero.1 h2
  obtain ⟨c1, c2, c3⟩ := thenErr_zero.1 h3
  obtain ⟨d1, d2, d3⟩ := thenErr_zero.1 h4
  obtain ⟨-, -, s1, s2, s3, -, -⟩ := sumCheck_iff.1 a1
  obtain ⟨-, -, r1, r2, r3, -, -⟩ := sumCheck_iff.1 a2
  obtain ⟨-, -, q1, q2, q3, -, -⟩ := sumCheck_iff.1 b2
  have ka := thenS_keep s r
  have kb := thenS_keep r q
  have la := thenS_len (s := s) (r := r) r2
  have lb := thenS_len (s := r) (r := q) q2
  have na := thenS_nth (s := s) (r := r) r2
  have nb := thenS_nth (s := r) (r := q) q2
  have da := thenS_add s r
  have db := thenS_add r q
  have o1 := thenS_out (s := s) (r := r) r2
  generalize thenS s r = A at *
  generalize thenS r q = B at *
  have hq : q.keep ≤ A.keep + A.push.length := by omega
  have hb : B.keep ≤ s.keep + s.push.length := by rw [kb]; split <;> omega
  have kc := thenS_keep A q
  have kd := thenS_keep s B
  have lc := thenS_len (s := A) (r := q) hq
  have ld := thenS_len (s := s) (r := B) hb
  have nc := thenS_nth (s := A) (r := q) hq
  have nd := thenS_nth (s := s) (r := B) hb
  have dc := thenS_add A q
  have dd := thenS_add s B
  have oc := thenS_out (s := A) (r := q) hq
  generalize thenS A q = C at *
  generalize thenS s B = D at *
  refine ⟨?_, oc⟩
  have key : C.keep = D.keep ∧ C.add = D.add ∧ (C.push.length : Int) = D.push.length ∧ ∀ i, i < C.push.length → nth C.push i = nth D.push i := by
    by_cases cA : s.keep < r.keep
    · rw [if_pos cA] at ka la
      rw [if_neg (by omega), if_pos cA] at da
      simp only [if_pos cA] at na
      by_cases cB : r.keep < q.keep
      · rw [if_pos cB] at kb lb
        rw [if_neg (by omega), if_pos cB] at db
        simp only [if_pos cB] at nb
        rw [if_pos (by omega)] at kc lc kd ld
        rw [if_neg (by omega), if_pos (by omega)] at dc dd
        simp only [if_pos (show A.keep < q.keep by omega)] at nc
        simp only [if_pos (show s.keep < B.keep by omega)] at nd
        refine ⟨by omega, by omega, by omega, fun i hi => ?_⟩
        rw [nc, nd, na, nb]
        repeat' split
        all_goals first
          | omega
          | exact nth_congr (by omega)
          | (rw [nth_congr (xs := r.push) (show i - (r.keep - s.keep).toNat = i - (B.keep - s.keep).toNat by omega)])
      · rw [if_neg cB] at kb lb
        simp only [if_neg cB] at nb
        by_cases cC : s.keep < q.keep
        · rw [if_pos (by omega)] at kc lc kd ld
          rw [if_neg (by omega), if_pos (by omega)] at dc dd
          simp only [if_pos (show A.keep < q.keep by omega)] at nc
          simp only [if_pos (show s.keep < B.keep by omega)] at nd
          refine ⟨by omega, by omega, by omega, fun i hi => ?_⟩
          rw [nc, nd, na, nb]
          by_cases e5 : q.keep = r.keep
          · rw [if_pos e5] at db
            repeat' split
            all_goals first
              | omega
              | exact nth_congr (by omega)
          · rw [if_neg e5, if_neg cB] at db
            repeat' split
            all_goals first
              | omega
              | exact nth_congr (by omega)
        · rw [if_neg (by omega)] at kc lc kd ld
          simp only [if_neg (show ¬ A.keep < q.keep by omega)] at nc
          simp only [if_neg (show ¬ s.keep < B.keep by omega)] at nd
          rw [if_neg (by omega), if_neg cB] at db
          refine ⟨by omega, ?_, by omega, fun i hi => by rw [nc, nd, nb]⟩
          by_cases e : q.keep = s.keep
          · rw [if_pos (by omega)] at dc dd; omega
          · rw [if_neg (by omega), if_neg (by omega)] at dc dd; omega
    · rw [if_neg cA] at ka la
      simp only [if_neg cA] at na
      by_cases cB : r.keep < q.keep
      · rw [if_pos cB] at kb lb
        rw [if_neg (by omega), if_pos cB] at db
        simp only [if_pos cB] at nb
        rw [if_pos (by omega)] at kc lc
        rw [if_neg (by omega)] at kd ld
        rw [if_neg (by omega), if_pos (by omega)] at dc
        simp only [if_pos (show A.keep < q.keep by omega)] at nc
        simp only [if_neg (show ¬ s.keep < B.keep by omega)] at nd
        refine ⟨by omega, ?_, by omega, fun i hi => ?_⟩
        · by_cases e : r.keep = s.keep
          · rw [if_pos e] at da; rw [if_pos (by omega)] at dd; omega
          · rw [if_neg e, if_neg cA] at da; rw [if_neg (by omega), if_neg (by omega)] at dd; omega
        · rw [nc, nd, na, nb, ka]
      · rw [if_neg cB] at kb lb
        simp only [if_neg cB] at nb
        rw [if_neg (by omega)] at kc lc kd ld
        simp only [if_neg (show ¬ A.keep < q.keep by omega)] at nc
        simp only [if_neg (show ¬ s.keep < B.keep by omega)] at nd
        refine ⟨by omega, ?_, by omega, fun i hi => by rw [nc, nd, nb]⟩
        repeat' split at da
        all_goals (repeat' split at db)
        all_goals (repeat' split at dc)
        all_goals (repeat' split at dd)
        all_goals omega
  obtain ⟨x1, x2, x3, x4⟩ := key
  exact eqS_iff.2 ⟨x1, x2, nth_ext (by omega) x4⟩
end Go.Proofs.Ytjfpglmmhikhbaa
