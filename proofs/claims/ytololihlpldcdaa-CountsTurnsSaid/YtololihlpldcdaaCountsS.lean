/- What the functions of counts come to. -/
import Derived.Test.YtololihlpldcdaaCounts
import Derived.Test.YtololihlpldcdaaCountsP
import Derived.Test.YtololihlpldcdaaTimesG
namespace Go.Proofs.Ytololihlpldcdaa
open Go.Abs
theorem Over_eq (N : Nat) (n : Int) : D_counts_over N (n, ()) = some (ov n, ()) := by
  simp only [D_counts_over, counts_over_1, ov]
  by_cases h : n < -1099511627776
  · rw [d_true h]; rfl
  · rw [d_false h]; rfl
/-- Counts that may be merged. -/
structure Sml (c : List Cn) : Prop where
  len : c.length ≤ 200
  t4 : ∀ x ∈ c, x.1.length ≤ 4
  n : ∀ x ∈ c, -1099511627776 ≤ x.2 ∧ x.2 ≤ 1099511627776
theorem Sml.tail {x : Cn} {c : List Cn} (h : Sml (x :: c)) : Sml c where
  len := by have := h.len; simp only [List.length_cons] at this; omega
  t4 := fun y hy => h.t4 y (by simp [hy])
  n := fun y hy => h.n y (by simp [hy])
/-- What stands behind what was merged before. -/
noncomputable def mgR (l : List Cn) : Option (List Cn) → Option Rt_counts_merge
  | none => some ([], 6, ())
  | some m => if 64 < (l ++ m).length then some ([], 1, ()) else some (l ++ m, 0, ())
theorem mgR_push (l : List Cn) (x : Cn) (r : Option (List Cn)) : mgR l (push x r) = if ov x.2 then some ([], 6, ()) else mgR (if x.2 = 0 then l else l ++ [x]) r := by
  unfold push
  cases ov x.2 with
  | true => rfl
  | false =>
    cases r with
    | none => rfl
    | some m =>
      by_cases e : x.2 = 0
      · simp [e]
      · simp [e, mgR, List.append_assoc]
theorem M2_neg {N : Nat} (kn : Unit × (List Cn × List Cn × List Cn) → Option Rt_counts_merge) {c d l : List Cn} {t : List Int} {n : Int} (ht : t.length ≤ 4) (hl : l.length ≤ 20000) :
    counts_merge_2 N kn c d (-1) l t n = if ov n then some ([], 6, ()) else kn ((), (c, d, if n = 0 then l else l ++ [(t, n)])) := by
  simp only [counts_merge_2]
  rw [d_false (by omega), cond_false, Over_eq, Option.bind_some]
  cases ov n with
  | true => rfl
  | false =>
    by_cases e : n = 0
    · subst e; rfl
    · rw [cond_false, show (n != 0) = true from bne_iff_ne.2 e, cond_true, clone_eq (by omega), Option.map_some, Option.bind_some, d_true (by simp; omega), if_neg e]; rfl
theorem M2_pos {N : Nat} (kn : Unit × (List Cn × List Cn × List Cn) → Option Rt_counts_merge) {c d l : List Cn} {y : Cn} {t : List Int} {n how : Int} (h : 0 ≤ how) (ht : y.1.length ≤ 4) (hl : l.length ≤ 20000) (hd : d.length ≤ 1000) (hw : -4611686018427387904 ≤ n + y.2 ∧ n + y.2 ≤ 4611686018427387904) :
    counts_merge_2 N kn c (y :: d) how l t n = if ov (n + y.2) then some ([], 6, ()) else kn ((), (c, d, if n + y.2 = 0 then l else l ++ [(y.1, n + y.2)])) := by
  have e0 : nth ([], (0 : Int)) (y :: d) (0 : Int).toNat = y := rfl
  have e1 : ((y :: d).take (((y :: d).length : Int)).toNat).drop (1 : Int).toNat = d := by rw [Int.toNat_natCast, List.take_length]; rfl
  simp only [counts_merge_2, e0, e1]
  rw [d_true (show how ≥ 0 from h), cond_true, d_true (show (0 : Int) < ((y :: d).length : Int) by simp only [List.length_cons]; omega), d_true (show (1 : Int) ≤ ((y :: d).length : Int) by simp only [List.length_cons]; omega), d_true (show ((y :: d).length : Int) ≤ ((y :: d).length : Int) by omega), w64 (by omega) (by omega), Over_eq, Option.bind_some]
  simp only [show decide ((0 : Int) ≤ 0) = true from rfl, show decide ((0 : Int) ≤ 1) = true from rfl, Bool.and_self, cond_true]
  cases ov (n + y.2) with
  | true => rfl
  | false =>
    by_cases e : n + y.2 = 0
    · rw [e]; rfl
    · rw [cond_false, show (n + y.2 != 0) = true from bne_iff_ne.2 e, cond_true, clone_eq (by omega), Option.map_some, Option.bind_some, d_true (by simp; omega), if_neg e]; rfl
theorem lexc_one : ∀ a b, lexc a b = -1 ∨ lexc a b = 0 ∨ lexc a b = 1
  | [], [] => .inr (.inl rfl)
  | [], _ :: _ => .inl rfl
  | _ :: _, [] => .inr (.inr rfl)
  | x :: xs, y :: ys => by
    simp only [lexc]
    by_cases h1 : x < y
    · simp [h1]
    · by_cases h2 : y < x
      · simp [h1, h2]
      · simpa [h1, h2] using lexc_one xs ys
theorem M3_le {N : Nat} (kn : Unit × (List Cn × List Cn × List Cn) → Option Rt_counts_merge) {c d l : List Cn} {x : Cn} {how : Int} (h : how ≤ 0) :
    counts_merge_3 N kn (x :: c) d how l = counts_merge_2 N kn c d how l x.1 x.2 := by
  have e0 : nth ([], (0 : Int)) (x :: c) (0 : Int).toNat = x := rfl
  have e1 : ((x :: c).take (((x :: c).length : Int)).toNat).drop (1 : Int).toNat = c := by rw [Int.toNat_natCast, List.take_length]; rfl
  simp only [counts_merge_3, joinD, e0, e1]
  rw [d_true h, cond_true, d_true (show (0 : Int) < ((x :: c).length : Int) by simp only [List.length_cons]; omega), d_true (show (1 : Int) ≤ ((x :: c).length : Int) by simp only [List.length_cons]; omega), d_true (show ((x :: c).length : Int) ≤ ((x :: c).length : Int) by omega)]
  rfl
theorem M3_gt {N : Nat} (kn : Unit × (List Cn × List Cn × List Cn) → Option Rt_counts_merge) {c d l : List Cn} {how : Int} (h : 0 < how) :
    counts_merge_3 N kn c d how l = counts_merge_2 N kn c d how l [] 0 := by
  simp only [counts_merge_3, joinD]
  rw [d_false (by omega)]; rfl
noncomputable def mgG (N : Nat) (s : List Cn × List Cn × List Cn) (kn : List Cn × List Cn × List Cn → Option Rt_counts_merge) : Option Rt_counts_merge := counts_merge_5 N (fun s => counts_merge_1 N s) s.1 s.2.1 s.2.2 (backE () kn)
theorem accl {l : List Cn} {x : Cn} {n : Nat} (h : l.length + (n + 1) ≤ 10000) : (if x.2 = 0 then l else l ++ [x]).length + n ≤ 10000 := by
  split
  · omega
  · rw [List.length_append, List.length_singleton]; omega
theorem Merge_loop {N : Nat} (hN : 1000 ≤ N) : ∀ (n M : Nat) (c d l : List Cn), c.length + d.length ≤ n → n < M → Sml c → Sml d → l.length + n ≤ 10000 →
    loopD (mgG N) M (c, d, l) = mgR l (mg n c d)
  | n, 0, _, _, _, _, h, _, _, _ => absurd h (Nat.not_lt_zero _)
  | n, M + 1, c, d, l, h, hM, s1, s2, hl => by
    have hend : mgR l (some []) = counts_merge_1 N l := by
      simp only [mgR, List.append_nil, counts_merge_1]
      by_cases q : 64 < l.length
      · rw [if_pos q, d_true (by omega)]; rfl
      · rw [if_neg q, d_false (by omega)]; rfl
    have hl1 := s1.len
    have hl2 := s2.len
    have hlen : ∀ (z : Cn) (r : List Cn), (((z :: r).length : Int) == 0) = false := fun z r => beq_false_of_ne (by simp only [List.length_cons]; omega)
    have hpos : ∀ (z : Cn) (r : List Cn), decide (((z :: r).length : Int) > 0) = true := fun z r => d_true (by simp only [List.length_cons]; omega)
    have hnil : ((([] : List Cn).length : Int) == 0) = true := rfl
    cases c with
    | nil =>
      cases d with
      | nil =>
        have e : mg n [] [] = some [] := by cases n <;> rfl
        rw [e, hend]; rfl
      | cons y d =>
        obtain ⟨n, rfl⟩ : ∃ m, n = m + 1 := ⟨n - 1, by simp only [List.length_cons] at h; omega⟩
        have hn := s2.n y (by simp)
        rw [loopD]
        simp only [mgG, counts_merge_5, joinD, counts_merge_4, hpos, hnil, cond_true]
        rw [show decide ((([] : List Cn).length : Int) > 0) = false from rfl, cond_false, M3_gt _ (by omega), M2_pos _ (by omega) (s2.t4 y (by simp)) (by omega) (by have := s2.tail.len; omega) (by omega), Int.zero_add, backE_eq, mg, mgR_push,
          Merge_loop hN n M [] d (if y.2 = 0 then l else l ++ [(y.1, y.2)]) (by simpa using h) (by omega) s1 s2.tail (accl hl)]
    | cons x c =>
      obtain ⟨n, rfl⟩ : ∃ m, n = m + 1 := ⟨n - 1, by simp only [List.length_cons] at h; omega⟩
      have hx := s1.n x (by simp)
      have hxt := s1.t4 x (by simp)
      cases d with
      | nil =>
        rw [loopD]
        simp only [mgG, counts_merge_5, joinD, counts_merge_4, hpos, hnil, hlen, cond_true, cond_false]
        rw [M3_le _ (by omega), M2_neg _ hxt (by omega), backE_eq, mg, mgR_push,
          Merge_loop hN n M c [] (if x.2 = 0 then l else l ++ [(x.1, x.2)]) (by simpa using h) (by omega) s1.tail s2 (accl hl)]
      | cons y d =>
        have hy := s2.n y (by simp)
        have hyt := s2.t4 y (by simp)
        simp only [List.length_cons] at h
        have e0 : nth ([], (0 : Int)) (y :: d) (0 : Int).toNat = y := rfl
        have e1 : nth ([], (0 : Int)) (x :: c) (0 : Int).toNat = x := rfl
        rw [loopD]
        simp only [mgG, counts_merge_5, joinD, counts_merge_4, hpos, hlen, cond_true, cond_false, e0, e1]
        simp only [show decide ((0 : Int) ≤ 0) = true from rfl, Bool.and_self, cond_true]
        rw [Compare_eq hxt hN, Option.bind_some]
        rw [mg]
        by_cases q1 : lexc x.1 y.1 < 0
        · have e2 : lexc x.1 y.1 = -1 := by have := lexc_one x.1 y.1; omega
          rw [if_pos q1, e2, M3_le _ (by omega), M2_neg _ hxt (by omega), backE_eq, mgR_push,
            Merge_loop hN n M c (y :: d) (if x.2 = 0 then l else l ++ [(x.1, x.2)]) (by simp; omega) (by omega) s1.tail s2 (accl hl)]
        · rw [if_neg q1]
          by_cases q2 : 0 < lexc x.1 y.1
          · rw [if_pos q2, M3_gt _ q2, M2_pos _ (by omega) hyt (by omega) (by have := s2.tail.len; omega) (by omega), Int.zero_add, backE_eq, mgR_push,
              Merge_loop hN n M (x :: c) d (if y.2 = 0 then l else l ++ [(y.1, y.2)]) (by simp; omega) (by omega) s1 s2.tail (accl hl)]
          · rw [if_neg q2, show lexc x.1 y.1 = 0 by omega, M3_le _ (by omega), M2_pos _ (by omega) hyt (by omega) (by have := s2.tail.len; omega) (by omega), backE_eq, mgR_push,
              Merge_loop hN n M c d (if x.2 + y.2 = 0 then l else l ++ [(y.1, x.2 + y.2)]) (by omega) (by omega) s1.tail s2.tail (accl (x := (y.1, x.2 + y.2)) hl)]
theorem Merge_eq {N : Nat} (hN : 1000 ≤ N) {c d : List Cn} (s1 : Sml c) (s2 : Sml d) : D_counts_merge N (c, d, ()) = mgR [] (mg (c.length + d.length) c d) := by
  have h1 := s1.len
  have h2 := s2.len
  simp only [D_counts_merge, counts_merge_6, joinD, loopE]
  exact Merge_loop hN _ N c d [] (Nat.le_refl _) (by omega) s1 s2 (by simp; omega)
end Go.Proofs.Ytololihlpldcdaa
