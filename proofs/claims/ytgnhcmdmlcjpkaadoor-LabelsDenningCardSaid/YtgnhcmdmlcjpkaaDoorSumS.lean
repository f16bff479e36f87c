/- Composition of summaries: what the functions come to. -/
import Derived.Test.YtgnhcmdmlcjpkaaDoorSumD
import Derived.Test.YtgnhcmdmlcjpkaaDoorGhS
import Derived.Test.YtgnhcmdmlcjpkaaDoorSmyP
import Derived.Test.YtgnhcmdmlcjpkaaDoorAbsLat
namespace Go.Proofs.YtgnhcmdmlcjpkaaDoor.Gh
open Go.Abs
open Go.Smy (Sm sumCheck sumLarge badCoord sumCheck_iff sumCheck_large sumCheck_arg sumCheck_ok placeN leqP thenErr thenS lastOf)
theorem clone_eq {N : Nat} {a : List Int} (h : a.length ≤ 1000) : D_slices_Clone_Lint_int N (a, ()) = some a := by
  simp only [D_slices_Clone_Lint_int, slices_Clone_Lint_int_1]
  rw [d_true (by simp; omega)]
  cases a with
  | nil => simp [dem2]; rfl
  | cons x xs => simp; rfl
def sm (x : Tr) : Sm := ⟨x.1, x.2.1, x.2.2⟩
theorem nthI (xs : List Int) (i : Nat) : Go.Smy.nth xs i = nth 0 xs i := rfl
theorem within_eq (N : Nat) (x : Int) : D_summary_within N (x, ()) = some (!badCoord x, ()) := by
  simp only [D_summary_within, summary_within_1, badCoord]
  by_cases h : x < 0
  · rw [d_false (show ¬ x ≥ 0 by omega), d_true h]; rfl
  · rw [d_true (show x ≥ 0 by omega), d_false h, cond_true, Bool.false_or]
    by_cases h' : 1048576 < x
    · rw [d_false (show ¬ x ≤ 1048576 by omega), d_true h']; rfl
    · rw [d_true (show x ≤ 1048576 by omega), d_false h']; rfl
theorem any_nth {xs : List Int} : xs.any badCoord = true ↔ ∃ i, i < xs.length ∧ badCoord (nth 0 xs i) = true := by
  rw [List.any_eq_true]
  constructor
  · rintro ⟨x, hx, h⟩
    obtain ⟨i, hi, rfl⟩ := mem_nth (z := (0 : Int)) hx
    exact ⟨i, hi, h⟩
  · rintro ⟨i, hi, h⟩
    exact ⟨_, nth_mem hi, h⟩
theorem SCheck_eq {N : Nat} (hN : 1000 ≤ N) (s : Tr) (n : Int) : D_summary_Check N (s, n, ()) = some (sumCheck (sm s) n, ()) := by
  obtain ⟨k, a, p⟩ := s
  simp only [D_summary_Check, summary_Check_4, joinD]
  by_cases h1 : n < 1
  · rw [d_true h1, cond_true, sumCheck_large (.inl h1)]; rfl
  by_cases h2 : n > 4
  · rw [d_false h1, cond_false, d_true h2, cond_true, sumCheck_large (.inr (.inl h2))]; rfl
  by_cases h3 : k < 1
  · rw [d_false h1, cond_false, d_false h2, cond_false, d_true h3, cond_true, sumCheck_large (.inr (.inr (.inl h3)))]; rfl
  by_cases h4 : k > n
  · rw [d_false h1, cond_false, d_false h2, cond_false, d_false h3, cond_false, d_true h4, cond_true, sumCheck_large (.inr (.inr (.inr (.inl h4))))]; rfl
  rw [d_false h1, cond_false, d_false h2, cond_false, d_false h3, cond_false, d_false h4, cond_false, w64 (show _ ≤ 4 - k by omega) (by omega)]
  by_cases h5 : (p.length : Int) > 4 - k
  · rw [d_true h5, sumCheck_large (.inr (.inr (.inr (.inr h5))))]; rfl
  rw [d_false h5]
  have hl : ¬ sumLarge (sm (k, a, p)) n := by unfold sumLarge sm; simp only; omega
  simp only [summary_Check_3, cond_false, joinD, loopE]
  rw [d_true (show (([a] : List Int).length + p.length) * 8 ≤ 140737488355328 by simp only [List.length_singleton]; omega), show Nat.ble 1 8 = true from rfl, Bool.and_self, cond_true]
  have hlen : ([a] ++ p).length ≤ 5 := by simp; omega
  have hbody : ∀ i, i < ([a] ++ p).length → ∀ kn, summary_Check_2 N (fun _ => summary_Check_1 N) (([a] ++ p).length : Int) k a p ([a] ++ p) (i : Int) (backE ((([a] ++ p).length : Int), k, a, p, [a] ++ p) kn) =
      if badCoord (nth 0 ([a] ++ p) i) = true then some (2, ()) else kn ((i : Int) + 1) := fun i hi kn => by
    simp only [summary_Check_2, lt_d hi, ge0_d, Bool.and_self, cond_true, Int.toNat_natCast, within_eq N (nth 0 ([a] ++ p) i), Option.bind_some, backE_eq, ix1 hi (by omega), Bool.not_not]
    cases badCoord (nth 0 ([a] ++ p) i) <;> rfl
  cases hb : ([a] ++ p).any badCoord with
  | true =>
    rw [sumCheck_arg hl hb]
    obtain ⟨i, hi, hx⟩ := any_nth.1 hb
    exact loopD_hit (n := ([a] ++ p).length) (by omega) (fun i => badCoord (nth 0 ([a] ++ p) i) = true) (fun i hi hb kn => by rw [hbody i hi, if_pos hb]) (fun i hi hb kn => by rw [hbody i hi, if_neg hb]) (by omega) ⟨i, hi, hx⟩
  | false =>
    rw [sumCheck_ok hl hb]
    refine loopD_pass (n := ([a] ++ p).length) (by omega) (fun i hi kn => by rw [hbody i hi, if_neg fun hx => by have := any_nth.2 ⟨i, hi, hx⟩; rw [hb] at this; cases this]) (fun kn => ?_) (by omega)
    simp only [summary_Check_2, lt_self, cond_false, summary_Check_1]
/-- What a summary that may be is. -/
theorem sok {s : Tr} {n : Int} (h : sumCheck (sm s) n = 0) : SOk s := by
  obtain ⟨-, -, a3, -, a5, -, -⟩ := sumCheck_iff.1 h
  exact ⟨a3, a5⟩
theorem SOut_eq {N : Nat} {s : Tr} (h : SOk s) : D_summary_Out N (s, ()) = some (s.1 + s.2.2.length, ()) := by
  have := h.k1
  have := h.k4
  simp only [D_summary_Out, summary_Out_1]
  rw [w64 (by omega) (by omega)]
/-- The places of a summary. -/
def tr (s : Sm) : Tr := (s.keep, s.add, s.push)
theorem sm_tr (s : Sm) : sm (tr s) = s := rfl
theorem bad0 {x : Int} : badCoord x = false ↔ 0 ≤ x ∧ x ≤ 1048576 := Go.Smy.badCoord_false
theorem Then_eq {N : Nat} (hN : 1000 ≤ N) (s r : Tr) : D_summary_Then N (s, r, ()) = if thenErr (sm s) (sm r) = 0 then some (tr (thenS (sm s) (sm r)), 0, ()) else some ((0, (0, [])), thenErr (sm s) (sm r), ()) := by
  have es : (s.1, s.2.1, s.2.2) = s := rfl
  have er : (r.1, r.2.1, r.2.2) = r := rfl
  simp only [D_summary_Then, summary_Then_1, es, er, SCheck_eq hN s 4, Option.bind_some]
  by_cases c1 : sumCheck (sm s) 4 = 0
  case neg =>
    have e : thenErr (sm s) (sm r) = sumCheck (sm s) 4 := by unfold thenErr; rw [if_pos c1]
    rw [e, if_neg c1, show (sumCheck (sm s) 4 != 0) = true from bne_iff_ne.2 c1, cond_true]
  have o1 := sok c1
  rw [c1, bne_self_eq_false, cond_false, SOut_eq o1, Option.bind_some]
  simp only [SCheck_eq hN r (s.1 + (s.2.2.length : Int)), Option.bind_some]
  by_cases c2 : sumCheck (sm r) (s.1 + (s.2.2.length : Int)) = 0
  case neg =>
    have e : thenErr (sm s) (sm r) = sumCheck (sm r) (s.1 + (s.2.2.length : Int)) := by unfold thenErr; rw [if_neg (fun h => h c1), if_pos (show sumCheck (sm r) ((sm s).keep + ((sm s).push.length : Int)) ≠ 0 from c2)]; rfl
    rw [e, if_neg c2, show (sumCheck (sm r) (s.1 + (s.2.2.length : Int)) != 0) = true from bne_iff_ne.2 c2, cond_true]
  rw [c2, bne_self_eq_false, cond_false]
  have o2 := sok c2
  have e : thenErr (sm s) (sm r) = if badCoord (lastOf (sm s) (sm r)) = true then 6 else 0 := by unfold thenErr; rw [if_neg (fun h => h c1), if_neg (show ¬ sumCheck (sm r) ((sm s).keep + ((sm s).push.length : Int)) ≠ 0 from fun h => h c2)]
  rw [e]
  generalize hb : badCoord (lastOf (sm s) (sm r)) = z
  obtain ⟨-, -, a3, a4, a5, a6, a7⟩ := sumCheck_iff.1 c1
  obtain ⟨-, -, b3, b4, b5, b6, b7⟩ := sumCheck_iff.1 c2
  obtain ⟨k, a, p⟩ := s
  obtain ⟨l, b, q⟩ := r
  simp only [sm] at a3 a4 a5 a6 a7 b3 b4 b5 b6 b7
  simp only
  have w1 : IntKind.i64.wrap (l - k) = l - k := w64 (by omega) (by omega)
  have w2 : IntKind.i64.wrap (b + a) = b + a := w64 (by omega) (by omega)
  have w3 : IntKind.i64.wrap (l - k - 1) = l - k - 1 := w64 (by omega) (by omega)
  simp only [w1, w2, w3]
  have hq : decide (q.length * 8 ≤ 140737488355328) = true := d_true (by omega)
  by_cases h1 : l = k
  · subst h1
    have hlast : lastOf (sm (l, a, p)) (sm (l, b, q)) = b + a := by unfold lastOf; rw [if_pos (show (sm (l, b, q)).keep = (sm (l, a, p)).keep from rfl)]; rfl
    have hthen : thenS (sm (l, a, p)) (sm (l, b, q)) = ⟨l, b + a, q⟩ := by unfold thenS; rw [if_pos (show (sm (l, b, q)).keep = (sm (l, a, p)).keep from rfl)]; rfl
    rw [hlast] at hb
    rw [hthen, show (l - l == 0) = true from beq_iff_eq.2 (by omega), cond_true, within_eq N (b + a), Option.bind_some]
    rw [hb]
    cases z with
    | true => rfl
    | false =>
      simp only [Bool.not_false, Bool.not_true, cond_false, hq, show Nat.ble 1 8 = true from rfl, Bool.and_self, cond_true, Bool.false_eq_true, if_false, if_true]; rfl
  rw [show (l - k == 0) = false from beq_false_of_ne (by omega), cond_false]
  by_cases h2 : k < l
  · have hlast : lastOf (sm (k, a, p)) (sm (l, b, q)) = nth 0 p (l - k - 1).toNat + b := by unfold lastOf; rw [if_neg (show ¬ (sm (l, b, q)).keep = (sm (k, a, p)).keep from h1), if_pos (show (sm (k, a, p)).keep < (sm (l, b, q)).keep from h2)]; rfl
    have hthen : thenS (sm (k, a, p)) (sm (l, b, q)) = ⟨k, a, (p.take (l - k).toNat).set ((l - k).toNat - 1) (nth 0 p (l - k - 1).toNat + b) ++ q⟩ := by unfold thenS; rw [if_neg (show ¬ (sm (l, b, q)).keep = (sm (k, a, p)).keep from h1), if_pos (show (sm (k, a, p)).keep < (sm (l, b, q)).keep from h2)]; rfl
    have hc : D_slices_Clone_Lint_int N ((p.take (l - k).toNat).drop (0 : Int).toNat, ()) = some (p.take (l - k).toNat) := clone_eq (by simp; omega)
    have hlen : (p.take (l - k).toNat).length = (l - k).toNat := by simp; omega
    have hx := a7 (l - k - 1).toNat (by omega)
    rw [nthI] at hx
    have hn : nth 0 (p.take (l - k).toNat) (l - k - 1).toNat = nth 0 p (l - k - 1).toNat := Go.Smy.nth_take p _ _ (by omega)
    have w4 : IntKind.i64.wrap (nth 0 p (l - k - 1).toNat + b) = nth 0 p (l - k - 1).toNat + b := w64 (by omega) (by omega)
    have hs : nth 0 ((p.take (l - k).toNat).set (l - k - 1).toNat (nth 0 p (l - k - 1).toNat + b)) (l - k - 1).toNat = nth 0 p (l - k - 1).toNat + b :=
      (Go.Smy.nth_set (p.take (l - k).toNat) (l - k - 1).toNat (l - k - 1).toNat (nth 0 p (l - k - 1).toNat + b)).trans (if_pos ⟨rfl, by omega⟩)
    rw [hlast] at hb
    rw [hthen, d_true (show l - k > 0 by omega), cond_true, d_true (show (0 : Int) ≤ l - k by omega), d_true (show l - k ≤ (p.length : Int) by omega)]
    simp only [show decide ((0 : Int) ≤ 0) = true from rfl, Bool.and_self, cond_true, hc, Option.bind_some, hlen, hn, w4, hs]
    rw [d_true (show (0 : Int) ≤ l - k - 1 by omega), d_true (show l - k - 1 < (((l - k).toNat : Nat) : Int) by omega)]
    simp only [Bool.and_self, cond_true, within_eq N (nth 0 p (l - k - 1).toNat + b), Option.bind_some]
    rw [hb]
    cases z with
    | true => rfl
    | false =>
      simp only [Bool.not_false, Bool.not_true, cond_false, List.length_set, hlen]
      rw [d_true (show ((l - k).toNat + q.length) * 8 ≤ 140737488355328 by omega), show (l - k - 1).toNat = (l - k).toNat - 1 by omega]; rfl
  · have hlast : lastOf (sm (k, a, p)) (sm (l, b, q)) = b := by unfold lastOf; rw [if_neg (show ¬ (sm (l, b, q)).keep = (sm (k, a, p)).keep from h1), if_neg (show ¬ (sm (k, a, p)).keep < (sm (l, b, q)).keep from h2)]; rfl
    have hthen : thenS (sm (k, a, p)) (sm (l, b, q)) = ⟨l, b, q⟩ := by unfold thenS; rw [if_neg (show ¬ (sm (l, b, q)).keep = (sm (k, a, p)).keep from h1), if_neg (show ¬ (sm (k, a, p)).keep < (sm (l, b, q)).keep from h2)]; rfl
    rw [hlast] at hb
    rw [hthen, d_false (show ¬ l - k > 0 by omega), cond_false, within_eq N b, Option.bind_some]
    rw [hb]
    cases z with
    | true => rfl
    | false =>
      simp only [Bool.not_false, Bool.not_true, cond_false, hq, show Nat.ble 1 8 = true from rfl, Bool.and_self, cond_true, Bool.false_eq_true, if_false, if_true]; rfl
/-- A composition, or what is wrong. -/
def thenR (s r : Tr) : Tr × Int × Unit := if thenErr (sm s) (sm r) = 0 then (tr (thenS (sm s) (sm r)), 0, ()) else ((0, (0, [])), thenErr (sm s) (sm r), ())
theorem Then_R {N : Nat} (hN : 1000 ≤ N) (s r : Tr) : D_summary_Then N (s, r, ()) = some (thenR s r) := by
  rw [Then_eq hN]
  unfold thenR
  split <;> rfl
theorem thenR_ok {s r : Tr} (h : (thenR s r).2.1 = 0) : thenErr (sm s) (sm r) = 0 ∧ (thenR s r).1 = tr (thenS (sm s) (sm r)) := by
  unfold thenR at h ⊢
  by_cases c : thenErr (sm s) (sm r) = 0
  · rw [if_pos c]; exact ⟨c, rfl⟩
  · rw [if_neg c] at h; exact absurd h c
theorem Sum_eq (N : Nat) (x : Nd) : D_graph_Sum N (x, ()) = some (if nodeOk x = true then (nsum x, 0, ()) else ((0, 0, []), 2, ())) := by
  simp only [D_graph_Sum, graph_Sum_1, nd_eta, may_eq N x, Option.bind_some]
  cases h : nodeOk x with
  | false => rfl
  | true =>
    have := nodeOk_iff.1 h
    simp only [Bool.not_true, cond_false, if_true]
    unfold nsum
    by_cases h4 : x.1 = 4
    · rw [if_pos h4, show (x.1 == 4) = true from beq_iff_eq.2 h4]; rfl
    rw [if_neg h4, show (x.1 == 4) = false from beq_false_of_ne h4]
    by_cases h5 : x.1 = 5
    · rw [if_pos h5, show (x.1 == 5) = true from beq_iff_eq.2 h5, w64 (by omega) (by omega)]; rfl
    rw [if_neg h5, show (x.1 == 5) = false from beq_false_of_ne h5]
    by_cases h6 : x.1 = 6
    · rw [if_pos h6, show (x.1 == 6) = true from beq_iff_eq.2 h6]; rfl
    · rw [if_neg h6, show (x.1 == 6) = false from beq_false_of_ne h6]; rfl
end Go.Proofs.YtgnhcmdmlcjpkaaDoor.Gh
