/- What the functions of summary come to. -/
import Derived.Test.YtololihlpldcdaaSumm
import Derived.Test.YtololihlpldcdaaSummP
import Derived.Test.YtololihlpldcdaaTimesF
namespace Go.Proofs.Ytololihlpldcdaa
open Go.Abs
open Go.Smy (Sm sumCheck sumLarge badCoord sumCheck_iff sumCheck_large sumCheck_arg sumCheck_ok placeN leqP thenErr thenS lastOf)
abbrev Tr := Int × Int × List Int
def sm (x : Tr) : Sm := ⟨x.1, x.2.1, x.2.2⟩
theorem nthI (xs : List Int) (i : Nat) : Go.Smy.nth xs i = nth 0 xs i := rfl
theorem within_eq (N : Nat) (x : Int) : D_summary_within N (x, ()) = some (!badCoord x, ()) := by
  simp only [D_summary_within, summary_within_1, badCoord]
  by_cases h : x < 0
  · rw [d_false (show ¬ x ≥ 0 by omega), d_true h]; rfl
  · rw [d_true (show x ≥ 0 by omega), d_false h, cond_true, Bool.false_or]
    by_cases h' : 1048576 < x
    · rw [d_false (show ¬ x ≤ 1048576 by omega), d_true h']; rfl
    · rw [d_true (show x ≤ 1048576 by omega), d_false h']; rfl
theorem any_nth {xs : List Int} : xs.any badCoord = true ↔ ∃ i, i < xs.length ∧ badCoord (nth 0 xs i) = true := by
  rw [List.any_eq_true]
  constructor
  · rintro ⟨x, hx, h⟩
    obtain ⟨i, hi, rfl⟩ := mem_nth (z := (0 : Int)) hx
    exact ⟨i, hi, h⟩
  · rintro ⟨i, hi, h⟩
    exact ⟨_, nth_mem hi, h⟩
theorem SCheck_eq {N : Nat} (hN : 1000 ≤ N) (s : Tr) (n : Int) : D_summary_Check N (s, n, ()) = some (sumCheck (sm s) n, ()) := by
  obtain ⟨k, a, p⟩ := s
  simp only [D_summary_Check, summary_Check_4, joinD]
  by_cases h1 : n < 1
  · rw [d_true h1, cond_true, sumCheck_large (.inl h1)]; rfl
  by_cases h2 : n > 4
  · rw [d_false h1, cond_false, d_true h2, cond_true, sumCheck_large (.inr (.inl h2))]; rfl
  by_cases h3 : k < 1
  · rw [d_false h1, cond_false, d_false h2, cond_false, d_true h3, cond_true, sumCheck_large (.inr (.inr (.inl h3)))]; rfl
  by_cases h4 : k > n
  · rw [d_false h1, cond_false, d_false h2, cond_false, d_false h3, cond_false, d_true h4, cond_true, sumCheck_large (.inr (.inr (.inr (.inl h4))))]; rfl
  rw [d_false h1, cond_false, d_false h2, cond_false, d_false h3, cond_false, d_false h4, cond_false, w64 (show _ ≤ 4 - k by omega) (by omega)]
  by_cases h5 : (p.length : Int) > 4 - k
  · rw [d_true h5, sumCheck_large (.inr (.inr (.inr (.inr h5))))]; rfl
  rw [d_false h5]
  have hl : ¬ sumLarge (sm (k, a, p)) n := by unfold sumLarge sm; simp only; omega
  simp only [summary_Check_3, cond_false, joinD, loopE]
  rw [d_true (show (([a] : List Int).length + p.length) * 8 ≤ 140737488355328 by simp only [List.length_singleton]; omega), show Nat.ble 1 8 = true from rfl, Bool.and_self, cond_true]
  have hlen : ([a] ++ p).length ≤ 5 := by simp; omega
  have hbody : ∀ i, i < ([a] ++ p).length → ∀ kn, summary_Check_2 N (fun _ => summary_Check_1 N) (([a] ++ p).length : Int) k a p ([a] ++ p) (i : Int) (backE ((([a] ++ p).length : Int), k, a, p, [a] ++ p) kn) =
      if badCoord (nth 0 ([a] ++ p) i) = true then some (2, ()) else kn ((i : Int) + 1) := fun i hi kn => by
    simp only [summary_Check_2, lt_d hi, ge0_d, Bool.and_self, cond_true, Int.toNat_natCast, within_eq N (nth 0 ([a] ++ p) i), Option.bind_some, backE_eq, ix1 hi (by omega), Bool.not_not]
    cases badCoord (nth 0 ([a] ++ p) i) <;> rfl
  cases hb : ([a] ++ p).any badCoord with
  | true =>
    rw [sumCheck_arg hl hb]
    obtain ⟨i, hi, hx⟩ := any_nth.1 hb
    exact loopD_hit (n := ([a] ++ p).length) (by omega) (fun i => badCoord (nth 0 ([a] ++ p) i) = true) (fun i hi hb kn => by rw [hbody i hi, if_pos hb]) (fun i hi hb kn => by rw [hbody i hi, if_neg hb]) (by omega) ⟨i, hi, hx⟩
  | false =>
    rw [sumCheck_ok hl hb]
    refine loopD_pass (n := ([a] ++ p).length) (by omega) (fun i hi kn => by rw [hbody i hi, if_neg fun hx => by have := any_nth.2 ⟨i, hi, hx⟩; rw [hb] at this; cases this]) (fun kn => ?_) (by omega)
    simp only [summary_Check_2, lt_self, cond_false, summary_Check_1]
theorem RCheck_eq {N : Nat} (hN : 1000 ≤ N) (s : Tr) (n : Int) : D_ref_SummaryCheck N (s, n, ()) = some (sumCheck (sm s) n, ()) := by
  obtain ⟨k, a, p⟩ := s
  simp only [D_ref_SummaryCheck, ref_SummaryCheck_4, joinD]
  by_cases h1 : n < 1
  · rw [d_true h1, cond_true, sumCheck_large (.inl h1)]; rfl
  by_cases h2 : n > 4
  · rw [d_false h1, cond_false, d_true h2, cond_true, sumCheck_large (.inr (.inl h2))]; rfl
  by_cases h3 : k < 1
  · rw [d_false h1, cond_false, d_false h2, cond_false, d_true h3, cond_true, sumCheck_large (.inr (.inr (.inl h3)))]; rfl
  by_cases h4 : k > n
  · rw [d_false h1, cond_false, d_false h2, cond_false, d_false h3, cond_false, d_true h4, cond_true, sumCheck_large (.inr (.inr (.inr (.inl h4))))]; rfl
  by_cases h6 : (p.length : Int) > 4
  · rw [d_false h1, cond_false, d_false h2, cond_false, d_false h3, cond_false, d_false h4, cond_false, d_true h6, cond_true, sumCheck_large (.inr (.inr (.inr (.inr (by show 4 - k < (p.length : Int); omega)))))]; rfl
  rw [d_false h1, cond_false, d_false h2, cond_false, d_false h3, cond_false, d_false h4, cond_false, d_false h6, cond_false, w64 (show _ ≤ k + (p.length : Int) by omega) (by omega)]
  by_cases h5 : k + (p.length : Int) > 4
  · rw [d_true h5, sumCheck_large (.inr (.inr (.inr (.inr (by show 4 - k < (p.length : Int); omega)))))]; rfl
  rw [d_false h5]
  have hl : ¬ sumLarge (sm (k, a, p)) n := by unfold sumLarge sm; simp only; omega
  simp only [ref_SummaryCheck_3, cond_false, joinD, loopE]
  by_cases a1 : a < 0
  · rw [d_true a1, cond_true, sumCheck_arg hl (by simp [sm, badCoord, a1])]
  by_cases a2 : a > 1048576
  · rw [d_false a1, cond_false, d_true a2, cond_true, sumCheck_arg hl (by simp [sm, badCoord]; omega)]
  rw [d_false a1, cond_false, d_false a2, cond_false]
  have ha : badCoord a = false := by simp [badCoord]; omega
  have hbody : ∀ i, i < p.length → ∀ kn, ref_SummaryCheck_2 N (fun _ => ref_SummaryCheck_1 N) p (p.length : Int) k a p (i : Int) (backE (p, (p.length : Int), k, a, p) kn) =
      if badCoord (nth 0 p i) = true then some (2, ()) else kn ((i : Int) + 1) := fun i hi kn => by
    simp only [ref_SummaryCheck_2, lt_d hi, ge0_d, Bool.and_self, cond_true, Int.toNat_natCast, backE_eq, ix1 hi (by omega)]
    by_cases b1 : nth 0 p i < 0
    · rw [d_true b1, cond_true, if_pos (by simp [badCoord, b1])]
    · rw [d_false b1, cond_false]
      by_cases b2 : nth 0 p i > 1048576
      · rw [d_true b2, cond_true, if_pos (by simp [badCoord]; omega)]
      · rw [d_false b2, cond_false, if_neg (by simp [badCoord]; omega)]
  cases hb : p.any badCoord with
  | true =>
    rw [sumCheck_arg hl (by simp only [sm, List.any_cons, hb, Bool.or_true])]
    obtain ⟨i, hi, hx⟩ := any_nth.1 hb
    exact loopD_hit (n := p.length) (by omega) (fun i => badCoord (nth 0 p i) = true) (fun i hi hb kn => by rw [hbody i hi, if_pos hb]) (fun i hi hb kn => by rw [hbody i hi, if_neg hb]) (by omega) ⟨i, hi, hx⟩
  | false =>
    rw [sumCheck_ok hl (by simp only [sm, List.any_cons, hb, ha, Bool.or_self])]
    refine loopD_pass (n := p.length) (by omega) (fun i hi kn => by rw [hbody i hi, if_neg fun hx => by have := any_nth.2 ⟨i, hi, hx⟩; rw [hb] at this; cases this]) (fun kn => ?_) (by omega)
    simp only [ref_SummaryCheck_2, lt_self, cond_false, ref_SummaryCheck_1]
/-- What a summary that may be is. -/
structure SOk (s : Tr) : Prop where
  k1 : 1 ≤ s.1
  k4 : s.1 + s.2.2.length ≤ 4
theorem sok {s : Tr} {n : Int} (h : sumCheck (sm s) n = 0) : SOk s := by
  obtain ⟨-, -, a3, -, a5, -, -⟩ := sumCheck_iff.1 h
  exact ⟨a3, a5⟩
theorem SOut_eq {N : Nat} {s : Tr} (h : SOk s) : D_summary_Out N (s, ()) = some (s.1 + s.2.2.length, ()) := by
  have := h.k1
  have := h.k4
  simp only [D_summary_Out, summary_Out_1]
  rw [w64 (by omega) (by omega)]
theorem ROut_eq {N : Nat} {s : Tr} (h : SOk s) : D_ref_SummaryOut N (s, ()) = some (s.1 + s.2.2.length, ()) := by
  have := h.k1
  have := h.k4
  simp only [D_ref_SummaryOut, ref_SummaryOut_1]
  rw [w64 (by omega) (by omega)]
/-- The places of a summary. -/
def pls (s : Tr) : List (Int × Bool) := (List.replicate s.1.toNat ((0 : Int), true)).set (s.1.toNat - 1) (s.2.1, true) ++ s.2.2.map fun x => (x, false)
theorem set_rep {α : Type} (t f : α) (i m : Nat) : (List.replicate i t ++ List.replicate (m + 1) f).set i t = List.replicate (i + 1) t ++ List.replicate m f := by
  rw [List.set_append_right _ _ (by simp), List.length_replicate, Nat.sub_self, List.replicate_succ, List.set_cons_zero, List.replicate_succ', List.append_assoc]; rfl
theorem places_eq {N : Nat} (hN : 1000 ≤ N) {s : Tr} (h : SOk s) : D_summary_places N (s, ()) = some (pls s) := by
  have h1 := h.k1
  have h4 := h.k4
  obtain ⟨k, a, p⟩ := s
  simp only at h1 h4
  obtain ⟨K, rfl⟩ : ∃ K : Nat, k = (K : Int) := ⟨k.toNat, by omega⟩
  have eK : ((K : Int)).toNat = K := Int.toNat_natCast K
  simp only [D_summary_places, summary_places_5, SOut_eq h, Option.bind_some, joinD, loopE]
  rw [d_true (show (0 : Int) ≤ (K : Int) by omega), d_true (show (K : Int) ≤ (K : Int) + (p.length : Int) by omega), d_true (show ((K : Int) + (p.length : Int)) * 16 ≤ 281474976710656 by omega)]
  simp only [Bool.and_self, cond_true, eK, List.length_replicate]
  have e0 : List.replicate K ((0 : Int), false) = List.replicate 0 ((0 : Int), true) ++ List.replicate (K - 0) ((0 : Int), false) := rfl
  rw [e0]
  refine loopD_path (g := fun (s : Int × List (Int × Bool)) kn => summary_places_4 N (fun s => summary_places_3 N s.1 s.2.1 s.2.2.1 s.2.2.2) (K : Int) (K : Int) a p s.1 s.2 (backE ((K : Int), (K : Int), a, p) kn)) K
    (fun i => ((i : Int), List.replicate i ((0 : Int), true) ++ List.replicate (K - i) ((0 : Int), false))) (fun i hi kn => ?_) (fun kn => ?_) (by omega)
  · have hlen : (List.replicate i ((0 : Int), true) ++ List.replicate (K - i) ((0 : Int), false)).length = K := by simp; omega
    have hn : nth ((0 : Int), false) (List.replicate i ((0 : Int), true) ++ List.replicate (K - i) ((0 : Int), false)) i = (0, false) := by
      obtain ⟨m, hm⟩ : ∃ m, K - i = m + 1 := ⟨K - i - 1, by omega⟩
      rw [hm, nth_lt (by simp), List.getElem_append_right (by simp)]
      simp
    simp only [summary_places_4, hlen, lt_d hi, ge0_d, Bool.and_self, cond_true, Int.toNat_natCast, hn, backE_eq, ix1 hi (by omega)]
    obtain ⟨m, hm⟩ : ∃ m, K - i = m + 1 := ⟨K - i - 1, by omega⟩
    rw [hm, set_rep, show K - (i + 1) = m by omega]; rfl
  · simp only [summary_places_4, lt_self, cond_false, Nat.sub_self, List.replicate_zero, List.append_nil, summary_places_3, List.length_replicate, joinD, loopE]
    have w1 : IntKind.i64.wrap ((K : Int) - 1) = ((K - 1 : Nat) : Int) := by rw [w64 (by omega) (by omega)]; omega
    have hn : nth ((0 : Int), false) (List.replicate K ((0 : Int), true)) (K - 1) = (0, true) := by
      rw [nth_lt (by simp; omega)]; simp
    rw [w1, d_true (show (0 : Int) ≤ ((K - 1 : Nat) : Int) by omega), d_true (show ((K - 1 : Nat) : Int) < (K : Int) by omega)]
    simp only [Bool.and_self, cond_true, Int.toNat_natCast, hn]
    have hpl : pls ((K : Int), a, p) = (List.replicate K ((0 : Int), true)).set (K - 1) (a, true) ++ p.map fun x => (x, false) := rfl
    rw [hpl]
    have hb : (List.replicate K ((0 : Int), true)).set (K - 1) (a, true) = (List.replicate K ((0 : Int), true)).set (K - 1) (a, true) ++ ((p.take 0).map fun x => (x, false)) := by simp
    conv => lhs; rw [hb]
    refine loopD_path (g := fun (s : Int × List (Int × Bool)) kn => summary_places_2 N (fun s => summary_places_1 N s.2.2.2) p (p.length : Int) (K : Int) a p s.1 s.2 (backE (p, (p.length : Int), (K : Int), a, p) kn)) p.length
      (fun i => ((i : Int), (List.replicate K ((0 : Int), true)).set (K - 1) (a, true) ++ ((p.take i).map fun x => (x, false)))) (fun i hi kn => ?_) (fun kn => ?_) (by omega)
    · simp only [summary_places_2, lt_d hi, ge0_d, Bool.and_self, cond_true, Int.toNat_natCast]
      rw [d_true (show (((List.replicate K ((0 : Int), true)).set (K - 1) (a, true) ++ ((p.take i).map fun x => (x, false))).length + [(nth 0 p i, false)].length) * 16 ≤ 140737488355328 by simp; omega), show Nat.ble 1 16 = true from rfl]
      simp only [Bool.and_self, cond_true, backE_eq, ix1 hi (by omega), List.append_assoc]
      rw [show (p.take (i + 1)).map (fun x => (x, false)) = (p.take i).map (fun x => (x, false)) ++ [(nth 0 p i, false)] by rw [List.take_succ_eq_append_getElem hi, List.map_append, nth_lt hi]; rfl]
      rfl
    · simp only [summary_places_2, lt_self, cond_false, summary_places_1, List.take_length]
theorem pls_len {s : Tr} (h : SOk s) : (pls s).length = (s.1 + s.2.2.length).toNat := by
  have := h.k1
  simp [pls]; omega
theorem pls_nth {s : Tr} (h : SOk s) {i : Nat} (hi : i < (pls s).length) : nth ((0 : Int), false) (pls s) i = (placeN (sm s) i, decide ((i : Int) < s.1)) := by
  have h1 := h.k1
  have hl := pls_len h
  have hr : ((List.replicate s.1.toNat ((0 : Int), true)).set (s.1.toNat - 1) (s.2.1, true)).length = s.1.toNat := by simp
  show Go.Smy.nth (pls s) i = _
  unfold pls placeN sm
  simp only
  by_cases c : s.1 ≤ (i : Int)
  · rw [Go.Smy.nth_append_right _ _ _ (by omega), hr, if_pos c, d_false (by omega), Go.Smy.nth_map _ _ _ (by omega), show i - s.1.toNat = ((i : Int) - s.1).toNat by omega]
  · rw [Go.Smy.nth_append_left _ _ _ (by omega), if_neg c, d_true (by omega), Go.Smy.nth_set]
    by_cases c' : s.1.toNat - 1 = i
    · rw [if_pos ⟨c', by simp; omega⟩, if_pos (by omega)]
    · rw [if_neg fun h => c' h.1, if_neg (by omega), Go.Smy.nth_eq _ _ (by simp; omega)]; simp
noncomputable def leqS (s r : Tr) : Bool := @decide (leqP (sm s) (sm r)) (Classical.propDecidable _)
theorem leqS_iff {s r : Tr} : leqS s r = true ↔ leqP (sm s) (sm r) := by unfold leqS; exact @decide_eq_true_iff _ (Classical.propDecidable _)
theorem leqS_no {s r : Tr} (h : ¬ leqP (sm s) (sm r)) : leqS s r = false := by unfold leqS; exact @decide_eq_false _ (Classical.propDecidable _) h
theorem leqS_yes {s r : Tr} (h : leqP (sm s) (sm r)) : leqS s r = true := leqS_iff.2 h
theorem SLeq_eq {N : Nat} (hN : 1000 ≤ N) (s r : Tr) : D_summary_Leq N (s, r, ()) = some (leqS s r, ()) := by
  simp only [D_summary_Leq, summary_Leq_4, SCheck_eq hN (s.1, s.2.1, s.2.2) 4, SCheck_eq hN (r.1, r.2.1, r.2.2) 4, Option.bind_some]
  by_cases c1 : sumCheck (sm s) 4 = 0
  case neg => rw [show (sumCheck (sm (s.1, s.2.1, s.2.2)) 4 != 0) = true from bne_iff_ne.2 c1, cond_true, leqS_no fun h => c1 h.1]
  rw [show (sumCheck (sm (s.1, s.2.1, s.2.2)) 4 != 0) = false from by rw [show sumCheck (sm (s.1, s.2.1, s.2.2)) 4 = 0 from c1]; rfl, cond_false]
  by_cases c2 : sumCheck (sm r) 4 = 0
  case neg => rw [show (sumCheck (sm (r.1, r.2.1, r.2.2)) 4 != 0) = true from bne_iff_ne.2 c2, cond_true, leqS_no fun h => c2 h.2.1]
  rw [show (sumCheck (sm (r.1, r.2.1, r.2.2)) 4 != 0) = false from by rw [show sumCheck (sm (r.1, r.2.1, r.2.2)) 4 = 0 from c2]; rfl, cond_false]
  have o1 := sok c1
  have o2 := sok c2
  rw [SOut_eq (s := (s.1, s.2.1, s.2.2)) o1, SOut_eq (s := (r.1, r.2.1, r.2.2)) o2, places_eq hN (s := (s.1, s.2.1, s.2.2)) o1, places_eq hN (s := (r.1, r.2.1, r.2.2)) o2]
  simp only [Option.bind_some, Option.map_some]
  by_cases c3 : s.1 + (s.2.2.length : Int) = r.1 + (r.2.2.length : Int)
  case neg => rw [show (s.1 + (s.2.2.length : Int) != r.1 + (r.2.2.length : Int)) = true from bne_iff_ne.2 c3, cond_true, leqS_no fun h => c3 h.2.2.1]
  rw [show (s.1 + (s.2.2.length : Int) != r.1 + (r.2.2.length : Int)) = false from by rw [c3]; exact bne_self_eq_false _, cond_false]
  have l1 := pls_len o1
  have l2 := pls_len o2
  have k1 := o1.k1
  have k4 := o1.k4
  simp only [joinD, loopE, show pls (s.1, s.2.1, s.2.2) = pls s from rfl, show pls (r.1, r.2.1, r.2.2) = pls r from rfl]
  have hbody : ∀ i, i < (pls s).length → ∀ kn, summary_Leq_3 N (fun _ => summary_Leq_1 N) (pls s) (pls r) ((pls s).length : Int) s.1 s.2.1 s.2.2 r.1 r.2.1 r.2.2 (i : Int) (backE (pls s, pls r, ((pls s).length : Int), s.1, s.2.1, s.2.2, r.1, r.2.1, r.2.2) kn) =
      if ¬ (placeN (sm s) i ≤ placeN (sm r) i ∧ ((i : Int) < s.1 → (i : Int) < r.1)) then some (false, ()) else kn ((i : Int) + 1) := fun i hi kn => by
    simp only [summary_Leq_3, joinD, lt_d hi, lt_d (show i < (pls r).length by omega), ge0_d, Bool.and_self, cond_true, Int.toNat_natCast, pls_nth o1 hi, pls_nth o2 (show i < (pls r).length by omega), summary_Leq_2, backE_eq, ix1 hi (by omega)]
    by_cases b1 : placeN (sm s) i > placeN (sm r) i
    · rw [d_true b1, cond_true, if_pos fun h => by omega]
    · rw [d_false b1, cond_false]
      by_cases b2 : (i : Int) < s.1
      · rw [d_true b2, cond_true]
        by_cases b3 : (i : Int) < r.1
        · rw [d_true b3, if_neg fun h => h ⟨by omega, fun _ => b3⟩]; rfl
        · rw [d_false b3, if_pos fun h => b3 (h.2 b2)]; rfl
      · rw [d_false b2, if_neg fun h => h ⟨by omega, fun h => absurd h b2⟩]; rfl
  by_cases hall : leqP (sm s) (sm r)
  · rw [leqS_yes hall]
    refine loopD_pass (n := (pls s).length) (by omega) (fun i hi kn => by rw [hbody i hi, if_neg fun h => h (hall.2.2.2 i (by show (i : Int) < s.1 + (s.2.2.length : Int); omega))]) (fun kn => ?_) (by omega)
    simp only [summary_Leq_3, lt_self, cond_false, summary_Leq_1]
  · rw [leqS_no hall]
    have hex : ∃ i, i < (pls s).length ∧ ¬ (placeN (sm s) i ≤ placeN (sm r) i ∧ ((i : Int) < s.1 → (i : Int) < r.1)) := Classical.byContradiction fun hn => hall ⟨c1, c2, c3, fun i hi => Classical.byContradiction fun hb => hn ⟨i, by have : (i : Int) < s.1 + (s.2.2.length : Int) := hi; omega, hb⟩⟩
    exact loopD_hit (n := (pls s).length) (by omega) (fun i => ¬ (placeN (sm s) i ≤ placeN (sm r) i ∧ ((i : Int) < s.1 → (i : Int) < r.1))) (fun i hi hb kn => by rw [hbody i hi, if_pos hb]) (fun i hi hb kn => by rw [hbody i hi, if_neg hb]) (by omega) hex
theorem RPlace_eq {N : Nat} {s : Tr} (h : SOk s) {i : Nat} (hi : (i : Int) < s.1 + s.2.2.length) : D_ref_SummaryPlace N (s, (i : Int), ()) = some (placeN (sm s) i, ()) := by
  have h1 := h.k1
  have h4 := h.k4
  simp only [D_ref_SummaryPlace, ref_SummaryPlace_1]
  unfold placeN sm
  simp only
  by_cases c : s.1 ≤ (i : Int)
  · rw [d_true (show (i : Int) ≥ s.1 from c), if_pos c, cond_true, w64 (by omega) (by omega), d_true (show (0 : Int) ≤ (i : Int) - s.1 by omega), d_true (show (i : Int) - s.1 < (s.2.2.length : Int) by omega)]; rfl
  · rw [d_false (show ¬ (i : Int) ≥ s.1 from c), if_neg c, cond_false, w64 (by omega) (by omega)]
    by_cases c' : (i : Int) = s.1 - 1
    · rw [show ((i : Int) == s.1 - 1) = true from beq_iff_eq.2 c', if_pos c']; rfl
    · rw [show ((i : Int) == s.1 - 1) = false from beq_false_of_ne c', if_neg c']; rfl
theorem RLeq_eq {N : Nat} (hN : 1000 ≤ N) (s r : Tr) : D_ref_SummaryLeq N (s, r, ()) = some (leqS s r, ()) := by
  simp only [D_ref_SummaryLeq, ref_SummaryLeq_4, RCheck_eq hN (s.1, s.2.1, s.2.2) 4, RCheck_eq hN (r.1, r.2.1, r.2.2) 4, Option.bind_some]
  by_cases c1 : sumCheck (sm s) 4 = 0
  case neg => rw [show (sumCheck (sm (s.1, s.2.1, s.2.2)) 4 != 0) = true from bne_iff_ne.2 c1, cond_true, leqS_no fun h => c1 h.1]
  rw [show (sumCheck (sm (s.1, s.2.1, s.2.2)) 4 != 0) = false from by rw [show sumCheck (sm (s.1, s.2.1, s.2.2)) 4 = 0 from c1]; rfl, cond_false]
  by_cases c2 : sumCheck (sm r) 4 = 0
  case neg => rw [show (sumCheck (sm (r.1, r.2.1, r.2.2)) 4 != 0) = true from bne_iff_ne.2 c2, cond_true, leqS_no fun h => c2 h.2.1]
  rw [show (sumCheck (sm (r.1, r.2.1, r.2.2)) 4 != 0) = false from by rw [show sumCheck (sm (r.1, r.2.1, r.2.2)) 4 = 0 from c2]; rfl, cond_false]
  have o1 := sok c1
  have o2 := sok c2
  rw [ROut_eq (s := (s.1, s.2.1, s.2.2)) o1, ROut_eq (s := (r.1, r.2.1, r.2.2)) o2]
  simp only [Option.bind_some]
  by_cases c3 : s.1 + (s.2.2.length : Int) = r.1 + (r.2.2.length : Int)
  case neg => rw [show (s.1 + (s.2.2.length : Int) != r.1 + (r.2.2.length : Int)) = true from bne_iff_ne.2 c3, cond_true, leqS_no fun h => c3 h.2.2.1]
  rw [show (s.1 + (s.2.2.length : Int) != r.1 + (r.2.2.length : Int)) = false from by rw [c3]; exact bne_self_eq_false _, cond_false]
  have k1 := o1.k1
  have k4 := o1.k4
  obtain ⟨n, hn⟩ : ∃ n : Nat, (n : Int) = s.1 + (s.2.2.length : Int) := ⟨(s.1 + (s.2.2.length : Int)).toNat, by omega⟩
  simp only [joinD, loopE]
  have hbody : ∀ i, i < n → ∀ kn, ref_SummaryLeq_3 N (fun _ => ref_SummaryLeq_1 N) s.1 s.2.1 s.2.2 r.1 r.2.1 r.2.2 (i : Int) (backE (s.1, s.2.1, s.2.2, r.1, r.2.1, r.2.2) kn) =
      if ¬ (placeN (sm s) i ≤ placeN (sm r) i ∧ ((i : Int) < s.1 → (i : Int) < r.1)) then some (false, ()) else kn ((i : Int) + 1) := fun i hi kn => by
    simp only [ref_SummaryLeq_3, joinD, ROut_eq (s := (s.1, s.2.1, s.2.2)) o1, Option.bind_some]
    rw [d_true (show (i : Int) < s.1 + (s.2.2.length : Int) by omega), cond_true, RPlace_eq (s := (s.1, s.2.1, s.2.2)) o1 (by show (i : Int) < s.1 + (s.2.2.length : Int); omega), RPlace_eq (s := (r.1, r.2.1, r.2.2)) o2 (by show (i : Int) < r.1 + (r.2.2.length : Int); omega)]
    simp only [Option.bind_some, ref_SummaryLeq_2, backE_eq, ix1 hi (by omega), show sm (s.1, s.2.1, s.2.2) = sm s from rfl, show sm (r.1, r.2.1, r.2.2) = sm r from rfl]
    by_cases b1 : placeN (sm s) i > placeN (sm r) i
    · rw [d_true b1, cond_true, if_pos fun h => by omega]
    · rw [d_false b1, cond_false]
      by_cases b2 : (i : Int) < s.1
      · rw [d_true b2, cond_true]
        by_cases b3 : (i : Int) < r.1
        · rw [d_false (show ¬ (i : Int) ≥ r.1 by omega), if_neg fun h => h ⟨by omega, fun _ => b3⟩]; rfl
        · rw [d_true (show (i : Int) ≥ r.1 by omega), if_pos fun h => b3 (h.2 b2)]; rfl
      · rw [d_false b2, if_neg fun h => h ⟨by omega, fun h => absurd h b2⟩]; rfl
  by_cases hall : leqP (sm s) (sm r)
  · rw [leqS_yes hall]
    refine loopD_pass (n := n) (by omega) (fun i hi kn => by rw [hbody i hi, if_neg fun h => h (hall.2.2.2 i (by show (i : Int) < s.1 + (s.2.2.length : Int); omega))]) (fun kn => ?_) (by omega)
    simp only [ref_SummaryLeq_3, ROut_eq (s := (s.1, s.2.1, s.2.2)) o1, Option.bind_some, joinD]
    rw [d_false (show ¬ (n : Int) < s.1 + (s.2.2.length : Int) by omega), cond_false]; rfl
  · rw [leqS_no hall]
    have hex : ∃ i, i < n ∧ ¬ (placeN (sm s) i ≤ placeN (sm r) i ∧ ((i : Int) < s.1 → (i : Int) < r.1)) := Classical.byContradiction fun hn' => hall ⟨c1, c2, c3, fun i hi => Classical.byContradiction fun hb => hn' ⟨i, by have : (i : Int) < s.1 + (s.2.2.length : Int) := hi; omega, hb⟩⟩
    exact loopD_hit (n := n) (by omega) (fun i => ¬ (placeN (sm s) i ≤ placeN (sm r) i ∧ ((i : Int) < s.1 → (i : Int) < r.1))) (fun i hi hb kn => by rw [hbody i hi, if_pos hb]) (fun i hi hb kn => by rw [hbody i hi, if_neg hb]) (by omega) hex
end Go.Proofs.Ytololihlpldcdaa
