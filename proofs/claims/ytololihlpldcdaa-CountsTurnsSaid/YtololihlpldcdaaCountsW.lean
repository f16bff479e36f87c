/- counts.Front, counts.Moves: what they come to. -/
import Derived.Test.YtololihlpldcdaaCountsF
namespace Go.Proofs.Ytololihlpldcdaa
open Go.Abs
abbrev zc : Cn := (([] : List Int), (0 : Int))
def pos (x : Cn) : Bool := !decide (x.2 ≤ 0)
theorem Idx_eq {N : Nat} (hN : 1000 ≤ N) {xs : List Cn} (hl : xs.length ≤ 64) : (∃ i, i < xs.length ∧ pos (nth zc xs i) = false ∧ (∀ j, j < i → pos (nth zc xs j) = true) ∧ D_slices_IndexFunc_counts_tally_api_Count_h N xs = some ((i : Int), xs)) ∨
    ((∀ i, i < xs.length → pos (nth zc xs i) = true) ∧ D_slices_IndexFunc_counts_tally_api_Count_h N xs = some (-1, xs)) := by
  simp only [D_slices_IndexFunc_counts_tally_api_Count_h, slices_IndexFunc_counts_tally_api_Count_h_3, joinD, loopE]
  have hbody : ∀ i, i < xs.length → ∀ kn, slices_IndexFunc_counts_tally_api_Count_h_2 N (fun s => slices_IndexFunc_counts_tally_api_Count_h_1 N s) (xs.length : Int) xs (i : Int) (backE ((xs.length : Int), xs) kn) = bif pos (nth zc xs i) then kn ((i : Int) + 1) else some ((i : Int), xs) := fun i hi kn => by
    simp only [slices_IndexFunc_counts_tally_api_Count_h_2, lt_d hi, ge0_d, Bool.and_self, cond_true, Int.toNat_natCast, D_counts_tally_ahead_c1, counts_tally_ahead_c1_1, Option.bind_some, backE_eq, ix1 hi (show xs.length ≤ 100000 by omega), pos]
    cases decide ((nth (([] : List Int), (0 : Int)) xs i).2 ≤ 0) <;> rfl
  by_cases hex : ∃ i, i < xs.length ∧ pos (nth zc xs i) = false
  · obtain ⟨i0, a1, a2, a3⟩ := first_ix hex
    have a3' : ∀ j, j < i0 → pos (nth zc xs j) = true := fun j hj => by
      cases q : pos (nth zc xs j) with
      | true => rfl
      | false => exact absurd q (a3 j hj)
    refine .inl ⟨i0, a1, a2, a3', ?_⟩
    refine loopD_const (fun s => ∃ i : Nat, s = (i : Int) ∧ i ≤ i0) (fun s => xs.length - s.toNat) _ ?_ N _ ⟨0, rfl, Nat.zero_le _⟩ (by simp; omega)
    rintro s ⟨i, rfl, hi⟩ kn hkn
    by_cases q : i = i0
    · subst q; rw [hbody i a1, a2, cond_false]
    · rw [hbody i (by omega), a3' i (by omega), cond_true]
      exact hkn _ ⟨i + 1, by simp, by omega⟩ (by simp; omega)
  · have hall : ∀ i, i < xs.length → pos (nth zc xs i) = true := fun i hi => by
      cases q : pos (nth zc xs i) with
      | true => rfl
      | false => exact absurd ⟨i, hi, q⟩ hex
    refine .inr ⟨hall, loopD_pass (n := xs.length) (by omega) (fun i hi kn => ?_) (fun kn => by simp only [slices_IndexFunc_counts_tally_api_Count_h_2, lt_self, cond_false, slices_IndexFunc_counts_tally_api_Count_h_1]) (by omega)⟩
    rw [hbody i hi, hall i hi, cond_true]
theorem filt_snoc {xs : List Cn} {n : Nat} (hn : n < xs.length) : (xs.take (n + 1)).filter pos = (xs.take n).filter pos ++ if pos (nth zc xs n) = true then [nth zc xs n] else [] := by
  rw [List.take_succ_eq_append_getElem hn, List.filter_append, nth_lt hn]
  congr 1
  by_cases q : pos xs[n] = true
  · rw [if_pos q]; simp [q]
  · rw [if_neg q]; simp [q]
theorem Del_eq {N : Nat} (hN : 1000 ≤ N) {xs : List Cn} (hl : xs.length ≤ 64) : ∃ ys, D_slices_DeleteFunc_counts_tally_api_Count_h N xs = some (xs.filter pos, ys) := by
  simp only [D_slices_DeleteFunc_counts_tally_api_Count_h, slices_DeleteFunc_counts_tally_api_Count_h_3]
  have hall : ∀ n, n ≤ xs.length → (∀ i, i < n → pos (nth zc xs i) = true) → (xs.take n).filter pos = xs.take n := by
    intro n
    induction n with
    | zero => intro _ _; rfl
    | succ n ih =>
      intro hn hne
      rw [filt_snoc (by omega), ih (by omega) fun i hi => hne i (by omega), if_pos (hne n (by omega)), List.take_succ_eq_append_getElem (by omega), nth_lt (by omega)]
  rcases Idx_eq hN hl with ⟨i0, h1, h2, h3, e⟩ | ⟨h1, e⟩
  · simp only [e, Option.bind_some]
    rw [show ((i0 : Int) == -1) = false from beq_false_of_ne (by omega), cond_false]
    simp only [joinD, loopE, ix1 h1 (show xs.length ≤ 100000 by omega)]
    obtain ⟨s, ⟨k, row, rfl, hk1, hrl, hpre, -⟩, hs⟩ := loopD_inv (N := N) (g := fun (s : Int × Int × List Cn) kn => slices_DeleteFunc_counts_tally_api_Count_h_2 N (fun s => slices_DeleteFunc_counts_tally_api_Count_h_1 N s.1 s.2) s.1 s.2.1 s.2.2 (backE () kn)) (k := fun s => slices_DeleteFunc_counts_tally_api_Count_h_1 N s.1 s.2.2) (xs.length - (i0 + 1))
      (fun u s => ∃ (k : Nat) (row : List Cn), s = ((k : Int), ((i0 + 1 + u : Nat) : Int), row) ∧ k ≤ i0 + u ∧ row.length = xs.length ∧ row.take k = (xs.take (i0 + 1 + u)).filter pos ∧ ∀ i, i0 + 1 + u ≤ i → i < xs.length → nth zc row i = nth zc xs i)
      (fun u s hu h => by
        obtain ⟨k, row, rfl, g1, g2, g3, g4⟩ := h
        have hnx := g4 (i0 + 1 + u) (Nat.le_refl _) (by omega)
        have hstep := filt_snoc (xs := xs) (n := i0 + 1 + u) (by omega)
        have f2 : IntKind.i64.wrap (((i0 + 1 + u : Nat) : Int) + 1) = ((i0 + 1 + (u + 1) : Nat) : Int) := by rw [w64 (by omega) (by omega)]; omega
        have hrun : ∀ kn : Int × Int × List Cn → Option Rt_slices_DeleteFunc_counts_tally_api_Count_h, slices_DeleteFunc_counts_tally_api_Count_h_2 N (fun s => slices_DeleteFunc_counts_tally_api_Count_h_1 N s.1 s.2) (k : Int) ((i0 + 1 + u : Nat) : Int) row (backE () kn) = bif pos (nth zc xs (i0 + 1 + u)) then kn (((k + 1 : Nat) : Int), ((i0 + 1 + (u + 1) : Nat) : Int), row.set k (nth zc xs (i0 + 1 + u))) else kn ((k : Int), ((i0 + 1 + (u + 1) : Nat) : Int), row) := fun kn => by
          simp only [slices_DeleteFunc_counts_tally_api_Count_h_2, lt_d (show i0 + 1 + u < row.length by omega), lt_d (show k < row.length by omega), ge0_d, Bool.and_self, cond_true, Int.toNat_natCast, D_counts_tally_ahead_c1, counts_tally_ahead_c1_1, Option.bind_some, backE_eq, f2, ix1 (show k < 64 by omega) (by omega), hnx, pos]
          cases decide ((nth zc xs (i0 + 1 + u)).2 ≤ 0) <;> rfl
        cases q : pos (nth zc xs (i0 + 1 + u)) with
        | true =>
          refine ⟨_, ⟨k + 1, row.set k (nth zc xs (i0 + 1 + u)), rfl, by omega, by simpa using g2, ?_, fun i hi hil => ?_⟩, fun kn => (hrun kn).trans (by rw [q, cond_true])⟩
          · show (row.set k _).take (k + 1) = (xs.take (i0 + 1 + u + 1)).filter pos
            rw [hstep, if_pos q, ← g3, List.take_succ_eq_append_getElem (by simp; omega), List.getElem_set_self, List.take_set_of_le (Nat.le_refl _)]
          · rw [nth_set (by omega), if_neg (by omega)]
            exact g4 i (by omega) hil
        | false =>
          refine ⟨_, ⟨k, row, rfl, by omega, g2, ?_, fun i hi hil => g4 i (by omega) hil⟩, fun kn => (hrun kn).trans (by rw [q, cond_false])⟩
          show row.take k = (xs.take (i0 + 1 + u + 1)).filter pos
          rw [hstep, if_neg (by rw [q]; simp), List.append_nil, g3])
      (fun s h kn => by
        obtain ⟨k, row, rfl, g1, g2, g3, g4⟩ := h
        simp only [slices_DeleteFunc_counts_tally_api_Count_h_2]
        rw [d_false (show ¬ ((i0 + 1 + (xs.length - (i0 + 1)) : Nat) : Int) < (row.length : Int) by omega), cond_false])
      (by omega) (s := ((i0 : Int), (i0 : Int) + 1, xs)) ⟨i0, xs, rfl, by omega, rfl, by
        show xs.take i0 = (xs.take (i0 + 1)).filter pos
        rw [filt_snoc h1, if_neg (by rw [h2]; simp), List.append_nil, hall i0 (by omega) h3], fun i _ _ => rfl⟩
    rw [hs]
    simp only [slices_DeleteFunc_counts_tally_api_Count_h_1]
    have hkl : k ≤ xs.length := by omega
    have hlen : (row.take k ++ List.replicate (row.length - k) zc).length = xs.length := by simp; omega
    rw [show ((k : Int)).toNat = k from rfl, d_true (show (0 : Int) ≤ (k : Int) by omega), d_true (show (k : Int) ≤ (row.length : Int) by omega), Bool.and_self, cond_true, d_true (show (k : Int) ≤ ((row.take k ++ List.replicate (row.length - k) (([] : List Int), (0 : Int))).length : Int) by rw [show (row.take k ++ List.replicate (row.length - k) (([] : List Int), (0 : Int))).length = xs.length from hlen]; omega)]
    refine ⟨row.take k ++ List.replicate (row.length - k) zc, ?_⟩
    have hkey : ((row.take k ++ List.replicate (row.length - k) zc).take k).drop ((0 : Int)).toNat = xs.filter pos := by
      rw [show ((0 : Int)).toNat = 0 from rfl, List.drop_zero, List.take_append_of_le_length (by simp; omega), List.take_of_length_le (by rw [List.length_take]; exact Nat.min_le_left _ _), hpre, List.take_of_length_le (by omega)]
    simp only [show decide ((0 : Int) ≤ 0) = true from rfl, Bool.and_self, cond_true]
    exact congrArg (fun z => some (z, row.take k ++ List.replicate (row.length - k) zc)) hkey
  · simp only [e, Option.bind_some]
    have := hall xs.length (Nat.le_refl _) h1
    rw [List.take_length] at this
    rw [show ((-1 : Int) == -1) = true from rfl, cond_true, this]
    exact ⟨_, rfl⟩
theorem cloneC_eq {N : Nat} {a : List Cn} (h : a.length ≤ 1000) : D_slices_Clone_Lapi_Count_api_Count N (a, ()) = some a := by
  simp only [D_slices_Clone_Lapi_Count_api_Count, slices_Clone_Lapi_Count_api_Count_1]
  rw [d_true (by simp; omega)]
  cases a with
  | nil => simp [dem2]; rfl
  | cons x xs => simp; rfl
/-- The times with a number above 0. -/
def upL (c : List Cn) : List (List Int) := (c.filter pos).map Prod.fst
theorem upL_TL {c : List Cn} (h : CK c) : TL (upL c) := by
  have hm : ∀ t ∈ upL c, ∃ x, x ∈ c ∧ x.1 = t := fun t ht => by
    obtain ⟨x, hx, rfl⟩ := List.mem_map.1 ht
    exact ⟨x, (List.mem_filter.1 hx).1, rfl⟩
  refine ⟨?_, fun t ht => ?_, fun t ht => ?_⟩
  · unfold upL; rw [List.length_map]; exact Nat.le_trans (List.length_filter_le _ _) h.len
  · obtain ⟨x, hx, rfl⟩ := hm t ht; exact h.tok hx
  · obtain ⟨x, hx, rfl⟩ := hm t ht
    obtain ⟨y, hy, e⟩ := hm _ (nth_mem (z := ([] : List Int)) (List.length_pos_of_mem ht))
    rw [← e]
    exact h.eqL hx hy
theorem front_eq {N : Nat} (hN : 1000 ≤ N) {c : List Cn} (h : CK c) : ∃ f, D_counts_front N (c, ()) = some f ∧ Rise f ∧ (∀ t, t ∈ f ↔ isMin (upL c) t) ∧ f.length ≤ 64 := by
  have hl := h.len
  obtain ⟨ys, e⟩ := Del_eq hN hl
  have hfl := List.length_filter_le pos c
  obtain ⟨f, f1, f2, f3, f4⟩ := Least_eq hN (upL_TL h)
  refine ⟨f, ?_, f2, f3, ?_⟩
  · simp only [D_counts_front, counts_front_1, cloneC_eq (N := N) (show c.length ≤ 1000 by omega), Option.bind_some, D_counts_tally_ahead_h, counts_tally_ahead_h_1, e, tlist_eq (N := N) (c := c.filter pos) (by omega) (by omega)]
    rw [show D_times_Least N ((c.filter pos).map Prod.fst, ()) = some f from f1]
    rfl
  · unfold upL at f4
    rw [List.length_map] at f4
    omega
def mrk (l : List (List Int)) (n : Int) : List Cn := l.map fun t => (t, n)
theorem mark_eq {N : Nat} (hN : 1000 ≤ N) (n : Int) {l : List (List Int)} (hl : l.length ≤ 64) : D_counts_Moves_c1_h N (n, l) = some (mrk l n, l) := by
  simp only [D_counts_Moves_c1_h, counts_Moves_c1_h_3, joinD, loopE]
  refine loopD_path (N := N) l.length (fun i => ((i : Int), mrk (l.take i) n)) (fun i hi kn => ?_) (fun kn => ?_) (by omega)
  · have hlen : (mrk (l.take i) n).length ≤ i := by unfold mrk; rw [List.length_map, List.length_take]; exact Nat.min_le_left _ _
    simp only [counts_Moves_c1_h_2, lt_d hi, ge0_d, Bool.and_self, cond_true, Int.toNat_natCast, backE_eq, ix1 hi (show l.length ≤ 100000 by omega)]
    rw [d_true (by simp only [List.length_singleton]; omega), show Nat.ble 1 32 = true from rfl, Bool.and_self, cond_true]
    unfold mrk
    rw [List.take_succ_eq_append_getElem hi, List.map_append, nth_lt hi]
    rfl
  · simp only [counts_Moves_c1_h_2, lt_self, cond_false, counts_Moves_c1_h_1, List.take_length]
theorem CFront_or {N : Nat} (hN : 1000 ≤ N) {c : List Cn} (hc : c.length < N) (hb : c.length * 24 ≤ 140737488355328) : (∃ e, e ≠ 0 ∧ D_counts_Front N (c, ()) = some ([], e, ())) ∨ (CK c ∧ ∃ f, D_counts_Front N (c, ()) = some (f, 0, ()) ∧ D_counts_front N (c, ()) = some f ∧ Rise f ∧ (∀ t, t ∈ f ↔ isMin (upL c) t) ∧ f.length ≤ 64) := by
  obtain ⟨e, e1, e2⟩ := CCheck_eq hN hc hb
  simp only [D_counts_Front, counts_Front_1, e1, Option.bind_some]
  by_cases h : CK c
  case neg =>
    have he : e ≠ 0 := fun h' => h (e2.1 h')
    exact .inl ⟨e, he, by rw [bne_iff_ne.2 he, cond_true]⟩
  obtain rfl := e2.2 h
  obtain ⟨f, f1, f2⟩ := front_eq hN h
  exact .inr ⟨h, f, by simp only [bne_self_eq_false, cond_false, f1, Option.bind_some], f1, f2⟩
theorem mrk_rise {f : List (List Int)} (h : Rise f) (n : Int) : RiseC (mrk f n) := List.pairwise_map.2 h
theorem mrk_val {f : List (List Int)} (n : Int) (t : List Int) : val (mrk f n) t = if t ∈ f then n else 0 := by
  induction f with
  | nil => rfl
  | cons a f ih =>
    show val ((a, n) :: mrk f n) t = _
    rw [val, ih]
    by_cases e : a = t
    · rw [if_pos e, if_pos (by simp [e])]
    · rw [if_neg e]
      by_cases q : t ∈ f
      · rw [if_pos q, if_pos (List.mem_cons_of_mem _ q)]
      · rw [if_neg q, if_neg fun h => (List.mem_cons.1 h).elim (fun h => e h.symm) q]
theorem mrk_sml {f : List (List Int)} {n : Int} (hl : f.length ≤ 64) (h4 : ∀ t ∈ f, t.length ≤ 4) (hn : -1 ≤ n ∧ n ≤ 1) : Sml (mrk f n) where
  len := by unfold mrk; rw [List.length_map]; omega
  t4 := fun x hx => by obtain ⟨t, ht, rfl⟩ := List.mem_map.1 hx; exact h4 t ht
  n := fun x hx => by obtain ⟨t, ht, rfl⟩ := List.mem_map.1 hx; simp only; omega
theorem CMoves_or {N : Nat} (hN : 1000 ≤ N) {c d : List Cn} (hc : c.length < N) (hb : c.length * 24 ≤ 140737488355328) (hd : d.length < N) (hb' : d.length * 24 ≤ 140737488355328) :
    (∃ e, e ≠ 0 ∧ D_counts_Moves N (c, d, ()) = some ([], e, ())) ∨ (CP c d ∧ ∃ f g, D_counts_front N (c, ()) = some f ∧ D_counts_front N (d, ()) = some g ∧ D_counts_Moves N (c, d, ()) = mgR [] (mg ((mrk f (-1)).length + (mrk g 1).length) (mrk f (-1)) (mrk g 1))) := by
  obtain ⟨e, e1, e2⟩ := pair_eq hN hc hb hd hb'
  simp only [D_counts_Moves, counts_Moves_1, e1, Option.bind_some]
  by_cases h : CP c d
  case neg =>
    have he : e ≠ 0 := fun h' => h (e2.1 h')
    exact .inl ⟨e, he, by rw [bne_iff_ne.2 he, cond_true]⟩
  obtain rfl := e2.2 h
  obtain ⟨f, f1, f2, f3, f4⟩ := front_eq hN h.1
  obtain ⟨g, g1, g2, g3, g4⟩ := front_eq hN h.2.1
  have hf4 : ∀ t ∈ f, t.length ≤ 4 := fun t ht => (tok_len ((upL_TL h.1).tok t ((f3 t).1 ht).1)).2
  have hg4 : ∀ t ∈ g, t.length ≤ 4 := fun t ht => (tok_len ((upL_TL h.2.1).tok t ((g3 t).1 ht).1)).2
  refine .inr ⟨h, f, g, f1, g1, ?_⟩
  simp only [bne_self_eq_false, cond_false, f1, g1, Option.bind_some, mark_eq hN (-1) f4, mark_eq hN 1 g4]
  rw [Merge_eq hN (mrk_sml f4 hf4 (by omega)) (mrk_sml g4 hg4 (by omega)), bindR]
end Go.Proofs.Ytololihlpldcdaa
