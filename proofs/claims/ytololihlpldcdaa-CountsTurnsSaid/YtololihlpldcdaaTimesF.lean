/- Fronts of lists of times: what Least, Front, Open come to. -/
import Derived.Test.YtololihlpldcdaaTimesS
namespace Go.Proofs.Ytololihlpldcdaa
open Go.Abs
theorem first_ix {n : Nat} {p : Nat → Prop} (h : ∃ i, i < n ∧ p i) : ∃ i, i < n ∧ p i ∧ ∀ j, j < i → ¬ p j := by
  induction n with
  | zero => obtain ⟨i, hi, -⟩ := h; exact absurd hi (Nat.not_lt_zero _)
  | succ n ih =>
    by_cases q : ∃ i, i < n ∧ p i
    · obtain ⟨i, h1, h2, h3⟩ := ih q
      exact ⟨i, by omega, h2, h3⟩
    · obtain ⟨i, h1, h2⟩ := h
      have : i = n := Classical.byContradiction fun hne => q ⟨i, by omega, h2⟩
      subst this
      exact ⟨i, by omega, h2, fun j hj hp => q ⟨j, hj, hp⟩⟩
theorem loopD_seek {R S : Type} {g : Int × S → (Int × S → Option R) → Option R} {t : S} {n : Nat} (hit : Nat → Prop) (r : Nat → Option R) (h1 : ∀ i, i < n → hit i → ∀ kn, g ((i : Int), t) kn = r i) (h2 : ∀ i, i < n → ¬ hit i → ∀ kn, g ((i : Int), t) kn = kn ((i : Int) + 1, t))
    {N : Nat} (hN : n < N) (hex : ∃ i, i < n ∧ hit i) : ∃ i, i < n ∧ hit i ∧ loopD g N ((0 : Int), t) = r i := by
  obtain ⟨i0, a1, a2, a3⟩ := first_ix hex
  refine ⟨i0, a1, a2, loopD_const (fun s => ∃ i : Nat, s = ((i : Int), t) ∧ i ≤ i0) (fun s => n - s.1.toNat) _ ?_ N _ ⟨0, rfl, Nat.zero_le _⟩ (by simp; omega)⟩
  rintro s ⟨i, rfl, hi⟩ kn hkn
  by_cases q : i = i0
  · subst q; exact h1 i a1 a2 kn
  · rw [h2 i (by omega) (a3 i (by omega))]
    exact hkn _ ⟨i + 1, by simp, by omega⟩ (by simp; omega)
theorem sortR_congr {α : Type} {D D' : α → α → Option Int} {xs ys : List α} (h : ∀ a ∈ xs, ∀ b ∈ xs, D a b = D' a b) (hs : sortR D' xs = some ys) : sortR D xs = some ys := by
  obtain ⟨h1, h2, h3⟩ := sortR_some hs
  have hl : ∀ a ∈ xs, ∀ b ∈ xs, ltB D a b = ltB D' a b := fun a ha b hb => by unfold ltB; rw [h a ha b hb]
  refine sortR_eq ⟨h1.lt, fun a ha b hb => by rw [h a ha b hb]; exact h1.tot a ha b hb, fun a ha => by rw [hl a ha a ha]; exact h1.irrefl a ha,
    fun a ha b hb c hc p q => by rw [hl a ha c hc]; rw [hl a ha b hb] at p; rw [hl b hb c hc] at q; exact h1.trans a ha b hb c hc p q,
    fun a ha b hb p q => by rw [hl a ha b hb] at p; rw [hl b hb a ha] at q; exact h1.anti a ha b hb p q⟩ ⟨h2, h3.imp_of_mem fun {a b} ha hb p => by rw [hl b (h2.subset hb) a (h2.subset ha)]; exact p⟩
/-- A list of times of one length. -/
structure TL (xs : List (List Int)) : Prop where
  len : xs.length ≤ 64
  tok : ∀ t ∈ xs, tok t = true
  one : ∀ t ∈ xs, t.length = (nth [] xs 0).length
theorem TL.eqL {xs : List (List Int)} (h : TL xs) {a b : List Int} (ha : a ∈ xs) (hb : b ∈ xs) : a.length = b.length := by rw [h.one a ha, h.one b hb]
theorem List_eq {N : Nat} (hN : 1000 ≤ N) (xs : List (List Int)) : ∃ e, D_times_List N (xs, ()) = some (e, ()) ∧ (e = 0 ↔ TL xs) := by
  simp only [D_times_List, times_List_5]
  by_cases hl : 64 < xs.length
  · exact ⟨1, by rw [d_true (by omega), cond_true], fun h => absurd h (by decide), fun h => absurd h.len (by omega)⟩
  rw [d_false (by omega), cond_false]
  simp only [joinD, loopE]
  by_cases hg : ∀ t ∈ xs, tok t = true
  case neg =>
    obtain ⟨e, he, key⟩ : ∃ e, e ≠ 0 ∧ loopD (fun (s : Int) kn => times_List_4 N (fun s => times_List_3 N s) xs xs (xs.length : Int) s (backE (xs, xs, (xs.length : Int)) kn)) N 0 = some (e, ()) := by
      have hex : ∃ i, i < xs.length ∧ ¬ tok (nth [] xs i) = true := Classical.byContradiction fun hn => hg fun t ht => Classical.byContradiction fun hb => by
        obtain ⟨i, hi, rfl⟩ := mem_nth (z := ([] : List Int)) ht
        exact hn ⟨i, hi, hb⟩
      -- the first that is none
      have hfirst : ∃ i, i < xs.length ∧ ¬ tok (nth [] xs i) = true ∧ ∀ j, j < i → tok (nth [] xs j) = true := by
        have key : ∀ n, (∃ i, i < n ∧ i < xs.length ∧ ¬ tok (nth [] xs i) = true) → ∃ i, i < xs.length ∧ ¬ tok (nth [] xs i) = true ∧ ∀ j, j < i → tok (nth [] xs j) = true := by
          intro n
          induction n with
          | zero => rintro ⟨i, h, -⟩; exact absurd h (Nat.not_lt_zero _)
          | succ n ih =>
            rintro ⟨i, h1, h2, h3⟩
            by_cases h : ∃ i, i < n ∧ i < xs.length ∧ ¬ tok (nth [] xs i) = true
            · exact ih h
            · have : i = n := Classical.byContradiction fun hne => h ⟨i, by omega, h2, h3⟩
              subst this
              exact ⟨i, h2, h3, fun j hj => Classical.byContradiction fun hb => h ⟨j, hj, by omega, hb⟩⟩
        obtain ⟨i, hi, hb⟩ := hex
        exact key _ ⟨i, hi, hi, hb⟩
      obtain ⟨i0, h1, h2, h3⟩ := hfirst
      obtain ⟨e, e1, e2⟩ := Check_eq hN (nth [] xs i0)
      have he : e ≠ 0 := fun h => h2 (e2.1 h)
      refine ⟨e, he, loopD_const (fun s => ∃ i : Nat, s = (i : Int) ∧ i ≤ i0) (fun s => xs.length - s.toNat) _ ?_ N _ ⟨0, rfl, Nat.zero_le _⟩ (by simp; omega)⟩
      rintro s ⟨i, rfl, hi⟩ kn hkn
      have hix : i < xs.length := by omega
      simp only [times_List_4, lt_d hix, ge0_d, Bool.and_self, cond_true, Int.toNat_natCast]
      by_cases q : i = i0
      · subst q
        rw [e1, Option.bind_some, show (e != 0) = true from bne_iff_ne.2 he, cond_true]
      · obtain ⟨f, f1, f2⟩ := Check_eq hN (nth [] xs i)
        obtain rfl := f2.2 (h3 i (by omega))
        rw [f1, Option.bind_some]
        simp only [bne_self_eq_false, cond_false, backE_eq, ix1 hix (by omega)]
        exact hkn _ ⟨i + 1, rfl, by omega⟩ (by simp; omega)
    exact ⟨e, key, fun h => absurd h he, fun h => absurd h.tok hg⟩
  have hpass : loopD (fun (s : Int) kn => times_List_4 N (fun s => times_List_3 N s) xs xs (xs.length : Int) s (backE (xs, xs, (xs.length : Int)) kn)) N 0 = times_List_3 N xs := by
    refine loopD_pass (n := xs.length) (by omega) (fun i hi kn => ?_) (fun kn => by simp only [times_List_4, lt_self, cond_false]) (by omega)
    obtain ⟨f, f1, f2⟩ := Check_eq hN (nth [] xs i)
    obtain rfl := f2.2 (hg _ (nth_mem hi))
    simp only [times_List_4, lt_d hi, ge0_d, Bool.and_self, cond_true, Int.toNat_natCast, f1, Option.bind_some, bne_self_eq_false, cond_false, backE_eq, ix1 hi (by omega)]
  rw [hpass]
  simp only [times_List_3, joinD, loopE]
  have hbody : ∀ i, i < xs.length → ∀ kn, times_List_2 N (fun _ => times_List_1 N) xs xs (xs.length : Int) (i : Int) (backE (xs, xs, (xs.length : Int)) kn) = if (nth [] xs i).length = (nth [] xs 0).length then kn ((i : Int) + 1) else some (3, ()) := fun i hi kn => by
    have h0 : decide ((0 : Int) < (xs.length : Int)) = true := d_true (by omega)
    simp only [times_List_2, lt_d hi, ge0_d, Bool.and_self, cond_true, Int.toNat_natCast, h0, show decide ((0 : Int) ≤ 0) = true from rfl, Int.toNat_zero, backE_eq, ix1 hi (by omega)]
    by_cases q : (nth [] xs i).length = (nth [] xs 0).length
    · rw [q, bne_self_eq_false, cond_false, if_pos rfl]
    · rw [show (((nth [] xs i).length : Int) != ((nth [] xs 0).length : Int)) = true from bne_iff_ne.2 (by omega), cond_true, if_neg q]
  by_cases ho : ∀ t ∈ xs, t.length = (nth [] xs 0).length
  · exact ⟨0, loopD_pass (n := xs.length) (by omega) (fun i hi kn => by rw [hbody i hi, if_pos (ho _ (nth_mem hi))]) (fun kn => by simp only [times_List_2, lt_self, cond_false, times_List_1]) (by omega), fun _ => ⟨by omega, hg, ho⟩, fun _ => rfl⟩
  · refine ⟨3, loopD_hit (n := xs.length) (by omega) (fun i => ¬ (nth [] xs i).length = (nth [] xs 0).length) (fun i hi hb kn => by rw [hbody i hi, if_neg hb]) (fun i hi hb kn => by rw [hbody i hi, if_pos (Classical.not_not.1 hb)]) (by omega) ?_, fun h => absurd h (by decide), fun h => absurd h.one ho⟩
    exact Classical.byContradiction fun hn => ho fun t ht => Classical.byContradiction fun hb => by
      obtain ⟨i, hi, rfl⟩ := mem_nth (z := ([] : List Int)) ht
      exact hn ⟨i, hi, hb⟩
/-- Is one of a list under a time? -/
theorem Cont_eq {N : Nat} (hN : 1000 ≤ N) {f : List (List Int)} {t : List Int} (hf : f.length ≤ 64) (hl : ∀ u ∈ f, u.length = t.length) (h4 : t.length ≤ 4) : D_slices_ContainsFunc_LLint_Lint_h2 N (f, t) = some (f.any (fun u => undr u t), f, t) := by
  have hbody : ∀ i, i < f.length → ∀ kn, slices_IndexFunc_LLint_Lint_h2_2 N (fun s => slices_IndexFunc_LLint_Lint_h2_1 N s.1 s.2) (f.length : Int) f (i : Int) t (backE ((f.length : Int), f) kn) = if undr (nth [] f i) t = true then some ((i : Int), f, t) else kn ((i : Int) + 1, t) := fun i hi kn => by
    have hu := hl _ (nth_mem (z := ([] : List Int)) hi)
    simp only [slices_IndexFunc_LLint_Lint_h2_2, lt_d hi, ge0_d, Bool.and_self, cond_true, Int.toNat_natCast, D_times_Least_c1_h, times_Least_c1_h_1, Under_eq hu (by omega) hN, Option.bind_some, backE_eq, ix1 hi (by omega)]
    cases undr (nth [] f i) t <;> rfl
  simp only [D_slices_ContainsFunc_LLint_Lint_h2, slices_ContainsFunc_LLint_Lint_h2_1, D_slices_IndexFunc_LLint_Lint_h2, slices_IndexFunc_LLint_Lint_h2_3, joinD, loopE]
  cases hany : f.any (fun u => undr u t) with
  | false =>
    have hno : ∀ i, i < f.length → ¬ undr (nth [] f i) t = true := fun i hi h => by
      have : f.any (fun u => undr u t) = true := List.any_eq_true.2 ⟨_, nth_mem (z := ([] : List Int)) hi, h⟩
      rw [hany] at this; cases this
    obtain ⟨-, -, e⟩ := loopD_inv (N := N) (g := fun (s : Int × List Int) kn => slices_IndexFunc_LLint_Lint_h2_2 N (fun s => slices_IndexFunc_LLint_Lint_h2_1 N s.1 s.2) (f.length : Int) f s.1 s.2 (backE ((f.length : Int), f) kn)) (s := ((0 : Int), t)) (k := fun _ => some (-1, f, t)) f.length (fun i s => s = ((i : Int), t))
      (fun i s hi hs => ⟨((i : Int) + 1, t), rfl, fun kn => by subst hs; simp only; rw [hbody i hi, if_neg (hno i hi)]⟩) (fun s hs kn => by subst hs; simp only [slices_IndexFunc_LLint_Lint_h2_2, lt_self, cond_false, slices_IndexFunc_LLint_Lint_h2_1]) (by omega) rfl
    rw [e]; rfl
  | true =>
    obtain ⟨u, hu, hut⟩ := List.any_eq_true.1 hany
    obtain ⟨i, hi, rfl⟩ := mem_nth (z := ([] : List Int)) hu
    obtain ⟨j, -, -, e⟩ := loopD_seek (N := N) (g := fun (s : Int × List Int) kn => slices_IndexFunc_LLint_Lint_h2_2 N (fun s => slices_IndexFunc_LLint_Lint_h2_1 N s.1 s.2) (f.length : Int) f s.1 s.2 (backE ((f.length : Int), f) kn)) (t := t) (n := f.length) (fun i => undr (nth [] f i) t = true) (fun i => some ((i : Int), f, t))
      (fun i hi hb kn => by simp only; rw [hbody i hi, if_pos hb]) (fun i hi hb kn => by simp only; rw [hbody i hi, if_neg hb]) (by omega) ⟨i, hi, hut⟩
    rw [e, Option.bind_some, d_true (by omega)]
theorem frL_len (ts : List (List Int)) : ∀ f : List (List Int), (ts.foldl frS f).length ≤ f.length + ts.length := by
  induction ts with
  | nil => intro f; simp
  | cons t ts ih =>
    intro f
    rw [List.foldl_cons]
    have h1 := ih (frS f t)
    have h2 : (frS f t).length ≤ f.length + 1 := by unfold frS; split <;> simp
    simp only [List.length_cons]
    omega
theorem frL_sub (ts : List (List Int)) : ∀ f : List (List Int), ∀ u ∈ ts.foldl frS f, u ∈ f ∨ u ∈ ts := by
  induction ts with
  | nil => intro f u hu; exact .inl hu
  | cons t ts ih =>
    intro f u hu
    rw [List.foldl_cons] at hu
    rcases ih _ u hu with h | h
    · unfold frS at h
      split at h
      · exact .inl h
      · rcases List.mem_append.1 h with h | h
        · exact .inl h
        · exact .inr (by rw [List.mem_singleton.1 h]; simp)
    · exact .inr (by simp [h])
theorem Least_eq {N : Nat} (hN : 1000 ≤ N) {xs : List (List Int)} (h : TL xs) : ∃ f, D_times_Least N (xs, ()) = some f ∧ Rise f ∧ (∀ t, t ∈ f ↔ isMin xs t) ∧ f.length ≤ xs.length := by
  have hlen := h.len
  obtain ⟨ys, y1, y2⟩ := sortR_ok (lex_ok xs (by omega))
  have hsort : sortR (fun p q => (D_slices_Compare_Lint_int N (p, q, ())).map (·.1)) xs = some ys := sortR_congr (fun a ha b hb => by rw [Compare_eq (tok_len (h.tok a ha)).2 hN]; rfl) y1
  have hyl : ys.length = xs.length := y2.1.length_eq
  have hym : ∀ t ∈ ys, t ∈ xs := fun t ht => y2.1.subset ht
  obtain ⟨g1, g2⟩ := front_spec (k := (nth [] xs 0).length) h.one y2
  refine ⟨frL ys, ?_, g1, g2, by have := frL_len ys []; unfold frL; simp at this; omega⟩
  simp only [D_times_Least, times_Least_3, cloneL_eq (N := N) (show xs.length ≤ 1000 by omega), Option.bind_some, hsort, joinD, loopE]
  refine loopD_path (N := N) ys.length (fun i => ((i : Int), frL (ys.take i))) (fun i hi kn => ?_) (fun kn => ?_) (by omega)
  · have hti := hym _ (nth_mem (z := ([] : List Int)) hi)
    have hfl : (frL (ys.take i)).length ≤ i := by have := frL_len (ys.take i) []; unfold frL; simp at this; omega
    have hfm : ∀ u ∈ frL (ys.take i), u.length = (nth [] ys i).length := fun u hu => by
      rcases frL_sub (ys.take i) [] u hu with h' | h'
      · cases h'
      · exact h.eqL (hym u (List.mem_of_mem_take h')) hti
    have h4 := (tok_len (h.tok _ hti)).2
    have hstep : frL (ys.take (i + 1)) = frS (frL (ys.take i)) (nth [] ys i) := by
      have : ys.take (i + 1) = ys.take i ++ [nth [] ys i] := by rw [List.take_add_one, nth_lt hi, List.getElem?_eq_getElem hi]; rfl
      rw [this]; unfold frL; rw [List.foldl_append]; rfl
    simp only [times_Least_2, lt_d hi, ge0_d, Bool.and_self, cond_true, Int.toNat_natCast, Cont_eq hN (show (frL (ys.take i)).length ≤ 64 by omega) hfm h4, Option.bind_some, hstep]
    unfold frS
    cases hany : (frL (ys.take i)).any (fun u => undr u (nth [] ys i)) with
    | true => simp only [Bool.not_true, cond_false, backE_eq, ix1 hi (by omega), if_true]; rfl
    | false =>
      simp only [Bool.not_false, cond_true, clone_eq (N := N) (show (nth [] ys i).length ≤ 1000 by omega), Option.bind_some]
      rw [d_true (by simp; omega)]
      simp only [backE_eq, ix1 hi (by omega)]
      rfl
  · simp only [times_Least_2, lt_self, cond_false, times_Least_1]
    rw [List.take_of_length_le (Nat.le_refl _)]
theorem Front_eq {N : Nat} (hN : 1000 ≤ N) (xs : List (List Int)) : (¬ TL xs ∧ ∃ e, e ≠ 0 ∧ D_times_Front N (xs, ()) = some ([], e, ())) ∨ (TL xs ∧ ∃ f, D_times_Front N (xs, ()) = some (f, 0, ()) ∧ Rise f ∧ (∀ t, t ∈ f ↔ isMin xs t) ∧ f.length ≤ xs.length) := by
  obtain ⟨e, e1, e2⟩ := List_eq hN xs
  simp only [D_times_Front, times_Front_1, e1, Option.bind_some]
  by_cases h : TL xs
  · obtain rfl := e2.2 h
    obtain ⟨f, f1, f2⟩ := Least_eq hN h
    exact .inr ⟨h, f, by simp only [bne_self_eq_false, cond_false, f1, Option.bind_some], f2⟩
  · have he : e ≠ 0 := fun h' => h (e2.1 h')
    exact .inl ⟨h, e, he, by rw [show (e != 0) = true from bne_iff_ne.2 he, cond_true]⟩
theorem Open_eq {N : Nat} (hN : 1000 ≤ N) {f : List (List Int)} (hf : f.length ≤ 64) (t : List Int) : D_times_Open N (f, t, ()) = some (f.any (fun u => leqT u t), ()) := by
  have hbody : ∀ i, i < f.length → ∀ kn, slices_IndexFunc_LLint_Lint_times_Open_c1_2 N (fun _ => slices_IndexFunc_LLint_Lint_times_Open_c1_1 N) f t (f.length : Int) (i : Int) (backE (f, t, (f.length : Int)) kn) = if leqT (nth [] f i) t = true then some ((i : Int), ()) else kn ((i : Int) + 1) := fun i hi kn => by
    simp only [slices_IndexFunc_LLint_Lint_times_Open_c1_2, lt_d hi, ge0_d, Bool.and_self, cond_true, Int.toNat_natCast, D_times_Open_c1, times_Open_c1_1, Leq_eq hN, Option.bind_some, backE_eq, ix1 hi (by omega)]
    cases leqT (nth [] f i) t <;> rfl
  simp only [D_times_Open, times_Open_1, D_slices_ContainsFunc_LLint_Lint_times_Open_c1, slices_ContainsFunc_LLint_Lint_times_Open_c1_1, D_slices_IndexFunc_LLint_Lint_times_Open_c1, slices_IndexFunc_LLint_Lint_times_Open_c1_3, joinD, loopE]
  cases hany : f.any (fun u => leqT u t) with
  | false =>
    have hno : ∀ i, i < f.length → ¬ leqT (nth [] f i) t = true := fun i hi h => by
      have : f.any (fun u => leqT u t) = true := List.any_eq_true.2 ⟨_, nth_mem (z := ([] : List Int)) hi, h⟩
      rw [hany] at this; cases this
    rw [loopD_pass (n := f.length) (k := some (-1, ())) (by omega) (fun i hi kn => by rw [hbody i hi, if_neg (hno i hi)]) (fun kn => by simp only [slices_IndexFunc_LLint_Lint_times_Open_c1_2, lt_self, cond_false, slices_IndexFunc_LLint_Lint_times_Open_c1_1]) (by omega)]
    rfl
  | true =>
    obtain ⟨u, hu, hut⟩ := List.any_eq_true.1 hany
    obtain ⟨i, hi, rfl⟩ := mem_nth (z := ([] : List Int)) hu
    obtain ⟨i0, a1, a2, a3⟩ := first_ix (p := fun i => leqT (nth [] f i) t = true) ⟨i, hi, hut⟩
    have e : loopD (fun (s : Int) kn => slices_IndexFunc_LLint_Lint_times_Open_c1_2 N (fun _ => slices_IndexFunc_LLint_Lint_times_Open_c1_1 N) f t (f.length : Int) s (backE (f, t, (f.length : Int)) kn)) N 0 = some ((i0 : Int), ()) := by
      refine loopD_const (fun s => ∃ i : Nat, s = (i : Int) ∧ i ≤ i0) (fun s => f.length - s.toNat) _ ?_ N _ ⟨0, rfl, Nat.zero_le _⟩ (by simp; omega)
      rintro s ⟨k, rfl, hk⟩ kn hkn
      by_cases q : k = i0
      · rw [q, hbody i0 a1, if_pos a2]
      · rw [hbody k (by omega), if_neg (a3 k (by omega))]
        exact hkn _ ⟨k + 1, rfl, by omega⟩ (by simp; omega)
    rw [e]
    simp only [Option.bind_some]
    rw [d_true (show ((i0 : Nat) : Int) ≥ 0 by omega)]
theorem Same_self {N : Nat} {xs : List Int} (hN : 1000 ≤ N) (hl : xs.length ≤ 900) : D_ref_TimesSame N (xs, xs, ()) = some (true, ()) := by
  simp only [D_ref_TimesSame, ref_TimesSame_3, joinD, loopE, bne_self_eq_false, cond_false]
  refine loopD_pass (n := xs.length) (by omega) (fun i hi kn => ?_) (fun kn => by simp only [ref_TimesSame_2, lt_self, cond_false, ref_TimesSame_1]) (by omega)
  simp only [ref_TimesSame_2, lt_d hi, ge0_d, Bool.and_self, cond_true, Int.toNat_natCast, bne_self_eq_false, cond_false, backE_eq, ix1 hi (by omega)]
theorem Lists_self {N : Nat} {f : List (List Int)} (hN : 1000 ≤ N) (hl : f.length ≤ 64) (h4 : ∀ t ∈ f, t.length ≤ 4) : D_ref_Lists N (f, f, ()) = some (true, ()) := by
  simp only [D_ref_Lists, ref_Lists_3, joinD, loopE, bne_self_eq_false, cond_false]
  refine loopD_pass (n := f.length) (by omega) (fun i hi kn => ?_) (fun kn => by simp only [ref_Lists_2, lt_self, cond_false, ref_Lists_1]) (by omega)
  have := h4 _ (nth_mem (z := ([] : List Int)) hi)
  simp only [ref_Lists_2, lt_d hi, ge0_d, Bool.and_self, cond_true, Int.toNat_natCast, Same_self (N := N) (xs := nth [] f i) hN (by omega), Option.bind_some, Bool.not_true, cond_false, backE_eq, ix1 hi (by omega)]
end Go.Proofs.Ytololihlpldcdaa
