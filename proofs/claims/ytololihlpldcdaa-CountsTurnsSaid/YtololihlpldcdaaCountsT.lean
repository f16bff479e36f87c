/- What Check, Add and Sum of counts come to. -/
import Derived.Test.YtololihlpldcdaaCountsS
namespace Go.Proofs.Ytololihlpldcdaa
open Go.Abs
open Classical in
theorem loopD_allF {R : Type} {g : Int → (Int → Option R) → Option R} {n : Nat} {r k : Option R} (bad : Nat → Prop) (a : Nat) (h1 : ∀ i : Nat, a ≤ i → i < n → bad i → ∀ kn, g i kn = r) (h2 : ∀ i : Nat, a ≤ i → i < n → ¬ bad i → ∀ kn, g i kn = kn ((i : Int) + 1))
    (h3 : ∀ i : Nat, a ≤ i → n ≤ i → ∀ kn, g i kn = k) {N : Nat} (hN : n < N) : loopD g N (a : Int) = if ∃ i, a ≤ i ∧ i < n ∧ bad i then r else k := by
  have key : ∀ d N b, n - b ≤ d → a ≤ b → d < N → (∀ i, a ≤ i → i < b → i < n → ¬ bad i) → loopD g N (b : Int) = if ∃ i, a ≤ i ∧ i < n ∧ bad i then r else k := by
    intro d
    induction d with
    | zero =>
      intro N b hd hb hN hok
      obtain ⟨N, rfl⟩ : ∃ M, N = M + 1 := ⟨N - 1, by omega⟩
      rw [loopD, h3 b hb (by omega), if_neg]
      rintro ⟨i, i1, i2, i3⟩
      exact hok i i1 (by omega) i2 i3
    | succ d ih =>
      intro N b hd hb hN hok
      obtain ⟨N, rfl⟩ : ∃ M, N = M + 1 := ⟨N - 1, by omega⟩
      rw [loopD]
      by_cases hbn : b < n
      · by_cases q : bad b
        · rw [h1 b hb hbn q, if_pos ⟨b, hb, hbn, q⟩]
        · rw [h2 b hb hbn q]
          exact ih N (b + 1) (by omega) (by omega) (by omega) fun i i1 i2 i3 => by
            by_cases e : i = b
            · subst e; exact q
            · exact hok i i1 (by omega) i3
      · rw [h3 b hb (by omega), if_neg]
        rintro ⟨i, i1, i2, i3⟩
        exact hok i i1 (by omega) i2 i3
  exact key n N a (by omega) (Nat.le_refl _) hN fun i h1 h2 => by omega
theorem loopD_seekI {R : Type} {g : Int → (Int → Option R) → Option R} {n : Nat} (hit : Nat → Prop) (r : Nat → Option R) (h1 : ∀ i : Nat, i < n → hit i → ∀ kn, g (i : Int) kn = r i) (h2 : ∀ i : Nat, i < n → ¬ hit i → ∀ kn, g (i : Int) kn = kn ((i : Int) + 1))
    {N : Nat} (hN : n < N) (hex : ∃ i, i < n ∧ hit i) : ∃ i, i < n ∧ hit i ∧ loopD g N (0 : Int) = r i := by
  obtain ⟨i0, a1, a2, a3⟩ := first_ix hex
  refine ⟨i0, a1, a2, loopD_const (fun s => ∃ i : Nat, s = (i : Int) ∧ i ≤ i0) (fun s => n - s.toNat) _ ?_ N _ ⟨0, rfl, Nat.zero_le _⟩ (by simp; omega)⟩
  rintro s ⟨i, rfl, hi⟩ kn hkn
  by_cases q : i = i0
  · subst q; exact h1 i a1 a2 kn
  · rw [h2 i (by omega) (a3 i (by omega))]
    exact hkn _ ⟨i + 1, by simp, by omega⟩ (by simp; omega)
theorem take_nth {α : Type} {z : α} {xs : List α} {i : Nat} (h : i < xs.length) : xs.take (i + 1) = xs.take i ++ [nth z xs i] := by
  rw [List.take_succ_eq_append_getElem h, nth_lt h]
theorem tlist_eq {N : Nat} {c : List Cn} (hN : c.length < N) (hb : c.length * 24 ≤ 140737488355328) : D_counts_tally_list N (c, ()) = some (c.map Prod.fst) := by
  simp only [D_counts_tally_list, counts_tally_list_3, joinD, loopE]
  refine loopD_path (g := fun (s : Int × List (List Int)) kn => counts_tally_list_2 N (fun s => counts_tally_list_1 N s) c (c.length : Int) s.1 s.2 (backE (c, (c.length : Int)) kn)) c.length (fun i => ((i : Int), (c.take i).map Prod.fst)) (fun i hi kn => ?_) (fun kn => ?_) hN
  · simp only [counts_tally_list_2, lt_d hi, ge0_d, Bool.and_self, cond_true, Int.toNat_natCast]
    rw [d_true (show (((c.take i).map Prod.fst).length + [(nth ([], (0 : Int)) c i).1].length) * 24 ≤ 140737488355328 by simp only [List.length_map, List.length_take, List.length_singleton]; omega), show Nat.ble 1 24 = true from rfl, Bool.and_self, cond_true, backE_eq, w64 (by omega) (by omega),
      take_nth (z := ([], (0 : Int))) hi, List.map_append]
    rfl
  · simp only [counts_tally_list_2, lt_self, cond_false, counts_tally_list_1, List.take_length]
/-- Each below the next. -/
theorem rise_adj : ∀ {l : List (List Int)}, (∀ i, i + 1 < l.length → lexc (nth [] l i) (nth [] l (i + 1)) < 0) → l.Pairwise fun a b => lexc a b < 0
  | [], _ => .nil
  | [_], _ => List.pairwise_cons.2 ⟨fun _ h => (nomatch h), .nil⟩
  | x :: y :: l, h => by
    have ih : (y :: l).Pairwise fun a b => lexc a b < 0 := rise_adj fun i hi => by
      have := h (i + 1) (by simp only [List.length_cons] at hi ⊢; omega)
      rwa [nth_cons_succ, nth_cons_succ] at this
    have h0 : lexc x y < 0 := by
      have := h 0 (by simp only [List.length_cons]; omega)
      rwa [nth_cons_zero, nth_cons_succ, nth_cons_zero] at this
    refine List.pairwise_cons.2 ⟨fun z hz => ?_, ih⟩
    rcases List.mem_cons.1 hz with rfl | hz
    · exact h0
    · exact lexc_trans h0 ((List.pairwise_cons.1 ih).1 z hz)
/-- A tally that may be. -/
structure CK (c : List Cn) : Prop where
  tl : TL (c.map Prod.fst)
  rise : RiseC c
  n : ∀ x ∈ c, x.2 ≠ 0 ∧ ov x.2 = false
theorem CK.len {c : List Cn} (h : CK c) : c.length ≤ 64 := by have := h.tl.len; rwa [List.length_map] at this
theorem CK.tok {c : List Cn} (h : CK c) {x : Cn} (hx : x ∈ c) : tok x.1 = true := h.tl.tok _ (List.mem_map.2 ⟨x, hx, rfl⟩)
theorem CK.eqL {c : List Cn} (h : CK c) {x y : Cn} (hx : x ∈ c) (hy : y ∈ c) : x.1.length = y.1.length := h.tl.eqL (List.mem_map.2 ⟨x, hx, rfl⟩) (List.mem_map.2 ⟨y, hy, rfl⟩)
theorem CK.sml {c : List Cn} (h : CK c) : Sml c where
  len := by have := h.len; omega
  t4 := fun x hx => (tok_len (h.tok hx)).2
  n := fun x hx => ov_false.1 (h.n x hx).2
theorem CK.noov {c : List Cn} (h : CK c) (t : List Int) : ov (val c t) = false := by
  by_cases e : val c t = 0
  · rw [e]; exact ov_zero
  · obtain ⟨x, h1, -, h3⟩ := val_ne e
    rw [← h3]; exact (h.n x h1).2
theorem bad_eq {N : Nat} (hN : 1000 ≤ N) {c : List Cn} (hc : c.length ≤ 64) : D_slices_ContainsFunc_Lapi_Count_api_Count_counts_Check_c1 N (c, (), ()) = some (c.any fun x => x.2 == 0 || ov x.2, ()) := by
  have hbody : ∀ i, i < c.length → ∀ kn, slices_IndexFunc_Lapi_Count_api_Count_counts_Check_c1_2 N (fun _ => slices_IndexFunc_Lapi_Count_api_Count_counts_Check_c1_1 N) c (c.length : Int) (i : Int) (backE (c, (c.length : Int)) kn) =
      if ((nth ([], (0 : Int)) c i).2 == 0 || ov (nth ([], (0 : Int)) c i).2) = true then some ((i : Int), ()) else kn ((i : Int) + 1) := fun i hi kn => by
    simp only [slices_IndexFunc_Lapi_Count_api_Count_counts_Check_c1_2, lt_d hi, ge0_d, Bool.and_self, cond_true, Int.toNat_natCast, D_counts_Check_c1, counts_Check_c1_1, Over_eq N (nth ([], (0 : Int)) c i).2, Option.bind_some, backE_eq, ix1 hi (by omega)]
    cases (nth ([], (0 : Int)) c i).2 == 0 <;> cases ov (nth ([], (0 : Int)) c i).2 <;> rfl
  simp only [D_slices_ContainsFunc_Lapi_Count_api_Count_counts_Check_c1, slices_ContainsFunc_Lapi_Count_api_Count_counts_Check_c1_1, D_slices_IndexFunc_Lapi_Count_api_Count_counts_Check_c1, slices_IndexFunc_Lapi_Count_api_Count_counts_Check_c1_3, joinD, loopE]
  cases hany : c.any fun x => x.2 == 0 || ov x.2 with
  | false =>
    have hno : ∀ i, i < c.length → ¬ ((nth ([], (0 : Int)) c i).2 == 0 || ov (nth ([], (0 : Int)) c i).2) = true := fun i hi h => by
      have : (c.any fun x => x.2 == 0 || ov x.2) = true := List.any_eq_true.2 ⟨_, nth_mem (z := (([], 0) : Cn)) hi, h⟩
      rw [hany] at this; cases this
    rw [loopD_pass (k := some (-1, ())) (n := c.length) (by omega) (fun i hi kn => by rw [hbody i hi, if_neg (hno i hi)]) (fun kn => by simp only [slices_IndexFunc_Lapi_Count_api_Count_counts_Check_c1_2, lt_self, cond_false, slices_IndexFunc_Lapi_Count_api_Count_counts_Check_c1_1]) (by omega)]
    rfl
  | true =>
    obtain ⟨u, hu, hut⟩ := List.any_eq_true.1 hany
    obtain ⟨i, hi, rfl⟩ := mem_nth (z := (([], 0) : Cn)) hu
    obtain ⟨j, -, -, e⟩ := loopD_seekI (N := N) (g := fun (s : Int) kn => slices_IndexFunc_Lapi_Count_api_Count_counts_Check_c1_2 N (fun _ => slices_IndexFunc_Lapi_Count_api_Count_counts_Check_c1_1 N) c (c.length : Int) s (backE (c, (c.length : Int)) kn)) (n := c.length) (fun i => ((nth ([], (0 : Int)) c i).2 == 0 || ov (nth ([], (0 : Int)) c i).2) = true) (fun i => some ((i : Int), ()))
      (fun i hi hb kn => by rw [hbody i hi, if_pos hb]) (fun i hi hb kn => by rw [hbody i hi, if_neg hb]) (by omega) ⟨i, hi, hut⟩
    rw [e]; simp only [Option.bind_some]; rw [d_true (show ((j : Nat) : Int) ≥ 0 by omega)]
theorem CCheck_eq {N : Nat} (hN : 1000 ≤ N) {c : List Cn} (hc : c.length < N) (hb : c.length * 24 ≤ 140737488355328) : ∃ e, D_counts_Check N (c, ()) = some (e, ()) ∧ (e = 0 ↔ CK c) := by
  obtain ⟨e, e1, e2⟩ := List_eq hN (c.map Prod.fst)
  simp only [D_counts_Check, counts_Check_3, tlist_eq hc hb, Option.bind_some, e1]
  by_cases hl : TL (c.map Prod.fst)
  case neg =>
    have he : e ≠ 0 := fun h' => hl (e2.1 h')
    exact ⟨e, by rw [show (e != 0) = true from bne_iff_ne.2 he, cond_true], fun h => absurd h he, fun h => absurd h.tl hl⟩
  obtain rfl := e2.2 hl
  have h64 := hl.len
  have hlm : (c.map Prod.fst).length = c.length := List.length_map _
  simp only [bne_self_eq_false, cond_false, joinD, loopE]
  have hloop := loopD_allF (N := N) (n := (c.map Prod.fst).length) (r := some (3, ())) (k := counts_Check_1 N c) (g := fun (s : Int) kn => counts_Check_2 N (fun s => counts_Check_1 N s.1) c (c.map Prod.fst) s (backE (c, c.map Prod.fst) kn))
    (fun i => ¬ lexc (nth [] (c.map Prod.fst) (i - 1)) (nth [] (c.map Prod.fst) i) < 0) 1
  have hstep : ∀ i : Nat, 1 ≤ i → i < (c.map Prod.fst).length → ∀ kn, counts_Check_2 N (fun s => counts_Check_1 N s.1) c (c.map Prod.fst) (i : Int) (backE (c, c.map Prod.fst) kn) = if ¬ lexc (nth [] (c.map Prod.fst) (i - 1)) (nth [] (c.map Prod.fst) i) < 0 then some (3, ()) else kn ((i : Int) + 1) := fun i h1 hi kn => by
    have w1 : IntKind.i64.wrap ((i : Int) - 1) = ((i - 1 : Nat) : Int) := by rw [w64 (by omega) (by omega)]; omega
    have ha : alk (nth [] (c.map Prod.fst) (i - 1)) (nth [] (c.map Prod.fst) i) = true := alk_iff.2 ⟨hl.eqL (nth_mem (by omega)) (nth_mem hi), hl.tok _ (nth_mem (by omega)), hl.tok _ (nth_mem hi)⟩
    simp only [counts_Check_2, w1, lt_d hi, lt_d (show i - 1 < (c.map Prod.fst).length by omega), ge0_d, Bool.and_self, cond_true, Int.toNat_natCast, Less_eq hN, ha, Bool.true_and, Option.bind_some, backE_eq, ix1 hi (by omega)]
    by_cases q : lexc (nth [] (c.map Prod.fst) (i - 1)) (nth [] (c.map Prod.fst) i) < 0
    · rw [d_true q, if_neg (fun h => h q)]; rfl
    · rw [d_false q, if_pos q]; rfl
  specialize hloop (fun i h1 hi hb kn => by rw [hstep i h1 hi, if_pos hb]) (fun i h1 hi hb kn => by rw [hstep i h1 hi, if_neg hb])
    (fun i h1 hi kn => by simp only [counts_Check_2]; rw [d_false (by omega), cond_false]) (by omega)
  rw [show ((1 : Nat) : Int) = 1 from rfl] at hloop
  rw [hloop]
  by_cases hr : ∃ i, 1 ≤ i ∧ i < (c.map Prod.fst).length ∧ ¬ lexc (nth [] (c.map Prod.fst) (i - 1)) (nth [] (c.map Prod.fst) i) < 0
  · refine ⟨3, by rw [if_pos hr], fun h => absurd h (by decide), fun h => ?_⟩
    obtain ⟨i, h1, h2, h3⟩ := hr
    have hp : (c.map Prod.fst).Pairwise fun a b => lexc a b < 0 := List.pairwise_map.2 h.rise
    have := List.pairwise_iff_getElem.1 hp (i - 1) i (by omega) h2 (by omega)
    rw [nth_lt (by omega : i - 1 < _), nth_lt h2] at h3
    exact absurd this h3
  · rw [if_neg hr]
    have hp : (c.map Prod.fst).Pairwise fun a b => lexc a b < 0 := rise_adj fun i hi => Classical.byContradiction fun hn => hr ⟨i + 1, by omega, hi, hn⟩
    have hrise : RiseC c := List.pairwise_map.1 hp
    simp only [counts_Check_1, bad_eq hN (show c.length ≤ 64 by omega), Option.bind_some]
    cases hany : c.any fun x => x.2 == 0 || ov x.2 with
    | true =>
      refine ⟨2, rfl, fun h => absurd h (by decide), fun h => ?_⟩
      obtain ⟨x, hx, h2⟩ := List.any_eq_true.1 hany
      obtain ⟨h3, h4⟩ := h.n x hx
      rw [h4, Bool.or_false] at h2
      exact absurd (beq_iff_eq.1 h2) h3
    | false =>
      refine ⟨0, rfl, fun _ => ⟨hl, hrise, fun x hx => ?_⟩, fun _ => rfl⟩
      have := List.any_eq_false.1 hany x hx
      simp only [Bool.or_eq_true, not_or, Bool.not_eq_true, beq_eq_false_iff_ne] at this
      exact ⟨this.1, this.2⟩
/-- Are two tallies' times of one length? -/
def apt (c d : List Cn) : Prop := 0 < c.length → 0 < d.length → (nth ([], (0 : Int)) c 0).1.length = (nth ([], (0 : Int)) d 0).1.length
theorem Apart_eq {N : Nat} (c d : List Cn) : ∃ b, D_counts_apart N (c, d, ()) = some (b, ()) ∧ (b = false ↔ apt c d) := by
  simp only [D_counts_apart, counts_apart_1]
  by_cases h1 : 0 < c.length
  case neg => exact ⟨false, by rw [d_false (by omega), cond_false], fun _ h => absurd h h1, fun _ => rfl⟩
  by_cases h2 : 0 < d.length
  case neg => exact ⟨false, by rw [d_true (by omega), cond_true, d_false (by omega), cond_false], fun _ _ h => absurd h h2, fun _ => rfl⟩
  have d1 : decide ((0 : Int) < (c.length : Int)) = true := d_true (by omega)
  have d2 : decide ((0 : Int) < (d.length : Int)) = true := d_true (by omega)
  simp only [d_true (show (c.length : Int) > 0 by omega), d_true (show (d.length : Int) > 0 by omega), d1, d2, show decide ((0 : Int) ≤ 0) = true from rfl, Bool.and_self, cond_true, Int.toNat_zero]
  refine ⟨_, rfl, ?_⟩
  simp only [apt, bne_eq_false_iff_eq]
  exact ⟨fun h _ _ => by omega, fun h => by have := h h1 h2; omega⟩
theorem apt.all {c d : List Cn} (hc : CK c) (hd : CK d) (h : apt c d) {x y : Cn} (hx : x ∈ c) (hy : y ∈ d) : x.1.length = y.1.length := by
  have h1 := List.length_pos_of_mem hx
  have h2 := List.length_pos_of_mem hy
  rw [hc.eqL hx (nth_mem (z := (([], 0) : Cn)) h1), hd.eqL hy (nth_mem (z := (([], 0) : Cn)) h2)]
  exact h h1 h2
/-- What a merge of two tallies of one length comes to is a tally, if it is not too long. -/
theorem ck_of {c d l : List Cn} (h : MgOk c d (some l)) (hl : l.length ≤ 64) (hc : ∀ x ∈ c, tok x.1 = true) (hd : ∀ x ∈ d, tok x.1 = true) (m : Nat) (mc : ∀ x ∈ c, x.1.length = m) (md : ∀ x ∈ d, x.1.length = m) : CK l := by
  obtain ⟨h1, h2, h3⟩ := h
  have hlen : ∀ x ∈ l, x.1.length = m ∧ tok x.1 = true := fun x hx => by
    rcases (h2 x hx).2.2 with ⟨y, hy, e⟩ | ⟨y, hy, e⟩
    · rw [← e]; exact ⟨mc y hy, hc y hy⟩
    · rw [← e]; exact ⟨md y hy, hd y hy⟩
  refine ⟨⟨by rwa [List.length_map], fun t ht => ?_, fun t ht => ?_⟩, h1, fun x hx => ⟨(h2 x hx).1, (h2 x hx).2.1⟩⟩
  · obtain ⟨x, hx, rfl⟩ := List.mem_map.1 ht; exact (hlen x hx).2
  · obtain ⟨x, hx, rfl⟩ := List.mem_map.1 ht
    have h0 : 0 < (l.map Prod.fst).length := List.length_pos_of_mem ht
    obtain ⟨y, hy, e⟩ := List.mem_map.1 (nth_mem (z := ([] : List Int)) h0)
    rw [← e, (hlen x hx).1, (hlen y hy).1]
end Go.Proofs.Ytololihlpldcdaa
