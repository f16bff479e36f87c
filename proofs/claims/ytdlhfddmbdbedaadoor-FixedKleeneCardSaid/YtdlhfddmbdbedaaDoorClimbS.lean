/- order.climbs: how many others are in the longest chain from each element upwards; Heights, Chain. -/
import Derived.Test.YtdlhfddmbdbedaaDoorClimb
import Derived.Test.YtdlhfddmbdbedaaDoorSortedS
import Derived.Test.YtdlhfddmbdbedaaDoorAbsLat
namespace Go.Proofs.YtdlhfddmbdbedaaDoor
open Go.Abs
def hv (v : List Int) (t : Nat) : Nat := (nth 0 v t).toNat
/-- What climbs hands back. -/
structure Clim (m : Nat) (up v : List Int) : Prop where
  len : v.length = m
  val : ∀ t, t < m → nth 0 v t = ((hv v t : Nat) : Int)
  above : ∀ i j, i < m → j < m → le up i j → j ≠ i → hv v j + 1 ≤ hv v i
  wit : ∀ i, i < m → hv v i = 0 ∨ ∃ j, j < m ∧ le up i j ∧ j ≠ i ∧ hv v i = hv v j + 1
  bd : ∀ i, i < m → hv v i ≤ m
/-- The same of some elements, the others being still 0. -/
structure PClim (m : Nat) (up : List Int) (dn : List Nat) (v : List Int) : Prop where
  len : v.length = m
  val : ∀ t, t < m → nth 0 v t = ((hv v t : Nat) : Int)
  above : ∀ i j, i ∈ dn → j < m → le up i j → j ≠ i → j ∈ dn ∧ hv v j + 1 ≤ hv v i
  wit : ∀ i, i ∈ dn → hv v i = 0 ∨ ∃ j, j < m ∧ le up i j ∧ j ≠ i ∧ hv v i = hv v j + 1
  bd : ∀ i, i < m → hv v i ≤ dn.length
  zero : ∀ i, i < m → i ∉ dn → hv v i = 0
theorem nth_castM {l : List Nat} {i : Nat} (h : i < l.length) : nth 0 (l.map fun (i : Nat) => (i : Int)) i = ((nth 0 l i : Nat) : Int) := by
  rw [nth_lt (by simpa using h), nth_lt h]; simp
theorem climb9 {N m : Nat} (hm : m ≤ 16) {v : List Int} (hl : v.length = m) (hval : ∀ t, t < m → nth 0 v t = ((hv v t : Nat) : Int)) (hbd : ∀ t, t < m → hv v t ≤ 16) {i : Nat} (hi : i < m) (h0 : hv v i = 0) {w : Int} (hw : W32 w) (hin : ∀ j, bt w j = true → j < m ∧ j ≠ i) (q : Int) :
    ∃ s : List Int, s.length = m ∧ (∀ t, t ≠ i → nth 0 s t = nth 0 v t) ∧ (∃ a : Nat, nth 0 s i = (a : Int) ∧ (∀ j, bt w j = true → hv v j + 1 ≤ a) ∧ (a = 0 ∨ ∃ j, bt w j = true ∧ a = hv v j + 1)) ∧
      ∀ k : List Int → Option Rt_order_climbs, order_climbs_9 N (q, (i : Int)) v w k = k s := by
  unfold order_climbs_9
  have key := forD_invk (fun (k : List Int → Option Rt_order_climbs) (y9 : Int) (s : List Int) kn => order_climbs_7 N (order_climbs_8 N (q, (i : Int)) y9 s (fun v16 => kn v16))) (fun k s => k s)
    (fun r s => s.length = m ∧ (∀ t, t ≠ i → nth 0 s t = nth 0 v t) ∧ (∃ a : Nat, nth 0 s i = (a : Int) ∧ (∀ j : Nat, bt w j = true → (j : Int) ∈ r ∨ hv v j + 1 ≤ a) ∧ (a = 0 ∨ ∃ j, bt w j = true ∧ a = hv v j + 1)) ∧ ∀ x ∈ r, ∃ j : Nat, x = (j : Int) ∧ bt w j = true)
    ?_ (eachXs (w, ())) v ⟨hl, fun _ _ => rfl, ⟨0, by rw [hval i hi, h0], fun j hj => .inl ((mem_each hw).2 ⟨j, rfl, bt_lt hw hj, hj⟩), .inl rfl⟩, fun x hx => by obtain ⟨j, e, -, hb⟩ := (mem_each hw).1 hx; exact ⟨j, e, hb⟩⟩
  · obtain ⟨s, ⟨h1, h2, ⟨a, h3, h4, h5⟩, -⟩, h⟩ := key
    exact ⟨s, h1, h2, ⟨a, h3, fun j hj => (h4 j hj).elim (fun h => by cases h) id, h5⟩, h⟩
  · rintro x r s ⟨h1, h2, ⟨a, h3, h4, h5⟩, h6⟩
    obtain ⟨j, rfl, hj⟩ := h6 x (by simp)
    obtain ⟨hjm, hji⟩ := hin j hj
    have hsj : nth 0 s j = ((hv v j : Nat) : Int) := by rw [h2 j hji, hval j hjm]
    have hb := hbd j hjm
    have hwr : IntKind.i64.wrap (((hv v j : Nat) : Int) + 1) = ((hv v j + 1 : Nat) : Int) := w64 (by omega) (by omega)
    by_cases hlt : a < hv v j + 1
    · refine ⟨s.set i ((hv v j + 1 : Nat) : Int), ⟨by simp [h1], fun t ht => by rw [nth_set (by omega), if_neg fun e => ht e.symm, h2 t ht], ⟨hv v j + 1, by rw [nth_set (by omega), if_pos rfl], fun j' hj' => ?_, .inr ⟨j, hj, rfl⟩⟩, fun x hx => h6 x (by simp [hx])⟩, fun k kn => ?_⟩
      · rcases h4 j' hj' with h | h
        · rcases List.mem_cons.1 h with e | h
          · have : j' = j := by omega
            subst this
            exact .inr (Nat.le_refl _)
          · exact .inl h
        · exact .inr (by omega)
      · simp only [order_climbs_7, order_climbs_8, ge0_d, lt_d (show i < s.length by omega), lt_d (show j < s.length by omega), Bool.and_self, cond_true, Int.toNat_natCast, hsj, h3, hwr]
        rw [if_pos (by omega)]
    · refine ⟨s.set i (a : Int), ⟨by simp [h1], fun t ht => by rw [nth_set (by omega), if_neg fun e => ht e.symm, h2 t ht], ⟨a, by rw [nth_set (by omega), if_pos rfl], fun j' hj' => ?_, h5⟩, fun x hx => h6 x (by simp [hx])⟩, fun k kn => ?_⟩
      · rcases h4 j' hj' with h | h
        · rcases List.mem_cons.1 h with e | h
          · have : j' = j := by omega
            subst this
            exact .inr (by omega)
          · exact .inl h
        · exact .inr h
      · simp only [order_climbs_7, order_climbs_8, ge0_d, lt_d (show i < s.length by omega), lt_d (show j < s.length by omega), Bool.and_self, cond_true, Int.toNat_natCast, hsj, h3, hwr]
        rw [if_neg (by omega)]
theorem climbs_eq {N : Nat} (hN : 40 ≤ N) {up : List Int} (hw : WL up) {m : Nat} (h : Ord (m : Int) up) : ∃ v, D_order_climbs N (((m : Int), up), ()) = some v ∧ Clim m up v := by
  have hm : m ≤ 16 := by have := h.h1; omega
  have hlu : up.length = m := by have := h.len; omega
  obtain ⟨l, hs, hl, hlen⟩ := Sorted_eq hN hw h
  simp only [Int.toNat_natCast] at hl hlen
  have hnd : l.Nodup := hl.ne.imp fun h => h.1
  have hall : ∀ j, j < m → j ∈ l := fun j hj => Classical.byContradiction fun hn => by
    have := (List.nodup_cons.2 ⟨hn, hnd⟩).length_le_of_subset (l₂ := List.range m) fun x hx => by
      rcases List.mem_cons.1 hx with rfl | hx
      · exact List.mem_range.2 hj
      · exact List.mem_range.2 (hl.lt x hx)
    simp at this
    omega
  simp only [D_order_climbs, order_climbs_20, order_climbs_19, order_climbs_18, order_climbs_17, order_climbs_16, order_climbs_15, order_climbs_14, order_climbs_4, order_climbs_3, order_climbs_2, order_climbs_1, d_true (show (0 : Int) ≤ m by omega), d_true (show (m : Int) ≤ m by omega), d_true (show (m : Int) * 8 ≤ 281474976710656 by omega), Bool.and_self, cond_true,
    hs, Option.bind_some, D_slices_Backward_Lint_int, slices_Backward_Lint_int_1]
  unfold order_climbs_13
  have hpr : ∀ k, k < l.length → ((List.range (k + 1)).map fun (i : Nat) => ((i : Int), nth 0 (l.map fun (i : Nat) => (i : Int)) i)).reverse = ((k : Int), ((nth 0 l k : Nat) : Int)) :: ((List.range k).map fun (i : Nat) => ((i : Int), nth 0 (l.map fun (i : Nat) => (i : Int)) i)).reverse := fun k hk => by
    rw [List.range_succ, List.map_append, List.reverse_append, List.map_cons, List.map_nil, nth_castM hk]; rfl
  have key := forD_invk (fun (k : List Int → Option Rt_order_climbs) (y5 : Int × Int) (s : List Int) kn => order_climbs_5 N (order_climbs_12 N ((m : Int), up) y5 s (fun v12 => kn v12))) (fun k s => k s)
    (fun r s => ∃ k, k ≤ l.length ∧ r = ((List.range k).map fun (i : Nat) => ((i : Int), nth 0 (l.map fun (i : Nat) => (i : Int)) i)).reverse ∧ PClim m up (l.drop k) s)
    ?_ (backXs (l.map fun (i : Nat) => (i : Int), ())) (List.replicate ((m : Int)).toNat 0) ⟨l.length, Nat.le_refl _, by unfold backXs; simp only [List.length_map], ?_⟩
  · obtain ⟨v, ⟨k, hk, hr, hp⟩, e⟩ := key
    have hk0 : k = 0 := by
      rcases Nat.eq_zero_or_pos k with h | h
      · exact h
      · have := congrArg List.length hr
        simp at this
        omega
    subst hk0
    rw [List.drop_zero] at hp
    refine ⟨v, e (fun v => some v), hp.len, hp.val, fun i j hi hj h1 h2 => (hp.above i j (hall i hi) hj h1 h2).2, fun i hi => hp.wit i (hall i hi), fun i hi => by have := hp.bd i hi; omega⟩
  · rintro x r s ⟨k, hk, hr, hp⟩
    obtain ⟨k, rfl⟩ : ∃ k', k = k' + 1 := ⟨k - 1, by
      rcases Nat.eq_zero_or_pos k with h | h
      · subst h; simp at hr
      · omega⟩
    rw [hpr k (by omega)] at hr
    simp only [List.cons.injEq] at hr
    obtain ⟨rfl, rfl⟩ := hr
    have hkl : k < l.length := by omega
    have hdr : l.drop k = nth 0 l k :: l.drop (k + 1) := by rw [nth_lt hkl]; exact List.drop_eq_getElem_cons hkl
    generalize hie : nth 0 l k = i at *
    have hi : i < m := by rw [← hie]; exact hl.lt _ (nth_mem hkl)
    have hind : i ∉ l.drop (k + 1) := by
      have : (l.drop k).Nodup := hnd.sublist (List.drop_sublist k l)
      rw [hdr] at this
      exact (List.nodup_cons.1 this).1
    have habv : ∀ j, j < m → le up i j → j ≠ i → j ∈ l.drop (k + 1) := fun j hj hij hne => by
      obtain ⟨p, hpl, e⟩ := List.getElem_of_mem (hall j hj)
      rcases Nat.lt_trichotomy p k with h | h | h
      · have := (List.pairwise_iff_getElem.1 hl.ne p k hpl hkl h).2
        rw [e, ← nth_lt (z := 0) hkl, hie] at this
        exact absurd hij this
      · subst h
        rw [nth_lt hpl, e] at hie
        exact absurd hie hne
      · rw [← e, List.mem_iff_getElem]
        exact ⟨p - (k + 1), by rw [List.length_drop]; omega, by rw [List.getElem_drop]; congr 1; omega⟩
    have hdl : (l.drop (k + 1)).length ≤ 15 := by rw [List.length_drop]; omega
    have hwb : ∀ j, bt (iandNot .u32 (nth 0 up i) (one i)) j = true ↔ le up i j ∧ j ≠ i := fun j => by
      rw [bt_iandNot (hw.nth i) (W32.one i), bt_one (by omega)]
      simp only [Bool.and_eq_true, Bool.not_eq_true', decide_eq_false_iff_not]
      exact Iff.rfl
    obtain ⟨s', h1, h2, ⟨a, h3, h4, h5⟩, h6⟩ := climb9 (N := N) hm hp.len hp.val (fun t ht => by have := hp.bd t ht; omega) hi (hp.zero i hi hind) (w := iandNot .u32 (nth 0 up i) (one i)) W32.iandNot (fun j hj => ⟨by have := h.inn i (by omega) j ((hwb j).1 hj).1; omega, ((hwb j).1 hj).2⟩) (k : Int)
    have hvi : hv s' i = a := by unfold hv; rw [h3]; rfl
    have hvt : ∀ t, t ≠ i → hv s' t = hv s t := fun t ht => by unfold hv; rw [h2 t ht]
    refine ⟨s', ⟨k, by omega, rfl, ?_⟩, fun kk kn => ?_⟩
    · rw [hdr]
      refine ⟨h1, fun t ht => ?_, fun i' j hi' hj hij hne => ?_, fun i' hi' => ?_, fun t ht => ?_, fun t ht hn => ?_⟩
      · by_cases e : t = i
        · subst e; rw [h3, hvi]
        · rw [h2 t e, hvt t e, hp.val t ht]
      · rcases List.mem_cons.1 hi' with e | hi'
        · subst e
          refine ⟨List.mem_cons_of_mem _ (habv j hj hij hne), ?_⟩
          rw [hvi, hvt j hne]
          exact h4 j ((hwb j).2 ⟨hij, hne⟩)
        · obtain ⟨q1, q2⟩ := hp.above i' j hi' hj hij hne
          refine ⟨List.mem_cons_of_mem _ q1, ?_⟩
          rw [hvt j (fun e => hind (e ▸ q1)), hvt i' (fun e => hind (e ▸ hi'))]
          exact q2
      · rcases List.mem_cons.1 hi' with e | hi'
        · subst e
          rw [hvi]
          rcases h5 with h5 | ⟨j, hj, h5⟩
          · exact .inl h5
          · have := (hwb j).1 hj
            exact .inr ⟨j, by have := h.inn i' (by omega) j this.1; omega, this.1, this.2, by rw [hvt j this.2]; exact h5⟩
        · rw [hvt i' (fun e => hind (e ▸ hi'))]
          rcases hp.wit i' hi' with q | ⟨j, q1, q2, q3, q4⟩
          · exact .inl q
          · refine .inr ⟨j, q1, q2, q3, ?_⟩
            rw [hvt j (fun e => hind (e ▸ (hp.above i' j hi' q1 q2 q3).1))]
            exact q4
      · rw [List.length_cons]
        by_cases e : t = i
        · subst e
          rw [hvi]
          rcases h5 with h5 | ⟨j, hj, h5⟩
          · omega
          · have := hp.bd j (by have := h.inn t (by omega) j ((hwb j).1 hj).1; omega)
            omega
        · rw [hvt t e]
          have := hp.bd t ht
          omega
      · simp only [List.mem_cons, not_or] at hn
        rw [hvt t hn.1]
        exact hp.zero t ht hn.2
    · simp only [order_climbs_5, order_climbs_12, order_climbs_11, order_climbs_10, order_climbs_6, ge0_d, lt_d (show i < up.length by omega), Bool.and_self, cond_true, Int.toNat_natCast, One_eq N i, Each_eq N (iandNot .u32 (nth 0 up i) (one i)), Option.bind_some, h6]
  · rw [List.drop_length]
    have hz : ∀ t, hv (List.replicate ((m : Int)).toNat 0) t = 0 := fun t => by
      unfold hv nth
      rw [List.getD_eq_getElem?_getD, List.getElem?_replicate]
      split <;> rfl
    refine ⟨by simp, fun t ht => ?_, fun i j hi => (by cases hi), fun i hi => (by cases hi), fun i _ => by rw [hz]; exact Nat.zero_le _, fun i _ _ => hz i⟩
    rw [hz]
    unfold nth
    rw [List.getD_eq_getElem?_getD, List.getElem?_replicate]
    split <;> rfl
theorem Max_eq {N m : Nat} (hN : 40 ≤ N) (hm : m ≤ 16) (h0 : 0 < m) {v : List Int} (hl : v.length = m) (hval : ∀ t, t < m → nth 0 v t = ((hv v t : Nat) : Int)) :
    ∃ M : Nat, D_slices_Max_Lint_int N (v, ()) = some ((M : Int), ()) ∧ (∀ t, t < m → hv v t ≤ M) ∧ ∃ t, t < m ∧ hv v t = M := by
  simp only [D_slices_Max_Lint_int, slices_Max_Lint_int_13, slices_Max_Lint_int_12, slices_Max_Lint_int_11, slices_Max_Lint_int_10, slices_Max_Lint_int_8, slices_Max_Lint_int_7, slices_Max_Lint_int_4, slices_Max_Lint_int_3, slices_Max_Lint_int_2, slices_Max_Lint_int_1,
    d_false (show ¬ (v.length : Int) < 1 by omega), cond_false, d_true (show (0 : Int) ≤ 0 by omega), d_true (show (0 : Int) < (v.length : Int) by omega), Bool.and_self, cond_true]
  unfold slices_Max_Lint_int_6
  have hz : nth 0 v ((0 : Int)).toNat = ((hv v 0 : Nat) : Int) := hval 0 h0
  rw [hz]
  have key := loopD_invk (N := N) (fun (k : Int → Option Rt_slices_Max_Lint_int) (s : Int × Int) kn => slices_Max_Lint_int_5 N v s.1 s.2 (fun v1 v2 => kn (v1, v2)) k) (fun k s => k s.1) (s := (((hv v 0 : Nat) : Int), 1)) (m - 1)
    (fun i s => s.2 = ((i + 1 : Nat) : Int) ∧ ∃ M : Nat, s.1 = (M : Int) ∧ (∀ t, t < i + 1 → hv v t ≤ M) ∧ ∃ t, t < m ∧ hv v t = M) ?_ ?_ (by omega) ⟨rfl, hv v 0, rfl, fun t ht => by rw [show t = 0 by omega]; exact Nat.le_refl _, 0, h0, rfl⟩
  · obtain ⟨⟨s1, s2⟩, ⟨-, M, h1, h2, h3⟩, e⟩ := key
    simp only at h1
    subst h1
    exact ⟨M, e (fun v5 => slices_Max_Lint_int_9 N v5), fun t ht => h2 t (by omega), h3⟩
  · rintro i ⟨s1, s2⟩ hi ⟨hs, M, h1, h2, h3⟩
    simp only at hs h1
    subst hs h1
    have hi1 : i + 1 < m := by omega
    by_cases hlt : M < hv v (i + 1)
    · refine ⟨(((hv v (i + 1) : Nat) : Int), ((i + 1 + 1 : Nat) : Int)), ⟨rfl, hv v (i + 1), rfl, fun t ht => ?_, i + 1, hi1, rfl⟩, fun k kn => ?_⟩
      · by_cases e : t = i + 1
        · subst e; exact Nat.le_refl _
        · have := h2 t (by omega)
          omega
      · simp only [slices_Max_Lint_int_5, lt_d (show i + 1 < v.length by omega), ge0_d, Bool.and_self, cond_true, Int.toNat_natCast, hval (i + 1) hi1, w64 (show -9223372036854775808 ≤ ((i + 1 : Nat) : Int) + 1 by omega) (show ((i + 1 : Nat) : Int) + 1 ≤ 9223372036854775807 by omega)]
        rw [if_pos (by omega)]
        rfl
    · refine ⟨((M : Int), ((i + 1 + 1 : Nat) : Int)), ⟨rfl, M, rfl, fun t ht => ?_, h3⟩, fun k kn => ?_⟩
      · by_cases e : t = i + 1
        · subst e; omega
        · exact h2 t (by omega)
      · simp only [slices_Max_Lint_int_5, lt_d (show i + 1 < v.length by omega), ge0_d, Bool.and_self, cond_true, Int.toNat_natCast, hval (i + 1) hi1, w64 (show -9223372036854775808 ≤ ((i + 1 : Nat) : Int) + 1 by omega) (show ((i + 1 : Nat) : Int) + 1 ≤ 9223372036854775807 by omega)]
        rw [if_neg (by omega)]
        rfl
  · rintro ⟨s1, s2⟩ ⟨hs, M, h1, h2, h3⟩ k kn
    simp only at hs h1
    subst hs h1
    simp only [slices_Max_Lint_int_5, d_false (show ¬ ((m - 1 + 1 : Nat) : Int) < (v.length : Int) by omega), cond_false]
/-- The first longest chain. -/
structure Longest (m : Nat) (up v : List Int) (M : Nat) (c : List Nat) : Prop where
  len : c.length = M + 1
  lt : ∀ p, p ≤ M → nth 0 c p < m
  hgt : ∀ p, p ≤ M → hv v (nth 0 c p) = M - p
  step : ∀ p, p < M → le up (nth 0 c p) (nth 0 c (p + 1)) ∧ nth 0 c p ≠ nth 0 c (p + 1)
  top : ∀ t, t < m → hv v t ≤ M
theorem nth_snoc {c : List Nat} {x p : Nat} : nth 0 (c ++ [x]) p = if p < c.length then nth 0 c p else if p = c.length then x else 0 := by
  unfold nth
  rw [List.getD_eq_getElem?_getD]
  by_cases h : p < c.length
  · rw [if_pos h, List.getElem?_append_left h, ← List.getD_eq_getElem?_getD]
  · rw [if_neg h, List.getElem?_append_right (by omega)]
    by_cases e : p = c.length
    · subst e; simp
    · rw [if_neg e, List.getElem?_eq_none (by simp; omega)]; rfl
theorem Chain_eq {N : Nat} (hN : 40 ≤ N) {up : List Int} (hw : WL up) {m : Nat} (h : Ord (m : Int) up) :
    ∃ c : List Nat, D_order_Chain N (((m : Int), up), ()) = some (c.map (fun (i : Nat) => (i : Int)), 0, ()) ∧ (m = 0 → c = []) ∧ (0 < m → ∃ v M, Clim m up v ∧ M ≤ m ∧ Longest m up v M c) := by
  have hm : m ≤ 16 := by have := h.h1; omega
  have hlu : up.length = m := by have := h.len; omega
  obtain ⟨e, k1, k2⟩ := Check_spec (N := N) hN hw (m : Int)
  obtain rfl := k2.2 h
  obtain ⟨v, v1, v2⟩ := climbs_eq hN hw h
  simp only [D_order_Chain, order_Chain_27, order_Chain_26, order_Chain_25, order_Chain_24, order_Chain_23, order_Chain_22, order_Chain_20, order_Chain_19, order_Chain_6, order_Chain_5, order_Chain_4, order_Chain_3, order_Chain_2, order_Chain_1, k1, v1, Option.bind_some, bne_self_eq_false, cond_false, All_eq N (show (0 : Int) ≤ (m : Int) by omega)]
  rcases Nat.eq_zero_or_pos m with hm0 | hm0
  · subst hm0
    exact ⟨[], rfl, fun _ => rfl, fun h => absurd h (Nat.lt_irrefl 0)⟩
  obtain ⟨M, M1, M2, M3⟩ := Max_eq (N := N) hN hm hm0 v2.len v2.val
  have hMm : M ≤ m := by obtain ⟨t, ht, e⟩ := M3; have := v2.bd t ht; omega
  simp only [show ((m : Int) == 0) = false from beq_false_of_ne (by omega), cond_false, M1, Option.bind_some]
  have hall : ∀ j, bt (allw (m : Int)) j = true ↔ j < m := fun j => by rw [bt_allw (by omega) (by omega)]; simp
  unfold order_Chain_18
  have key := loopD_invk (N := N) (fun (k : Int → Int → List Int → Option Rt_order_Chain) (s : Int × Int × List Int) kn => order_Chain_17 N ((m : Int), up) v s.1 s.2.1 s.2.2 (fun v17 v18 v19 => kn (v17, v18, v19)) k) (fun k s => k s.1 s.2.1 s.2.2) (s := (allw (m : Int), (M : Int), [])) (M + 1)
    (fun k s => W32 s.1 ∧ s.2.1 = (M : Int) - (k : Int) ∧ ∃ c : List Nat, s.2.2 = c.map (fun (i : Nat) => (i : Int)) ∧ c.length = k ∧ (∀ p, p < k → nth 0 c p < m ∧ hv v (nth 0 c p) = M - p) ∧ (∀ p, p + 1 < k → le up (nth 0 c p) (nth 0 c (p + 1)) ∧ nth 0 c p ≠ nth 0 c (p + 1)) ∧
      (∀ j, bt s.1 j = true → j < m ∧ (0 < k → le up (nth 0 c (k - 1)) j ∧ j ≠ nth 0 c (k - 1))) ∧ (k ≤ M → ∃ j, bt s.1 j = true ∧ hv v j = M - k)) ?_ ?_ (by omega)
    ⟨W32.allw _, by simp, [], rfl, rfl, fun p hp => absurd hp (Nat.not_lt_zero _), fun p hp => absurd hp (Nat.not_lt_zero _), fun j hj => ⟨(hall j).1 hj, fun h => absurd h (Nat.lt_irrefl 0)⟩, fun _ => by obtain ⟨t, ht, e⟩ := M3; exact ⟨t, (hall t).2 ht, by omega⟩⟩
  · obtain ⟨⟨w, d, l⟩, ⟨-, -, c, h1, h2, h3, h4, -, -⟩, e⟩ := key
    simp only at h1
    subst h1
    refine ⟨c, e (fun v28 v29 v30 => order_Chain_21 N v30), fun e => absurd e (by omega), fun _ => ⟨v, M, v2, hMm, h2, fun p hp => (h3 p (by omega)).1, fun p hp => (h3 p (by omega)).2, fun p hp => h4 p (by omega), M2⟩⟩
  · rintro k ⟨w, d, l⟩ hk ⟨hW, hd, c, h1, h2, h3, h4, h5, h6⟩
    simp only at hW hd h1 h5 h6
    subst h1
    have hdn : d = ((M - k : Nat) : Int) := by omega
    subst hdn
    obtain ⟨x, hx, hc, he⟩ := forD_findk (fun (k44 : Int → List Int → Option Rt_order_Chain) (y10 : Int) (_ : Unit) kn => order_Chain_9 N (order_Chain_10 N ((m : Int), up) v ((M - k : Nat) : Int) (c.map (fun (i : Nat) => (i : Int))) y10 (kn ()) k44)) (fun k44 (_ : Unit) => k44 w (c.map (fun (i : Nat) => (i : Int))))
      (fun x => hv v x.toNat = M - k) (fun k44 x => k44 (iandNot .u32 (nth 0 up x.toNat) (one x.toNat)) (c.map (fun (i : Nat) => (i : Int)) ++ [x])) (eachXs (w, ()))
      (fun x hx hcx k44 kn => by
        obtain ⟨j, rfl, -, hj⟩ := (mem_each hW).1 hx
        have hjm := (h5 j hj).1
        simp only [Int.toNat_natCast] at hcx ⊢
        have hvl := v2.len
        simp only [order_Chain_9, order_Chain_10, ge0_d, lt_d (show j < v.length by omega), lt_d (show j < up.length by omega), Bool.and_self, cond_true, Int.toNat_natCast, v2.val j hjm, hcx, beq_self_eq_true, One_eq N j, Option.bind_some]
        rw [d_true (by simp; omega)]
        rfl)
      (fun x hx hcx k44 kn => by
        obtain ⟨j, rfl, -, hj⟩ := (mem_each hW).1 hx
        have hjm := (h5 j hj).1
        simp only [Int.toNat_natCast] at hcx
        have hvl := v2.len
        simp only [order_Chain_9, order_Chain_10, ge0_d, lt_d (show j < v.length by omega), Bool.and_self, cond_true, Int.toNat_natCast, v2.val j hjm, show (((hv v j : Nat) : Int) == ((M - k : Nat) : Int)) = false from beq_false_of_ne (by omega), cond_false])
      (by
        obtain ⟨j, hj, e⟩ := h6 (by omega)
        exact ⟨(j : Int), (mem_each hW).2 ⟨j, rfl, bt_lt hW hj, hj⟩, by simpa using e⟩)
    obtain ⟨j, rfl, -, hj⟩ := (mem_each hW).1 hx
    simp only [Int.toNat_natCast] at hc he
    have hjm := (h5 j hj).1
    have hwb : ∀ t, bt (iandNot .u32 (nth 0 up j) (one j)) t = true ↔ le up j t ∧ t ≠ j := fun t => by
      rw [bt_iandNot (hw.nth j) (W32.one j), bt_one (by omega)]
      simp only [Bool.and_eq_true, Bool.not_eq_true', decide_eq_false_iff_not]
      exact Iff.rfl
    refine ⟨(iandNot .u32 (nth 0 up j) (one j), (M : Int) - ((k + 1 : Nat) : Int), (c ++ [j]).map (fun (i : Nat) => (i : Int))), ⟨W32.iandNot, rfl, c ++ [j], rfl, by simp [h2], fun p hp => ?_, fun p hp => ?_, fun t ht => ?_, fun hkM => ?_⟩, fun kk kn => ?_⟩
    · rw [nth_snoc, h2]
      by_cases e : p < k
      · rw [if_pos e]; exact h3 p e
      · rw [if_neg e, if_pos (by omega)]
        exact ⟨hjm, by rw [hc]; omega⟩
    · rw [nth_snoc, nth_snoc, h2, if_pos (by omega)]
      by_cases e : p + 1 < k
      · rw [if_pos e]; exact h4 p e
      · rw [if_neg e, if_pos (by omega)]
        have := (h5 j hj).2 (by omega)
        rw [show k - 1 = p by omega] at this
        exact ⟨this.1, fun e => this.2 e.symm⟩
    · have := (hwb t).1 ht
      refine ⟨by have := h.inn j (by omega) t this.1; omega, fun _ => ?_⟩
      rw [nth_snoc, h2, if_neg (by omega), if_pos (by omega)]
      exact this
    · rcases v2.wit j hjm with q | ⟨t, q1, q2, q3, q4⟩
      · omega
      · exact ⟨t, (hwb t).2 ⟨q2, q3⟩, by omega⟩
    · simp only [order_Chain_17, order_Chain_16, order_Chain_15, order_Chain_14, order_Chain_13, order_Chain_12, order_Chain_8, order_Chain_7, d_true (show ((M - k : Nat) : Int) ≥ 0 by omega), cond_true, Each_eq N w, Option.bind_some]
      unfold order_Chain_11
      rw [he]
      rw [w64 (n := ((M - k : Nat) : Int) - 1) (by omega) (by omega), show ((M - k : Nat) : Int) - 1 = (M : Int) - ((k + 1 : Nat) : Int) by omega, List.map_append]
      rfl
  · rintro ⟨w, d, l⟩ ⟨-, hd, -⟩ kk kn
    simp only at hd
    have : d = -1 := by omega
    subst this
    simp only [order_Chain_17, order_Chain_7, d_false (show ¬ (-1 : Int) ≥ 0 by omega), cond_false]
end Go.Proofs.YtdlhfddmbdbedaaDoor
