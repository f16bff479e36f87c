/- summary.Front: what it comes to. -/
import Derived.Test.YtololihlpldcdaaSummL
namespace Go.Proofs.Ytololihlpldcdaa
open Go.Abs
open Go.Smy (Sm sumCheck sumCheck_iff placeN leqP placeN_high placeN_last)
theorem loopD_Q {R S : Type} {g : S → (S → Option R) → Option R} (Q : Option R → Prop) (n : Nat) (I : Nat → S → Prop) (h2 : ∀ i s, i < n → I i s → ∀ kn, (∀ s', I (i + 1) s' → Q (kn s')) → Q (g s kn))
    (h3 : ∀ s, I n s → ∀ kn, Q (g s kn)) {N : Nat} (hN : n < N) {s : S} (h0 : I 0 s) : Q (loopD g N s) := by
  have key : ∀ j i s M, i + j = n → I i s → j < M → Q (loopD g M s) := by
    intro j
    induction j with
    | zero =>
      rintro i s (_ | M) hi hI hM
      · omega
      · show Q (g s (loopD g M)); exact h3 s (by rw [← hi]; exact hI) _
    | succ j ih =>
      rintro i s (_ | M) hi hI hM
      · omega
      · show Q (g s (loopD g M))
        exact h2 i s (by omega) hI _ fun s' hs' => ih (i + 1) s' M (by omega) hs' (by omega)
  exact key n 0 s N (by omega) h0 hN
theorem nth3 (xs : List Tr) (i : Nat) : ((nth ((0 : Int), ((0 : Int), ([] : List Int))) xs i).1, (nth ((0 : Int), ((0 : Int), ([] : List Int))) xs i).2.1, (nth ((0 : Int), ((0 : Int), ([] : List Int))) xs i).2.2) = nth ((0 : Int), ((0 : Int), ([] : List Int))) xs i := rfl
abbrev z3 : Tr := ((0 : Int), ((0 : Int), ([] : List Int)))
/-! ### Leq is an order -/
theorem leqP_refl {s : Sm} (h : sumCheck s 4 = 0) : leqP s s := ⟨h, h, rfl, fun _ _ => ⟨Int.le_refl _, fun h => h⟩⟩
theorem leqP_trans {s r q : Sm} (h : leqP s r) (k : leqP r q) : leqP s q :=
  ⟨h.1, k.2.1, h.2.2.1.trans k.2.2.1, fun i hi => ⟨Int.le_trans (h.2.2.2 i hi).1 (k.2.2.2 i (by have := h.2.2.1; omega)).1, fun hk => (k.2.2.2 i (by have := h.2.2.1; omega)).2 ((h.2.2.2 i hi).2 hk)⟩⟩
theorem leqP_keep {s r : Sm} (h : leqP s r) : s.keep ≤ r.keep := by
  obtain ⟨-, -, a3, -, a5, -, -⟩ := sumCheck_iff.1 h.1
  have := (h.2.2.2 (s.keep - 1).toNat (by omega)).2 (by omega)
  omega
theorem leqP_anti {s r : Sm} (h : leqP s r) (k : leqP r s) : s = r := by
  have hk : s.keep = r.keep := by have := leqP_keep h; have := leqP_keep k; omega
  obtain ⟨-, -, a3, -, a5, -, -⟩ := sumCheck_iff.1 h.1
  have ho := h.2.2.1
  have hp : ∀ i : Nat, (i : Int) < s.keep + s.push.length → placeN s i = placeN r i := fun i hi => by
    have h1 := (h.2.2.2 i hi).1
    have h2 := (k.2.2.2 i (by omega)).1
    omega
  have ha : s.add = r.add := by
    have := hp (s.keep - 1).toNat (by omega)
    rwa [placeN_last (by omega), placeN_last (by omega)] at this
  have hpu : s.push = r.push := by
    refine Go.Smy.nth_ext (by omega) fun i hi => ?_
    have := hp (s.keep + i).toNat (by omega)
    rw [placeN_high (by omega), placeN_high (by omega)] at this
    rwa [show ((((s.keep + i).toNat : Nat) : Int) - s.keep).toNat = i by omega, show ((((s.keep + i).toNat : Nat) : Int) - r.keep).toNat = i by omega] at this
  cases s; cases r
  simp only at hk ha hpu
  subst hk; subst ha; subst hpu
  rfl
theorem leqS_refl {s : Tr} (h : sumCheck (sm s) 4 = 0) : leqS s s = true := leqS_yes (leqP_refl h)
theorem leqS_trans {s r q : Tr} (h : leqS s r = true) (k : leqS r q = true) : leqS s q = true := leqS_yes (leqP_trans (leqS_iff.1 h) (leqS_iff.1 k))
theorem leqS_anti {s r : Tr} (h : leqS s r = true) (k : leqS r s = true) : s = r := by
  have := leqP_anti (leqS_iff.1 h) (leqS_iff.1 k)
  have h1 := congrArg Sm.keep this
  have h2 := congrArg Sm.add this
  have h3 := congrArg Sm.push this
  simp only [sm] at h1 h2 h3
  exact Prod.ext h1 (Prod.ext h2 h3)
/-! ### The order of the lists -/
def sl (s : Tr) : List Int := s.1 :: s.2.1 :: s.2.2
theorem sl_inj {s r : Tr} (h : sl s = sl r) : s = r := by
  simp only [sl, List.cons.injEq] at h
  exact Prod.ext h.1 (Prod.ext h.2.1 h.2.2)
abbrev cmpS (s r : Tr) : Int := lexc (sl s) (sl r)
theorem Or3_eq {N : Nat} (hN : 10 ≤ N) (a b c : Int) : D_cmp_Or_int N ([a, b, c], ()) = some (if a = 0 then (if b = 0 then c else b) else a, ()) := by
  simp only [D_cmp_Or_int, cmp_Or_int_3, joinD, loopE]
  have hb : ∀ i : Nat, i < 3 → ∀ kn, cmp_Or_int_2 N (fun _s => cmp_Or_int_1 N _s) 0 [a, b, c] (([a, b, c] : List Int).length : Int) (i : Int) (backE ((0 : Int), [a, b, c], (([a, b, c] : List Int).length : Int)) kn) = if nth 0 [a, b, c] i = 0 then kn ((i : Int) + 1) else some (nth 0 [a, b, c] i, ()) := fun i hi kn => by
    simp only [cmp_Or_int_2, lt_d (show i < ([a, b, c] : List Int).length from hi), ge0_d, Int.toNat_natCast, Bool.and_self, cond_true, ix1 hi (by omega), backE_eq]
    by_cases q : nth 0 [a, b, c] i = 0
    · rw [if_pos q, q, bne_self_eq_false]; rfl
    · rw [if_neg q, show (nth 0 [a, b, c] i != 0) = true from bne_iff_ne.2 q]; rfl
  obtain ⟨M, rfl⟩ : ∃ M, N = M + 4 := ⟨N - 4, by omega⟩
  have e0 := hb 0 (by omega)
  have e1 := hb 1 (by omega)
  have e2 := hb 2 (by omega)
  simp only [loopD]
  refine (e0 _).trans ?_
  have n0 : nth 0 [a, b, c] 0 = a := rfl
  have n1 : nth 0 [a, b, c] 1 = b := rfl
  have n2 : nth 0 [a, b, c] 2 = c := rfl
  rw [n0]
  by_cases ha : a = 0
  · rw [if_pos ha, if_pos ha]
    refine (e1 _).trans ?_
    rw [n1]
    by_cases hb' : b = 0
    · rw [if_pos hb', if_pos hb']
      refine (e2 _).trans ?_
      rw [n2]
      by_cases hc : c = 0
      · rw [if_pos hc, hc]; rfl
      · rw [if_neg hc]
    · rw [if_neg hb', if_neg hb']
  · rw [if_neg ha, if_neg ha]
theorem CompareS_eq {N : Nat} (hN : 1000 ≤ N) {s : Tr} (h : s.2.2.length ≤ 4) (r : Tr) : D_summary_Compare N (s, r, ()) = some (cmpS s r, ()) := by
  simp only [D_summary_Compare, summary_Compare_1, Cmp_eq N s.1 r.1, Cmp_eq N s.2.1 r.2.1, Compare_eq h hN, Option.bind_some, Or3_eq (show 10 ≤ N by omega)]
  unfold cmpS sl
  simp only [lexc]
  congr 2
  by_cases c1 : s.1 < r.1
  · simp [c1]
  · by_cases c2 : r.1 < s.1
    · simp [c1, c2]
    · by_cases c3 : s.2.1 < r.2.1
      · simp [c1, c2, c3]
      · by_cases c4 : r.2.1 < s.2.1 <;> simp [c1, c2, c3, c4]
theorem cmp_ok (xs : List Tr) (h : xs.length < 4611686018427387904) : SortOk (fun p q => some (cmpS p q)) xs where
  lt := h
  tot := fun a _ b _ => ⟨_, rfl⟩
  irrefl := fun a _ => by show decide (lexc (sl a) (sl a) < 0) = false; rw [lexc_self]; rfl
  trans := fun a _ b _ c _ h1 h2 => decide_eq_true (lexc_trans (of_decide_eq_true h1) (of_decide_eq_true h2))
  anti := fun a _ b _ h1 h2 => sl_inj (lexc_ge (of_decide_eq_false h1) (of_decide_eq_false h2))
def RiseS (f : List Tr) : Prop := f.Pairwise fun a b => cmpS a b < 0
theorem RiseS.nodup {f : List Tr} (h : RiseS f) : f.Nodup := h.imp fun {a b} h e => by subst e; unfold cmpS at h; rw [lexc_self] at h; omega
theorem riseS_uniq {f g : List Tr} (hf : RiseS f) (hg : RiseS g) (h : ∀ t, t ∈ f ↔ t ∈ g) : f = g :=
  sorted_uniq (r := fun a b => cmpS a b ≤ 0) f g (fun a _ b _ h1 h2 => sl_inj (lexc_eq (by have := lexc_neg (sl a) (sl b); unfold cmpS at h1 h2; omega))) ((List.perm_ext_iff_of_nodup hf.nodup hg.nodup).2 h) (hf.imp fun h => by omega) (hg.imp fun h => by omega)
/-! ### Equal ones behind each other are taken out -/
open Classical in
noncomputable def cpt (xs : List Tr) : Nat → List Tr
  | 0 => []
  | n + 1 => if 0 < n ∧ nth z3 xs n = nth z3 xs (n - 1) then cpt xs n else cpt xs n ++ [nth z3 xs n]
theorem cpt_len (xs : List Tr) : ∀ n, (cpt xs n).length ≤ n
  | 0 => Nat.le_refl _
  | n + 1 => by
    have := cpt_len xs n
    rw [cpt]
    split
    · omega
    · rw [List.length_append, List.length_singleton]; omega
theorem cpt_mem {xs : List Tr} : ∀ n, ∀ x, x ∈ cpt xs n ↔ ∃ i, i < n ∧ nth z3 xs i = x
  | 0, x => ⟨fun h => (by cases h), fun ⟨i, h, _⟩ => (by omega)⟩
  | n + 1, x => by
    rw [cpt]
    split
    · rename_i q
      rw [cpt_mem n x]
      refine ⟨fun ⟨i, h1, h2⟩ => ⟨i, by omega, h2⟩, fun ⟨i, h1, h2⟩ => ?_⟩
      by_cases e : i = n
      · subst e; exact ⟨i - 1, by omega, by rw [← q.2]; exact h2⟩
      · exact ⟨i, by omega, h2⟩
    · rw [List.mem_append, List.mem_singleton, cpt_mem n x]
      refine ⟨fun h => ?_, fun ⟨i, h1, h2⟩ => ?_⟩
      · rcases h with ⟨i, h1, h2⟩ | h
        · exact ⟨i, by omega, h2⟩
        · exact ⟨n, by omega, h.symm⟩
      · by_cases e : i = n
        · subst e; exact Or.inr h2.symm
        · exact Or.inl ⟨i, by omega, h2⟩
theorem cpt_rise {xs : List Tr} (hs : xs.Pairwise fun a b => ¬ cmpS b a < 0) : ∀ n, n ≤ xs.length → RiseS (cpt xs n)
  | 0, _ => List.Pairwise.nil
  | n + 1, hn => by
    have hr := cpt_rise hs n (by omega)
    rw [cpt]
    split
    · exact hr
    · rename_i q
      refine List.pairwise_append.2 ⟨hr, by simp, fun a ha b hb => ?_⟩
      rw [List.mem_singleton] at hb
      subst hb
      obtain ⟨i, hi, rfl⟩ := (cpt_mem n a).1 ha
      have hle : ∀ i j, i < j → j < xs.length → cmpS (nth z3 xs i) (nth z3 xs j) ≤ 0 := fun i j hij hj => by
        have := List.pairwise_iff_getElem.1 hs i j (by omega) hj hij
        rw [nth_lt (by omega), nth_lt hj]
        have h2 := lexc_neg (sl xs[j]) (sl xs[i])
        unfold cmpS at *
        omega
      have h1 := hle i n hi (by omega)
      show cmpS (nth z3 xs i) (nth z3 xs n) < 0
      rcases Int.lt_or_eq_of_le h1 with h | h
      · exact h
      · exfalso
        have e : nth z3 xs i = nth z3 xs n := sl_inj (lexc_eq h)
        apply q
        refine ⟨by omega, ?_⟩
        by_cases e2 : i = n - 1
        · rw [← e2]; exact e.symm
        · have h2 := hle i (n - 1) (by omega) (by omega)
          have h3 := hle (n - 1) n (by omega) (by omega)
          rw [e] at h2
          have h4 := lexc_neg (sl (nth z3 xs (n - 1))) (sl (nth z3 xs n))
          exact sl_inj (lexc_eq (by unfold cmpS at *; omega))
theorem Eq_eq {N : Nat} (hN : 1000 ≤ N) {s : Tr} (h : s.2.2.length ≤ 4) (r : Tr) : ∃ b, D_summary_Least_c1 N (s, r, ()) = some (b, ()) ∧ (b = true ↔ s = r) := by
  refine ⟨cmpS s r == 0, ?_, ?_⟩
  · simp only [D_summary_Least_c1, summary_Least_c1_1, show (s.1, s.2.1, s.2.2) = s from rfl, show (r.1, r.2.1, r.2.2) = r from rfl, CompareS_eq hN h r, Option.bind_some]
  · rw [beq_iff_eq]
    exact ⟨fun e => sl_inj (lexc_eq e), fun e => by subst e; exact lexc_self _⟩
theorem Compact_eq {N : Nat} (hN : 1000 ≤ N) {xs : List Tr} (hl : xs.length ≤ 64) (h4 : ∀ s ∈ xs, s.2.2.length ≤ 4) : ∃ ys, D_slices_CompactFunc_Lapi_Summary_api_Summary_h N xs = some (cpt xs xs.length, ys) := by
  have hx4 : ∀ i, i < xs.length → (nth z3 xs i).2.2.length ≤ 4 := fun i hi => h4 _ (nth_mem hi)
  simp only [D_slices_CompactFunc_Lapi_Summary_api_Summary_h, slices_CompactFunc_Lapi_Summary_api_Summary_h_6]
  have hall : ∀ n, n ≤ xs.length → (∀ i, 0 < i → i < n → nth z3 xs i ≠ nth z3 xs (i - 1)) → cpt xs n = xs.take n := by
    intro n
    induction n with
    | zero => intro _ _; rfl
    | succ n ih =>
      intro hn hne
      rw [cpt, if_neg (fun q => hne n q.1 (by omega) q.2), ih (by omega) fun i h0 hi => hne i h0 (by omega), List.take_succ_eq_append_getElem (by omega), nth_lt (by omega)]
  by_cases h2 : xs.length < 2
  · rw [d_true (by omega), cond_true, hall _ (Nat.le_refl _) fun i h0 hi => by omega, List.take_length]
    exact ⟨_, rfl⟩
  rw [d_false (by omega), cond_false]
  simp only [joinD, loopE]
  refine loopD_Q (fun r => ∃ ys, r = some (cpt xs xs.length, ys)) xs.length (fun t s => s = ((t + 1 : Nat) : Int) ∧ t + 1 ≤ xs.length ∧ ∀ i, 0 < i → i < t + 1 → nth z3 xs i ≠ nth z3 xs (i - 1)) ?_ ?_ (by omega) ⟨rfl, by omega, fun i _ _ => by omega⟩
  · rintro t s ht ⟨rfl, hts, hne⟩ kn hk
    simp only [slices_CompactFunc_Lapi_Summary_api_Summary_h_5]
    by_cases hlt : t + 1 < xs.length
    case neg =>
      rw [d_false (show ¬ ((t + 1 : Nat) : Int) < (xs.length : Int) by omega), cond_false, slices_CompactFunc_Lapi_Summary_api_Summary_h_1]
      have : t + 1 = xs.length := by omega
      rw [hall _ (Nat.le_refl _) fun i h0 hi => hne i h0 (by omega), List.take_length]
      exact ⟨_, rfl⟩
    have e1 : IntKind.i64.wrap (((t + 1 : Nat) : Int) - 1) = ((t : Nat) : Int) := by rw [w64 (by omega) (by omega)]; omega
    have e2 : IntKind.i64.wrap (((t + 1 : Nat) : Int) + 1) = ((t + 1 + 1 : Nat) : Int) := by rw [w64 (by omega) (by omega)]; omega
    obtain ⟨b, hb, hb2⟩ := Eq_eq hN (hx4 (t + 1) hlt) (nth z3 xs t)
    simp only [lt_d hlt, cond_true, joinD, e1, ge0_d, lt_d (show t < xs.length by omega), Bool.and_self, Int.toNat_natCast, nth3, hb, Option.bind_some]
    cases b with
    | false =>
      simp only [cond_false, slices_CompactFunc_Lapi_Summary_api_Summary_h_2, e2, backE_eq]
      exact hk _ ⟨rfl, by omega, fun i h0 hi => by
        by_cases e : i = t + 1
        · subst e
          intro q
          exact absurd (hb2.2 q) (by simp)
        · exact hne i h0 (by omega)⟩
    | true =>
      have heq := hb2.1 rfl
      rw [cond_true, d_true (show ((t + 1 : Nat) : Int) ≤ (xs.length : Int) by omega), Bool.and_self, cond_true]
      simp only [loopE]
      -- from here on the later ones are moved ahead
      obtain ⟨s, ⟨k, row, rfl, hk1, hrl, hpre, -⟩, hs⟩ := loopD_inv (N := N) (g := fun (s : Int × Int × List Tr) kn => slices_CompactFunc_Lapi_Summary_api_Summary_h_4 N (fun s => slices_CompactFunc_Lapi_Summary_api_Summary_h_3 N s.1 s.2) (t + 1) s.1 s.2.1 s.2.2 (backE (t + 1) kn)) (k := fun s => slices_CompactFunc_Lapi_Summary_api_Summary_h_3 N s.1 s.2.2) (xs.length - (t + 1) - 1)
        (fun u s => ∃ (k : Nat) (row : List Tr), s = ((k : Int), ((u + 1 : Nat) : Int), row) ∧ k ≤ t + 1 + u ∧ row.length = xs.length ∧ row.take k = cpt xs (t + 1 + (u + 1)) ∧ ∀ i, t + 1 + u ≤ i → i < xs.length → nth z3 row i = nth z3 xs i)
        (fun u s hu h => by
          obtain ⟨k, row, rfl, h1, h2, h3, h5⟩ := h
          have f1 : IntKind.i64.wrap (((u + 1 : Nat) : Int) - 1) = ((u : Nat) : Int) := by rw [w64 (by omega) (by omega)]; omega
          have f2 : IntKind.i64.wrap (((u + 1 : Nat) : Int) + 1) = ((u + 1 + 1 : Nat) : Int) := by rw [w64 (by omega) (by omega)]; omega
          have g1 := h5 (t + 1 + (u + 1)) (by omega) (by omega)
          have g2 := h5 (t + 1 + u) (by omega) (by omega)
          obtain ⟨b, hb, hb2⟩ := Eq_eq hN (hx4 (t + 1 + (u + 1)) (by omega)) (nth z3 xs (t + 1 + u))
          have hc : cpt xs (t + 1 + (u + 1 + 1)) = if nth z3 xs (t + 1 + (u + 1)) = nth z3 xs (t + 1 + u) then cpt xs (t + 1 + (u + 1)) else cpt xs (t + 1 + (u + 1)) ++ [nth z3 xs (t + 1 + (u + 1))] := by
            show cpt xs (t + 1 + (u + 1) + 1) = _
            rw [cpt]
            by_cases q : nth z3 xs (t + 1 + (u + 1)) = nth z3 xs (t + 1 + u)
            · rw [if_pos q, if_pos ⟨by omega, q⟩]
            · rw [if_neg q, if_neg fun h => q h.2]
          have hrun : ∀ kn : Int × Int × List Tr → Option Rt_slices_CompactFunc_Lapi_Summary_api_Summary_h, slices_CompactFunc_Lapi_Summary_api_Summary_h_4 N (fun s => slices_CompactFunc_Lapi_Summary_api_Summary_h_3 N s.1 s.2) (t + 1) (k : Int) ((u + 1 : Nat) : Int) row (backE (t + 1) kn) = bif !b then kn (((k + 1 : Nat) : Int), ((u + 1 + 1 : Nat) : Int), row.set k (nth z3 xs (t + 1 + (u + 1)))) else kn ((k : Int), ((u + 1 + 1 : Nat) : Int), row) := fun kn => by
            simp only [slices_CompactFunc_Lapi_Summary_api_Summary_h_4, f1, f2, ge0_d, Int.toNat_natCast, lt_d (show u + 1 < row.length - (t + 1) by omega), lt_d (show u < row.length - (t + 1) by omega), lt_d (show k < row.length by omega), Bool.and_self, cond_true, nth3, g1, g2, hb, Option.bind_some, backE_eq, ix1 (show k < 64 by omega) (by omega)]
            rfl
          cases b with
          | true =>
            refine ⟨_, ⟨k, row, rfl, by omega, h2, ?_, fun i hi hil => h5 i (by omega) hil⟩, fun kn => (hrun kn).trans rfl⟩
            rw [hc, if_pos (hb2.1 rfl), h3]
          | false =>
            have hne' : ¬ nth z3 xs (t + 1 + (u + 1)) = nth z3 xs (t + 1 + u) := fun q => by have := hb2.2 q; cases this
            refine ⟨_, ⟨k + 1, row.set k (nth z3 xs (t + 1 + (u + 1))), rfl, by omega, by simpa using h2, ?_, fun i hi hil => ?_⟩, fun kn => (hrun kn).trans rfl⟩
            · rw [hc, if_neg hne', ← h3, List.take_succ_eq_append_getElem (by simp; omega), List.getElem_set_self, List.take_set_of_le (Nat.le_refl _)]
            · rw [nth_set (by omega), if_neg (by omega)]
              exact h5 i (by omega) hil)
        (fun s h kn => by
          obtain ⟨k, row, rfl, h1, h2, h3, h5⟩ := h
          simp only [slices_CompactFunc_Lapi_Summary_api_Summary_h_4]
          rw [d_false (show ¬ ((xs.length - (t + 1) - 1 + 1 : Nat) : Int) < ((row.length - (t + 1) : Nat) : Int) by omega), cond_false])
        (by omega) (s := (((t + 1 : Nat) : Int), 1, xs)) ⟨t + 1, xs, rfl, by omega, rfl, by
          show xs.take (t + 1) = cpt xs (t + 1 + 1)
          rw [cpt, if_pos ⟨by omega, heq⟩, hall (t + 1) (by omega) hne], fun i _ _ => rfl⟩
      rw [hs]
      simp only [slices_CompactFunc_Lapi_Summary_api_Summary_h_3]
      have hkl : k ≤ xs.length := by omega
      have hlen : (row.take k ++ List.replicate (row.length - k) z3).length = xs.length := by simp; omega
      rw [show ((k : Int)).toNat = k from rfl, d_true (show (0 : Int) ≤ (k : Int) by omega), d_true (show (k : Int) ≤ (row.length : Int) by omega), Bool.and_self, cond_true, d_true (show (k : Int) ≤ ((row.take k ++ List.replicate (row.length - k) ((0 : Int), ((0 : Int), ([] : List Int)))).length : Int) by rw [show (row.take k ++ List.replicate (row.length - k) ((0 : Int), ((0 : Int), ([] : List Int)))).length = xs.length from hlen]; omega)]
      refine ⟨row.take k ++ List.replicate (row.length - k) z3, ?_⟩
      have hkey : ((row.take k ++ List.replicate (row.length - k) z3).take k).drop ((0 : Int)).toNat = cpt xs xs.length := by
        rw [show ((0 : Int)).toNat = 0 from rfl, List.drop_zero, List.take_append_of_le_length (by simp; omega), List.take_of_length_le (by rw [List.length_take]; exact Nat.min_le_left _ _), hpre]
        congr 1
        omega
      simp only [show decide ((0 : Int) ≤ 0) = true from rfl, Bool.and_self, cond_true]
      exact congrArg (fun z => some (z, row.take k ++ List.replicate (row.length - k) z3)) hkey
  · rintro s ⟨rfl, hts, hne⟩ kn
    omega
/-! ### The front -/
/-- Summaries that may be, of one length, not too many. -/
structure SL (xs : List Tr) : Prop where
  len : xs.length ≤ 64
  ok : ∀ s ∈ xs, sumCheck (sm s) 4 = 0
  one : ∀ s ∈ xs, s.1 + s.2.2.length = (nth z3 xs 0).1 + (nth z3 xs 0).2.2.length
theorem SL.p4 {xs : List Tr} (h : SL xs) {s : Tr} (hs : s ∈ xs) : s.2.2.length ≤ 4 := by
  have := (sok (h.ok s hs)).k1
  have := (sok (h.ok s hs)).k4
  omega
def minS (xs : List Tr) (s : Tr) : Prop := s ∈ xs ∧ ∀ r ∈ xs, leqS r s = true → r = s
theorem cloneS_eq {N : Nat} {a : List Tr} (h : a.length ≤ 1000) : D_slices_Clone_Lapi_Summary_api_Summary N (a, ()) = some a := by
  simp only [D_slices_Clone_Lapi_Summary_api_Summary, slices_Clone_Lapi_Summary_api_Summary_1]
  rw [d_true (by simp; omega)]
  cases a with
  | nil => simp [dem2]; rfl
  | cons x xs => simp; rfl
noncomputable def noLess (l : List Tr) (s : Tr) : Bool := @decide (∀ r ∈ l, leqS r s = true → r = s) (Classical.propDecidable _)
theorem noLess_iff {l : List Tr} {s : Tr} : noLess l s = true ↔ ∀ r ∈ l, leqS r s = true → r = s := by unfold noLess; exact @decide_eq_true_iff _ (Classical.propDecidable _)
theorem noLess_snoc {l : List Tr} {b s : Tr} : noLess (l ++ [b]) s = (noLess l s && (@decide (b = s) (Classical.propDecidable _) || !leqS b s)) := by
  classical
  rw [Bool.eq_iff_iff, Bool.and_eq_true, noLess_iff, noLess_iff]
  refine ⟨fun h => ⟨fun r hr => h r (List.mem_append_left _ hr), ?_⟩, fun h r hr => ?_⟩
  · have h1 := h b (List.mem_append_right _ (List.mem_singleton.2 rfl))
    cases q : leqS b s with
    | false => simp
    | true => rw [Bool.or_eq_true]; exact Or.inl (@decide_eq_true _ (Classical.propDecidable _) (h1 q))
  · rcases List.mem_append.1 hr with hr | hr
    · exact h.1 r hr
    · rw [List.mem_singleton] at hr
      subst hr
      intro q
      have h2 := h.2
      rw [q] at h2
      simpa using h2
theorem LeastS_eq {N : Nat} (hN : 1000 ≤ N) {xs : List Tr} (h : SL xs) : ∃ f, D_summary_Least N (xs, ()) = some f ∧ RiseS f ∧ (∀ s, s ∈ f ↔ minS xs s) ∧ f.length ≤ xs.length := by
  classical
  have hlen := h.len
  obtain ⟨ys, y1, y2⟩ := sortR_ok (cmp_ok xs (by omega))
  have hsort : sortR (fun p q => (D_summary_Compare N (p, q, ())).map (·.1)) xs = some ys := sortR_congr (fun a ha b hb => by rw [CompareS_eq hN (h.p4 ha) b]; rfl) y1
  have hyl : ys.length = xs.length := y2.1.length_eq
  have hym : ∀ t, t ∈ ys ↔ t ∈ xs := fun t => y2.1.mem_iff
  obtain ⟨zs, hcm⟩ := Compact_eq hN (xs := ys) (by omega) fun s hs => h.p4 ((hym s).1 hs)
  have hL := cpt_rise (xs := ys) (y2.2.imp fun {a b} h => of_decide_eq_false h) ys.length (Nat.le_refl _)
  have hLl := cpt_len ys ys.length
  have hLm : ∀ s, s ∈ cpt ys ys.length ↔ s ∈ xs := fun s => by
    rw [cpt_mem, ← hym]
    exact ⟨fun ⟨i, h1, h2⟩ => h2 ▸ nth_mem h1, fun h => mem_nth h⟩
  generalize hLe : cpt ys ys.length = L at *
  have hnd := hL.nodup
  let keep : Tr → Bool := noLess L
  refine ⟨L.filter keep, ?_, hL.sublist List.filter_sublist, fun s => ?_, Nat.le_trans (List.length_filter_le _ _) (by omega)⟩
  · simp only [D_summary_Least, summary_Least_6, cloneS_eq (N := N) (show xs.length ≤ 1000 by omega), Option.bind_some, hsort, hcm, joinD, loopE]
    refine loopD_path (N := N) L.length (fun i => ((i : Int), (L.take i).filter keep)) (fun i hi kn => ?_) (fun kn => ?_) (by omega)
    · have hp : (L[i]).2.2.length ≤ 4 := h.p4 ((hLm _).1 (List.getElem_mem hi))
      have hfl := List.length_filter_le keep (L.take i)
      rw [List.length_take] at hfl
      have hstep : (L.take (i + 1)).filter keep = (L.take i).filter keep ++ if keep L[i] = true then [L[i]] else [] := by
        rw [List.take_succ_eq_append_getElem hi, List.filter_append]
        congr 1
        by_cases q : keep L[i] = true
        · rw [if_pos q]; simp [q]
        · rw [if_neg q]; simp [q]
      have hn : nth ((0 : Int), ((0 : Int), ([] : List Int))) L i = L[i] := nth_lt hi
      simp only [summary_Least_5, lt_d hi, ge0_d, Bool.and_self, cond_true, joinD, Int.toNat_natCast, hn, loopE]
      obtain ⟨p1, p2, p3⟩ : ∃ a b c, L[i] = (a, b, c) := ⟨_, _, _, rfl⟩
      refine Eq.trans (congrArg (fun b => loopD _ N (b, (0 : Int))) (noLess_iff.2 (fun r hr => by rw [List.take_zero] at hr; cases hr) : noLess (L.take 0) L[i] = true).symm) (loopD_path (N := N) L.length (fun j => (noLess (L.take j) L[i], (j : Int))) (k := kn (((i + 1 : Nat) : Int), (L.take (i + 1)).filter keep)) (fun j hj kn2 => ?_) (fun kn2 => ?_) (by omega))
      · have hnj : nth ((0 : Int), ((0 : Int), ([] : List Int))) L j = L[j] := nth_lt hj
        have hinj : L[j] = L[i] ↔ i = j := ⟨fun e => ((List.getElem_inj hnd).1 e).symm, fun e => by subst e; rfl⟩
        have hs2 : noLess (L.take (j + 1)) L[i] = (noLess (L.take j) L[i] && (@decide (L[j] = L[i]) (Classical.propDecidable _) || !leqS L[j] L[i])) := by
          rw [List.take_succ_eq_append_getElem hj]; exact noLess_snoc
        simp only [summary_Least_4, lt_d hj, ge0_d, Bool.and_self, cond_true, Int.toNat_natCast, hnj, backE_eq, ix1 hj (show L.length ≤ 100000 by omega), show (L[j].1, L[j].2.1, L[j].2.2) = L[j] from rfl, show (L[i].1, L[i].2.1, L[i].2.2) = L[i] from rfl, SLeq_eq hN, Option.bind_some]
        rw [hs2]
        cases q : noLess (L.take j) L[i] with
        | false => rfl
        | true =>
          simp only [cond_true, Bool.true_and]
          by_cases q2 : i = j
          · subst q2
            rw [show ((i : Int) == (i : Int)) = true from beq_self_eq_true _, cond_true, @decide_eq_true _ (Classical.propDecidable _) (hinj.2 rfl), Bool.true_or]; rfl
          · rw [show ((i : Int) == (j : Int)) = false from beq_false_of_ne (by omega), cond_false, @decide_eq_false _ (Classical.propDecidable _) (fun h => q2 (hinj.1 h)), Bool.false_or]; rfl
      · simp only [summary_Least_4, lt_self, cond_false, List.take_length]
        have hk : noLess L L[i] = keep L[i] := rfl
        rw [hk, hstep]
        simp only [summary_Least_3, clone_eq (N := N) (show (L[i]).2.2.length ≤ 1000 by omega), Option.bind_some]
        cases q : keep L[i] with
        | false => simp only [cond_false, summary_Least_2, backE_eq, ix1 hi (show L.length ≤ 100000 by omega), Bool.false_eq_true, if_false, List.append_nil]; rfl
        | true =>
          rw [cond_true, d_true (by simp only [List.length_singleton, List.length_filter_le]; omega), show Nat.ble 1 40 = true from rfl, Bool.and_self, cond_true]
          simp only [summary_Least_2, backE_eq, ix1 hi (show L.length ≤ 100000 by omega), if_true]
          rfl
    · simp only [summary_Least_5, lt_self, cond_false, summary_Least_1, List.take_length]
  · rw [List.mem_filter, hLm]
    refine and_congr Iff.rfl ?_
    refine Iff.trans noLess_iff ?_
    exact ⟨fun h r hr => h r ((hLm r).2 hr), fun h r hr => h r ((hLm r).1 hr)⟩
theorem FrontS_eq {N : Nat} (hN : 1000 ≤ N) (xs : List Tr) : (¬ SL xs ∧ ∃ e, e ≠ 0 ∧ D_summary_Front N (xs, ()) = some ([], e, ())) ∨ (SL xs ∧ ∃ f, D_summary_Front N (xs, ()) = some (f, 0, ()) ∧ RiseS f ∧ (∀ s, s ∈ f ↔ minS xs s) ∧ f.length ≤ xs.length) := by
  simp only [D_summary_Front, summary_Front_5]
  by_cases hl : 64 < xs.length
  · exact .inl ⟨fun h => absurd h.len (by omega), 1, by decide, by rw [d_true (show (xs.length : Int) > 64 by omega)]; rfl⟩
  rw [d_false (show ¬ (xs.length : Int) > 64 by omega), cond_false]
  simp only [joinD, loopE]
  have hbody : ∀ (i : Nat), i < xs.length → ∀ kn, summary_Front_4 N (fun _s => summary_Front_3 N _s) xs xs (xs.length : Int) (i : Int) (backE (xs, xs, (xs.length : Int)) kn) = bif sumCheck (sm (nth z3 xs i)) 4 != 0 then some ([], sumCheck (sm (nth z3 xs i)) 4, ()) else kn ((i : Int) + 1) := fun i hi kn => by
    simp only [summary_Front_4, lt_d hi, ge0_d, Bool.and_self, cond_true, Int.toNat_natCast, nth3, SCheck_eq hN, Option.bind_some, backE_eq, ix1 hi (show xs.length ≤ 100000 by omega)]
  by_cases hg : ∀ i, i < xs.length → sumCheck (sm (nth z3 xs i)) 4 = 0
  case neg =>
    have hex : ∃ i, i < xs.length ∧ ¬ sumCheck (sm (nth z3 xs i)) 4 = 0 := Classical.byContradiction fun hn => hg fun i hi => Classical.byContradiction fun hb => hn ⟨i, hi, hb⟩
    obtain ⟨i0, a1, a2, a3⟩ := first_ix hex
    refine .inl ⟨fun h => a2 (h.ok _ (nth_mem a1)), sumCheck (sm (nth z3 xs i0)) 4, a2, ?_⟩
    refine loopD_const (fun s => ∃ i : Nat, s = (i : Int) ∧ i ≤ i0) (fun s => xs.length - s.toNat) _ ?_ N _ ⟨0, rfl, Nat.zero_le _⟩ (by simp; omega)
    rintro s ⟨i, rfl, hi⟩ kn hkn
    by_cases q : i = i0
    · subst q
      rw [hbody i a1, show (sumCheck (sm (nth z3 xs i)) 4 != 0) = true from bne_iff_ne.2 a2, cond_true]
    · have h0 : sumCheck (sm (nth z3 xs i)) 4 = 0 := Classical.not_not.1 (a3 i (by omega))
      rw [hbody i (by omega), h0, bne_self_eq_false, cond_false]
      exact hkn _ ⟨i + 1, by simp, by omega⟩ (by simp; omega)
  have e1 : loopD (fun (s : Int) kn => summary_Front_4 N (fun _s => summary_Front_3 N _s) xs xs (xs.length : Int) s (backE (xs, xs, (xs.length : Int)) kn)) N 0 = summary_Front_3 N xs := by
    refine loopD_pass (n := xs.length) (by omega) (fun i hi kn => ?_) (fun kn => ?_) (by omega)
    · rw [hbody i hi, hg i hi, bne_self_eq_false, cond_false]
    · simp only [summary_Front_4, lt_self, cond_false]
  rw [e1]
  simp only [summary_Front_3, joinD, loopE]
  have hout : ∀ i, i < xs.length → SOk (nth z3 xs i) := fun i hi => sok (hg i hi)
  have hbody2 : ∀ (i : Nat), i < xs.length → ∀ kn, summary_Front_2 N (fun _s => summary_Front_1 N _s) xs xs (xs.length : Int) (i : Int) (backE (xs, xs, (xs.length : Int)) kn) = bif (nth z3 xs i).1 + (nth z3 xs i).2.2.length != (nth z3 xs 0).1 + (nth z3 xs 0).2.2.length then some ([], 3, ()) else kn ((i : Int) + 1) := fun i hi kn => by
    simp only [summary_Front_2, lt_d hi, ge0_d, Bool.and_self, cond_true, Int.toNat_natCast, nth3, SOut_eq (N := N) (hout i hi), SOut_eq (N := N) (hout 0 (by omega)), Option.bind_some, backE_eq, ix1 hi (show xs.length ≤ 100000 by omega), show ((0 : Int)).toNat = 0 from rfl, show decide ((0 : Int) ≤ 0) = true from rfl, d_true (show (0 : Int) < (xs.length : Int) by omega)]
  by_cases hg2 : ∀ i, i < xs.length → (nth z3 xs i).1 + (nth z3 xs i).2.2.length = (nth z3 xs 0).1 + (nth z3 xs 0).2.2.length
  case neg =>
    have hex : ∃ i, i < xs.length ∧ ¬ (nth z3 xs i).1 + (nth z3 xs i).2.2.length = (nth z3 xs 0).1 + (nth z3 xs 0).2.2.length := Classical.byContradiction fun hn => hg2 fun i hi => Classical.byContradiction fun hb => hn ⟨i, hi, hb⟩
    refine .inl ⟨fun h => (by obtain ⟨i, hi, hb⟩ := hex; exact hb (h.one _ (nth_mem hi))), 3, by decide, ?_⟩
    exact loopD_hit (n := xs.length) (by omega) (fun i => ¬ (nth z3 xs i).1 + (nth z3 xs i).2.2.length = (nth z3 xs 0).1 + (nth z3 xs 0).2.2.length) (fun i hi hb kn => by rw [hbody2 i hi, bne_iff_ne.2 hb, cond_true]) (fun i hi hb kn => by rw [hbody2 i hi, bne_eq_false_iff_eq.2 (Classical.not_not.1 hb), cond_false]) (by omega) hex
  have hSL : SL xs := ⟨by omega, fun s hs => by obtain ⟨i, hi, rfl⟩ := mem_nth (z := z3) hs; exact hg i hi, fun s hs => by obtain ⟨i, hi, rfl⟩ := mem_nth (z := z3) hs; exact hg2 i hi⟩
  obtain ⟨f, f1, f2, f3, f4⟩ := LeastS_eq hN hSL
  refine .inr ⟨hSL, f, ?_, f2, f3, f4⟩
  refine loopD_pass (n := xs.length) (by omega) (fun i hi kn => ?_) (fun kn => ?_) (by omega)
  · rw [hbody2 i hi, bne_eq_false_iff_eq.2 (hg2 i hi), cond_false]
  · simp only [summary_Front_2, lt_self, cond_false, summary_Front_1, f1, Option.bind_some]
/-- Below each there is one of the front. -/
theorem min_under {xs : List Tr} (h : SL xs) {s : Tr} (hs : s ∈ xs) : ∃ r, minS xs r ∧ leqS r s = true := by
  have key : ∀ n s, s ∈ xs → (xs.filter fun r => leqS r s).length < n → ∃ r, minS xs r ∧ leqS r s = true := by
    intro n
    induction n with
    | zero => intro s _ h; omega
    | succ n ih =>
      intro s hs hl
      by_cases q : minS xs s
      · exact ⟨s, q, leqS_refl (h.ok s hs)⟩
      · obtain ⟨r, hr, hrs, hne⟩ : ∃ r, r ∈ xs ∧ leqS r s = true ∧ r ≠ s := Classical.byContradiction fun hn => q ⟨hs, fun r hr hrs => Classical.byContradiction fun hne => hn ⟨r, hr, hrs, hne⟩⟩
        obtain ⟨m, hm, hmr⟩ := ih r hr (by
          have := Go.Abs.filter_lt (p := fun q => leqS q r) (q := fun q => leqS q s) xs (fun x _ hx => leqS_trans hx hrs) ⟨s, hs, leqS_refl (h.ok s hs), by
            cases e : leqS s r with
            | false => rfl
            | true => exact absurd (leqS_anti hrs e) hne⟩
          omega)
        exact ⟨m, hm, leqS_trans hmr hrs⟩
  exact key _ s hs (Nat.lt_succ_self _)
end Go.Proofs.Ytololihlpldcdaa
