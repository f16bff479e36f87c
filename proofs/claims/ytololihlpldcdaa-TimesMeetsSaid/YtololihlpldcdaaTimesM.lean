/- times.Both, times.Either: what they come to. -/
import Derived.Test.YtololihlpldcdaaTimesC
namespace Go.Proofs.Ytololihlpldcdaa
open Go.Abs
/-- Two lists that may stand together. -/
def LL (f g : List (List Int)) : Prop := TL f ∧ TL g ∧ (0 < f.length → 0 < g.length → (nth [] f 0).length = (nth [] g 0).length)
theorem LL.turn {f g : List (List Int)} (h : LL f g) : LL g f := ⟨h.2.1, h.1, fun a b => (h.2.2 b a).symm⟩
theorem lists_eq {N : Nat} (hN : 1000 ≤ N) (f g : List (List Int)) : ∃ e, D_times_lists N (f, g, ()) = some (e, ()) ∧ (e = 0 ↔ LL f g) := by
  obtain ⟨e, e1, e2⟩ := List_eq hN f
  obtain ⟨x, x1, x2⟩ := List_eq hN g
  simp only [D_times_lists, times_lists_1, e1, x1, Option.bind_some]
  by_cases hf : TL f
  case neg =>
    have he : e ≠ 0 := fun h' => hf (e2.1 h')
    exact ⟨e, by rw [show (e != 0) = true from bne_iff_ne.2 he, cond_true], fun h => absurd h he, fun h => absurd h.1 hf⟩
  obtain rfl := e2.2 hf
  by_cases hg : TL g
  case neg =>
    have he : x ≠ 0 := fun h' => hg (x2.1 h')
    exact ⟨x, by rw [bne_self_eq_false, cond_false, show (x != 0) = true from bne_iff_ne.2 he, cond_true], fun h => absurd h he, fun h => absurd h.2.1 hg⟩
  obtain rfl := x2.2 hg
  simp only [bne_self_eq_false, cond_false]
  by_cases h1 : 0 < f.length
  case neg => exact ⟨0, by rw [d_false (by omega), cond_false], fun _ => ⟨hf, hg, fun h => absurd h h1⟩, fun _ => rfl⟩
  by_cases h2 : 0 < g.length
  case neg => exact ⟨0, by rw [d_true (by omega), cond_true, d_false (by omega), cond_false], fun _ => ⟨hf, hg, fun _ h => absurd h h2⟩, fun _ => rfl⟩
  have d1 : decide ((0 : Int) < (f.length : Int)) = true := d_true (by omega)
  have d2 : decide ((0 : Int) < (g.length : Int)) = true := d_true (by omega)
  simp only [d_true (show (f.length : Int) > 0 by omega), d_true (show (g.length : Int) > 0 by omega), d1, d2, show decide ((0 : Int) ≤ 0) = true from rfl, Bool.and_self, cond_true, Int.toNat_zero]
  by_cases h3 : (nth [] f 0).length = (nth [] g 0).length
  · exact ⟨0, by rw [h3, bne_self_eq_false, cond_false], fun _ => ⟨hf, hg, fun _ _ => h3⟩, fun _ => rfl⟩
  · exact ⟨3, by rw [show (((nth [] f 0).length : Int) != ((nth [] g 0).length : Int)) = true from bne_iff_ne.2 (by omega), cond_true], fun h => absurd h (by decide), fun h => absurd (h.2.2 h1 h2) h3⟩
/-- The greater numbers. -/
def ovr (a b : List Int) : List Int := List.zipWith (fun x y => if y > x then y else x) a b
theorem ovr_len {a b : List Int} (h : a.length = b.length) : (ovr a b).length = a.length := by unfold ovr; rw [List.length_zipWith]; omega
theorem ovr_nth {a b : List Int} (h : a.length = b.length) {i : Nat} (hi : i < a.length) : nth 0 (ovr a b) i = if nth 0 b i > nth 0 a i then nth 0 b i else nth 0 a i := by
  rw [nth_lt (by rw [ovr_len h]; exact hi), nth_lt hi, nth_lt (by omega)]
  unfold ovr
  rw [List.getElem_zipWith]
theorem Over_eq {N : Nat} (hN : 1000 ≤ N) {a b : List Int} (h : a.length = b.length) (h4 : a.length ≤ 4) : D_times_Over N (a, b, ()) = some (ovr a b) := by
  simp only [D_times_Over, times_Over_1, D_times_zip_int_times_greater, times_zip_int_times_greater_3]
  rw [d_true (show (0 : Int) ≤ (a.length : Int) by omega), d_true (show (a.length : Int) ≤ (a.length : Int) by omega), d_true (show (a.length : Int) * 8 ≤ 281474976710656 by omega), Bool.and_self, Bool.and_self, cond_true]
  simp only [joinD, loopE, Int.toNat_natCast]
  obtain ⟨s, ⟨l, rfl, hl, hp⟩, hs⟩ := loopD_inv (N := N) (g := fun (s : Int × List Int) kn => times_zip_int_times_greater_2 N (fun s => times_zip_int_times_greater_1 N s) a b (a.length : Int) s.1 s.2 (backE (a, b, (a.length : Int)) kn)) (k := fun s => some s.2) a.length
    (fun i s => ∃ l : List Int, s = ((i : Int), l) ∧ l.length = a.length ∧ ∀ j, j < i → nth 0 l j = nth 0 (ovr a b) j)
    (fun i s hi hI => by
      obtain ⟨l, rfl, hl, hp⟩ := hI
      refine ⟨(((i + 1 : Nat) : Int), l.set i (nth 0 (ovr a b) i)), ⟨_, rfl, by simpa using hl, fun j hj => ?_⟩, fun kn => ?_⟩
      · rw [nth_set (by omega)]
        split
        · rename_i e; rw [e]
        · exact hp j (by omega)
      · simp only [times_zip_int_times_greater_2, lt_d hi, ge0_d, lt_d (show i < b.length by omega), lt_d (show i < l.length by omega), Bool.and_self, cond_true, Int.toNat_natCast, D_times_greater, times_greater_1, Option.bind_some, backE_eq, ix1 hi (show a.length ≤ 100000 by omega), ovr_nth h hi]
        rfl)
    (fun s hI kn => by
      obtain ⟨l, rfl, _⟩ := hI
      simp only [times_zip_int_times_greater_2, lt_self, cond_false, times_zip_int_times_greater_1])
    (by omega) (s := (0, List.replicate a.length 0)) ⟨_, rfl, by simp, fun j hj => by omega⟩
  rw [hs]
  simp only [Option.bind_some]
  congr 1
  apply List.ext_getElem (by rw [hl, ovr_len h])
  intro i h1 h2
  have := hp i (by omega)
  rwa [nth_lt h1, nth_lt h2] at this
theorem Concat_eq {N : Nat} (hN : 1000 ≤ N) {f g : List (List Int)} (hl : f.length + g.length ≤ 64) : D_slices_Concat_LLint_Lint N ([f, g], ()) = some (f ++ g) := by
  obtain ⟨M, rfl⟩ : ∃ M, N = M + 3 := ⟨N - 3, by omega⟩
  have w0 : IntKind.i64.wrap ((0 : Int) + 1) = 1 := by decide
  have w1' : IntKind.i64.wrap ((1 : Int) + 1) = 2 := by decide
  have a1 : IntKind.i64.wrap ((0 : Int) + (f.length : Int)) = (f.length : Int) := by rw [w64 (by omega) (by omega)]; omega
  have a2 : IntKind.i64.wrap ((f.length : Int) + (g.length : Int)) = (f.length : Int) + (g.length : Int) := w64 (by omega) (by omega)
  have t0 : (0 : Int).toNat = 0 := rfl
  have t1 : (1 : Int).toNat = 1 := rfl
  have n0 : nth [] [f, g] 0 = f := rfl
  have n1 : nth [] [f, g] 1 = g := rfl
  have c0 : decide ((0 : Int) < (([f, g] : List (List (List Int))).length : Int)) = true := rfl
  have c1 : decide ((1 : Int) < (([f, g] : List (List (List Int))).length : Int)) = true := rfl
  have c2 : decide ((2 : Int) < (([f, g] : List (List (List Int))).length : Int)) = false := rfl
  have g0 : decide ((0 : Int) ≤ 0) = true := rfl
  have g1 : decide ((0 : Int) ≤ 1) = true := rfl
  simp only [D_slices_Concat_LLint_Lint, slices_Concat_LLint_Lint_5, joinD, loopE, loopD, slices_Concat_LLint_Lint_4, backE_eq, w0, w1', a1, a2, t0, t1, n0, n1, c0, c1, c2, g0, g1, Bool.and_self, cond_true, cond_false, d_false (show ¬ (f.length : Int) < 0 by omega), d_false (show ¬ (f.length : Int) + (g.length : Int) < 0 by omega), slices_Concat_LLint_Lint_3]
  rw [d_true (show (0 : Int) ≤ (f.length : Int) + (g.length : Int) by omega), d_true (show ((f.length : Int) + (g.length : Int)) * 24 ≤ 140737488355328 by omega), d_true (show (f.length : Int) + (g.length : Int) ≤ 4611686018427387904 by omega)]
  simp only [Bool.and_self, cond_true, Option.bind_some, loopD, slices_Concat_LLint_Lint_2, backE_eq, w0, w1', t0, t1, n0, n1, c0, c1, c2, g0, g1, List.nil_append, List.length_nil, cond_false]
  rw [d_true (show (0 + f.length) * 24 ≤ 140737488355328 by omega), d_true (show (f.length + g.length) * 24 ≤ 140737488355328 by omega)]
  rfl
/-! ### What is open -/
def opn (f : List (List Int)) (t : List Int) : Bool := f.any (fun u => leqT u t)
theorem opn_iff {f : List (List Int)} {t : List Int} : opn f t = true ↔ ∃ u, u ∈ f ∧ leqT u t = true := by unfold opn; rw [List.any_eq_true]
theorem leqT_iff {a b : List Int} : leqT a b = true ↔ (a.length = b.length ∧ tok a = true ∧ tok b = true) ∧ undr a b = true := by
  unfold leqT; rw [Bool.and_eq_true, alk_iff]
/-- Of a list's front that is open which is open of the list. -/
theorem opn_front {xs f : List (List Int)} (h : TL xs) (hf : ∀ t, t ∈ f ↔ isMin xs t) (t : List Int) : opn f t = opn xs t := by
  rw [Bool.eq_iff_iff, opn_iff, opn_iff]
  refine ⟨fun ⟨u, hu, hl⟩ => ⟨u, ((hf u).1 hu).1, hl⟩, fun ⟨u, hu, hl⟩ => ?_⟩
  obtain ⟨m, hm, hmu⟩ := front_under (k := (nth [] xs 0).length) h.one hf hu
  obtain ⟨⟨l1, l2, l3⟩, l4⟩ := leqT_iff.1 hl
  have hmx := ((hf m).1 hm).1
  exact ⟨m, hm, leqT_iff.2 ⟨⟨(h.eqL hmx hu).trans l1, h.tok m hmx, l3⟩, undr_trans hmu l4⟩⟩
theorem LL.app {f g : List (List Int)} (h : LL f g) (hl : f.length + g.length ≤ 64) : TL (f ++ g) := by
  obtain ⟨hf, hg, h0⟩ := h
  refine ⟨by rw [List.length_append]; exact hl, fun t ht => (List.mem_append.1 ht).elim (hf.tok t) (hg.tok t), fun t ht => ?_⟩
  by_cases q : 0 < f.length
  · have e : nth [] (f ++ g) 0 = nth [] f 0 := by rw [nth_lt (by rw [List.length_append]; omega), nth_lt q, List.getElem_append_left q]
    rw [e]
    rcases List.mem_append.1 ht with h' | h'
    · exact hf.one t h'
    · rw [hg.one t h', h0 q (List.length_pos_of_mem h')]
  · have : f = [] := List.eq_nil_of_length_eq_zero (by omega)
    subst this
    rw [List.nil_append] at ht ⊢
    exact hg.one t ht
theorem Both_eq {N : Nat} (hN : 1000 ≤ N) (f g : List (List Int)) : (∃ e, e ≠ 0 ∧ D_times_Both N (f, g, ()) = some ([], e, ())) ∨ (LL f g ∧ ∃ a, D_times_Both N (f, g, ()) = some (a, 0, ()) ∧ (∀ t, opn a t = (opn f t || opn g t)) ∧ a.length ≤ 64) := by
  obtain ⟨e, e1, e2⟩ := lists_eq hN f g
  simp only [D_times_Both, times_Both_1, e1, Option.bind_some]
  by_cases h : LL f g
  case neg =>
    have he : e ≠ 0 := fun h' => h (e2.1 h')
    exact .inl ⟨e, he, by rw [show (e == 0) = false from beq_false_of_ne he, cond_false, bne_iff_ne.2 he, cond_true]⟩
  obtain rfl := e2.2 h
  have hf := h.1.len
  have hg := h.2.1.len
  rw [w64 (show -9223372036854775808 ≤ (f.length : Int) + (g.length : Int) by omega) (by omega)]
  by_cases hl : f.length + g.length ≤ 64
  · have hT := h.app hl
    obtain ⟨a, a1, a2, a3, a4⟩ := Least_eq hN hT
    refine .inr ⟨h, a, ?_, fun t => ?_, by rw [List.length_append] at a4; omega⟩
    · rw [beq_self_eq_true, cond_true, d_false (show ¬ (f.length : Int) + (g.length : Int) > 64 by omega), cond_false, bne_self_eq_false, cond_false, Concat_eq hN hl, Option.bind_some, a1, Option.bind_some]
    · rw [opn_front hT a3]; unfold opn; rw [List.any_append]
  · exact .inl ⟨1, by decide, by rw [beq_self_eq_true, cond_true, d_true (show (f.length : Int) + (g.length : Int) > 64 by omega), cond_true]; rfl⟩
theorem tok_iff {t : List Int} : tok t = true ↔ (1 ≤ t.length ∧ t.length ≤ 4) ∧ ∀ i, i < t.length → 0 ≤ nth 0 t i ∧ nth 0 t i ≤ 1048576 := by
  unfold tok
  rw [Bool.and_eq_true, Bool.and_eq_true, decide_eq_true_eq, decide_eq_true_eq, List.all_eq_true]
  refine and_congr Iff.rfl ⟨fun h i hi => ?_, fun h x hx => ?_⟩
  · have := h _ (nth_mem (z := (0 : Int)) hi)
    rw [Bool.and_eq_true, decide_eq_true_eq, decide_eq_true_eq] at this
    exact this
  · obtain ⟨i, hi, rfl⟩ := mem_nth (z := (0 : Int)) hx
    have := h i hi
    rw [Bool.and_eq_true, decide_eq_true_eq, decide_eq_true_eq]
    exact this
theorem tok_ovr {a b : List Int} (h : a.length = b.length) (ha : tok a = true) (hb : tok b = true) : tok (ovr a b) = true := by
  obtain ⟨a1, a2⟩ := tok_iff.1 ha
  obtain ⟨b1, b2⟩ := tok_iff.1 hb
  refine tok_iff.2 ⟨by rw [ovr_len h]; exact a1, fun i hi => ?_⟩
  rw [ovr_len h] at hi
  rw [ovr_nth h hi]
  have := a2 i hi
  have := b2 i (by omega)
  split <;> omega
theorem leqT_ovr {a b t : List Int} (h : a.length = b.length) (ha : tok a = true) (hb : tok b = true) : leqT (ovr a b) t = true ↔ leqT a t = true ∧ leqT b t = true := by
  rw [leqT_iff, leqT_iff, leqT_iff, ovr_len h]
  have key : a.length = t.length → (undr (ovr a b) t = true ↔ undr a t = true ∧ undr b t = true) := fun hl => by
    rw [undr_iff (by rw [ovr_len h]; exact hl), undr_iff hl, undr_iff (by omega), ovr_len h]
    refine ⟨fun hh => ⟨fun i hi => ?_, fun i hi => ?_⟩, fun ⟨h1, h2⟩ i hi => ?_⟩
    · have := hh i hi
      rw [ovr_nth h hi] at this
      split at this <;> omega
    · have := hh i (by omega)
      rw [ovr_nth h (by omega)] at this
      split at this <;> omega
    · rw [ovr_nth h hi]
      have := h1 i hi
      have := h2 i (by omega)
      split <;> omega
  refine ⟨fun ⟨⟨h1, h2, h3⟩, h4⟩ => ?_, fun ⟨⟨⟨h1, h2, h3⟩, h4⟩, ⟨h5, h6⟩⟩ => ⟨⟨h1, tok_ovr h ha hb, h3⟩, (key h1).2 ⟨h4, h6⟩⟩⟩
  obtain ⟨k1, k2⟩ := (key h1).1 h4
  exact ⟨⟨⟨h1, ha, h3⟩, k1⟩, ⟨⟨by omega, hb, h3⟩, k2⟩⟩
def ovrL (f g : List (List Int)) : List (List Int) := f.flatMap fun t => g.map (ovr t)
theorem LL.eq {f g : List (List Int)} (h : LL f g) {a b : List Int} (ha : a ∈ f) (hb : b ∈ g) : a.length = b.length := by
  rw [h.1.one a ha, h.2.1.one b hb, h.2.2 (List.length_pos_of_mem ha) (List.length_pos_of_mem hb)]
theorem ovrL_len (f g : List (List Int)) : (ovrL f g).length = f.length * g.length := by
  unfold ovrL
  induction f with
  | nil => simp
  | cons a f ih => rw [List.flatMap_cons, List.length_append, ih, List.length_map, List.length_cons, Nat.succ_mul]; omega
theorem mem_ovrL {f g : List (List Int)} {u : List Int} : u ∈ ovrL f g ↔ ∃ a b, a ∈ f ∧ b ∈ g ∧ u = ovr a b := by
  unfold ovrL
  rw [List.mem_flatMap]
  refine ⟨fun ⟨a, ha, h⟩ => ?_, fun ⟨a, b, ha, hb, e⟩ => ⟨a, ha, List.mem_map.2 ⟨b, hb, e.symm⟩⟩⟩
  obtain ⟨b, hb, e⟩ := List.mem_map.1 h
  exact ⟨a, b, ha, hb, e.symm⟩
theorem ovrL_TL {f g : List (List Int)} (h : LL f g) (hl : f.length * g.length ≤ 64) : TL (ovrL f g) := by
  have hone : ∀ u ∈ ovrL f g, u.length = (nth [] f 0).length := fun u hu => by
    obtain ⟨a, b, ha, hb, rfl⟩ := mem_ovrL.1 hu
    rw [ovr_len (h.eq ha hb), h.1.one a ha]
  refine ⟨by rw [ovrL_len]; exact hl, fun u hu => ?_, fun u hu => ?_⟩
  · obtain ⟨a, b, ha, hb, rfl⟩ := mem_ovrL.1 hu
    exact tok_ovr (h.eq ha hb) (h.1.tok a ha) (h.2.1.tok b hb)
  · rw [hone u hu, hone _ (nth_mem (List.length_pos_of_mem hu))]
theorem Either_eq {N : Nat} (hN : 5000 ≤ N) (f g : List (List Int)) : (∃ e, e ≠ 0 ∧ D_times_Either N (f, g, ()) = some ([], e, ())) ∨ (LL f g ∧ ∃ a, D_times_Either N (f, g, ()) = some (a, 0, ()) ∧ (∀ t, opn a t = (opn f t && opn g t)) ∧ a.length ≤ 64) := by
  obtain ⟨e, e1, e2⟩ := lists_eq (N := N) (by omega) f g
  simp only [D_times_Either, times_Either_6, e1, Option.bind_some, joinD]
  by_cases h : LL f g
  case neg =>
    have he : e ≠ 0 := fun h' => h (e2.1 h')
    exact .inl ⟨e, he, by rw [show (e == 0) = false from beq_false_of_ne he, cond_false]; simp only [times_Either_5, bne_iff_ne.2 he, cond_true]⟩
  obtain rfl := e2.2 h
  have hf := h.1.len
  have hg := h.2.1.len
  have hmul : f.length * g.length ≤ 64 * 64 := Nat.mul_le_mul hf hg
  have hmulI : ((f.length : Int) * (g.length : Int)) = ((f.length * g.length : Nat) : Int) := by rw [Int.natCast_mul]
  rw [hmulI, w64 (show -9223372036854775808 ≤ ((f.length * g.length : Nat) : Int) by omega) (by omega), beq_self_eq_true, cond_true]
  by_cases hl : f.length * g.length ≤ 64
  case neg => exact .inl ⟨1, by decide, by rw [d_true (show ((f.length * g.length : Nat) : Int) > 64 by omega), cond_true]; rfl⟩
  rw [d_false (show ¬ ((f.length * g.length : Nat) : Int) > 64 by omega), cond_false]
  have hT := ovrL_TL h hl
  obtain ⟨a, a1, a2, a3, a4⟩ := Least_eq (N := N) (by omega) hT
  refine .inr ⟨h, a, ?_, fun t => ?_, by rw [ovrL_len] at a4; omega⟩
  · simp only [times_Either_5, bne_self_eq_false, cond_false, joinD, loopE]
    have hpl : ∀ i, (ovrL (f.take i) g).length ≤ f.length * g.length := fun i => by
      rw [ovrL_len, List.length_take]
      exact Nat.mul_le_mul_right _ (Nat.min_le_right _ _)
    refine loopD_path (N := N) f.length (fun i => ((i : Int), ovrL (f.take i) g)) (fun i hi kn => ?_) (fun kn => ?_) (by omega)
    · simp only [times_Either_4, lt_d hi, ge0_d, Bool.and_self, cond_true, joinD, loopE, Int.toNat_natCast]
      have hti : nth [] f i ∈ f := nth_mem hi
      have hnx : ovrL (f.take (i + 1)) g = ovrL (f.take i) g ++ g.map (ovr (nth [] f i)) := by
        unfold ovrL
        rw [List.take_succ_eq_append_getElem hi, List.flatMap_append, nth_lt hi]; simp
      have hp1 := hpl (i + 1)
      rw [hnx, List.length_append, List.length_map] at hp1
      refine (loopD_path (N := N) g.length (fun j => ((j : Int), ovrL (f.take i) g ++ (g.take j).map (ovr (nth [] f i)))) (k := kn (((i + 1 : Nat) : Int), ovrL (f.take (i + 1)) g)) (fun j hj kn2 => ?_) (fun kn2 => ?_) (by omega) |> fun e => by simpa using e)
      · have hgj : nth [] g j ∈ g := nth_mem hj
        simp only [times_Either_3, lt_d hj, ge0_d, Bool.and_self, cond_true, Int.toNat_natCast, Over_eq (N := N) (by omega) (h.eq hti hgj) (tok_len (h.1.tok _ hti)).2, Option.bind_some, backE_eq, ix1 hj (show g.length ≤ 100000 by omega)]
        rw [d_true (by simp only [List.length_append, List.length_map, List.length_take, List.length_singleton]; omega), show Nat.ble 1 24 = true from rfl, Bool.and_self, cond_true, List.take_succ_eq_append_getElem hj, List.map_append, ← List.append_assoc, nth_lt hj]
        rfl
      · simp only [times_Either_3, lt_self, cond_false, times_Either_2, backE_eq, ix1 hi (show f.length ≤ 100000 by omega), List.take_length, hnx]
        rfl
    · simp only [times_Either_4, lt_self, cond_false, times_Either_1, List.take_length, a1, Option.bind_some]
  · rw [opn_front hT a3, Bool.eq_iff_iff, Bool.and_eq_true, opn_iff, opn_iff, opn_iff]
    refine ⟨fun ⟨u, hu, hl⟩ => ?_, fun ⟨⟨x, hx, hxl⟩, ⟨y, hy, hyl⟩⟩ => ⟨ovr x y, mem_ovrL.2 ⟨x, y, hx, hy, rfl⟩, (leqT_ovr (h.eq hx hy) (h.1.tok x hx) (h.2.1.tok y hy)).2 ⟨hxl, hyl⟩⟩⟩
    obtain ⟨x, y, hx, hy, rfl⟩ := mem_ovrL.1 hu
    obtain ⟨k1, k2⟩ := (leqT_ovr (h.eq hx hy) (h.1.tok x hx) (h.2.1.tok y hy)).1 hl
    exact ⟨⟨x, hx, k1⟩, ⟨y, hy, k2⟩⟩
end Go.Proofs.Ytololihlpldcdaa
