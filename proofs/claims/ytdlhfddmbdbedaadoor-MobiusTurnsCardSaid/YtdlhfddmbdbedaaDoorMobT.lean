/- What products of tables come to. -/
import Derived.Test.YtdlhfddmbdbedaaDoorMobS
import Derived.Test.YtdlhfddmbdbedaaDoorOrderS
namespace Go.Proofs.YtdlhfddmbdbedaaDoor
open Go.Abs
section
variable {N m : Nat} (hm : m ≤ 16) {up f g : List Int} (hw : WL up) (ho : Ord (m : Int) up) (hf : Tab m up f) (hg : Tab m up g)
include hm hw ho
omit hm hw in
theorem ord_in {a j : Nat} (ha : a < m) (h : le up a j) : j < m := by have := ho.inn a (by omega) j h; omega
include hf hg
theorem times_row {a k0 : Nat} (ha : a < m) (hk : k0 < m) {s0 : List Int} (h0 : Cel m s0) :
    ∃ s, Cel m s ∧ (∀ i : Nat × Nat, i.1 < m ∧ i.2 < m → tv m s i.1 i.2 = tv m s0 i.1 i.2 + (if i.1 = a then tv m f a k0 * tv m g k0 i.2 else 0)) ∧
      ∀ k, mobius_Times_16 N (m : Int) f (m : Int) g (m : Int) (a : Int) (k0 : Int) s0 (nth 0 up k0) k = k s := by
  unfold mobius_Times_16
  have hwa := WL.nth hw k0
  obtain ⟨s, h1, h2, h3⟩ := each_add (m := m) hwa (fun j hj => ord_in ho hk hj) (by omega) (fun i : Nat × Nat => i.1 < m ∧ i.2 < m) (fun s i => tv m s i.1 i.2) (fun b i => if i.1 = a ∧ i.2 = b then tv m f a k0 * tv m g k0 b else 0) (Cel m)
    (fun (k : List Int → Option Rt_mobius_Times) (y18 : Int) (s : List Int) kn => mobius_Times_14 N (mobius_Times_15 N (m : Int) f (m : Int) g (m : Int) (a : Int) (k0 : Int) y18 s (fun v60 => kn v60))) (fun k s => k s)
    (fun b s hb hbt hs => by
      refine ⟨s.set (a * m + b) (IntKind.i64.wrap (nth 0 s (a * m + b) + IntKind.i64.wrap (nth 0 f (a * m + k0) * nth 0 g (k0 * m + b)))), hs.set (I64.wrap _) _, fun i hi => ?_, fun k kn => ?_⟩
      · simp only [tv_set hs.len ha hb hi.1 hi.2]
        by_cases e : i.1 = a ∧ i.2 = b
        · rw [if_pos e, if_pos e, ph_wrap, ph_add, ph_wrap, ph_mul, e.1, e.2]; rfl
        · rw [if_neg e, if_neg e]; grind
      · simp only [mobius_Times_14, mobius_Times_15, grid_eq hm ha hb, grid_eq hm ha hk, grid_eq hm hk hb, okIf_cell ha hb hs.len, okIf_cell ha hk hf.len, okIf_cell hk hb hg.len, Option.bind_some, Int.toNat_natCast]) s0 h0
  refine ⟨s, h1, fun i hi => ?_, h3⟩
  rw [h2 i hi]
  congr 1
  by_cases e : i.1 = a
  · rw [if_pos e, Sg_one hi.2 fun j hj hne => ?_]
    · by_cases q : bt (nth 0 up k0) i.2 = true
      · rw [if_pos q, if_pos ⟨e, rfl⟩]
      · rw [if_neg q, hg.tv0 hk hi.2 q]; grind
    · split
      · rw [if_neg fun h => hne h.2.symm]
      · rfl
  · rw [if_neg e, Sg_zero fun j hj => ?_]
    split
    · rw [if_neg fun h => e h.1]
    · rfl
theorem times_sq {a : Nat} (ha : a < m) {s0 : List Int} (h0 : Cel m s0) :
    ∃ s, Cel m s ∧ (∀ i : Nat × Nat, i.1 < m ∧ i.2 < m → tv m s i.1 i.2 = tv m s0 i.1 i.2 + (if i.1 = a then mulT m (tv m f) (tv m g) a i.2 else 0)) ∧
      ∀ k, mobius_Times_20 N ((m : Int), up) (m : Int) f (m : Int) g (m : Int) (a : Int) s0 (nth 0 up a) k = k s := by
  have hlu : up.length = m := by have := ho.len; omega
  unfold mobius_Times_20
  have hwa := WL.nth hw a
  obtain ⟨s, h1, h2, h3⟩ := each_add (m := m) hwa (fun j hj => ord_in ho ha hj) (by omega) (fun i : Nat × Nat => i.1 < m ∧ i.2 < m) (fun s i => tv m s i.1 i.2) (fun k0 i => if i.1 = a then tv m f a k0 * tv m g k0 i.2 else 0) (Cel m)
    (fun (k : List Int → Option Rt_mobius_Times) (y15 : Int) (s : List Int) kn => mobius_Times_12 N (mobius_Times_19 N ((m : Int), up) (m : Int) f (m : Int) g (m : Int) (a : Int) y15 s (fun v54 => kn v54))) (fun k s => k s)
    (fun k0 s hk hbt hs => by
      obtain ⟨s', q1, q2, q3⟩ := times_row (N := N) hm hw ho hf hg ha hk hs
      refine ⟨s', q1, q2, fun k kn => ?_⟩
      simp only [mobius_Times_12, mobius_Times_19, mobius_Times_18, mobius_Times_17, mobius_Times_13, hlu, lt_d hk, ge0_d, Bool.and_self, cond_true, Int.toNat_natCast, Each_eq N, Option.bind_some, q3]) s0 h0
  refine ⟨s, h1, fun i hi => ?_, h3⟩
  rw [h2 i hi]
  congr 1
  by_cases e : i.1 = a
  · rw [if_pos e]
    refine Sg_congr fun j hj => ?_
    rw [if_pos e]
    by_cases q : bt (nth 0 up a) j = true
    · rw [if_pos q]
    · rw [if_neg q, hf.tv0 ha hj q]; grind
  · rw [if_neg e, Sg_zero fun j hj => ?_]
    split <;> rfl
omit hf hg in
theorem Times_bad (hN : 1000 ≤ N) (h : ¬ (Tab m up f ∧ Tab m up g)) : D_mobius_Times N (((m : Int), up), f, g, ()) = some ([], 2, ()) := by
  obtain ⟨e, h1, h2⟩ := Check_spec (N := N) (by omega) hw (m : Int)
  obtain rfl := h2.2 ho
  have hlu : up.length = m := by have := ho.len; omega
  simp only [D_mobius_Times, mobius_Times_39, mobius_Times_38, mobius_Times_37, mobius_Times_36, mobius_Times_35, mobius_Times_5, mobius_Times_4, mobius_Times_3, mobius_Times_2, mobius_Times_1, h1, Option.bind_some, bne_self_eq_false, cond_false]
  rcases table_eq hN hm (f := f) hw hlu with ⟨a1, a2⟩ | ⟨a1, a2⟩ <;> rcases table_eq hN hm (f := g) hw hlu with ⟨b1, b2⟩ | ⟨b1, b2⟩
  · exact absurd ⟨a1, b1⟩ h
  all_goals simp only [a2, b2, Option.bind_some]; rfl
theorem Times_eq (hN : 1000 ≤ N) : ∃ l, D_mobius_Times N (((m : Int), up), f, g, ()) = some (l, 0, ()) ∧ Cel m l ∧ EqT m (tv m l) (mulT m (tv m f) (tv m g)) := by
  obtain ⟨e, h1, h2⟩ := Check_spec (N := N) (by omega) hw (m : Int)
  obtain rfl := h2.2 ho
  have hlu : up.length = m := by have := ho.len; omega
  obtain ⟨-, a2⟩ | ⟨a1, -⟩ := table_eq hN hm (f := f) hw hlu
  case inr => exact absurd hf a1
  obtain ⟨-, b2⟩ | ⟨b1, -⟩ := table_eq hN hm (f := g) hw hlu
  case inr => exact absurd hg b1
  simp only [D_mobius_Times, mobius_Times_39, mobius_Times_38, mobius_Times_37, mobius_Times_36, mobius_Times_35, mobius_Times_34, mobius_Times_33, mobius_Times_32, mobius_Times_31, mobius_Times_30, mobius_Times_7, mobius_Times_6, mobius_Times_5, mobius_Times_4, mobius_Times_3, mobius_Times_2, mobius_Times_1, h1, Option.bind_some, bne_self_eq_false, cond_false, a2, b2, Bool.not_true, square_eq hm]
  unfold mobius_Times_29
  obtain ⟨s, q1, q2, q3⟩ := loop_add (N := N) (n := m) (fun (k : List Int → Option Rt_mobius_Times) (s : Int × List Int) kn => mobius_Times_28 N ((m : Int), up) (m : Int) f (m : Int) g (m : Int) s.1 s.2 (fun v40 v41 => kn (v40, v41)) k) (fun k s => k s) (by omega)
    (fun i : Nat × Nat => i.1 < m ∧ i.2 < m) (fun s i => tv m s i.1 i.2) (fun a i => if i.1 = a then mulT m (tv m f) (tv m g) a i.2 else 0) (Cel m)
    (fun i s hi hs => by
      obtain ⟨s', r1, r2, r3⟩ := times_sq (N := N) hm hw ho hf hg hi hs
      refine ⟨s', r1, r2, fun k kn => ?_⟩
      simp only [mobius_Times_28, mobius_Times_27, mobius_Times_26, mobius_Times_25, mobius_Times_24, mobius_Times_23, mobius_Times_22, mobius_Times_21, mobius_Times_11, mobius_Times_10, mobius_Times_9, mobius_Times_8, hlu, lt_d hi, ge0_d, Bool.and_self, cond_true, Int.toNat_natCast, Each_eq N, Option.bind_some, r3, w1 hm hi])
    (fun s k kn => by simp only [mobius_Times_28, mobius_Times_27, mobius_Times_9, mobius_Times_8, hlu, lt_self, cond_false]) (List.replicate (m * m) 0) (Cel.zero m)
  refine ⟨s, q3 _, q1, fun a b ha hb => ?_⟩
  have := q2 (a, b) ⟨ha, hb⟩
  simp only at this
  rw [this, Sg_one ha fun j _ hne => if_neg fun e => hne e.symm, if_pos rfl]
  unfold tv
  rw [nth_zeros, ph_zero]; grind
end
theorem times_tab {m : Nat} (_hm : m ≤ 16) {up f g l : List Int} (ho : Ord (m : Int) up) (hf : Tab m up f) (hg : Tab m up g) (hl : Cel m l) (h : EqT m (tv m l) (mulT m (tv m f) (tv m g))) : Tab m up l := by
  refine ⟨hl.len, fun a b ha hb hle => ph_inj (I64.nth hl.i64 _) I64.zero ?_⟩
  have h0 : tv m l a b = 0 := by
    rw [h a b ha hb]
    refine Sg_zero fun k hk => ?_
    by_cases q : le up a k
    · have q2 : ¬ le up k b := fun h => hle (ho.trans a k b (by omega) (by omega) q h)
      rw [hg.tv0 hk hb q2]; grind
    · rw [hf.tv0 ha hk q]; grind
  exact h0
/-! ### What the laws use -/
theorem Longs_eq {N : Nat} (hN : 1000 ≤ N) (x y : List Int) (hl : x.length < 1000) : ∃ b, D_ref_Longs N (x, y, ()) = some (b, ()) ∧ (b = true ↔ x = y) := by
  simp only [D_ref_Longs, ref_Longs_11, ref_Longs_10, ref_Longs_9, ref_Longs_7, ref_Longs_6, ref_Longs_3, ref_Longs_2, ref_Longs_1, ref_Longs_8]
  by_cases hlen : x.length = y.length
  case neg => exact ⟨false, by rw [show ((x.length : Int) != (y.length : Int)) = true from bne_iff_ne.2 (by omega), cond_true], ⟨fun h => Bool.noConfusion h, fun h => absurd (by rw [h]) hlen⟩⟩
  rw [show ((x.length : Int) != (y.length : Int)) = false from by rw [hlen]; exact bne_self_eq_false _, cond_false]
  unfold ref_Longs_5
  have h4 : ∀ i, i < x.length → ∀ kn k, ref_Longs_4 N x y (i : Int) kn k = if nth 0 x i ≠ nth 0 y i then some (false, ()) else kn ((i : Int) + 1) := fun i hi kn k => by
    simp only [ref_Longs_4, lt_d hi, lt_d (show i < y.length by omega), ge0_d, cond_true, Bool.and_self, Int.toNat_natCast, w64 (show -9223372036854775808 ≤ (i : Int) + 1 by omega) (show (i : Int) + 1 ≤ 9223372036854775807 by omega)]
    by_cases q : nth 0 x i = nth 0 y i
    · rw [if_neg (fun h => h q), q, bne_self_eq_false]; rfl
    · rw [if_pos q, bne_iff_ne.2 q]; rfl
  by_cases hb : ∃ i, i < x.length ∧ nth 0 x i ≠ nth 0 y i
  · refine ⟨false, loopD_hitU (n := x.length) (fun i => nth 0 x i ≠ nth 0 y i) (fun i hi hb kn => by rw [h4 i hi, if_pos hb]) (fun i hi hb kn => by rw [h4 i hi, if_neg hb]) (by omega) hb, ⟨fun h => Bool.noConfusion h, fun h => ?_⟩⟩
    obtain ⟨i, _, hne⟩ := hb
    exact absurd (by rw [h]) hne
  · refine ⟨true, loopD_passU (n := x.length) (fun i hi kn => by rw [h4 i hi, if_neg fun h => hb ⟨i, hi, h⟩]) (fun kn => ?_) (by omega), ⟨fun _ => ext_nth hlen fun i hi => Classical.byContradiction fun h => hb ⟨i, hi, h⟩, fun _ => rfl⟩⟩
    simp only [ref_Longs_4, lt_self, cond_false]
theorem ones_eq {N m : Nat} (hN : 1000 ≤ N) (hm : m ≤ 16) : ∃ l, D_keep_ones N ((m : Int), ()) = some l ∧ Cel m l ∧ ∀ a b, a < m → b < m → nth 0 l (a * m + b) = if a = b then 1 else 0 := by
  have hmm : m * m ≤ 16 * 16 := Nat.mul_le_mul hm hm
  simp only [D_keep_ones, keep_ones_11, keep_ones_10, keep_ones_9, keep_ones_8, keep_ones_7, keep_ones_6, keep_ones_3, keep_ones_2, keep_ones_1, wrap_sq hm, ge0_d, Int.toNat_natCast]
  rw [d_true (show ((m * m : Nat) : Int) ≤ ((m * m : Nat) : Int) by omega), d_true (show ((m * m : Nat) : Int) * 8 ≤ 281474976710656 by omega)]
  simp only [Bool.and_self, cond_true]
  unfold keep_ones_5
  rw [wrap_sq hm, Int.toNat_natCast]
  obtain ⟨⟨t, s⟩, ⟨-, q1, q2⟩, e⟩ := loopD_inv (N := N) (g := fun (s : Int × List Int) kn => keep_ones_4 N (m : Int) s.1 s.2 (fun v1 v2 => kn (v1, v2)) (fun v5 => some v5)) (k := fun s => some s.2) (s := ((0 : Int), List.replicate (m * m) 0)) m
    (fun i s => s.1 = (i : Int) ∧ Cel m s.2 ∧ ∀ a b, a < m → b < m → nth 0 s.2 (a * m + b) = if a < i ∧ a = b then 1 else 0) (fun i s hi hs => by
      obtain ⟨t, s⟩ := s
      obtain ⟨ht, hc, hv⟩ := hs
      simp only at ht hc hv
      subst ht
      refine ⟨((i : Int) + 1, s.set (i * m + i) 1), ⟨rfl, hc.set I64.one _, fun a b ha hb => ?_⟩, fun kn => ?_⟩
      · simp only [nth_cell hc.len hi hi ha hb, hv a b ha hb]
        by_cases e : a = i ∧ b = i
        · rw [if_pos e, if_pos ⟨by omega, by omega⟩]
        · rw [if_neg e]
          by_cases q : a < i ∧ a = b
          · rw [if_pos q, if_pos ⟨by omega, q.2⟩]
          · rw [if_neg q, if_neg fun h => q ⟨by omega, h.2⟩]
      · have := cell_lt hi hi
        have hcl := hc.len
        simp only [keep_ones_4, lt_d hi, cond_true, wrap_cell hm hi hi, ge0_d, Bool.and_self, Int.toNat_natCast, lt_d (show i * m + i < s.length by omega), w1 hm hi])
    (fun s hs kn => by
      obtain ⟨t, s⟩ := s
      obtain ⟨ht, -⟩ := hs
      simp only at ht
      subst ht
      simp only [keep_ones_4, lt_self, cond_false]) (by omega)
    ⟨rfl, Cel.zero m, fun a b _ _ => by rw [nth_zeros, if_neg fun h => absurd h.1 (Nat.not_lt_zero _)]⟩
  refine ⟨s, e, q1, fun a b ha hb => ?_⟩
  rw [q2 a b ha hb]
  by_cases q : a = b
  · rw [if_pos ⟨ha, q⟩, if_pos q]
  · rw [if_neg fun h => q h.2, if_neg q]
theorem added_eq {N : Nat} (hN : 1000 ≤ N) {x y : List Int} (hl : x.length = y.length) (h : x.length < 900) :
    ∃ l, D_keep_added N (x, y, ()) = some l ∧ l.length = x.length ∧ (∀ v ∈ l, I64 v) ∧ ∀ i, i < x.length → nth 0 l i = IntKind.i64.wrap (nth 0 x i + nth 0 y i) := by
  simp only [D_keep_added, keep_added_11, keep_added_10, keep_added_9, keep_added_8, keep_added_7, keep_added_6, keep_added_3, keep_added_2, keep_added_1]
  unfold keep_added_5
  obtain ⟨⟨t, s⟩, ⟨-, q1, q2, q3⟩, e⟩ := loopD_inv (N := N) (g := fun (s : Int × List Int) kn => keep_added_4 N x y s.1 s.2 (fun v1 v2 => kn (v1, v2)) (fun v5 => some v5)) (k := fun s => some s.2) (s := ((0 : Int), [])) x.length
    (fun i s => s.1 = (i : Int) ∧ s.2.length = i ∧ (∀ v ∈ s.2, I64 v) ∧ ∀ j, j < i → nth 0 s.2 j = IntKind.i64.wrap (nth 0 x j + nth 0 y j)) (fun i s hi hs => by
      obtain ⟨t, s⟩ := s
      obtain ⟨ht, hc, hv, hn⟩ := hs
      simp only at ht hc hv hn
      subst ht
      refine ⟨((i : Int) + 1, s ++ [IntKind.i64.wrap (nth 0 x i + nth 0 y i)]), ⟨rfl, by simp [hc], fun v hv' => ?_, fun j hj => ?_⟩, fun kn => ?_⟩
      · rcases List.mem_append.1 hv' with h | h
        · exact hv v h
        · rw [List.mem_singleton.1 h]; exact I64.wrap _
      · unfold nth
        rw [List.getD_eq_getElem?_getD]
        by_cases e : j < s.length
        · rw [List.getElem?_append_left e, ← List.getD_eq_getElem?_getD]; exact hn j (by omega)
        · have : j = i := by omega
          subst this
          rw [List.getElem?_append_right (by omega)]
          simp [hc, nth]
      · simp only [keep_added_4, lt_d hi, lt_d (show i < y.length by omega), ge0_d, cond_true, Bool.and_self, Int.toNat_natCast, w64 (show -9223372036854775808 ≤ (i : Int) + 1 by omega) (show (i : Int) + 1 ≤ 9223372036854775807 by omega)]
        rw [d_true (by simp; omega)]; rfl)
    (fun s hs kn => by
      obtain ⟨t, s⟩ := s
      obtain ⟨ht, -⟩ := hs
      simp only at ht
      subst ht
      simp only [keep_added_4, lt_self, cond_false]) (by omega)
    ⟨rfl, rfl, (fun v hv => by cases hv), fun j hj => absurd hj (Nat.not_lt_zero _)⟩
  exact ⟨s, e, q1, q2, q3⟩
theorem RTable_eq {N m : Nat} (hN : 1000 ≤ N) (hm : m ≤ 16) {up : List Int} (hw : WL up) (hl : up.length = m) (f : List Int) : ∃ b, D_ref_Table N (((m : Int), up), f, ()) = some (b, ()) ∧ (b = true ↔ Tab m up f) := by
  simp only [D_ref_Table, ref_Table_20, ref_Table_19, ref_Table_18, ref_Table_17, ref_Table_16, ref_Table_15, ref_Table_3, ref_Table_2, ref_Table_1, wrap_sq hm]
  by_cases hlen : f.length = m * m
  case neg => exact ⟨false, by rw [show ((f.length : Int) != ((m * m : Nat) : Int)) = true from bne_iff_ne.2 (by omega), cond_true], ⟨fun h => Bool.noConfusion h, fun h => absurd h.len hlen⟩⟩
  rw [show ((f.length : Int) != ((m * m : Nat) : Int)) = false from by rw [hlen]; exact bne_self_eq_false _, cond_false]
  have h6 : ∀ a b, a < m → b < m → ∀ kn k, ref_Table_6 N ((m : Int), up) f (a : Int) (b : Int) kn k = if ¬ le up a b ∧ nth 0 f (a * m + b) ≠ 0 then some (false, ()) else kn ((b : Int) + 1) := fun a b ha hb kn k => by
    have := cell_lt ha hb
    simp only [ref_Table_6, lt_d hb, cond_true, Below_eq N hw (show a < up.length by omega) (show b < 4611686018427387904 by omega), Option.bind_some, wrap_cell hm ha hb, ge0_d, lt_d (show a * m + b < f.length by omega), Bool.and_self, Int.toNat_natCast, w1 hm hb]
    cases q : bt (nth 0 up a) b with
    | true => rw [if_neg (fun h => h.1 q)]; rfl
    | false =>
      by_cases q1 : nth 0 f (a * m + b) = 0
      · rw [if_neg (fun h => h.2 q1), q1]; rfl
      · rw [if_pos ⟨(fun h => by rw [le, q] at h; cases h), q1⟩, bne_iff_ne.2 q1]; rfl
  have h7 : ∀ a, a < m → ((∃ b, b < m ∧ ¬ le up a b ∧ nth 0 f (a * m + b) ≠ 0) ∧ ∀ k, ref_Table_7 N ((m : Int), up) f (a : Int) k = some (false, ())) ∨ ((∀ b, b < m → ¬ le up a b → nth 0 f (a * m + b) = 0) ∧ ∀ k, ref_Table_7 N ((m : Int), up) f (a : Int) k = k) := fun a ha => by
    by_cases hb : ∃ b, b < m ∧ (¬ le up a b ∧ nth 0 f (a * m + b) ≠ 0)
    · refine .inl ⟨hb, fun k => ?_⟩
      unfold ref_Table_7
      exact loopD_hitU (n := m) (fun b => ¬ le up a b ∧ nth 0 f (a * m + b) ≠ 0) (fun b hb' h kn => by rw [h6 a b ha hb', if_pos h]) (fun b hb' h kn => by rw [h6 a b ha hb', if_neg h]) (by omega) hb
    · refine .inr ⟨fun b hb' hle => Classical.byContradiction fun h => hb ⟨b, hb', hle, h⟩, fun k => ?_⟩
      unfold ref_Table_7
      refine loopD_passU (n := m) (fun b hb' kn => by rw [h6 a b ha hb', if_neg fun h => hb ⟨b, hb', h⟩]) (fun kn => ?_) (by omega)
      simp only [ref_Table_6, lt_self, cond_false]
  have h13 : ∀ a, a < m → ∀ kn k, ref_Table_13 N ((m : Int), up) f (a : Int) kn k = ref_Table_7 N ((m : Int), up) f (a : Int) (kn ((a : Int) + 1)) := fun a ha kn k => by
    simp only [ref_Table_13, ref_Table_12, ref_Table_11, ref_Table_10, ref_Table_9, ref_Table_8, ref_Table_5, ref_Table_4, lt_d ha, cond_true, w1 hm ha]
  unfold ref_Table_14
  by_cases hb : ∃ a, a < m ∧ (∃ b, b < m ∧ ¬ le up a b ∧ nth 0 f (a * m + b) ≠ 0)
  · refine ⟨false, loopD_hitU (n := m) (fun a => ∃ b, b < m ∧ ¬ le up a b ∧ nth 0 f (a * m + b) ≠ 0) (fun a ha h kn => ?_) (fun a ha h kn => ?_) (by omega) hb, ⟨fun h => Bool.noConfusion h, fun h => ?_⟩⟩
    · rw [h13 a ha]
      rcases h7 a ha with ⟨_, e⟩ | ⟨q, _⟩
      · exact e _
      · obtain ⟨b, hb, h1, h2⟩ := h
        exact absurd (q b hb h1) h2
    · rw [h13 a ha]
      rcases h7 a ha with ⟨q, _⟩ | ⟨_, e⟩
      · exact absurd q h
      · exact e _
    · obtain ⟨a, ha, b, hb, h1, h2⟩ := hb
      exact absurd (h.off a b ha hb h1) h2
  · refine ⟨true, loopD_passU (n := m) (fun a ha kn => ?_) (fun kn => ?_) (by omega), ⟨fun _ => ⟨hlen, fun a b ha hb' hle => Classical.byContradiction fun h => hb ⟨a, ha, b, hb', hle, h⟩⟩, fun _ => rfl⟩⟩
    · rw [h13 a ha]
      rcases h7 a ha with ⟨q, _⟩ | ⟨_, e⟩
      · exact absurd ⟨a, ha, q⟩ hb
      · exact e _
    · simp only [ref_Table_13, ref_Table_4, lt_self, cond_false]
end Go.Proofs.YtdlhfddmbdbedaaDoor
