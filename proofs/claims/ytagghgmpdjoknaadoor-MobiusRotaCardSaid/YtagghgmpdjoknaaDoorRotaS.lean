/- What mobius.Sums and mobius.Undo come to. -/
import Derived.Test.YtagghgmpdjoknaaDoorMobI
import Derived.Test.YtagghgmpdjoknaaDoorMobR
namespace Go.Proofs.YtagghgmpdjoknaaDoor
open Go.Abs
abbrev pw (l : List Int) (j : Nat) : Z := ph (nth 0 l j)
theorem pw_set {l : List Int} {i : Nat} (hi : i < l.length) (x : Int) (j : Nat) : pw (l.set i x) j = if j = i then ph x else pw l j := by
  unfold pw
  rw [nth_set hi]
  by_cases e : i = j
  · rw [if_pos e, if_pos e.symm]
  · rw [if_neg e, if_neg fun h => e h.symm]
structure Nums (m : Nat) (l : List Int) : Prop where
  len : l.length = m
  i64 : ∀ x ∈ l, I64 x
theorem Nums.set {m : Nat} {l : List Int} (h : Nums m l) {x : Int} (hx : I64 x) (i : Nat) : Nums m (l.set i x) :=
  ⟨by rw [List.length_set]; exact h.len, fun y hy => (List.mem_or_eq_of_mem_set hy).elim (h.i64 y) fun e => e ▸ hx⟩
theorem Nums.ext {m : Nat} {l k : List Int} (hl : Nums m l) (hk : Nums m k) (h : ∀ j, j < m → pw l j = pw k j) : l = k := by
  apply List.ext_getElem?
  intro j
  by_cases hj : j < m
  · have h1 : j < l.length := by rw [hl.len]; exact hj
    have h2 : j < k.length := by rw [hk.len]; exact hj
    have := ph_inj (I64.nth hl.i64 j) (I64.nth hk.i64 j) (h j hj)
    rw [nth_lt h1, nth_lt h2] at this
    rw [List.getElem?_eq_getElem h1, List.getElem?_eq_getElem h2, this]
  · rw [List.getElem?_eq_none (by rw [hl.len]; omega), List.getElem?_eq_none (by rw [hk.len]; omega)]
section
variable {N m : Nat} (hN : 1000 ≤ N) (hm : m ≤ 16) {up : List Int} (hw : WL up) (ho : Ord (m : Int) up)
include hm hw ho
theorem sums_row {i : Nat} (hi : i < m) {v : List Int} (hv : Nums m v) {s0 : List Int} (h0 : Nums m s0) :
    ∃ s, Nums m s ∧ (∀ j, j < m → pw s j = pw s0 j + pw v i * zt up i j) ∧
      ∀ k : List Int → Option Rt_mobius_Sums, forD (fun y s kn => mobius_Sums_3 N (m : Int) up v (i : Int) s (backE ((m : Int), up, v, (i : Int)) kn) y) k (eachXs (nth 0 up i, ())) s0 = k s := by
  have hwi := WL.nth hw i
  obtain ⟨s, h1, h2, h3⟩ := each_add (m := m) (w := nth 0 up i) hwi (fun j hj => ord_in ho hi hj) (by omega) (fun j => j < m) pw (fun j x => if x = j then pw v i else 0)
    (fun s => Nums m s)
    (fun (_ : List Int → Option Rt_mobius_Sums) (y : Int) (s : List Int) kn => mobius_Sums_3 N (m : Int) up v (i : Int) s (backE ((m : Int), up, v, (i : Int)) kn) y) (fun k s => k s)
    (fun j s hj _ hs => by
      have hsl := hs.len
      have hvl := hv.len
      refine ⟨s.set j (IntKind.i64.wrap (nth 0 s j + nth 0 v i)), hs.set (I64.wrap _) _, fun x hx => ?_, fun k kn => ?_⟩
      · rw [pw_set (by omega)]
        by_cases e : x = j
        · rw [if_pos e, if_pos e, ph_wrap, ph_add, e]
        · rw [if_neg e, if_neg e]; grind
      · simp only [mobius_Sums_3, backE_eq, ge0_d, lt_d (show j < s.length by omega), lt_d (show i < v.length by omega), Bool.and_self, cond_true, Int.toNat_natCast]) s0 h0
  refine ⟨s, h1, fun j hj => ?_, h3⟩
  rw [h2 j hj]
  congr 1
  rw [Sg_one hj fun x hx hne => ?_]
  · unfold zt
    by_cases e : le up i j
    · rw [if_pos e, if_pos (show bt (nth 0 up i) j = true from e), if_pos rfl]; grind
    · rw [if_neg e, if_neg (show ¬ bt (nth 0 up i) j = true from e)]; grind
  · split
    · rw [if_neg fun h => hne h.symm]
    · rfl
include hN
theorem Sums_eq {v : List Int} (hv : Nums m v) : ∃ l, D_mobius_Sums N (((m : Int), up), v, ()) = some (l, 0, ()) ∧ Nums m l ∧ ∀ b, b < m → pw l b = Sg m fun a => pw v a * zt up a b := by
  obtain ⟨e, h1, h2⟩ := Check_spec (N := N) (by omega) hw (m : Int)
  obtain rfl := h2.2 ho
  have hlu : up.length = m := by have := ho.len; omega
  simp only [D_mobius_Sums, mobius_Sums_5, joinD, loopE, h1, Option.bind_some, bne_self_eq_false, cond_false, hv.len, ge0_d, d_true (show (m : Int) ≤ (m : Int) by omega), d_true (show (m : Int) * 8 ≤ 281474976710656 by omega), Bool.and_self, cond_true, Int.toNat_natCast]
  obtain ⟨s, r1, r2, r3⟩ := loop_add (N := N) (fun (k : Int × List Int × List Int × List Int → Option Rt_mobius_Sums) (s : Int × List Int) kn =>
      mobius_Sums_4 N k up (up.length : Int) (m : Int) up v s.1 s.2 (backE (up, (up.length : Int), (m : Int), up, v) kn))
    (fun k s => k ((m : Int), up, v, s)) (n := m) (by omega) (fun j => j < m) pw (fun i j => pw v i * zt up i j) (Nums m)
    (fun i s hi hs => by
      obtain ⟨s', q1, q2, q3⟩ := sums_row (N := N) hm hw ho hi hv hs
      refine ⟨s', q1, q2, fun k kn => ?_⟩
      simp only [mobius_Sums_4, mobius_Sums_2, joinD, forE, backE_eq, lt_d (show i < up.length by omega), ge0_d, cond_true, Bool.and_self, Int.toNat_natCast, Each_eq N, Option.bind_some, q3, w1 hm hi])
    (fun s k kn => by simp only [mobius_Sums_4, hlu, lt_self, cond_false]) (List.replicate m (0 : Int)) ⟨by simp, fun x hx => by rw [List.eq_of_mem_replicate hx]; exact I64.zero⟩
  refine ⟨s, ?_, r1, fun b hb => ?_⟩
  · rw [r3]; rfl
  · rw [r2 b hb, pw, nth_zeros, ph_zero]; grind
/-- The numbers of those that are behind. -/
noncomputable def acc (up : List Int) (m : Nat) (l : List Nat) (p : Nat) (s : List Int) (b : Nat) : Z := open Classical in Sg m fun y => if (∃ t, t < p ∧ nth 0 l t = y) ∧ le up y b ∧ y ≠ b then pw s y else 0
omit hN in
theorem undo_row {a : Nat} (ha : a < m) {s0 : List Int} (h0 : Nums m s0) :
    ∃ s, Nums m s ∧ (∀ j, j < m → pw s j = pw s0 j - if le up a j ∧ a ≠ j then pw s0 a else 0) ∧
      ∀ k : List Int → Option Rt_mobius_Undo, forD (fun y s kn => mobius_Undo_3 N (m : Int) up (a : Int) s (backE ((m : Int), up, (a : Int)) kn) y) k (eachXs (iandNot .u32 (nth 0 up a) (one a), ())) s0 = k s := by
  have hwi := WL.nth hw a
  have hbits : ∀ j, bt (iandNot .u32 (nth 0 up a) (one a)) j = true ↔ le up a j ∧ j ≠ a := fun j => by
    rw [bt_iandNot hwi (W32.one _), bt_one (by omega)]
    simp [le]
  obtain ⟨s, ⟨h1, -⟩, h2, h3⟩ := each_add (m := m) (w := iandNot .u32 (nth 0 up a) (one a)) W32.iandNot (fun j hj => ord_in ho ha ((hbits j).1 hj).1) (by omega) (fun j => j < m) pw (fun j x => if x = j then - pw s0 a else 0)
    (fun s => Nums m s ∧ nth 0 s a = nth 0 s0 a)
    (fun (_ : List Int → Option Rt_mobius_Undo) (y : Int) (s : List Int) kn => mobius_Undo_3 N (m : Int) up (a : Int) s (backE ((m : Int), up, (a : Int)) kn) y) (fun k s => k s)
    (fun j s hj hbj ⟨hs, hsa⟩ => by
      have hsl := hs.len
      have hne := ((hbits j).1 hbj).2
      refine ⟨s.set j (IntKind.i64.wrap (nth 0 s j - nth 0 s a)), ⟨hs.set (I64.wrap _) _, by rw [nth_set (by omega), if_neg hne, hsa]⟩, fun x hx => ?_, fun k kn => ?_⟩
      · rw [pw_set (by omega)]
        by_cases e : x = j
        · rw [if_pos e, if_pos e, ph_wrap, ph_sub, e, hsa]; grind
        · rw [if_neg e, if_neg e]; grind
      · simp only [mobius_Undo_3, backE_eq, ge0_d, lt_d (show j < s.length by omega), lt_d (show a < s.length by omega), Bool.and_self, cond_true, Int.toNat_natCast]) s0 ⟨h0, rfl⟩
  refine ⟨s, h1, fun j hj => ?_, h3⟩
  rw [h2 j hj]
  have e : (Sg m fun j' => if bt (iandNot .u32 (nth 0 up a) (one a)) j' = true then (if j = j' then - pw s0 a else 0) else 0) = - if le up a j ∧ a ≠ j then pw s0 a else 0 := by
    rw [Sg_one hj fun x hx hne => ?_]
    · by_cases e : le up a j ∧ a ≠ j
      · rw [if_pos e, if_pos ((hbits j).2 ⟨e.1, fun h => e.2 h.symm⟩), if_pos rfl]
      · rw [if_neg e, if_neg fun h => e ⟨((hbits j).1 h).1, fun h' => ((hbits j).1 h).2 h'.symm⟩]; grind
    · split
      · rw [if_neg fun h => hne h.symm]
      · rfl
  rw [e]; grind
theorem Undo_eq {v : List Int} (hv : Nums m v) : ∃ u, D_mobius_Undo N (((m : Int), up), v, ()) = some (u, 0, ()) ∧ Nums m u ∧ ∀ b, b < m → (Sg m fun a => pw u a * zt up a b) = pw v b := by
  obtain ⟨e, h1, h2⟩ := Check_spec (N := N) (by omega) hw (m : Int)
  obtain rfl := h2.2 ho
  obtain ⟨l, l1, l2, l3⟩ := Sorted_eq (N := N) (by omega) hw ho
  rw [Int.toNat_natCast] at l2 l3
  have hlu : up.length = m := by have := ho.len; omega
  have hvl := hv.len
  have hcp : cpy (List.replicate m (0 : Int)) v = v := by
    unfold cpy
    rw [List.length_replicate, List.take_of_length_le (by omega), List.drop_of_length_le (by rw [List.length_replicate]; omega), List.append_nil]
  have hlm : (l.map fun (i : Nat) => (i : Int)).length = m := by rw [List.length_map, l3]
  simp only [D_mobius_Undo, mobius_Undo_5, joinD, loopE, h1, l1, Option.bind_some, bne_self_eq_false, cond_false, hv.len, ge0_d, d_true (show (m : Int) ≤ (m : Int) by omega), d_true (show (m : Int) * 8 ≤ 281474976710656 by omega), Bool.and_self, cond_true, Int.toNat_natCast, hcp, hlm]
  have key := loopD_inv (R := Dens Rk_mobius_Undo) (g := fun (s : Int × List Int) kn => mobius_Undo_4 N (fun s => mobius_Undo_1 N s.2.2) (l.map fun (i : Nat) => (i : Int)) (m : Int) (m : Int) up s.1 s.2 (backE ((l.map fun (i : Nat) => (i : Int)), (m : Int), (m : Int), up) kn)) (N := N) (s := ((0 : Int), v)) m
    (fun p s => s.1 = (p : Int) ∧ Nums m s.2 ∧ ∀ b, b < m → pw s.2 b + acc up m l p s.2 b = pw v b) (k := fun s => some (s.2, 0, ())) ?_ ?_ (by omega) ⟨rfl, hv, fun b hb => ?_⟩
  · obtain ⟨⟨t, u⟩, ⟨-, q1, q2⟩, e⟩ := key
    refine ⟨u, e, q1, fun b hb => ?_⟩
    simp only at q2
    rw [← q2 b hb, Sg_apart hb]
    have e1 : zt up b b = 1 := by unfold zt; rw [if_pos (ho.refl b (by omega))]
    rw [e1]
    have e2 : (Sg m fun y => if y = b then 0 else pw u y * zt up y b) = acc up m l m u b := by
      unfold acc
      refine Sg_congr fun y hy => ?_
      obtain ⟨t, ht, hty⟩ := lined_all l2 l3 hy
      by_cases q : y = b
      · rw [if_pos q, if_neg fun h => h.2.2 q]
      · rw [if_neg q]
        unfold zt
        by_cases q3 : le up y b
        · rw [if_pos q3, if_pos ⟨⟨t, ht, hty⟩, q3, q⟩]; grind
        · rw [if_neg q3, if_neg fun h => q3 h.2.1]; grind
    rw [e2]; grind
  · rintro p ⟨t, s⟩ hp ⟨ht, hs, hI⟩
    simp only at ht hs hI
    subst ht
    have ha := lined_lt l2 l3 hp
    obtain ⟨s', q1, q2, q3⟩ := undo_row (N := N) hm hw ho ha hs
    refine ⟨((p : Int) + 1, s'), ⟨rfl, q1, fun b hb => ?_⟩, fun kn => ?_⟩
    · simp only
      have hnd : ¬ ∃ t, t < p ∧ nth 0 l t = nth 0 l p := fun ⟨t, ht, e⟩ => (lined_ne l2 l3 ht hp).1 e
      have h3 : acc up m l (p + 1) s' b = (if le up (nth 0 l p) b ∧ nth 0 l p ≠ b then pw s (nth 0 l p) else 0) + acc up m l p s b := by
        unfold acc
        have e3 : (if (∃ t, t < p ∧ nth 0 l t = nth 0 l p) ∧ le up (nth 0 l p) b ∧ nth 0 l p ≠ b then pw s (nth 0 l p) else 0) = 0 := if_neg fun h => hnd h.1
        have e1 : (if (∃ t, t < p + 1 ∧ nth 0 l t = nth 0 l p) ∧ le up (nth 0 l p) b ∧ nth 0 l p ≠ b then pw s' (nth 0 l p) else 0) = if le up (nth 0 l p) b ∧ nth 0 l p ≠ b then pw s (nth 0 l p) else 0 := by
          by_cases q : le up (nth 0 l p) b ∧ nth 0 l p ≠ b
          · rw [if_pos q, if_pos ⟨⟨p, by omega, rfl⟩, q⟩, q2 _ ha, if_neg fun h => h.2 rfl]; grind
          · rw [if_neg q, if_neg fun h => q h.2]
        have e2 : (Sg m fun y => if y = nth 0 l p then 0 else if (∃ t, t < p + 1 ∧ nth 0 l t = y) ∧ le up y b ∧ y ≠ b then pw s' y else 0) = Sg m fun y => if y = nth 0 l p then 0 else if (∃ t, t < p ∧ nth 0 l t = y) ∧ le up y b ∧ y ≠ b then pw s y else 0 := Sg_congr fun y hy => by
          by_cases q : y = nth 0 l p
          · rw [if_pos q, if_pos q]
          · rw [if_neg q, if_neg q]
            by_cases q4 : (∃ t, t < p ∧ nth 0 l t = y) ∧ le up y b ∧ y ≠ b
            · obtain ⟨⟨t, ht, hty⟩, q5⟩ := q4
              rw [if_pos ⟨⟨t, by omega, hty⟩, q5⟩, if_pos ⟨⟨t, ht, hty⟩, q5⟩, q2 y hy, if_neg fun h => (lined_ne l2 l3 ht hp).2 (by rw [hty]; exact h.1)]
              grind
            · rw [if_neg q4, if_neg fun ⟨⟨t, ht, hty⟩, h⟩ => q4 ⟨⟨t, by
                rcases Nat.lt_or_ge t p with h' | h'
                · exact h'
                · exact absurd (by rw [← hty, show t = p by omega]) q, hty⟩, h⟩]
        rw [Sg_apart ha (f := fun y => if (∃ t, t < p + 1 ∧ nth 0 l t = y) ∧ le up y b ∧ y ≠ b then pw s' y else 0), Sg_apart ha (f := fun y => if (∃ t, t < p ∧ nth 0 l t = y) ∧ le up y b ∧ y ≠ b then pw s y else 0), e1, e3, e2]
        grind
      rw [h3, q2 b hb, ← hI b hb]
      grind
    · simp only [mobius_Undo_4, mobius_Undo_2, joinD, forE, backE_eq, lt_d hp, hlm, nthc, lt_d (show nth 0 l p < up.length by omega), ge0_d, cond_true, Bool.and_self, Int.toNat_natCast, One_eq N (nth 0 l p), Each_eq N, Option.bind_some, q3, w1 hm hp]
  · rintro ⟨t, s⟩ ⟨ht, -⟩ kn
    simp only at ht
    subst ht
    simp only [mobius_Undo_4, lt_self, cond_false, mobius_Undo_1]
  · simp only
    unfold acc
    rw [Sg_zero fun y hy => if_neg fun h => by obtain ⟨⟨t, ht, -⟩, -⟩ := h; exact absurd ht (Nat.not_lt_zero _)]
    grind
omit hm in
theorem SU_bad {v : List Int} (hv : v.length ≠ m) : D_mobius_Sums N (((m : Int), up), v, ()) = some ([], 2, ()) ∧ D_mobius_Undo N (((m : Int), up), v, ()) = some ([], 2, ()) := by
  obtain ⟨e, h1, h2⟩ := Check_spec (N := N) (by omega) hw (m : Int)
  obtain rfl := h2.2 ho
  have : ((v.length : Int) != (m : Int)) = true := bne_iff_ne.2 (by omega)
  constructor <;> simp only [D_mobius_Sums, mobius_Sums_5, D_mobius_Undo, mobius_Undo_5, h1, Option.bind_some, bne_self_eq_false, cond_false, this, cond_true]
end
theorem longs_self {N : Nat} {xs : List Int} (hN : xs.length < N) (hl : xs.length ≤ 1000) : D_ref_Longs N (xs, xs, ()) = some (true, ()) := by
  simp only [D_ref_Longs, ref_Longs_3, joinD, loopE, bne_self_eq_false, cond_false]
  refine loopD_pass (n := xs.length) (by omega) (fun i hi kn => ?_) (fun kn => by simp only [ref_Longs_2, lt_self, cond_false, ref_Longs_1]) hN
  simp only [ref_Longs_2, lt_d hi, ge0_d, Bool.and_self, cond_true, Int.toNat_natCast, bne_self_eq_false, cond_false, backE_eq, w64 (show -9223372036854775808 ≤ (i : Int) + 1 by omega) (show (i : Int) + 1 ≤ 9223372036854775807 by omega)]
end Go.Proofs.YtagghgmpdjoknaaDoor
