/- What mobius.Chains comes to: how many chains of each length lead from one element to another. -/
import Derived.Test.YtagghgmpdjoknaaDoorMobS
import Derived.Test.YtagghgmpdjoknaaDoorMobC
namespace Go.Proofs.YtagghgmpdjoknaaDoor
open Go.Abs
/-- How many chains of a length lead from a to each element. -/
def chn (up : List Int) (m a : Nat) : Nat → Nat → Z
  | 0, j => if j = a then 1 else 0
  | k + 1, j => Sg m fun i => if le up i j ∧ i ≠ j then chn up m a k i else 0
abbrev pv (l : List Int) (j : Nat) : Z := ph (nth 0 l j)
theorem pv_set {l : List Int} {i : Nat} (hi : i < l.length) (x : Int) (j : Nat) : pv (l.set i x) j = if j = i then ph x else pv l j := by
  unfold pv
  rw [nth_set hi]
  by_cases e : i = j
  · rw [if_pos e, if_pos e.symm]
  · rw [if_neg e, if_neg fun h => e h.symm]
section
variable {N m : Nat} (hN : 1000 ≤ N) (hm : m ≤ 16) {up : List Int} (hw : WL up) (ho : Ord (m : Int) up)
include hm hw ho
theorem chains_row {i : Nat} (hi : i < m) {ends : List Int} (he : ends.length = m) (x1 x2 : List Int) {s0 : List Int} (h0 : s0.length = m) :
    ∃ s, s.length = m ∧ (∀ j, j < m → pv s j = pv s0 j + if le up i j ∧ i ≠ j then pv ends i else 0) ∧
      ∀ k : List Int → Option Rt_mobius_Chains, forD (fun y s kn => mobius_Chains_5 N (m : Int) up x1 x2 ends (i : Int) s (backE ((m : Int), up, x1, x2, ends, (i : Int)) kn) y) k (eachXs (iandNot .u32 (nth 0 up i) (one i), ())) s0 = k s := by
  have hwi := WL.nth hw i
  have hbits : ∀ j, bt (iandNot .u32 (nth 0 up i) (one i)) j = true ↔ le up i j ∧ j ≠ i := fun j => by
    rw [bt_iandNot hwi (W32.one _), bt_one (by omega)]
    simp [le]
  obtain ⟨s, h1, h2, h3⟩ := each_add (m := m) (w := iandNot .u32 (nth 0 up i) (one i)) W32.iandNot (fun j hj => ord_in ho hi ((hbits j).1 hj).1) (by omega) (fun j => j < m) pv (fun j x => if x = j then pv ends i else 0)
    (fun s => s.length = m)
    (fun (_ : List Int → Option Rt_mobius_Chains) (y : Int) (s : List Int) kn => mobius_Chains_5 N (m : Int) up x1 x2 ends (i : Int) s (backE ((m : Int), up, x1, x2, ends, (i : Int)) kn) y) (fun k s => k s)
    (fun j s hj _ hs => by
      refine ⟨s.set j (IntKind.i64.wrap (nth 0 s j + nth 0 ends i)), by simpa using hs, fun x hx => ?_, fun k kn => ?_⟩
      · rw [pv_set (by omega)]
        by_cases e : x = j
        · rw [if_pos e, if_pos e, ph_wrap, ph_add, e]
        · rw [if_neg e, if_neg e]; grind
      · simp only [mobius_Chains_5, backE_eq, ge0_d, lt_d (show j < s.length by omega), lt_d (show i < ends.length by omega), Bool.and_self, cond_true, Int.toNat_natCast]) s0 h0
  refine ⟨s, h1, fun j hj => ?_, h3⟩
  rw [h2 j hj]
  congr 1
  rw [Sg_one hj fun x hx hne => ?_]
  · by_cases e : le up i j ∧ i ≠ j
    · rw [if_pos e, if_pos ((hbits j).2 ⟨e.1, fun h => e.2 h.symm⟩), if_pos rfl]
    · rw [if_neg e, if_neg fun h => e ⟨((hbits j).1 h).1, fun h' => ((hbits j).1 h).2 h'.symm⟩]
  · split
    · rw [if_neg fun h => hne h.symm]
    · rfl
include hN
theorem Chains_eq {a b : Nat} (ha : a < m) (hb : b < m) : ∃ l, D_mobius_Chains N (((m : Int), up), (a : Int), (b : Int), ()) = some (l, 0, ()) ∧ l.length = m ∧ ∀ k, k < m → pv l k = chn up m a k b := by
  obtain ⟨e, h1, h2⟩ := Check_spec (N := N) (by omega) hw (m : Int)
  obtain rfl := h2.2 ho
  have hlu : up.length = m := by have := ho.len; omega
  have e1 : (if (b : Int) < (a : Int) then (b : Int) else (a : Int)) < 0 ↔ False := by split <;> simp
  have e2 : (if (b : Int) > (a : Int) then (b : Int) else (a : Int)) ≥ (m : Int) ↔ False := by split <;> simp <;> omega
  simp only [D_mobius_Chains, mobius_Chains_8, mobius_Chains_1, joinD, loopE, h1, Option.bind_some, bne_self_eq_false, cond_false, d_false (e1.1), d_false (e2.1), ge0_d, d_true (show (m : Int) ≤ (m : Int) by omega), d_true (show (m : Int) * 8 ≤ 281474976710656 by omega), Bool.and_self, cond_true, Int.toNat_natCast, List.length_replicate, lt_d ha]
  generalize hE0 : (List.replicate m (0 : Int)).set a 1 = E0
  have hE : ∀ j, j < m → pv E0 j = chn up m a 0 j := fun j hj => by
    rw [← hE0, pv_set (by simpa using ha)]
    unfold chn
    by_cases e : j = a
    · rw [if_pos e, if_pos e]; rfl
    · rw [if_neg e, if_neg e, pv, nth_zeros]; rfl
  have hEl : E0.length = m := by rw [← hE0]; simp
  have key := loopD_inv (R := Dens Rk_mobius_Chains) (g := fun (s : Int × List Int × List Int) kn => mobius_Chains_7 N (fun s => some (s.2.2.1, 0, ())) (b : Int) (m : Int) (m : Int) up E0 s.1 s.2.1 s.2.2 (backE ((b : Int), (m : Int), (m : Int), up, E0) kn)) (N := N) (s := ((0 : Int), List.replicate m (0 : Int), E0)) m
    (fun k s => s.1 = (k : Int) ∧ s.2.1.length = m ∧ (∀ j, j < k → pv s.2.1 j = chn up m a j b) ∧ s.2.2.length = m ∧ ∀ j, j < m → pv s.2.2 j = chn up m a k j) (k := fun s => some (s.2.1, 0, ())) ?_ ?_ (by omega) ⟨rfl, by simp, fun j hj => absurd hj (Nat.not_lt_zero j), hEl, hE⟩
  · obtain ⟨s, ⟨-, q1, q2, -⟩, e⟩ := key
    exact ⟨s.2.1, e, q1, q2⟩
  · rintro k ⟨t, out, ends⟩ hk ⟨ht, h1, h2, h3, h4⟩
    simp only at ht h1 h2 h3 h4
    subst ht
    obtain ⟨s', r1, r2, r3⟩ := loop_add (N := N) (fun (k83 : Int × Int × Int × Int × List Int × List Int × List Int × List Int × List Int → Option Rt_mobius_Chains) (s : Int × List Int) kn =>
        mobius_Chains_6 N k83 (b : Int) (m : Int) (k : Int) up (up.length : Int) (m : Int) up (out.set k (nth 0 ends b)) E0 ends s.1 s.2 (backE ((b : Int), (m : Int), (k : Int), up, (up.length : Int), (m : Int), up, out.set k (nth 0 ends b), E0, ends) kn))
      (fun k83 s => k83 ((b : Int), (m : Int), (k : Int), (m : Int), up, out.set k (nth 0 ends b), E0, ends, s)) (n := m) (by omega) (fun j => j < m) pv (fun i j => if le up i j ∧ i ≠ j then pv ends i else 0) (fun s => s.length = m)
      (fun i s hi hs => by
        obtain ⟨s', q1, q2, q3⟩ := chains_row (N := N) hm hw ho hi h3 (out.set k (nth 0 ends b)) E0 hs
        refine ⟨s', q1, q2, fun k83 kn => ?_⟩
        simp only [mobius_Chains_6, mobius_Chains_4, joinD, forE, backE_eq, lt_d (show i < up.length by omega), ge0_d, cond_true, Bool.and_self, Int.toNat_natCast, One_eq N i, Each_eq N, Option.bind_some, q3, w1 hm hi])
      (fun s k83 kn => by simp only [mobius_Chains_6, hlu, lt_self, cond_false]) (List.replicate m (0 : Int)) (by simp)
    refine ⟨((k : Int) + 1, out.set k (nth 0 ends b), s'), ⟨by simp, by simpa using h1, fun j hj => ?_, r1, fun j hj => ?_⟩, fun kn => ?_⟩
    · rw [pv_set (by omega)]
      by_cases e : j = k
      · rw [if_pos e, e]; exact h4 b hb
      · rw [if_neg e]; exact h2 j (by omega)
    · rw [r2 j hj, pv, nth_zeros]
      have : chn up m a (k + 1) j = Sg m fun i => if le up i j ∧ i ≠ j then chn up m a k i else 0 := rfl
      rw [this, ph_zero]
      have e : (Sg m fun i => if le up i j ∧ i ≠ j then pv ends i else 0) = Sg m fun i => if le up i j ∧ i ≠ j then chn up m a k i else 0 := Sg_congr fun i hi => by
        by_cases e : le up i j ∧ i ≠ j
        · rw [if_pos e, if_pos e]; exact h4 i hi
        · rw [if_neg e, if_neg e]
      rw [e]; grind
    · simp only [mobius_Chains_7, mobius_Chains_3, mobius_Chains_2, joinD, loopE, lt_d hk, lt_d (show b < ends.length by omega), lt_d (show k < out.length by omega), ge0_d, Bool.and_self, cond_true, Int.toNat_natCast, d_true (show (m : Int) ≤ (m : Int) by omega), d_true (show (m : Int) * 8 ≤ 281474976710656 by omega), r3, w1 hm hk, backE_eq]
  · rintro ⟨t, out, ends⟩ ⟨ht, -⟩ kn
    simp only at ht
    subst ht
    simp only [mobius_Chains_7, lt_self, cond_false]
end
end Go.Proofs.YtagghgmpdjoknaaDoor
