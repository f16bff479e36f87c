/- order.Down, Dual, Above, Covers; the references' Words and Orders: what they come to. -/
import Derived.Test.YtiepnpfjlknkoaaDoorCheckS
import Derived.Test.YtiepnpfjlknkoaaDoorOrderB
namespace Go.Proofs.YtiepnpfjlknkoaaDoor
open Go.Abs
theorem Words_eq {N : Nat} {a b : List Int} (hN : a.length < N) (hl : a.length < 4611686018427387904) : ∃ r, D_ref_Words N (a, b, ()) = some (r, ()) ∧ (r = true ↔ a = b) := by
  simp only [D_ref_Words, ref_Words_11, ref_Words_10, ref_Words_9, ref_Words_8, ref_Words_7, ref_Words_6, ref_Words_5, ref_Words_3, ref_Words_2, ref_Words_1]
  by_cases h : a.length = b.length
  case neg =>
    rw [show ((a.length : Int) != (b.length : Int)) = true from by simp; omega]
    exact ⟨false, rfl, by simp; exact fun e => h (by rw [e])⟩
  rw [show ((a.length : Int) != (b.length : Int)) = false from by simp [h], cond_false]
  have step : ∀ i : Nat, i < a.length → ∀ (kn : Int → Option Rt_ref_Words) k, ref_Words_4 N a b i kn k = bif (nth 0 a i != nth 0 b i) then some (false, ()) else kn ((i : Int) + 1) := fun i hi kn k => by
    simp only [ref_Words_4, lt_d hi, lt_d (show i < b.length by omega), ge0_d, cond_true, Bool.and_self, Int.toNat_natCast, w64 (show -9223372036854775808 ≤ (i : Int) + 1 by omega) (by omega)]
  by_cases hB : ∃ i, i < a.length ∧ nth 0 a i ≠ nth 0 b i
  · rw [loopD_hit (n := a.length) hl (r := some (false, ())) (fun i => nth 0 a i ≠ nth 0 b i) (fun i hi hb kn => by rw [step i hi, bne_iff_ne.2 hb]; rfl) (fun i hi hb kn => by
      rw [step i hi, show (nth 0 a i != nth 0 b i) = false from by simpa using hb]; rfl) hN hB]
    obtain ⟨i, hi, hb⟩ := hB
    exact ⟨false, rfl, by simp; rintro rfl; exact hb rfl⟩
  · have hall : ∀ i, i < a.length → nth 0 a i = nth 0 b i := fun i hi => Classical.byContradiction fun h' => hB ⟨i, hi, h'⟩
    rw [loopD_pass (n := a.length) hl (k := some (true, ())) (fun i hi kn => by rw [step i hi, show (nth 0 a i != nth 0 b i) = false from by simp [hall i hi]]; rfl) (fun kn => by simp only [ref_Words_4, lt_self, cond_false]) hN]
    exact ⟨true, rfl, by simp; exact ext_nth h hall⟩
theorem Orders_eq {N : Nat} {n m : Int} {a b : List Int} (hN : a.length < N) (hl : a.length < 4611686018427387904) : ∃ r, D_ref_Orders N ((n, a), (m, b), ()) = some (r, ()) ∧ (r = true ↔ n = m ∧ a = b) := by
  simp only [D_ref_Orders, ref_Orders_1]
  obtain ⟨r, h1, h2⟩ := Words_eq (b := b) hN hl
  by_cases h : n = m
  · subst h
    simp only [beq_self_eq_true, cond_true, h1, Option.bind_some]
    exact ⟨r, rfl, by simp [h2]⟩
  · rw [show (n == m) = false from beq_false_of_ne h, cond_false]
    exact ⟨false, rfl, by simp [h]⟩
theorem Down_eq {N : Nat} {up : List Int} (hw : WL up) {n : Int} (h : Ord n up) (hN : 40 ≤ N) : D_order_Down N ((n, up), ()) = some (colsS up n up.length) := by
  obtain ⟨m, rfl⟩ : ∃ m : Nat, n = (m : Int) := ⟨n.toNat, by have := h.h0; omega⟩
  have hm : up.length = m := by have := h.len; omega
  have hm16 : m ≤ 16 := by have := h.h1; omega
  simp only [D_order_Down, order_Down_25, order_Down_24, order_Down_23, order_Down_22, order_Down_21, order_Down_20, order_Down_19, order_Down_3, order_Down_2, order_Down_1, ge0_d, d_true (show (m : Int) ≤ (m : Int) by omega), d_true (show (m : Int) * 4 ≤ 281474976710656 by omega), Bool.and_self, cond_true]
  refine loopD_const (fun s => ∃ k : Nat, s = ((k : Int), colsS up m k) ∧ k ≤ m) (fun s => m - s.1.toNat) _ ?_ N _ ⟨0, by simp [colsS, mkw, List.map_const'], by omega⟩ (by simp; omega)
  rintro s ⟨k, rfl, hk⟩ kn hkn
  by_cases hkl : k < m
  · have hW := WL.nth hw k
    have hin : ∀ j, bt (nth 0 up k) j = true → j < (m : Int).toNat := fun j hj => h.inn k (by omega) j hj
    simp only [order_Down_18, order_Down_17, order_Down_16, order_Down_15, order_Down_14, order_Down_13, order_Down_12, order_Down_11, order_Down_10, order_Down_9, order_Down_8, order_Down_7, order_Down_6, order_Down_5, order_Down_4,
      d_true (show (k : Int) < (up.length : Int) by omega), ge0_d, cond_true, Bool.and_self, Int.toNat_natCast, Each_eq, One_eq, Option.bind_some]
    refine (forD_els hW (fun cs j => cs.set j (ior .u32 (nth 0 cs j) (one k))) (fun cs => cs.length = (m : Int).toNat) (fun i s kn hi hbi hs => ?_) (colsS up m k) (colsS_len up m k)).1.trans ?_
    · have := hin i hbi
      simp only [hs, ge0_d, lt_d (show i < m by omega), Bool.and_self, cond_true, Int.toNat_natCast, List.length_set, and_self]
      rw [One_eq]
      exact ⟨rfl, trivial⟩
    · rw [cols_step hw (by omega) hin, w1 hm16 hkl]
      exact hkn _ ⟨k + 1, rfl, by omega⟩ (by simp; omega)
  · have : k = m := by omega
    subst this
    simp only [order_Down_18, order_Down_17, order_Down_5, order_Down_4, hm, lt_self, cond_false]
end Go.Proofs.YtiepnpfjlknkoaaDoor
