/- order.Down, Dual, Above, Covers; the references' Words and Orders: what they come to. -/
import Derived.Test.YtkijpiphgnnonaaDoorCheckS
import Derived.Test.YtkijpiphgnnonaaDoorOrderB
namespace Go.Proofs.YtkijpiphgnnonaaDoor
open Go.Abs
theorem Down_eq {N : Nat} {up : List Int} (hw : WL up) {n : Int} (h : Ord n up) (hN : 40 ≤ N) : D_order_Down N ((n, up), ()) = some (colsS up n up.length) := by
  obtain ⟨m, rfl⟩ : ∃ m : Nat, n = (m : Int) := ⟨n.toNat, by have := h.h0; omega⟩
  have hm : up.length = m := by have := h.len; omega
  have hm16 : m ≤ 16 := by have := h.h1; omega
  simp only [D_order_Down, order_Down_5, order_Down_1, joinD, loopE, ge0_d, d_true (show (m : Int) ≤ (m : Int) by omega), d_true (show (m : Int) * 4 ≤ 281474976710656 by omega), Bool.and_self, cond_true]
  refine loopD_const (fun s => ∃ k : Nat, s = ((k : Int), colsS up m k) ∧ k ≤ m) (fun s => m - s.1.toNat) _ ?_ N _ ⟨0, by simp [colsS, mkw, List.map_const'], by omega⟩ (by simp; omega)
  rintro s ⟨k, rfl, hk⟩ kn hkn
  by_cases hkl : k < m
  · have hW := WL.nth hw k
    have hin : ∀ j, bt (nth 0 up k) j = true → j < (m : Int).toNat := fun j hj => h.inn k (by omega) j hj
    simp only [order_Down_4, order_Down_3, order_Down_2, joinD, forE, backE_eq,
      d_true (show (k : Int) < (up.length : Int) by omega), ge0_d, cond_true, Bool.and_self, Int.toNat_natCast, Each_eq, One_eq, Option.bind_some]
    refine (forD_els hW (fun cs j => cs.set j (ior .u32 (nth 0 cs j) (one k))) (fun cs => cs.length = (m : Int).toNat) (fun i s kn hi hbi hs => ?_) (colsS up m k) (colsS_len up m k)).1.trans ?_
    · have := hin i hbi
      simp only [hs, ge0_d, lt_d (show i < m by omega), Bool.and_self, cond_true, Int.toNat_natCast, List.length_set, and_self]
      rw [One_eq]
      exact ⟨rfl, trivial⟩
    · rw [cols_step hw (by omega) hin, w1 hm16 hkl]
      exact hkn _ ⟨k + 1, rfl, by omega⟩ (by simp; omega)
  · have : k = m := by omega
    subst this
    simp only [order_Down_4, hm, lt_self, cond_false]
end Go.Proofs.YtkijpiphgnnonaaDoor
