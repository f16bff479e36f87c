/- order.Dual, Above, Covers: what they come to. -/
import Derived.Test.YtagghgmpdjoknaaDoorDualS
namespace Go.Proofs.YtagghgmpdjoknaaDoor
open Go.Abs
theorem Dual_eq {N : Nat} (hN : 40 ≤ N) {up : List Int} (hw : WL up) {n : Int} (h : Ord n up) : D_order_Dual N ((n, up), ()) = some ((n, colsS up n up.length), 0, ()) := by
  obtain ⟨e, h1, h2⟩ := Check_spec hN hw n
  obtain rfl := h2.2 h
  simp only [D_order_Dual, order_Dual_1, h1, Option.bind_some, bne_self_eq_false, cond_false, Down_eq hw h hN, Option.map_some]
theorem Above_eq {N : Nat} {up : List Int} (hw : WL up) {n : Int} (h : Ord n up) {i : Nat} (hi : i < n.toNat) : D_order_Above N ((n, up), (i : Int), ()) = some (aboveW up i, ()) := by
  have hl := h.len
  have h16 := h.h1
  simp only [D_order_Above, joinD, forE, backE_eq, order_Above_1, order_Above_2, order_Above_3, ge0_d, lt_d (show i < up.length by omega), Bool.and_self, cond_true, One_eq N i, Each_eq, Option.bind_some, Int.toNat_natCast]
  refine (forD_els W32.iandNot (fun w j => iandNot .u32 w (iandNot .u32 (nth 0 up j) (one j))) (fun _ => True) (fun j s kn hj hb _ => ?_) _ trivial).1
  rw [bt_iandNot (hw.nth i) (W32.one i), Bool.and_eq_true] at hb
  have := h.inn i hi j hb.1
  simp only [ge0_d, Bool.and_self, lt_d (show j < up.length by omega), cond_true, Int.toNat_natCast, One_eq N j, Option.bind_some, and_self]
theorem forD_app {R β : Type} {f : Int → List β → (List β → Option R) → Option R} {k : List β → Option R} {w : Int} (hw : W32 w) (c : Nat → β) (B : Nat)
    (h : ∀ j : Nat, j < 32 → bt w j = true → ∀ (s : List β) (kn : List β → Option R), s.length < B → f (j : Int) s kn = kn (s ++ [c j])) (s : List β) (hs : s.length + 32 ≤ B) : forD f k (eachXs (w, ())) s = k (s ++ (els w).map c) := by
  rw [eachXs_els hw]
  have hm : ∀ i ∈ els w, i < 32 ∧ bt w i = true := fun i hi => mem_els'.1 hi
  have hl : (els w).length ≤ 32 := by unfold els; exact Nat.le_trans (List.length_filter_le _ _) (by simp)
  generalize els w = l at hm hl
  induction l generalizing s with
  | nil => simp [forD]
  | cons i l ih =>
    obtain ⟨h1, h2⟩ := hm i (by simp)
    simp only [List.length_cons] at hl
    rw [List.map_cons, forD_cons, h i h1 h2 s _ (by omega)]
    have key : ∀ (l : List Nat) (s : List β), (∀ i ∈ l, i < 32 ∧ bt w i = true) → s.length + l.length ≤ B → forD f k (l.map fun (i : Nat) => (i : Int)) s = k (s ++ l.map c) := by
      intro l
      induction l with
      | nil => intro s _ _; simp [forD]
      | cons i l ih2 =>
        intro s hm hl
        obtain ⟨h1, h2⟩ := hm i (by simp)
        simp only [List.length_cons] at hl
        rw [List.map_cons, forD_cons, h i h1 h2 s _ (by omega), ih2 _ (fun j hj => hm j (by simp [hj])) (by simp; omega)]
        simp
    rw [key l _ (fun j hj => hm j (by simp [hj])) (by simp; omega)]
    simp
end Go.Proofs.YtagghgmpdjoknaaDoor
