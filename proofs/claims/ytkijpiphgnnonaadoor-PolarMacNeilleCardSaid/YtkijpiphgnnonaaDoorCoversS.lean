/- order.Dual, Above, Covers: what they come to. -/
import Derived.Test.YtkijpiphgnnonaaDoorDualS
namespace Go.Proofs.YtkijpiphgnnonaaDoor
open Go.Abs
theorem forD_app {R β : Type} {f : Int → List β → (List β → Option R) → Option R} {k : List β → Option R} {w : Int} (hw : W32 w) (c : Nat → β) (B : Nat)
    (h : ∀ j : Nat, j < 32 → bt w j = true → ∀ (s : List β) (kn : List β → Option R), s.length < B → f (j : Int) s kn = kn (s ++ [c j])) (s : List β) (hs : s.length + 32 ≤ B) : forD f k (eachXs (w, ())) s = k (s ++ (els w).map c) := by
  rw [eachXs_els hw]
  have hm : ∀ i ∈ els w, i < 32 ∧ bt w i = true := fun i hi => mem_els'.1 hi
  have hl : (els w).length ≤ 32 := by unfold els; exact Nat.le_trans (List.length_filter_le _ _) (by simp)
  generalize els w = l at hm hl
  induction l generalizing s with
  | nil => simp [forD]
  | cons i l ih =>
    obtain ⟨h1, h2⟩ := hm i (by simp)
    simp only [List.length_cons] at hl
    rw [List.map_cons, forD_cons, h i h1 h2 s _ (by omega)]
    have key : ∀ (l : List Nat) (s : List β), (∀ i ∈ l, i < 32 ∧ bt w i = true) → s.length + l.length ≤ B → forD f k (l.map fun (i : Nat) => (i : Int)) s = k (s ++ l.map c) := by
      intro l
      induction l with
      | nil => intro s _ _; simp [forD]
      | cons i l ih2 =>
        intro s hm hl
        obtain ⟨h1, h2⟩ := hm i (by simp)
        simp only [List.length_cons] at hl
        rw [List.map_cons, forD_cons, h i h1 h2 s _ (by omega), ih2 _ (fun j hj => hm j (by simp [hj])) (by simp; omega)]
        simp
    rw [key l _ (fun j hj => hm j (by simp [hj])) (by simp; omega)]
    simp
end Go.Proofs.YtkijpiphgnnonaaDoor
