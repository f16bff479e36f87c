/- sets: what its functions come to. -/
import Derived.Test.YtnlkjgfopenmnaaDoorIter
import Derived.Test.YtnlkjgfopenmnaaDoorAbsLp
namespace Go.Proofs.YtnlkjgfopenmnaaDoor
open Go.Abs
theorem One_eq (N : Nat) (i : Nat) : D_sets_One N ((i : Int), ()) = some (one i, ()) := by
  simp only [D_sets_One, sets_One_1]
  rw [show decide ((i : Int) < 0) = false from decide_eq_false (by omega)]; rfl
theorem Has_eq (N : Nat) {w : Int} (hw : W32 w) (i : Nat) : D_sets_Has_uint32 N (w, (i : Int), ()) = some (bt w i, ()) := by
  simp only [D_sets_Has_uint32, sets_Has_uint32_1]
  rw [show decide ((i : Int) < 0) = false from decide_eq_false (by omega), has_bit hw]; rfl
theorem Each_eq (N : Nat) (w : Int) : D_sets_Each_uint32 N (w, ()) = some w := rfl
/-- A range over a word's elements without a way out. -/
theorem forD_els {R S : Type} {f : Int → S → (S → Option R) → Option R} {k : S → Option R} {w : Int} (hw : W32 w) (st : S → Nat → S) (I : S → Prop)
    (h : ∀ (i : Nat) s kn, i < 32 → bt w i = true → I s → f (i : Int) s kn = kn (st s i) ∧ I (st s i)) (s : S) (hi : I s) : forD f k (eachXs (w, ())) s = k ((els w).foldl st s) ∧ I ((els w).foldl st s) := by
  rw [eachXs_els hw]
  have hm : ∀ i ∈ els w, i < 32 ∧ bt w i = true := fun i hi => mem_els'.1 hi
  generalize els w = l at hm
  induction l generalizing s with
  | nil => exact ⟨rfl, hi⟩
  | cons i l ih =>
    obtain ⟨h1, h2⟩ := hm i (by simp)
    have h3 := fun kn => h i s kn h1 h2 hi
    rw [List.map_cons, forD_cons, (h3 _).1]
    exact ih _ (h3 fun _ => none).2 fun j hj => hm j (by simp [hj])
theorem mem_each {w x : Int} (hw : W32 w) : x ∈ eachXs (w, ()) ↔ ∃ i : Nat, x = (i : Int) ∧ i < 32 ∧ bt w i = true := by
  rw [eachXs_els hw, List.mem_map]
  simp only [mem_els']
  exact ⟨fun ⟨i, h, e⟩ => ⟨i, e.symm, h⟩, fun ⟨i, e, h⟩ => ⟨i, h, e.symm⟩⟩
theorem els_hit {R : Type} {f : Int → Unit → (Unit → Option R) → Option R} {k : Unit → Option R} {r : Option R} {w : Int} (hw : W32 w) (bad : Nat → Prop)
    (h1 : ∀ i : Nat, i < 32 → bt w i = true → bad i → ∀ kn, f i () kn = r) (h2 : ∀ i : Nat, i < 32 → bt w i = true → ¬ bad i → ∀ kn, f i () kn = kn ()) (h : ∃ i, bt w i = true ∧ bad i) : forD f k (eachXs (w, ())) () = r := by
  refine forD_hit (fun x => bad x.toNat) _ (fun x hx hb => ?_) (fun x hx hb => ?_) ?_
  · obtain ⟨i, rfl, hi, hbt⟩ := (mem_each hw).1 hx
    exact h1 i hi hbt (by simpa using hb)
  · obtain ⟨i, rfl, hi, hbt⟩ := (mem_each hw).1 hx
    exact h2 i hi hbt (by simpa using hb)
  · obtain ⟨i, hi, hb⟩ := h
    exact ⟨i, (mem_each hw).2 ⟨i, rfl, bt_lt hw hi, hi⟩, by simpa using hb⟩
theorem els_pass {R : Type} {f : Int → Unit → (Unit → Option R) → Option R} {k : Unit → Option R} {w : Int} (hw : W32 w)
    (h2 : ∀ i : Nat, i < 32 → bt w i = true → ∀ kn, f i () kn = kn ()) : forD f k (eachXs (w, ())) () = k () :=
  forD_pass _ fun x hx => by
    obtain ⟨i, rfl, hi, hbt⟩ := (mem_each hw).1 hx
    exact h2 i hi hbt
end Go.Proofs.YtnlkjgfopenmnaaDoor
