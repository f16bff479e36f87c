/- Loops of the abstract machine's functions: what they come to. -/
import Derived.Test.YtiepnpfjlknkoaaDoorAbsEnt2
namespace Go.Abs
section
variable {R S : Type}
/-- A loop that goes down in a measure, by the states that it may come to. -/
theorem loopD_run {g : S → (S → Option R) → Option R} (I : S → Prop) (m : S → Nat) (out : S → Option R)
    (hs : ∀ s, I s → ∀ kn : S → Option R, (∀ s', I s' → m s' < m s → kn s' = out s') → g s kn = out s) : ∀ N s, I s → m s < N → loopD g N s = out s
  | 0, _, _, h => by omega
  | N + 1, s, hi, hm => hs s hi _ fun s' hi' hm' => loopD_run I m out hs N s' hi' (by omega)
theorem forD_nil {α : Type} {f : α → S → (S → Option R) → Option R} {k : S → Option R} {s : S} : forD f k [] s = k s := rfl
theorem forD_cons {α : Type} {f : α → S → (S → Option R) → Option R} {k : S → Option R} {x : α} {xs : List α} {s : S} : forD f k (x :: xs) s = f x s (forD f k xs) := rfl
/-- A range without a way out: a fold. -/
theorem forD_fold {α : Type} {f : α → S → (S → Option R) → Option R} {k : S → Option R} (st : S → α → S) : (xs : List α) → (I : S → List α → Prop) →
    (∀ x r s kn, I s (x :: r) → f x s kn = kn (st s x) ∧ I (st s x) r) → ∀ s, I s xs → forD f k xs s = k (xs.foldl st s)
  | [], _, _, s, _ => rfl
  | x :: r, I, h, s, hi => by
    obtain ⟨h1, h2⟩ := h x r s (forD f k r) hi
    rw [forD_cons, h1, forD_fold st r I h _ h2]; rfl
/-- A range, by what it comes to from each place on. -/
theorem forD_run {α : Type} {f : α → S → (S → Option R) → Option R} {k : S → Option R} (out : List α → S → Option R) (I : S → List α → Prop) (h0 : ∀ s, I s [] → k s = out [] s)
    (hs : ∀ x r s kn, I s (x :: r) → (∀ s', I s' r → kn s' = out r s') → f x s kn = out (x :: r) s) : ∀ xs s, I s xs → forD f k xs s = out xs s
  | [], s, hi => h0 s hi
  | x :: r, s, hi => hs x r s _ hi fun s' hi' => forD_run out I h0 hs r s' hi'
end
theorem wrap_id {k : IntKind} {n : Int} (h1 : k.min ≤ n) (h2 : n ≤ k.max) : k.wrap n = n := by
  cases k <;> simp only [IntKind.min, IntKind.max, IntKind.wrap, IntKind.bits, IntKind.signed] at * <;> first | omega | (simp at *; omega)
end Go.Abs
