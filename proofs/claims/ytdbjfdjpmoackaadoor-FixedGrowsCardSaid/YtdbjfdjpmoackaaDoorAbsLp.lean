/- Loops of the abstract machine's functions: what they come to. -/
import Derived.Test.YtdbjfdjpmoackaaDoorAbsEnt2
namespace Go.Abs
section
variable {R S : Type}
/-- A loop that goes down in a measure, by the states that it may come to. -/
theorem loopD_run {g : S → (S → Option R) → Option R} (I : S → Prop) (m : S → Nat) (out : S → Option R)
    (hs : ∀ s, I s → ∀ kn : S → Option R, (∀ s', I s' → m s' < m s → kn s' = out s') → g s kn = out s) : ∀ N s, I s → m s < N → loopD g N s = out s
  | 0, _, _, h => by omega
  | N + 1, s, hi, hm => hs s hi _ fun s' hi' hm' => loopD_run I m out hs N s' hi' (by omega)
theorem forD_nil {α : Type} {f : α → S → (S → Option R) → Option R} {k : S → Option R} {s : S} : forD f k [] s = k s := rfl
theorem forD_cons {α : Type} {f : α → S → (S → Option R) → Option R} {k : S → Option R} {x : α} {xs : List α} {s : S} : forD f k (x :: xs) s = f x s (forD f k xs) := rfl
/-- A range without a way out: a fold. -/
theorem forD_fold {α : Type} {f : α → S → (S → Option R) → Option R} {k : S → Option R} (st : S → α → S) : (xs : List α) → (I : S → List α → Prop) →
    (∀ x r s kn, I s (x :: r) → f x s kn = kn (st s x) ∧ I (st s x) r) → ∀ s, I s xs → forD f k xs s = k (xs.foldl st s)
  | [], _, _, s, _ => rfl
  | x :: r, I, h, s, hi => by
    obtain ⟨h1, h2⟩ := h x r s (forD f k r) hi
    rw [forD_cons, h1, forD_fold st r I h _ h2]; rfl
/-- A range, by what it comes to from each place on. -/
theorem forD_run {α : Type} {f : α → S → (S → Option R) → Option R} {k : S → Option R} (out : List α → S → Option R) (I : S → List α → Prop) (h0 : ∀ s, I s [] → k s = out [] s)
    (hs : ∀ x r s kn, I s (x :: r) → (∀ s', I s' r → kn s' = out r s') → f x s kn = out (x :: r) s) : ∀ xs s, I s xs → forD f k xs s = out xs s
  | [], s, hi => h0 s hi
  | x :: r, s, hi => hs x r s _ hi fun s' hi' => forD_run out I h0 hs r s' hi'
/-- A loop, by what is known of its answer. -/
theorem loopD_post {g : S → (S → Option R) → Option R} (I : S → Prop) (m : S → Nat) (Post : Option R → Prop)
    (hs : ∀ s, I s → ∀ kn : S → Option R, (∀ s', I s' → m s' < m s → Post (kn s')) → Post (g s kn)) : ∀ N s, I s → m s < N → Post (loopD g N s)
  | 0, _, _, h => by omega
  | N + 1, s, hi, hm => hs s hi _ fun s' hi' hm' => loopD_post I m Post hs N s' hi' (by omega)
theorem forD_post {α : Type} {f : α → S → (S → Option R) → Option R} {k : S → Option R} (Post : Option R → Prop) (I : List α → S → Prop) (h0 : ∀ s, I [] s → Post (k s))
    (hs : ∀ x r s (kn : S → Option R), I (x :: r) s → (∀ s', I r s' → Post (kn s')) → Post (f x s kn)) : ∀ xs s, I xs s → Post (forD f k xs s)
  | [], s, hi => h0 s hi
  | x :: r, s, hi => hs x r s _ hi fun s' hi' => forD_post Post I h0 hs r s' hi'
theorem forD_hit {α : Type} {f : α → Unit → (Unit → Option R) → Option R} {k : Unit → Option R} {r : Option R} (bad : α → Prop) : (xs : List α) → (∀ x ∈ xs, bad x → ∀ kn, f x () kn = r) → (∀ x ∈ xs, ¬ bad x → ∀ kn, f x () kn = kn ()) → (∃ x ∈ xs, bad x) → forD f k xs () = r
  | [], _, _, h => by obtain ⟨x, hx, _⟩ := h; cases hx
  | x :: xs, h1, h2, h => by
    by_cases hb : bad x
    · exact h1 x (by simp) hb _
    · rw [forD_cons, h2 x (by simp) hb]
      refine forD_hit bad xs (fun y hy => h1 y (by simp [hy])) (fun y hy => h2 y (by simp [hy])) ?_
      obtain ⟨y, hy, hyb⟩ := h
      rcases List.mem_cons.1 hy with rfl | hy
      · exact absurd hyb hb
      · exact ⟨y, hy, hyb⟩
theorem forD_find {α : Type} {f : α → Unit → (Unit → Option R) → Option R} {k : Unit → Option R} (c : α → Prop) (r : α → Option R) : (xs : List α) → (∀ x ∈ xs, c x → ∀ kn, f x () kn = r x) → (∀ x ∈ xs, ¬ c x → ∀ kn, f x () kn = kn ()) → (∃ x ∈ xs, c x) → ∃ x ∈ xs, c x ∧ forD f k xs () = r x
  | [], _, _, h => by obtain ⟨x, hx, _⟩ := h; cases hx
  | x :: xs, h1, h2, h => by
    by_cases hb : c x
    · exact ⟨x, by simp, hb, h1 x (by simp) hb _⟩
    · obtain ⟨y, hy, hyc⟩ := h
      have : y ∈ xs := by
        rcases List.mem_cons.1 hy with rfl | hy
        · exact absurd hyc hb
        · exact hy
      obtain ⟨z, hz, h3, h4⟩ := forD_find c r xs (fun y hy => h1 y (by simp [hy])) (fun y hy => h2 y (by simp [hy])) ⟨y, this, hyc⟩
      exact ⟨z, by simp [hz], h3, by rw [forD_cons, h2 x (by simp) hb]; exact h4⟩
theorem forD_pass {α : Type} {f : α → Unit → (Unit → Option R) → Option R} {k : Unit → Option R} : (xs : List α) → (∀ x ∈ xs, ∀ kn, f x () kn = kn ()) → forD f k xs () = k ()
  | [], _ => rfl
  | x :: xs, h => by rw [forD_cons, h x (by simp)]; exact forD_pass xs fun y hy => h y (by simp [hy])
end
theorem wrap_id {k : IntKind} {n : Int} (h1 : k.min ≤ n) (h2 : n ≤ k.max) : k.wrap n = n := by
  cases k <;> simp only [IntKind.min, IntKind.max, IntKind.wrap, IntKind.bits, IntKind.signed] at * <;> first | omega | (simp at *; omega)
end Go.Abs
