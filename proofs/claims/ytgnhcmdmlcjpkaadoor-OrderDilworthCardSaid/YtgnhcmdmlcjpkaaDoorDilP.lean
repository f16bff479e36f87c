/- Dilworth's theorem by Koenig's: the plain law. -/
import Derived.Test.YtgnhcmdmlcjpkaaDoorOrder
namespace Go.Proofs.YtgnhcmdmlcjpkaaDoor
namespace Dil
def upd (f : Nat → Int) (i : Nat) (v : Int) : Nat → Int := fun k => if k = i then v else f k
theorem upd_eq {f : Nat → Int} {i : Nat} {v : Int} : upd f i v i = v := if_pos rfl
theorem upd_ne {f : Nat → Int} {i k : Nat} {v : Int} (h : k ≠ i) : upd f i v k = f k := if_neg h
/-- A matching: who follows, and who is followed. -/
structure Vl (n : Nat) (lt : Nat → Nat → Prop) (nx ls : Nat → Int) : Prop where
  fw : ∀ i, i < n → ∀ j : Nat, nx i = j → j < n ∧ lt i j ∧ ls j = i
  bw : ∀ j, j < n → ∀ i : Nat, ls j = i → i < n ∧ nx i = j
/-- One that is followed no longer. -/
def off (st : Option Nat) (ls : Nat → Int) : Nat → Int :=
  match st with
  | none => ls
  | some j => upd ls j (-1)
/-- All of a set are matched, and what follows those stands in it. -/
def Cl (n : Nat) (lt : Nat → Nat → Prop) (ls : Nat → Int) (S : Nat → Prop) : Prop := ∀ j, j < n → S j → ∃ k : Nat, ls j = k ∧ ∀ j', j' < n → lt k j' → S j'
/-- How a try ends that fails. -/
structure Fl (n : Nat) (lt : Nat → Nat → Prop) (i : Nat) (ls : Nat → Int) (s s' : Nat → Prop) : Prop where
  mono : ∀ j, s j → s' j
  all : ∀ j, j < n → lt i j → s' j
  new : ∀ j, j < n → s' j → ¬ s j → ∃ k : Nat, ls j = k ∧ ∀ j', j' < n → lt k j' → s' j'
/-- How a try ends that does not. -/
structure Tr (n : Nat) (lt : Nat → Nat → Prop) (i : Nat) (st : Option Nat) (nx ls : Nat → Int) (s : Nat → Prop) (nx' ls' : Nat → Int) : Prop where
  vl : Vl n lt nx' (off st ls')
  dom : ∀ a, a < n → (0 ≤ nx' a ↔ 0 ≤ nx a ∨ a = i)
  old : ∀ j, j < n → s j → ls' j = ls j
  cl : ∀ S, Cl n lt ls S → (¬ ∀ j, j < n → lt i j → S j) ∧ ∀ j, j < n → S j → ls' j = ls j
/-- What a try starts with. -/
structure Sr (n : Nat) (lt : Nat → Nat → Prop) (i : Nat) (st : Option Nat) (nx ls : Nat → Int) (s : Nat → Prop) : Prop where
  hi : i < n
  vl : Vl n lt nx ls
  fr : st = none → nx i < 0
  st : ∀ j, st = some j → j < n ∧ s j ∧ ls j = i
  m1 : ∀ j, j < n → -1 ≤ ls j
theorem Sr.step {n : Nat} {lt : Nat → Nat → Prop} {i : Nat} {st : Option Nat} {nx ls : Nat → Int} {s s' : Nat → Prop} (h : Sr n lt i st nx ls s) {j k : Nat} (hj : j < n) (hk : ls j = k) : Sr n lt k (some j) nx ls (fun x => s' x ∨ x = j) :=
  ⟨(h.vl.bw j hj k hk).1, h.vl, fun e => (by cases e), fun j' e => (by cases e; exact ⟨hj, Or.inr rfl, hk⟩), h.m1⟩
/-- The one that is tried is free. -/
theorem Tr.free {n : Nat} {lt : Nat → Nat → Prop} {i : Nat} {st : Option Nat} {nx ls : Nat → Int} {s s' : Nat → Prop} (h : Sr n lt i st nx ls s) (hs : ∀ j, s j → s' j) {j : Nat} (hj : j < n) (hij : lt i j) (hn : ls j < 0) (hjs : ¬ s' j) : Tr n lt i st nx ls s (upd nx i j) (upd ls j i) where
  vl := by
    have hst : ∀ a b : Nat, a < n → a ≠ i → nx a = (b : Int) → (off st (upd ls j i)) b = a := fun a b ha hai e => by
      obtain ⟨b1, b2, b3⟩ := h.vl.fw a ha b e
      have hbj : b ≠ j := fun e' => by subst e'; omega
      cases st with
      | none => simp only [off]; rw [upd_ne hbj]; exact b3
      | some j0 =>
        obtain ⟨c1, c2, c3⟩ := h.st j0 rfl
        have : b ≠ j0 := fun e' => by subst e'; omega
        simp only [off]; rw [upd_ne this, upd_ne hbj]; exact b3
    have hj0 : off st (upd ls j i) j = i := by
      cases st with
      | none => exact upd_eq
      | some j0 =>
        obtain ⟨c1, c2, c3⟩ := h.st j0 rfl
        simp only [off]
        rw [upd_ne (fun e => by subst e; omega), upd_eq]
    refine ⟨fun a ha b e => ?_, fun b hb a e => ?_⟩
    · by_cases hai : a = i
      · subst hai
        rw [upd_eq] at e
        obtain rfl : j = b := by omega
        exact ⟨hj, hij, hj0⟩
      · rw [upd_ne hai] at e
        obtain ⟨b1, b2, b3⟩ := h.vl.fw a ha b e
        exact ⟨b1, b2, hst a b ha hai e⟩
    · by_cases hbj : b = j
      · subst hbj
        rw [hj0] at e
        obtain rfl : i = a := by omega
        exact ⟨h.hi, upd_eq⟩
      · have hls : ls b = a ∧ a ≠ i := by
          cases st with
          | none =>
            simp only [off] at e
            rw [upd_ne hbj] at e
            refine ⟨e, fun e' => ?_⟩
            subst e'
            have := (h.vl.bw b hb _ e).2
            have := h.fr rfl
            omega
          | some j0 =>
            obtain ⟨c1, c2, c3⟩ := h.st j0 rfl
            simp only [off] at e
            by_cases hb0 : b = j0
            · subst hb0; rw [upd_eq] at e; omega
            rw [upd_ne hb0, upd_ne hbj] at e
            refine ⟨e, fun e' => ?_⟩
            subst e'
            have h1 := (h.vl.bw b hb _ e).2
            have h2 := (h.vl.bw j0 c1 _ c3).2
            omega
        obtain ⟨a1, a2⟩ := h.vl.bw b hb a hls.1
        exact ⟨a1, by rw [upd_ne hls.2]; exact a2⟩
  dom := fun a ha => by
    by_cases hai : a = i
    · subst hai; rw [upd_eq]; simp
    · rw [upd_ne hai]; simp [hai]
  old := fun a ha hsa => by
    exact upd_ne fun e => by subst e; exact hjs (hs _ hsa)
  cl := fun S hS => by
    have hnS : ¬ S j := fun hS' => by
      obtain ⟨k, hk, _⟩ := hS j hj hS'
      omega
    exact ⟨fun hall => hnS (hall j hj hij), fun a ha hsa => upd_ne fun e => by subst e; exact hnS hsa⟩
/-- The one that stands there finds another one. -/
theorem Tr.push {n : Nat} {lt : Nat → Nat → Prop} {i : Nat} {st : Option Nat} {nx ls nx' ls' : Nat → Int} {s s' : Nat → Prop} (h : Sr n lt i st nx ls s) (hs : ∀ j, s j → s' j) {j k : Nat} (hj : j < n) (hij : lt i j) (hk : ls j = k) (hjs : ¬ s' j) (ht : Tr n lt k (some j) nx ls (fun x => s' x ∨ x = j) nx' ls') : Tr n lt i st nx ls s (upd nx' i j) (upd ls' j i) := by
  have hkn := h.vl.bw j hj k hk
  have hki : k ≠ i := fun e => by
    subst e
    cases st with
    | none => have := h.fr rfl; omega
    | some j0 =>
      obtain ⟨c1, c2, c3⟩ := h.st j0 rfl
      have h2 := (h.vl.bw j0 c1 _ c3).2
      have : j = j0 := by omega
      subst this
      exact hjs (hs _ c2)
  have hst0 : ∀ j0, st = some j0 → j0 ≠ j ∧ ls' j0 = i := fun j0 e => by
    obtain ⟨c1, c2, c3⟩ := h.st j0 e
    exact ⟨fun e' => hjs (e' ▸ hs _ c2), by rw [ht.old j0 c1 (Or.inl (hs _ c2))]; exact c3⟩
  have hv := ht.vl
  simp only [off] at hv
  refine ⟨⟨fun a ha b e => ?_, fun b hb a e => ?_⟩, fun a ha => ?_, fun a ha hsa => ?_, fun S hS => ?_⟩
  · have hoj : off st (upd ls' j i) j = i := by
      cases st with
      | none => exact upd_eq
      | some j0 => simp only [off]; rw [upd_ne (hst0 j0 rfl).1.symm, upd_eq]
    by_cases hai : a = i
    · subst hai
      rw [upd_eq] at e
      obtain rfl : j = b := by omega
      exact ⟨hj, hij, hoj⟩
    · rw [upd_ne hai] at e
      obtain ⟨b1, b2, b3⟩ := hv.fw a ha b e
      have hbj : b ≠ j := fun e' => by subst e'; rw [upd_eq] at b3; omega
      rw [upd_ne hbj] at b3
      refine ⟨b1, b2, ?_⟩
      cases st with
      | none => simp only [off]; rw [upd_ne hbj]; exact b3
      | some j0 =>
        have := (hst0 j0 rfl).2
        simp only [off]; rw [upd_ne (fun e' => by subst e'; omega), upd_ne hbj]; exact b3
  · by_cases hbj : b = j
    · subst hbj
      have hoj : off st (upd ls' b i) b = i := by
        cases st with
        | none => exact upd_eq
        | some j0 => simp only [off]; rw [upd_ne (hst0 j0 rfl).1.symm, upd_eq]
      rw [hoj] at e
      obtain rfl : i = a := by omega
      exact ⟨h.hi, upd_eq⟩
    · have hls : ls' b = a ∧ a ≠ i := by
        cases st with
        | none =>
          simp only [off] at e
          rw [upd_ne hbj] at e
          refine ⟨e, fun e' => ?_⟩
          subst e'
          have h1 := (hv.bw b hb a (by rw [upd_ne hbj]; exact e)).2
          have h2 := (ht.dom a h.hi).1 (by omega)
          have := h.fr rfl
          omega
        | some j0 =>
          have hh := hst0 j0 rfl
          simp only [off] at e
          by_cases hb0 : b = j0
          · subst hb0; rw [upd_eq] at e; omega
          rw [upd_ne hb0, upd_ne hbj] at e
          refine ⟨e, fun e' => ?_⟩
          subst e'
          have h1 := (hv.bw b hb a (by rw [upd_ne hbj]; exact e)).2
          have h2 := (hv.bw j0 (h.st j0 rfl).1 a (by rw [upd_ne hh.1]; exact hh.2)).2
          omega
      have := hv.bw b hb a (by rw [upd_ne hbj]; exact hls.1)
      exact ⟨this.1, by rw [upd_ne hls.2]; exact this.2⟩
  · by_cases hai : a = i
    · subst hai; rw [upd_eq]; simp
    · rw [upd_ne hai, ht.dom a ha]
      refine ⟨fun h' => Or.inl ?_, fun h' => Or.inl ?_⟩
      · rcases h' with h' | h'
        · exact h'
        · subst h'; omega
      · rcases h' with h' | h'
        · exact h'
        · exact absurd h' hai
  · rw [upd_ne fun e => by subst e; exact hjs (hs _ hsa)]
    exact ht.old a ha (Or.inl (hs _ hsa))
  · obtain ⟨h1, h2⟩ := ht.cl S hS
    have hnS : ¬ S j := fun hS' => by
      obtain ⟨k', hk', h3⟩ := hS j hj hS'
      obtain rfl : k = k' := by omega
      exact h1 h3
    exact ⟨fun hall => hnS (hall j hj hij), fun a ha hsa => by rw [upd_ne fun e => by subst e; exact hnS hsa]; exact h2 a ha hsa⟩
/-- The new ones of a try that fails join a closed set. -/
theorem Cl.join {n : Nat} {lt : Nat → Nat → Prop} {i : Nat} {ls : Nat → Int} {S s' : Nat → Prop} (hS : Cl n lt ls S) (hf : Fl n lt i ls (fun _ => False) s') : Cl n lt ls (fun j => S j ∨ s' j) := fun j hj h => by
  rcases h with h | h
  · obtain ⟨k, hk, h'⟩ := hS j hj h; exact ⟨k, hk, fun j' hj' hl => Or.inl (h' j' hj' hl)⟩
  · obtain ⟨k, hk, h'⟩ := hf.new j hj h id; exact ⟨k, hk, fun j' hj' hl => Or.inr (h' j' hj' hl)⟩
theorem Tr.keeps {n : Nat} {lt : Nat → Nat → Prop} {i : Nat} {st : Option Nat} {nx ls nx' ls' : Nat → Int} {s S : Nat → Prop} (ht : Tr n lt i st nx ls s nx' ls') (hS : Cl n lt ls S) : Cl n lt ls' S := fun j hj h => by
  obtain ⟨k, hk, h'⟩ := hS j hj h
  exact ⟨k, by rw [(ht.cl S hS).2 j hj h]; exact hk, h'⟩
/-- What stands after all tries. -/
structure Mt (n : Nat) (lt : Nat → Nat → Prop) (t : Nat) (nx ls : Nat → Int) (S : Nat → Prop) : Prop where
  vl : Vl n lt nx ls
  dom : ∀ a, a < n → t ≤ a → nx a < 0
  m1 : ∀ j, j < n → -1 ≤ ls j
  cl : Cl n lt ls S
  fl : ∀ a, a < t → a < n → nx a < 0 → ∀ j, j < n → lt a j → S j
theorem Mt.sr {n : Nat} {lt : Nat → Nat → Prop} {t : Nat} {nx ls : Nat → Int} {S : Nat → Prop} (h : Mt n lt t nx ls S) (ht : t < n) : Sr n lt t none nx ls (fun _ => False) :=
  ⟨ht, h.vl, fun _ => h.dom t ht (Nat.le_refl _), fun j e => by (cases e), h.m1⟩
theorem Mt.no {n : Nat} {lt : Nat → Nat → Prop} {t : Nat} {nx ls : Nat → Int} {S s' : Nat → Prop} (h : Mt n lt t nx ls S) (hf : Fl n lt t ls (fun _ => False) s') : Mt n lt (t + 1) nx ls (fun j => S j ∨ s' j) where
  vl := h.vl
  dom := fun a ha hta => h.dom a ha (by omega)
  m1 := h.m1
  cl := h.cl.join hf
  fl := fun a hat ha hna j hj hl => by
    by_cases e : a = t
    · subst e; exact Or.inr (hf.all j hj hl)
    · exact Or.inl (h.fl a (by omega) ha hna j hj hl)
theorem Mt.yes {n : Nat} {lt : Nat → Nat → Prop} {t : Nat} {nx ls nx' ls' : Nat → Int} {S s : Nat → Prop} (h : Mt n lt t nx ls S) (hm : ∀ j, j < n → -1 ≤ ls' j) (hf : Tr n lt t none nx ls s nx' ls') : Mt n lt (t + 1) nx' ls' S where
  vl := hf.vl
  dom := fun a ha hta => by
    have h1 := h.dom a ha (by omega)
    have h2 := hf.dom a ha
    apply Classical.byContradiction
    intro h3
    rcases h2.1 (by omega) with h4 | h4 <;> omega
  m1 := hm
  cl := hf.keeps h.cl
  fl := fun a hat ha hna j hj hl => by
    have h2 := hf.dom a ha
    have h3 : ¬ (0 ≤ nx a ∨ a = t) := fun h' => by have := h2.2 h'; omega
    exact h.fl a (by omega) ha (by omega) j hj hl
/-- A part of a try, so far. -/
structure Pt (n : Nat) (lt : Nat → Nat → Prop) (ls : Nat → Int) (s s' : Nat → Prop) : Prop where
  mono : ∀ j, s j → s' j
  new : ∀ j, j < n → s' j → ¬ s j → ∃ k : Nat, ls j = k ∧ ∀ j', j' < n → lt k j' → s' j'
theorem Pt.refl {n : Nat} {lt : Nat → Nat → Prop} {ls : Nat → Int} {s : Nat → Prop} : Pt n lt ls s s := ⟨fun _ h => h, fun _ _ h h' => absurd h h'⟩
theorem Pt.fl {n : Nat} {lt : Nat → Nat → Prop} {i : Nat} {ls : Nat → Int} {s s' : Nat → Prop} (h : Pt n lt ls s s') (ha : ∀ j, j < n → lt i j → s' j) : Fl n lt i ls s s' := ⟨h.mono, ha, h.new⟩
theorem Pt.more {n : Nat} {lt : Nat → Nat → Prop} {j k : Nat} {ls : Nat → Int} {s s1 s2 : Nat → Prop} (h : Pt n lt ls s s1) (hk : ls j = k) (hf : Fl n lt k ls (fun x => s1 x ∨ x = j) s2) : Pt n lt ls s s2 where
  mono := fun x hx => hf.mono x (Or.inl (h.mono x hx))
  new := fun x hx h2 h0 => by
    by_cases h1 : s1 x
    · obtain ⟨k', e, h'⟩ := h.new x hx h1 h0
      exact ⟨k', e, fun j' hj' hl => hf.mono _ (Or.inl (h' j' hj' hl))⟩
    by_cases hj : x = j
    · subst hj; exact ⟨k, hk, hf.all⟩
    exact hf.new x hx h2 fun h' => by rcases h' with h' | h' <;> contradiction
/-- What reaching from one comes to: the left ones and the right ones. -/
structure Rp (n : Nat) (lt : Nat → Nat → Prop) (i : Nat) (ls : Nat → Int) (l r l' r' : Nat → Prop) : Prop where
  me : l' i
  ml : ∀ a, l a → l' a
  mr : ∀ a, r a → r' a
  lr : ∀ a, a < n → l' a → ¬ l a → a ≠ i → ∀ j, j < n → lt a j → r' j
  rl : ∀ j, j < n → r' j → ¬ r j → ∀ k : Nat, ls j = k → l' k
  sl : ∀ S, Cl n lt ls S → (∀ j, j < n → lt i j → S j) → (∀ j, j < n → r j → S j) → ∀ j, j < n → r' j → S j
structure Rc (n : Nat) (lt : Nat → Nat → Prop) (i : Nat) (ls : Nat → Int) (l r l' r' : Nat → Prop) : Prop extends Rp n lt i ls l r l' r' where
  all : ∀ j, j < n → lt i j → r' j
theorem Rp.init {n : Nat} {lt : Nat → Nat → Prop} {i : Nat} {ls : Nat → Int} {l r : Nat → Prop} : Rp n lt i ls l r (fun x => l x ∨ x = i) r where
  me := Or.inr rfl
  ml := fun _ h => Or.inl h
  mr := fun _ h => h
  lr := fun a _ h h1 h2 => by rcases h with h | h <;> contradiction
  rl := fun _ _ h h' => absurd h h'
  sl := fun _ _ _ h => h
theorem Rp.skip {n : Nat} {lt : Nat → Nat → Prop} {i j : Nat} {ls : Nat → Int} {l r l' r' : Nat → Prop} (h : Rp n lt i ls l r l' r') (hij : lt i j) (hk : ∀ k : Nat, ls j = k → l' k) : Rp n lt i ls l r l' (fun x => r' x ∨ x = j) where
  me := h.me
  ml := h.ml
  mr := fun _ hr => Or.inl (h.mr _ hr)
  lr := fun a ha h1 h2 h3 j hj hl => Or.inl (h.lr a ha h1 h2 h3 j hj hl)
  rl := fun x hx h1 h2 k e => by
    by_cases hj : x = j
    · subst hj; exact hk k e
    · exact h.rl x hx (by rcases h1 with h1 | h1; exact h1; contradiction) h2 k e
  sl := fun S hS hi hr x hx h1 => by
    by_cases hj : x = j
    · subst hj; exact hi x hx hij
    · exact h.sl S hS hi hr x hx (by rcases h1 with h1 | h1; exact h1; contradiction)
theorem Rp.more {n : Nat} {lt : Nat → Nat → Prop} {i j k : Nat} {ls : Nat → Int} {l r l' r' l2 r2 : Nat → Prop} (h : Rp n lt i ls l r l' r') (hj : j < n) (hij : lt i j) (hk : ls j = k) (hc : Rc n lt k ls l' (fun x => r' x ∨ x = j) l2 r2) : Rp n lt i ls l r l2 r2 where
  me := hc.ml _ h.me
  ml := fun a ha => hc.ml _ (h.ml a ha)
  mr := fun a ha => hc.mr _ (Or.inl (h.mr a ha))
  lr := fun a ha h1 h2 h3 x hx hl => by
    by_cases h4 : l' a
    · exact hc.mr _ (Or.inl (h.lr a ha h4 h2 h3 x hx hl))
    · by_cases h5 : a = k
      · subst h5; exact hc.all x hx hl
      · exact hc.lr a ha h1 h4 h5 x hx hl
  rl := fun x hx h1 h2 k' e => by
    by_cases h3 : r' x
    · exact hc.ml _ (h.rl x hx h3 h2 k' e)
    by_cases h4 : x = j
    · subst h4
      obtain rfl : k = k' := by omega
      exact hc.me
    exact hc.rl x hx h1 (fun h' => by rcases h' with h' | h' <;> contradiction) k' e
  sl := fun S hS hi hr x hx h1 => by
    have hSj := hi j hj hij
    obtain ⟨k', e, h'⟩ := hS j hj hSj
    obtain rfl : k = k' := by omega
    refine hc.sl S hS h' (fun y hy h2 => ?_) x hx h1
    rcases h2 with h2 | h2
    · exact h.sl S hS hi hr y hy h2
    · subst h2; exact hSj
theorem Rp.done {n : Nat} {lt : Nat → Nat → Prop} {i : Nat} {ls : Nat → Int} {l r l' r' : Nat → Prop} (h : Rp n lt i ls l r l' r') (ha : ∀ j, j < n → lt i j → r' j) : Rc n lt i ls l r l' r' := ⟨h, ha⟩
/-- What is reached from those that nothing follows. -/
structure Rg (n : Nat) (lt : Nat → Nat → Prop) (t : Nat) (nx ls : Nat → Int) (l r : Nat → Prop) : Prop where
  lr : ∀ a, a < n → l a → ∀ j, j < n → lt a j → r j
  rl : ∀ j, j < n → r j → ∀ k : Nat, ls j = k → l k
  sl : ∀ j, j < n → r j → 0 ≤ ls j
  fr : ∀ a, a < t → a < n → nx a < 0 → l a
theorem Rg.step {n : Nat} {lt : Nat → Nat → Prop} {t : Nat} {nx ls : Nat → Int} {S l r l' r' : Nat → Prop} (hm : Mt n lt n nx ls S) (hr : ∀ j, j < n → r j → S j) (h : Rg n lt t nx ls l r) (ht : t < n) (hf : nx t < 0) (hc : Rc n lt t ls l r l' r') : Rg n lt (t + 1) nx ls l' r' ∧ ∀ j, j < n → r' j → S j := by
  have hS := hc.sl S hm.cl (hm.fl t ht ht hf) hr
  refine ⟨⟨fun a ha h1 j hj hl => ?_, fun j hj h1 k e => ?_, fun j hj h1 => ?_, fun a hat ha h1 => ?_⟩, hS⟩
  · by_cases h2 : l a
    · exact hc.mr _ (h.lr a ha h2 j hj hl)
    by_cases h3 : a = t
    · subst h3; exact hc.all j hj hl
    exact hc.lr a ha h1 h2 h3 j hj hl
  · by_cases h2 : r j
    · exact hc.ml _ (h.rl j hj h2 k e)
    exact hc.rl j hj h1 h2 k e
  · obtain ⟨k, e, _⟩ := hm.cl j hj (hS j hj h1)
    omega
  · by_cases h3 : a = t
    · subst h3; exact hc.me
    · exact hc.ml _ (h.fr a (by omega) ha h1)
theorem Rg.pass {n : Nat} {lt : Nat → Nat → Prop} {t : Nat} {nx ls : Nat → Int} {l r : Nat → Prop} (h : Rg n lt t nx ls l r) (hf : nx t < 0 → l t) : Rg n lt (t + 1) nx ls l r :=
  ⟨h.lr, h.rl, h.sl, fun a hat ha h1 => by
    by_cases h3 : a = t
    · subst h3; exact hf h1
    · exact h.fr a (by omega) ha h1⟩
theorem Rg.start {n : Nat} {lt : Nat → Nat → Prop} {nx ls : Nat → Int} : Rg n lt 0 nx ls (fun _ => False) (fun _ => False) :=
  ⟨fun _ _ h => h.elim, fun _ _ h => h.elim, fun _ _ h => h.elim, fun _ h => by omega⟩

/-! ### Chains -/
def chf (nx : Nat → Int) : Nat → Nat → List Nat
  | 0, _ => []
  | f + 1, k => k :: (if nx k < 0 then [] else chf nx f (nx k).toNat)
inductive Ch (nx : Nat → Int) : Nat → List Nat → Prop
  | one {k : Nat} : nx k < 0 → Ch nx k [k]
  | more {k j : Nat} {c : List Nat} : nx k = j → Ch nx j c → Ch nx k (k :: c)
/-- An order's strict part. -/
structure So (n : Nat) (lt : Nat → Nat → Prop) : Prop where
  irr : ∀ a, ¬ lt a a
  trans : ∀ a b c, a < n → b < n → c < n → lt a b → lt b c → lt a c
section
variable {n : Nat} {lt : Nat → Nat → Prop} {nx ls : Nat → Int}
open Classical in
theorem chf_ch (ho : So n lt) (hv : Vl n lt nx ls) : ∀ f k, k < n → ((List.range n).filter fun x => decide (lt k x)).length < f → Ch nx k (chf nx f k)
  | 0, _, _, h => by omega
  | f + 1, k, hk, h => by
    by_cases q : nx k < 0
    · simp only [chf, if_pos q]; exact .one q
    · obtain ⟨j, hj⟩ : ∃ j : Nat, nx k = j := ⟨(nx k).toNat, by omega⟩
      obtain ⟨h1, h2, h3⟩ := hv.fw k hk j hj
      have key : ((List.range n).filter fun x => decide (lt j x)).length < ((List.range n).filter fun x => decide (lt k x)).length := by
        have hn : (j :: (List.range n).filter fun x => decide (lt j x)).Nodup := List.nodup_cons.2 ⟨fun hm => ho.irr j (of_decide_eq_true (List.mem_filter.1 hm).2), List.nodup_range.filter _⟩
        have := hn.length_le_of_subset (l₂ := (List.range n).filter fun x => decide (lt k x)) fun x hx => by
          rcases List.mem_cons.1 hx with rfl | hx
          · exact List.mem_filter.2 ⟨List.mem_range.2 h1, decide_eq_true h2⟩
          · obtain ⟨hx1, hx2⟩ := List.mem_filter.1 hx
            exact List.mem_filter.2 ⟨hx1, decide_eq_true (ho.trans k j x hk h1 (List.mem_range.1 hx1) h2 (of_decide_eq_true hx2))⟩
        simp only [List.length_cons] at this
        omega
      have := chf_ch ho hv f j h1 (by omega)
      have e : chf nx (f + 1) k = k :: chf nx f j := by rw [chf, if_neg q, hj, Int.toNat_natCast]
      rw [e]
      exact .more hj this
open Classical in
theorem chf_n (ho : So n lt) (hv : Vl n lt nx ls) {k : Nat} (hk : k < n) : Ch nx k (chf nx n k) := by
  refine chf_ch ho hv n k hk ?_
  have hn : (k :: (List.range n).filter fun x => decide (lt k x)).Nodup := List.nodup_cons.2 ⟨fun hm => ho.irr k (of_decide_eq_true (List.mem_filter.1 hm).2), List.nodup_range.filter _⟩
  have := hn.length_le_of_subset (l₂ := List.range n) fun x hx => by
    rcases List.mem_cons.1 hx with rfl | hx
    · exact List.mem_range.2 hk
    · exact (List.mem_filter.1 hx).1
  simp only [List.length_cons, List.length_range] at this
  omega
theorem Ch.low (hv : Vl n lt nx ls) {k : Nat} {c : List Nat} (h : Ch nx k c) (hk : k < n) : ∀ x ∈ c, x < n := by
  induction h with
  | one _ => intro x hx; simp at hx; omega
  | more e _ ih =>
    intro x hx
    rcases List.mem_cons.1 hx with rfl | hx
    · exact hk
    · exact ih (hv.fw _ hk _ e).1 x hx
theorem Ch.pw (ho : So n lt) (hv : Vl n lt nx ls) {k : Nat} {c : List Nat} (h : Ch nx k c) (hk : k < n) : c.Pairwise lt ∧ ∀ x ∈ c, x = k ∨ lt k x := by
  induction h with
  | one _ => exact ⟨by simp, fun x hx => by simp at hx; exact Or.inl hx⟩
  | @more k j c e hc ih =>
    obtain ⟨h1, h2, h3⟩ := hv.fw _ hk _ e
    obtain ⟨h4, h5⟩ := ih h1
    have key : ∀ x ∈ c, lt k x := fun x hx => by
      rcases h5 x hx with rfl | h6
      · exact h2
      · exact ho.trans _ _ _ hk h1 (hc.low hv h1 x hx) h2 h6
    exact ⟨List.pairwise_cons.2 ⟨key, h4⟩, fun x hx => by
      rcases List.mem_cons.1 hx with rfl | hx
      · exact Or.inl rfl
      · exact Or.inr (key x hx)⟩
theorem Ch.head {k : Nat} {c : List Nat} (h : Ch nx k c) : k ∈ c := by cases h <;> simp
theorem Ch.back {k : Nat} {c : List Nat} (h : Ch nx k c) : ∀ x ∈ c, x = k ∨ ∃ a ∈ c, nx a = x := by
  induction h with
  | one _ => intro x hx; simp at hx; exact Or.inl hx
  | @more k j c e hc ih =>
    intro x hx
    rcases List.mem_cons.1 hx with rfl | hx
    · exact Or.inl rfl
    · rcases ih x hx with rfl | ⟨a, ha, e'⟩
      · exact Or.inr ⟨k, by simp, e⟩
      · exact Or.inr ⟨a, List.mem_cons_of_mem _ ha, e'⟩
theorem Ch.fwd {k : Nat} {c : List Nat} (h : Ch nx k c) : ∀ x ∈ c, ∀ j : Nat, nx x = j → j ∈ c := by
  induction h with
  | one h1 => intro x hx j e; simp at hx; subst hx; omega
  | @more k j c e hc ih =>
    intro x hx j' e'
    rcases List.mem_cons.1 hx with rfl | hx
    · obtain rfl : j = j' := by omega
      exact List.mem_cons_of_mem _ hc.head
    · exact List.mem_cons_of_mem _ (ih x hx j' e')
open Classical in
/-- What holds wherever it holds of all that is below. -/
theorem So.ind (ho : So n lt) (P : Nat → Prop) (h : ∀ x, x < n → (∀ y, y < n → lt y x → P y) → P x) : ∀ x, x < n → P x := by
  have key : ∀ f x, x < n → ((List.range n).filter fun y => decide (lt y x)).length < f → P x := by
    intro f
    induction f with
    | zero => intro x _ h; omega
    | succ f ih =>
      intro x hx hl
      refine h x hx fun y hy hyx => ih y hy ?_
      have hn : (y :: (List.range n).filter fun z => decide (lt z y)).Nodup := List.nodup_cons.2 ⟨fun hm => ho.irr y (of_decide_eq_true (List.mem_filter.1 hm).2), List.nodup_range.filter _⟩
      have := hn.length_le_of_subset (l₂ := (List.range n).filter fun z => decide (lt z x)) fun z hz => by
        rcases List.mem_cons.1 hz with rfl | hz
        · exact List.mem_filter.2 ⟨List.mem_range.2 hy, decide_eq_true hyx⟩
        · obtain ⟨hz1, hz2⟩ := List.mem_filter.1 hz
          exact List.mem_filter.2 ⟨hz1, decide_eq_true (ho.trans z y x (List.mem_range.1 hz1) hy hx (of_decide_eq_true hz2) hyx)⟩
      simp only [List.length_cons] at this
      omega
  exact fun x hx => key _ x hx (Nat.lt_succ_self _)
def starts (n : Nat) (ls : Nat → Int) : List Nat := (List.range n).filter fun i => decide (ls i < 0)
theorem start_of (ho : So n lt) (hv : Vl n lt nx ls) : ∀ x, x < n → ∃ s, s ∈ starts n ls ∧ x ∈ chf nx n s := by
  refine ho.ind _ fun x hx ih => ?_
  by_cases q : ls x < 0
  · exact ⟨x, List.mem_filter.2 ⟨List.mem_range.2 hx, decide_eq_true q⟩, (chf_n ho hv hx).head⟩
  · obtain ⟨a, e⟩ : ∃ a : Nat, ls x = a := ⟨(ls x).toNat, by omega⟩
    obtain ⟨h1, h2⟩ := hv.bw x hx a e
    obtain ⟨s, hs, hc⟩ := ih a h1 (hv.fw a h1 x h2).2.1
    have hsn := List.mem_range.1 (List.mem_filter.1 hs).1
    exact ⟨s, hs, (chf_n ho hv hsn).fwd a hc x h2⟩
theorem start_one (ho : So n lt) (hv : Vl n lt nx ls) : ∀ x, x < n → ∀ s s', s ∈ starts n ls → s' ∈ starts n ls → x ∈ chf nx n s → x ∈ chf nx n s' → s = s' := by
  refine ho.ind _ fun x hx ih s s' hs hs' h h' => ?_
  have hsn := List.mem_range.1 (List.mem_filter.1 hs).1
  have hsn' := List.mem_range.1 (List.mem_filter.1 hs').1
  have hz := of_decide_eq_true (List.mem_filter.1 hs).2
  have hz' := of_decide_eq_true (List.mem_filter.1 hs').2
  rcases (chf_n ho hv hsn).back x h with e | ⟨a, ha, e⟩
  · rcases (chf_n ho hv hsn').back x h' with e' | ⟨a', ha', e'⟩
    · omega
    · have := (hv.fw a' ((chf_n ho hv hsn').low hv hsn' a' ha') x e').2.2
      subst e; omega
  · have hal := (chf_n ho hv hsn).low hv hsn a ha
    have h1 := hv.fw a hal x e
    rcases (chf_n ho hv hsn').back x h' with e' | ⟨a', ha', e'⟩
    · subst e'; omega
    · have h2 := hv.fw a' ((chf_n ho hv hsn').low hv hsn' a' ha') x e'
      obtain rfl : a = a' := by omega
      exact ih a hal h1.2.1 s s' hs hs' ha ha'
theorem starts_nodup : (starts n ls).Nodup := List.nodup_range.filter _
/-- All chains hold each element once. -/
theorem all_nodup (ho : So n lt) (hv : Vl n lt nx ls) : ((starts n ls).flatMap (chf nx n)).Nodup := by
  have key : ∀ l : List Nat, l.Nodup → (∀ s ∈ l, s ∈ starts n ls) → (l.flatMap (chf nx n)).Nodup := by
    intro l
    induction l with
    | nil => intro _ _; simp
    | cons s l ih =>
      intro hn hm
      rw [List.flatMap_cons]
      have hs := hm s (by simp)
      have hsn := List.mem_range.1 (List.mem_filter.1 hs).1
      refine List.nodup_append.2 ⟨?_, ih (List.nodup_cons.1 hn).2 fun t ht => hm t (List.mem_cons_of_mem _ ht), fun a ha b hb e => ?_⟩
      · exact ((chf_n ho hv hsn).pw ho hv hsn).1.imp fun {a b} (h : lt a b) (e : a = b) => ho.irr a (by subst e; exact h)
      · subst e
        obtain ⟨t, ht, hat⟩ := List.mem_flatMap.1 hb
        have := start_one ho hv a ((chf_n ho hv hsn).low hv hsn a ha) s t hs (hm t (List.mem_cons_of_mem _ ht)) ha hat
        subst this
        exact (List.nodup_cons.1 hn).1 ht
  exact key _ starts_nodup fun _ h => h
theorem all_mem (ho : So n lt) (hv : Vl n lt nx ls) {x : Nat} : x ∈ (starts n ls).flatMap (chf nx n) ↔ x < n := by
  refine ⟨fun h => ?_, fun h => ?_⟩
  · obtain ⟨s, hs, hx⟩ := List.mem_flatMap.1 h
    have hsn := List.mem_range.1 (List.mem_filter.1 hs).1
    exact (chf_n ho hv hsn).low hv hsn x hx
  · obtain ⟨s, hs, hx⟩ := start_of ho hv x h
    exact List.mem_flatMap.2 ⟨s, hs, hx⟩
theorem all_len (ho : So n lt) (hv : Vl n lt nx ls) : ((starts n ls).flatMap (chf nx n)).length = n := by
  have h1 := (all_nodup ho hv).length_le_of_subset (l₂ := List.range n) fun x hx => List.mem_range.2 ((all_mem ho hv).1 hx)
  have h2 := (List.nodup_range (n := n)).length_le_of_subset (l₂ := (starts n ls).flatMap (chf nx n)) fun x hx => (all_mem ho hv).2 (List.mem_range.1 hx)
  rw [List.length_range] at h1 h2
  omega
theorem pw_mem {R : Nat → Nat → Prop} {c : List Nat} (h : c.Pairwise R) {x y : Nat} (hx : x ∈ c) (hy : y ∈ c) : x = y ∨ R x y ∨ R y x := by
  induction c with
  | nil => simp at hx
  | cons a c ih =>
    obtain ⟨h1, h2⟩ := List.pairwise_cons.1 h
    rcases List.mem_cons.1 hx with hx' | hx'
    · rcases List.mem_cons.1 hy with hy' | hy'
      · exact Or.inl (hx'.trans hy'.symm)
      · subst hx'; exact Or.inr (Or.inl (h1 y hy'))
    · rcases List.mem_cons.1 hy with hy' | hy'
      · subst hy'; exact Or.inr (Or.inr (h1 x hx'))
      · exact ih h2 hx' hy'
/-- None of a set is below another one: it has at most as many as there are chains. -/
theorem loose_le (ho : So n lt) (hv : Vl n lt nx ls) {w : List Nat} (hw : w.Nodup) (hl : ∀ x ∈ w, x < n) (ha : ∀ x ∈ w, ∀ y ∈ w, ¬ lt x y) : w.length ≤ (starts n ls).length := by
  classical
  have hf : ∀ x, ∃ s, x ∈ w → s ∈ starts n ls ∧ x ∈ chf nx n s := fun x => by
    by_cases q : x ∈ w
    · obtain ⟨s, h⟩ := start_of ho hv x (hl x q)
      exact ⟨s, fun _ => h⟩
    · exact ⟨0, fun h => absurd h q⟩
  let f : Nat → Nat := fun x => (hf x).choose
  have hfs : ∀ x ∈ w, f x ∈ starts n ls ∧ x ∈ chf nx n (f x) := fun x hx => (hf x).choose_spec hx
  have hn : (w.map f).Nodup := by
    refine List.pairwise_map.2 (List.Pairwise.imp_of_mem (fun {x y} hx hy hne e => ?_) hw)
    obtain ⟨h1, h2⟩ := hfs x hx
    obtain ⟨h3, h4⟩ := hfs y hy
    rw [← e] at h4
    have hsn := List.mem_range.1 (List.mem_filter.1 h1).1
    have hp := ((chf_n ho hv hsn).pw ho hv hsn).1
    rcases pw_mem hp h2 h4 with e | e | e
    · exact hne e
    · exact ha x hx y hy e
    · exact ha y hy x hx e
  have := hn.length_le_of_subset (l₂ := starts n ls) fun s hs => by
    obtain ⟨x, hx, rfl⟩ := List.mem_map.1 hs
    exact (hfs x hx).1
  rwa [List.length_map] at this
/-- Koenig's set: as many as there are chains. -/
theorem anti_len (ho : So n lt) (hv : Vl n lt nx ls) {l r : Nat → Prop} (hg : Rg n lt n nx ls l r) {w : List Nat} (hw : w.Nodup) (hm : ∀ x, x ∈ w ↔ x < n ∧ l x ∧ ¬ r x) : w.length = (starts n ls).length := by
  classical
  refine Nat.le_antisymm (loose_le ho hv hw (fun x hx => ((hm x).1 hx).1) fun x hx y hy h => ?_) ?_
  · obtain ⟨h1, h2, h3⟩ := (hm x).1 hx
    obtain ⟨h4, h5, h6⟩ := (hm y).1 hy
    exact h6 (hg.lr x h1 h2 y h4 h)
  · let notA := (List.range n).filter fun x => decide (¬ (l x ∧ ¬ r x))
    let mt := (List.range n).filter fun x => decide (¬ ls x < 0)
    let f : Nat → Nat := fun x => if r x then x else (nx x).toNat
    have hmt : ∀ x ∈ notA, f x ∈ mt ∧ (¬ r x → nx x = f x) := fun x hx => by
      obtain ⟨h1, h2⟩ := List.mem_filter.1 hx
      have hxn := List.mem_range.1 h1
      have h2 := of_decide_eq_true h2
      by_cases q : r x
      · have e : f x = x := if_pos q
        rw [e]
        exact ⟨List.mem_filter.2 ⟨h1, decide_eq_true (by have := hg.sl x hxn q; omega)⟩, fun h => absurd q h⟩
      · have e : f x = (nx x).toNat := if_neg q
        have hnl : ¬ l x := fun h => h2 ⟨h, q⟩
        have h0 : ¬ nx x < 0 := fun h => hnl (hg.fr x hxn hxn h)
        have e' : nx x = f x := by omega
        obtain ⟨a1, a2, a3⟩ := hv.fw x hxn _ e'
        exact ⟨List.mem_filter.2 ⟨List.mem_range.2 a1, decide_eq_true (by omega)⟩, fun _ => e'⟩
    have hn : (notA.map f).Nodup := by
      refine List.pairwise_map.2 (List.Pairwise.imp_of_mem (fun {x y} hx hy hne e => ?_) (List.nodup_range.filter _))
      have hl : ∀ z, z ∈ notA → z < n ∧ ¬ (l z ∧ ¬ r z) := fun z hz => ⟨List.mem_range.1 (List.mem_filter.1 hz).1, of_decide_eq_true (List.mem_filter.1 hz).2⟩
      have key : ∀ x y, x ∈ notA → y ∈ notA → f x = f y → r x → ¬ r y → False := fun x y hx hy e q q' => by
        have h1 := (hmt y hy).2 q'
        have e1 : f x = x := if_pos q
        have h2 := (hv.fw y (hl y hy).1 _ h1).2.2
        rw [← e, e1] at h2
        exact (hl y hy).2 ⟨hg.rl x (hl x hx).1 q y h2, q'⟩
      by_cases q : r x
      · by_cases q' : r y
        · have e1 : f x = x := if_pos q
          have e2 : f y = y := if_pos q'
          omega
        · exact key x y hx hy e q q'
      · by_cases q' : r y
        · exact key y x hy hx e.symm q' q
        · have h1 := (hv.fw x (hl x hx).1 _ ((hmt x hx).2 q)).2.2
          have h2 := (hv.fw y (hl y hy).1 _ ((hmt y hy).2 q')).2.2
          rw [e] at h1
          omega
    have h1 := hn.length_le_of_subset (l₂ := mt) fun s hs => by
      obtain ⟨x, hx, rfl⟩ := List.mem_map.1 hs
      exact (hmt x hx).1
    rw [List.length_map] at h1
    have h2 : (starts n ls).length + mt.length = n := by
      have : ∀ (p : Nat → Bool) (u : List Nat), (u.filter p).length + (u.filter fun x => !p x).length = u.length := fun p u => by
        induction u with
        | nil => rfl
        | cons a u ih => cases q : p a <;> simp only [List.filter_cons, q, Bool.not_true, Bool.not_false, if_true, Bool.false_eq_true, if_false, List.length_cons] <;> omega
      have h3 := this (fun i => decide (ls i < 0)) (List.range n)
      rw [List.length_range] at h3
      have h4 : mt = (List.range n).filter fun x => !decide (ls x < 0) := List.filter_congr fun x _ => by
        cases q : decide (ls x < 0) with
        | true => have := of_decide_eq_true q; exact decide_eq_false (by omega)
        | false => have := of_decide_eq_false q; exact decide_eq_true this
      rw [h4]
      exact h3
    have h3 : n ≤ w.length + notA.length := by
      have := (List.nodup_range (n := n)).length_le_of_subset (l₂ := w ++ notA) fun x hx => by
        by_cases q : l x ∧ ¬ r x
        · exact List.mem_append_left _ ((hm x).2 ⟨List.mem_range.1 hx, q⟩)
        · exact List.mem_append_right _ (List.mem_filter.2 ⟨hx, decide_eq_true q⟩)
      simpa using this
    omega
end
end Dil
end Go.Proofs.YtgnhcmdmlcjpkaaDoor
