/- What it means that the abstract machine's values and objects stand for values and memory of the model. -/
import Derived.Test.YtdbjfdjpmoackaaDoorAbsCore
import Derived.Below
import Derived.RangeFuncNested
import Derived.RangeFuncLeaves
namespace Go.Abs
open Go.RowKit

/-- Where an object lies: a block; a row's capacity. -/
structure Loc where
  a : Option Nat
  cap : Nat
def Loc.addr (l : Loc) : Option Addr := l.a.map fun b => ⟨b, 0, none⟩
def maxI : Nat := 9223372036854775807
def CellsAt (w : World) (b q : Nat) (cs : List Value) : Prop := ∀ j v, cs[j]? = some v → w.cell? ⟨b, q + j, none⟩ = some v
def RowAt {α : Type} (R : α → List Value → Prop) (n : Nat) (w : World) (b q : Nat) (xs : List α) : Prop :=
  ∀ i x, xs[i]? = some x → ∃ cs, CellsAt w b (q + i * n) cs ∧ R x cs
/-- A datum stands in cells; its own memory lies in no block of M. -/
def RC (w : World) (M : Nat → Prop) : (s : Sh) → s.den → List Value → Prop
  | .int k, n, cs => cs = [.int k n]
  | .bool, b, cs => cs = [.bool b]
  | .unit, _, cs => cs = []
  | .pair a b, x, cs => ∃ c d, cs = c ++ d ∧ RC w M a x.1 c ∧ RC w M b x.2 d
  | .sl s, xs, cs => ∃ a cap, cs = [.slice a xs.length cap] ∧ xs.length ≤ cap ∧ cap ≤ maxI ∧
      (xs ≠ [] → ∃ b q, a = some ⟨b, q, none⟩ ∧ b < w.heap.size ∧ ¬ M b ∧ RowAt (RC w M s) s.n w b q xs)
theorem RC.length {w : World} {M : Nat → Prop} : {s : Sh} → {x : s.den} → {cs : List Value} → RC w M s x cs → cs.length = s.n
  | .int _, _, _, h => by simp only [RC] at h; simp [h, Sh.n]
  | .bool, _, _, h => by simp only [RC] at h; simp [h, Sh.n]
  | .unit, _, _, h => by simp only [RC] at h; simp [h, Sh.n]
  | .pair _ _, _, _, h => by
    simp only [RC] at h
    obtain ⟨c, d, rfl, h1, h2⟩ := h
    simp [Sh.n, RC.length h1, RC.length h2]
  | .sl _, _, _, h => by
    simp only [RC] at h
    obtain ⟨a, cap, rfl, _⟩ := h
    simp [Sh.n]
/-- What lay outside M lies as it lay, and outside M'. -/
structure Keeps (w : World) (M : Nat → Prop) (w' : World) (M' : Nat → Prop) : Prop where
  size : w.heap.size ≤ w'.heap.size
  block : ∀ b, b < w.heap.size → ¬ M b → w'.heap[b]? = w.heap[b]?
  out : ∀ b, b < w.heap.size → ¬ M b → ¬ M' b
theorem Keeps.cells {w w' : World} {M M' : Nat → Prop} (k : Keeps w M w' M') {b q : Nat} {cs : List Value} (hb : b < w.heap.size) (hm : ¬ M b) (h : CellsAt w b q cs) : CellsAt w' b q cs :=
  fun j v hj => (World.cell?_of_block (w := w) (k.block b hb hm)).trans (h j v hj)
theorem RC.keeps {w w' : World} {M M' : Nat → Prop} (k : Keeps w M w' M') : {s : Sh} → {x : s.den} → {cs : List Value} → RC w M s x cs → RC w' M' s x cs
  | .int _, _, _, h => by simp only [RC] at h ⊢; exact h
  | .bool, _, _, h => by simp only [RC] at h ⊢; exact h
  | .unit, _, _, h => by simp only [RC] at h ⊢; exact h
  | .pair _ _, _, _, h => by
    simp only [RC] at h ⊢
    obtain ⟨c, d, rfl, h1, h2⟩ := h
    exact ⟨c, d, rfl, RC.keeps k h1, RC.keeps k h2⟩
  | .sl s, xs, _, h => by
    simp only [RC] at h ⊢
    obtain ⟨a, cap, rfl, hl, hc, h⟩ := h
    refine ⟨a, cap, rfl, hl, hc, fun hne => ?_⟩
    obtain ⟨b, q, ha, hb, hm, hr⟩ := h hne
    refine ⟨b, q, ha, Nat.lt_of_lt_of_le hb k.size, k.out b hb hm, fun i x hx => ?_⟩
    obtain ⟨cs, hcs, hR⟩ := hr i x hx
    exact ⟨cs, k.cells hb hm hcs, RC.keeps k hR⟩

/-! ### Values -/
mutual
def RV (w : World) (M : Nat → Prop) (h : List O) (σ : Nat → Loc) : V → Value → Prop
  | .bad, _ => True
  | .undef, v => v = undef
  | .int k n, v => v = .int k n
  | .bool b, v => v = .bool b
  | .nil, v => v = .slice none 0 0
  | .sl s xs, v => RC w M (.sl s) xs [v]
  | .slc o ver, v => ∃ fz ver' e s xs, getO h o = .row fz ver' e s xs ∧ ver ≤ ver' ∧ v.oneCell' = true ∧ (ver = ver' → v = .slice (σ o).addr xs.length (σ o).cap)
  | .ptr o off, v => ∃ vs b, getO h o = .cells vs ∧ (σ o).a = some b ∧ v = .pointer (some ⟨b, off, none⟩)
  | .rptr o ver i off, v => ∃ fz ver' e s xs, getO h o = .row fz ver' e s xs ∧ ver ≤ ver' ∧ v.oneCell' = true ∧
      (ver = ver' → ∃ b, (σ o).a = some b ∧ i < xs.length ∧ v = .pointer (some ⟨b, i * s.n + off, none⟩))
  | .fptr s x, v => ∃ b q cs, v = .pointer (some ⟨b, q, none⟩) ∧ b < w.heap.size ∧ ¬ M b ∧ CellsAt w b q cs ∧ RC w M s x cs
  | .clo f caps, v => ∃ vs : Array Value, v = cloV f vs ∧ RVs w M h σ caps vs.toList
  | .agg vs, v => ∃ cs : Array Value, v = .agg cs ∧ (∀ c ∈ cs.toList, c.oneCell' = true) ∧ RVs w M h σ vs cs.toList
  | .tup vs, v => ∃ cs : Array Value, v = .tuple cs ∧ RVs w M h σ vs cs.toList
def RVs (w : World) (M : Nat → Prop) (h : List O) (σ : Nat → Loc) : List V → List Value → Prop
  | [], cs => cs = []
  | v :: r, cs => ∃ x xs, cs = x :: xs ∧ RV w M h σ v x ∧ RVs w M h σ r xs
end
def live : O → Prop
  | .cells _ => True
  | .row fz _ _ _ _ => fz = false
  | .none => False
/-- The blocks that the objects own. -/
def own (h : List O) (σ : Nat → Loc) (b : Nat) : Prop := ∃ o, live (getO h o) ∧ (σ o).a = some b
def mutb (M0 : Nat → Prop) (h : List O) (σ : Nat → Loc) (b : Nat) : Prop := M0 b ∨ own h σ b
/-- The cells of a list of data, one behind the other. -/
def RL (w : World) (M : Nat → Prop) (s : Sh) : List s.den → List Value → Prop
  | [], cs => cs = []
  | x :: xs, cs => ∃ c d, cs = c ++ d ∧ RC w M s x c ∧ RL w M s xs d
def rowV (l : Loc) (n : Nat) : Value := .slice l.addr n l.cap
/-- An object stands for its block. -/
def RO (w : World) (M : Nat → Prop) (h : List O) (σ : Nat → Loc) (l : Loc) : O → Prop
  | .none => True
  | .cells vs => ∃ (b : Nat) (e : TypeId) (cs : Array Value), l.a = some b ∧ w.heap[b]? = some (.cells cs e (0, 0)) ∧ RVs w M h σ vs cs.toList ∧ (∀ c ∈ cs.toList, c.oneCell' = true)
  | .row true _ _ s xs => 1 ≤ s.n ∧ RC w M (.sl s) xs [rowV l xs.length] ∧ (∀ b, l.a = some b → b < w.heap.size ∧ ¬ M b)
  | .row false _ e s xs => 1 ≤ s.n ∧ ∃ cs, w.ownsRow 0 e s.n (rowV l xs.length) xs.length cs ∧ RL w M s xs cs
/-- Below the beginning's heap nothing has turned but what lies in A. -/
structure Fr (w0 : World) (A : Nat → Prop) (w : World) : Prop where
  os : w.os = w0.os
  tape : w.tape = w0.tape
  output : w.output = w0.output
  size : w0.heap.size ≤ w.heap.size
  block : ∀ b, b < w0.heap.size → ¬ A b → w.heap[b]? = w0.heap[b]?
/-- The objects stand for memory. -/
structure Rep (w0 : World) (A M0 : Nat → Prop) (w : World) (h : List O) (σ : Nat → Loc) : Prop where
  fr : Fr w0 A w
  m0 : ∀ b, M0 b → b < w0.heap.size ∧ ¬ A b
  inA : ∀ b, own h σ b → A b ∨ w0.heap.size ≤ b
  apart : ∀ o o' b, live (getO h o) → live (getO h o') → (σ o).a = some b → (σ o').a = some b → o = o'
  obj : ∀ o, RO w (mutb M0 h σ) h σ (σ o) (getO h o)

/-- How objects go on. -/
def OStep (h : List O) (σ : Nat → Loc) (h' : List O) (σ' : Nat → Loc) : Prop :=
  ∀ o, match getO h o with
    | .none => True
    | .cells _ => ∃ vs', getO h' o = .cells vs' ∧ σ' o = σ o
    | .row _ ver _ s xs => ∃ fz' ver' e' s' xs', getO h' o = .row fz' ver' e' s' xs' ∧ ver ≤ ver' ∧ (ver = ver' → σ' o = σ o ∧ s' = s ∧ xs'.length = xs.length)
theorem OStep.refl (h : List O) (σ : Nat → Loc) : OStep h σ h σ := fun o => by
  cases e : getO h o with
  | none => trivial
  | cells vs => exact ⟨vs, rfl, rfl⟩
  | row fz ver ty s xs => exact ⟨fz, ver, ty, s, xs, rfl, Nat.le_refl _, fun _ => ⟨rfl, rfl, rfl⟩⟩
theorem OStep.trans {h h' h'' : List O} {σ σ' σ'' : Nat → Loc} (a : OStep h σ h' σ') (b : OStep h' σ' h'' σ'') : OStep h σ h'' σ'' := fun o => by
  have ha := a o
  have hb := b o
  cases e : getO h o with
  | none => trivial
  | cells vs =>
    simp only [e] at ha
    obtain ⟨vs', e', s'⟩ := ha
    simp only [e'] at hb
    obtain ⟨vs'', e'', s''⟩ := hb
    exact ⟨vs'', e'', s''.trans s'⟩
  | row fz ver ty s xs =>
    simp only [e] at ha
    obtain ⟨fz', ver', ty', t', xs', e', l', c'⟩ := ha
    simp only [e'] at hb
    obtain ⟨fz'', ver'', ty'', t'', xs'', e'', l'', c''⟩ := hb
    refine ⟨fz'', ver'', ty'', t'', xs'', e'', by omega, fun hv => ?_⟩
    obtain ⟨x1, x2, x3⟩ := c' (by omega)
    obtain ⟨y1, y2, y3⟩ := c'' (by omega)
    exact ⟨y1.trans x1, y2.trans x2, y3.trans x3⟩
mutual
theorem RV.keeps {w w' : World} {M M' : Nat → Prop} {h h' : List O} {σ σ' : Nat → Loc} (k : Keeps w M w' M') (s : OStep h σ h' σ') : {v : V} → {x : Value} → RV w M h σ v x → RV w' M' h' σ' v x
  | .bad, _, _ => by simp only [RV]
  | .undef, _, hv => by simp only [RV] at hv ⊢; exact hv
  | .int _ _, _, hv => by simp only [RV] at hv ⊢; exact hv
  | .bool _, _, hv => by simp only [RV] at hv ⊢; exact hv
  | .nil, _, hv => by simp only [RV] at hv ⊢; exact hv
  | .sl _ _, _, hv => by simp only [RV] at hv ⊢; exact RC.keeps k hv
  | .slc o ver, _, hv => by
    simp only [RV] at hv ⊢
    obtain ⟨fz, ver1, ty, t, xs, e, hl, h1c, hx⟩ := hv
    have hs := s o
    simp only [e] at hs
    obtain ⟨fz', ver', ty', t', xs', e', l', c'⟩ := hs
    refine ⟨fz', ver', ty', t', xs', e', by omega, h1c, fun hv => ?_⟩
    obtain ⟨x1, x2, x3⟩ := c' (by omega)
    rw [x1, x3]; exact hx (by omega)
  | .ptr o off, _, hv => by
    simp only [RV] at hv ⊢
    obtain ⟨vs, b, e, ha, hx⟩ := hv
    have hs := s o
    simp only [e] at hs
    obtain ⟨vs', e', s'⟩ := hs
    exact ⟨vs', b, e', by rw [s']; exact ha, hx⟩
  | .rptr o ver i off, _, hv => by
    simp only [RV] at hv ⊢
    obtain ⟨fz, ver1, ty, t, xs, e, hl, h1c, hx⟩ := hv
    have hs := s o
    simp only [e] at hs
    obtain ⟨fz', ver', ty', t', xs', e', l', c'⟩ := hs
    refine ⟨fz', ver', ty', t', xs', e', by omega, h1c, fun hv => ?_⟩
    obtain ⟨x1, x2, x3⟩ := c' (by omega)
    obtain ⟨b, h1, h2, h3⟩ := hx (by omega)
    exact ⟨b, by rw [x1]; exact h1, by omega, by rw [x2]; exact h3⟩
  | .fptr _ _, _, hv => by
    simp only [RV] at hv ⊢
    obtain ⟨b, q, cs, rfl, hb, hm, hc, hr⟩ := hv
    exact ⟨b, q, cs, rfl, Nat.lt_of_lt_of_le hb k.size, k.out b hb hm, k.cells hb hm hc, RC.keeps k hr⟩
  | .clo _ _, _, hv => by
    simp only [RV] at hv ⊢
    obtain ⟨vs, rfl, hr⟩ := hv
    exact ⟨vs, rfl, RVs.keeps k s hr⟩
  | .agg _, _, hv => by
    simp only [RV] at hv ⊢
    obtain ⟨vs, rfl, h1, hr⟩ := hv
    exact ⟨vs, rfl, h1, RVs.keeps k s hr⟩
  | .tup _, _, hv => by
    simp only [RV] at hv ⊢
    obtain ⟨vs, rfl, hr⟩ := hv
    exact ⟨vs, rfl, RVs.keeps k s hr⟩
theorem RVs.keeps {w w' : World} {M M' : Nat → Prop} {h h' : List O} {σ σ' : Nat → Loc} (k : Keeps w M w' M') (s : OStep h σ h' σ') : {vs : List V} → {xs : List Value} → RVs w M h σ vs xs → RVs w' M' h' σ' vs xs
  | [], _, hv => by simp only [RVs] at hv ⊢; exact hv
  | _ :: _, _, hv => by
    simp only [RVs] at hv ⊢
    obtain ⟨x, xs, rfl, h1, h2⟩ := hv
    exact ⟨x, xs, rfl, RV.keeps k s h1, RVs.keeps k s h2⟩
end
theorem RVs.length {w : World} {M : Nat → Prop} {h : List O} {σ : Nat → Loc} : {vs : List V} → {xs : List Value} → RVs w M h σ vs xs → vs.length = xs.length
  | [], _, hv => by simp only [RVs] at hv; simp [hv]
  | _ :: _, _, hv => by
    simp only [RVs] at hv
    obtain ⟨x, xs, rfl, _, h2⟩ := hv
    simp [RVs.length h2]
theorem RVs.get {w : World} {M : Nat → Prop} {h : List O} {σ : Nat → Loc} : {vs : List V} → {xs : List Value} → RVs w M h σ vs xs → {i : Nat} → {v : V} → vs[i]? = some v → ∃ x, xs[i]? = some x ∧ RV w M h σ v x
  | [], _, _, i, v, hi => by simp at hi
  | u :: r, _, hv, i, v, hi => by
    simp only [RVs] at hv
    obtain ⟨x, xs, rfl, h1, h2⟩ := hv
    cases i with
    | zero => simp at hi; subst hi; exact ⟨x, rfl, h1⟩
    | succ i => simp at hi; obtain ⟨y, hy, hr⟩ := RVs.get h2 hi; exact ⟨y, by simpa using hy, hr⟩
theorem RVs.append {w : World} {M : Nat → Prop} {h : List O} {σ : Nat → Loc} {us vs : List V} {xs ys : List Value} (h1 : RVs w M h σ us xs) (h2 : RVs w M h σ vs ys) : RVs w M h σ (us ++ vs) (xs ++ ys) := by
  induction us generalizing xs with
  | nil => simp only [RVs] at h1; subst h1; simpa using h2
  | cons u us ih =>
    simp only [RVs] at h1
    obtain ⟨x, xs, rfl, a, b⟩ := h1
    simp only [List.cons_append, RVs]
    exact ⟨x, xs ++ ys, rfl, a, ih b⟩
theorem RVs.take {w : World} {M : Nat → Prop} {h : List O} {σ : Nat → Loc} {vs : List V} {xs : List Value} (h1 : RVs w M h σ vs xs) (n : Nat) : RVs w M h σ (vs.take n) (xs.take n) := by
  induction vs generalizing xs n with
  | nil => simp only [RVs] at h1; subst h1; simp [RVs]
  | cons v vs ih =>
    simp only [RVs] at h1
    obtain ⟨x, xs, rfl, a, b⟩ := h1
    cases n with
    | zero => simp [RVs]
    | succ n => simp only [List.take_succ_cons, RVs]; exact ⟨x, _, rfl, a, ih b n⟩
theorem RVs.drop {w : World} {M : Nat → Prop} {h : List O} {σ : Nat → Loc} {vs : List V} {xs : List Value} (h1 : RVs w M h σ vs xs) (n : Nat) : RVs w M h σ (vs.drop n) (xs.drop n) := by
  induction vs generalizing xs n with
  | nil => simp only [RVs] at h1; subst h1; simp [RVs]
  | cons v vs ih =>
    cases n with
    | zero => simpa using h1
    | succ n =>
      simp only [RVs] at h1
      obtain ⟨x, xs, rfl, a, b⟩ := h1
      simpa using ih b n

/-! ### Lists of data in cells -/
theorem RC.one {w : World} {M : Nat → Prop} : {s : Sh} → {x : s.den} → {cs : List Value} → RC w M s x cs → ∀ c ∈ cs, c.oneCell' = true
  | .int _, _, _, h => by simp only [RC] at h; subst h; intro c hc; simp at hc; subst hc; rfl
  | .bool, _, _, h => by simp only [RC] at h; subst h; intro c hc; simp at hc; subst hc; rfl
  | .unit, _, _, h => by simp only [RC] at h; subst h; intro c hc; simp at hc
  | .pair _ _, _, _, h => by
    simp only [RC] at h
    obtain ⟨c, d, rfl, h1, h2⟩ := h
    intro v hv
    rcases List.mem_append.1 hv with hv | hv
    · exact RC.one h1 v hv
    · exact RC.one h2 v hv
  | .sl _, _, _, h => by
    simp only [RC] at h
    obtain ⟨a, cap, rfl, _⟩ := h
    intro c hc; simp at hc; subst hc; rfl
section
variable {w w' : World} {M M' : Nat → Prop} {s : Sh}
theorem RL.keeps (k : Keeps w M w' M') {xs : List s.den} {cs : List Value} (h : RL w M s xs cs) : RL w' M' s xs cs := by
  induction xs generalizing cs with
  | nil => simpa only [RL] using h
  | cons x xs ih =>
    simp only [RL] at h ⊢
    obtain ⟨c, d, rfl, h1, h2⟩ := h
    exact ⟨c, d, rfl, RC.keeps k h1, ih h2⟩
theorem RL.length {xs : List s.den} {cs : List Value} (h : RL w M s xs cs) : cs.length = xs.length * s.n := by
  induction xs generalizing cs with
  | nil => simp only [RL] at h; simp [h]
  | cons x xs ih =>
    simp only [RL] at h
    obtain ⟨c, d, rfl, h1, h2⟩ := h
    simp only [List.length_append, List.length_cons, RC.length h1, ih h2, Nat.succ_mul]; omega
theorem RL.one {xs : List s.den} {cs : List Value} (h : RL w M s xs cs) : ∀ c ∈ cs, c.oneCell' = true := by
  induction xs generalizing cs with
  | nil => simp only [RL] at h; subst h; intro c hc; simp at hc
  | cons x xs ih =>
    simp only [RL] at h
    obtain ⟨c, d, rfl, h1, h2⟩ := h
    intro v hv
    rcases List.mem_append.1 hv with hv | hv
    · exact RC.one h1 v hv
    · exact ih h2 v hv
theorem RL.append {xs ys : List s.den} {cs ds : List Value} (h : RL w M s xs cs) (h' : RL w M s ys ds) : RL w M s (xs ++ ys) (cs ++ ds) := by
  induction xs generalizing cs with
  | nil => simp only [RL] at h; subst h; simpa using h'
  | cons x xs ih =>
    simp only [RL] at h
    obtain ⟨c, d, rfl, h1, h2⟩ := h
    simp only [List.cons_append, RL]
    exact ⟨c, d ++ ds, by simp, h1, ih h2⟩
theorem RL.get {xs : List s.den} {cs : List Value} (h : RL w M s xs cs) {i : Nat} {x : s.den} (hi : xs[i]? = some x) :
    ∃ c, RC w M s x c ∧ ∀ j v, c[j]? = some v → cs[i * s.n + j]? = some v := by
  induction xs generalizing cs i with
  | nil => simp at hi
  | cons y xs ih =>
    simp only [RL] at h
    obtain ⟨c, d, rfl, h1, h2⟩ := h
    cases i with
    | zero =>
      simp at hi; subst hi
      refine ⟨c, h1, fun j v hj => ?_⟩
      rw [Nat.zero_mul, Nat.zero_add, List.getElem?_append_left (List.getElem?_eq_some_iff.1 hj).1]; exact hj
    | succ i =>
      simp at hi
      obtain ⟨c', h3, h4⟩ := ih h2 hi
      refine ⟨c', h3, fun j v hj => ?_⟩
      have hc := RC.length h1
      rw [List.getElem?_append_right (by rw [hc, Nat.succ_mul]; omega), hc, ← h4 j v hj]
      congr 1; rw [Nat.succ_mul]; omega
theorem RL.set {xs : List s.den} {cs : List Value} (h : RL w M s xs cs) {i : Nat} (hi : i < xs.length) {y : s.den} {c : List Value} (hc : RC w M s y c) :
    RL w M s (xs.set i y) (cs.take (i * s.n) ++ c ++ cs.drop (i * s.n + s.n)) := by
  induction xs generalizing cs i with
  | nil => simp at hi
  | cons x xs ih =>
    simp only [RL] at h
    obtain ⟨c0, d, rfl, h1, h2⟩ := h
    have hl := RC.length h1
    cases i with
    | zero =>
      simp only [List.set_cons_zero, RL, Nat.zero_mul, List.take_zero, List.nil_append, Nat.zero_add]
      exact ⟨c, d, by rw [← hl, List.drop_left], hc, h2⟩
    | succ i =>
      simp only [List.set_cons_succ, RL]
      refine ⟨c0, _, ?_, h1, ih h2 (by simpa using hi)⟩
      rw [List.take_append, List.take_of_length_le (by rw [hl, Nat.succ_mul]; omega), List.drop_append, List.drop_of_length_le (by rw [hl, Nat.succ_mul]; omega)]
      have e1 : (i + 1) * s.n - c0.length = i * s.n := by rw [hl, Nat.succ_mul]; omega
      have e2 : (i + 1) * s.n + s.n - c0.length = i * s.n + s.n := by rw [hl, Nat.succ_mul]; omega
      rw [e1, e2]; simp
theorem RL.ofRow {b q : Nat} {xs : List s.den} (h : RowAt (RC w M s) s.n w b q xs) : ∃ cs, RL w M s xs cs ∧ CellsAt w b q cs := by
  induction xs generalizing q with
  | nil => exact ⟨[], rfl, fun j v hj => by simp at hj⟩
  | cons x xs ih =>
    obtain ⟨c, hc, hr⟩ := h 0 x rfl
    obtain ⟨d, hd, he⟩ := ih (q := q + s.n) (fun i y hy => by
      obtain ⟨c, hc, hr⟩ := h (i + 1) y (by simpa using hy)
      exact ⟨c, by rw [Nat.succ_mul] at hc; rwa [Nat.add_assoc, Nat.add_comm s.n], hr⟩)
    refine ⟨c ++ d, ⟨c, d, rfl, hr, hd⟩, fun j v hj => ?_⟩
    have hl := RC.length hr
    rcases Nat.lt_or_ge j c.length with h' | h'
    · rw [List.getElem?_append_left h'] at hj
      have := hc j v hj
      simpa using this
    · rw [List.getElem?_append_right h'] at hj
      have := he _ v hj
      rw [show q + s.n + (j - c.length) = q + j by omega] at this
      exact this
theorem RL.row {b q : Nat} {xs : List s.den} {cs : List Value} (h : RL w M s xs cs) (hc : CellsAt w b q cs) : RowAt (RC w M s) s.n w b q xs := fun i x hx => by
  obtain ⟨c, h1, h2⟩ := h.get hx
  exact ⟨c, fun j v hj => by have := hc _ v (h2 j v hj); rwa [← Nat.add_assoc] at this, h1⟩
end
theorem rc_zero {w : World} {M : Nat → Prop} : (s : Sh) → ∃ cs, RC w M s s.zero cs
  | .int _ => ⟨_, rfl⟩
  | .bool => ⟨_, rfl⟩
  | .unit => ⟨_, rfl⟩
  | .pair a b => by
    obtain ⟨c, hc⟩ := rc_zero a
    obtain ⟨d, hd⟩ := rc_zero b
    exact ⟨c ++ d, c, d, rfl, hc, hd⟩
  | .sl s => ⟨[.slice none 0 0], none, 0, rfl, Nat.le_refl _, Nat.zero_le _, fun h => absurd rfl h⟩
/-- The elements of a slice, wherever it lies. -/
theorem RC.cellsOf {w : World} {M : Nat → Prop} {s : Sh} {xs : List s.den} {v : Value} (h : RC w M (.sl s) xs [v]) :
    ∃ a cap cs, v = .slice a xs.length cap ∧ RL w M s xs cs ∧ (xs = [] ∨ ∃ b q, a = some ⟨b, q, none⟩ ∧ b < w.heap.size ∧ ¬ M b ∧ CellsAt w b q cs) := by
  simp only [RC] at h
  obtain ⟨a, cap, hv, _, _, h⟩ := h
  simp at hv
  by_cases hx : xs = []
  · subst hx; exact ⟨a, cap, [], hv, rfl, .inl rfl⟩
  · obtain ⟨b, q, ha, hb, hm, hr⟩ := h hx
    obtain ⟨cs, h1, h2⟩ := RL.ofRow hr
    exact ⟨a, cap, cs, hv, h1, .inr ⟨b, q, ha, hb, hm, h2⟩⟩
theorem RC.sub {w : World} {M M' : Nat → Prop} (h : ∀ b, M' b → M b) {s : Sh} {x : s.den} {cs : List Value} (r : RC w M s x cs) : RC w M' s x cs :=
  RC.keeps ⟨Nat.le_refl _, fun _ _ _ => rfl, fun b _ hm h' => hm (h b h')⟩ r
end Go.Abs
