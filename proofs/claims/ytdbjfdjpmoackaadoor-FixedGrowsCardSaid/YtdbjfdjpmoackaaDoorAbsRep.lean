/- How the relation between objects and memory is kept when one object turns, or the world grows. -/
import Derived.Test.YtdbjfdjpmoackaaDoorAbsRel
namespace Go.Abs
open Go.RowKit

theorem rowV_block {w : World} {e : TypeId} {k n : Nat} {l : Loc} {m : Nat} {cs : List Value} (h : w.ownsRow 0 e k (rowV l m) n cs) {b : Nat} (ha : l.a = some b) : b < w.heap.size :=
  (h.lt b (by simp [rowV, Loc.addr, ha, Value.ownBlock])).2
theorem RO.lt {w : World} {M : Nat → Prop} {h : List O} {σ : Nat → Loc} {l : Loc} {o : O} (r : RO w M h σ l o) (ho : o ≠ .none) {b : Nat} (ha : l.a = some b) : b < w.heap.size := by
  cases o with
  | none => exact absurd rfl ho
  | cells vs =>
    obtain ⟨b', e, cs, ha', hb, _⟩ := r
    rw [ha] at ha'; cases ha'; exact (Array.getElem?_eq_some_iff.1 hb).1
  | row fz ver e s xs =>
    cases fz with
    | true => exact (r.2.2 b ha).1
    | false =>
      obtain ⟨_, cs, r, _⟩ := r
      exact rowV_block r ha
theorem live_ne {o : O} (h : live o) : o ≠ .none := by rintro rfl; exact h
theorem ownsRow_block {w w' : World} {e : TypeId} {k n : Nat} {v : Value} {cs : List Value} (h : w.ownsRow 0 e k v n cs) (hb : ∀ b, v.ownBlock = some b → w'.heap[b]? = w.heap[b]?) : w'.ownsRow 0 e k v n cs := by
  refine ⟨h.1, ?_⟩
  rcases h.2 with hn | ⟨g, cap, cur, rfl, h1, hg, rest⟩
  · exact .inl hn
  · exact .inr ⟨g, cap, cur, rfl, h1, by rw [hb g rfl]; exact hg, rest⟩
theorem RO.keeps {w w' : World} {M M' : Nat → Prop} {h h' : List O} {σ σ' : Nat → Loc} (k : Keeps w M w' M') (s : OStep h σ h' σ') {l : Loc}
    (hl : ∀ b, l.a = some b → b < w.heap.size → w'.heap[b]? = w.heap[b]?) : {o : O} → RO w M h σ l o → RO w' M' h' σ' l o
  | .none, _ => trivial
  | .cells vs, r => by
    obtain ⟨b, e, cs, ha, hb, hr, h1⟩ := r
    exact ⟨b, e, cs, ha, by rw [hl b ha (Array.getElem?_eq_some_iff.1 hb).1]; exact hb, RVs.keeps k s hr, h1⟩
  | .row true ver e t xs, r => by
    obtain ⟨h1, h2, h3⟩ := r
    exact ⟨h1, RC.keeps k h2, fun b ha => ⟨Nat.lt_of_lt_of_le (h3 b ha).1 k.size, k.out b (h3 b ha).1 (h3 b ha).2⟩⟩
  | .row false ver e t xs, r => by
    obtain ⟨h1, cs, h2, h3⟩ := r
    refine ⟨h1, cs, ownsRow_block h2 fun b hb => ?_, RL.keeps k h3⟩
    have ha : l.a = some b := by
      cases hla : l.a with
      | none => simp [rowV, Loc.addr, hla, Value.ownBlock] at hb
      | some b' => simp [rowV, Loc.addr, hla, Value.ownBlock] at hb; rw [hb]
    exact hl b ha (rowV_block h2 ha)

/-- The world goes on; what the objects own may turn, all else stays; streams stay. -/
structure Goes (w : World) (h : List O) (σ : Nat → Loc) (w' : World) : Prop where
  os : w'.os = w.os
  tape : w'.tape = w.tape
  output : w'.output = w.output
  size : w.heap.size ≤ w'.heap.size
  block : ∀ b, b < w.heap.size → ¬ own h σ b → w'.heap[b]? = w.heap[b]?
/-- What every step of the abstract machine gives: the relation goes on, and what stood for a value stands for it still. -/
structure Next (w0 : World) (A M0 : Nat → Prop) (w : World) (h : List O) (σ : Nat → Loc) (w' : World) (h' : List O) (σ' : Nat → Loc) : Prop where
  rep : Rep w0 A M0 w' h' σ'
  goes : Goes w h σ w'
  keeps : Keeps w (mutb M0 h σ) w' (mutb M0 h' σ')
  step : OStep h σ h' σ'
theorem Rep.lt {w0 : World} {A M0 : Nat → Prop} {w : World} {h : List O} {σ : Nat → Loc} (R : Rep w0 A M0 w h σ) {b : Nat} (hb : own h σ b) : b < w.heap.size := by
  obtain ⟨o, hl, ha⟩ := hb
  exact (R.obj o).lt (live_ne hl) ha
theorem Rep.mlt {w0 : World} {A M0 : Nat → Prop} {w : World} {h : List O} {σ : Nat → Loc} (R : Rep w0 A M0 w h σ) {b : Nat} (hb : mutb M0 h σ b) : b < w.heap.size := by
  rcases hb with hb | hb
  · exact Nat.lt_of_lt_of_le (R.m0 b hb).1 R.fr.size
  · exact R.lt hb
theorem Fr.goes {w0 : World} {A M0 : Nat → Prop} {w w' : World} {h : List O} {σ : Nat → Loc} (R : Rep w0 A M0 w h σ) (g : Goes w h σ w') : Fr w0 A w' :=
  ⟨g.os.trans R.fr.os, g.tape.trans R.fr.tape, g.output.trans R.fr.output, Nat.le_trans R.fr.size g.size, fun b hb hA => by
    rw [g.block b (Nat.lt_of_lt_of_le hb R.fr.size) (fun ho => by rcases R.inA b ho with h | h; exact hA h; omega)]
    exact R.fr.block b hb hA⟩
theorem Next.refl {w0 : World} {A M0 : Nat → Prop} {w : World} {h : List O} {σ : Nat → Loc} (R : Rep w0 A M0 w h σ) : Next w0 A M0 w h σ w h σ :=
  ⟨R, ⟨rfl, rfl, rfl, Nat.le_refl _, fun _ _ _ => rfl⟩, ⟨Nat.le_refl _, fun _ _ _ => rfl, fun _ _ h => h⟩, OStep.refl _ _⟩
theorem Next.trans {w0 : World} {A M0 : Nat → Prop} {w w1 w2 : World} {h h1 h2 : List O} {σ σ1 σ2 : Nat → Loc} (a : Next w0 A M0 w h σ w1 h1 σ1) (b : Next w0 A M0 w1 h1 σ1 w2 h2 σ2)
    (R : Rep w0 A M0 w h σ) : Next w0 A M0 w h σ w2 h2 σ2 := by
  refine ⟨b.rep, ⟨b.goes.os.trans a.goes.os, b.goes.tape.trans a.goes.tape, b.goes.output.trans a.goes.output, Nat.le_trans a.goes.size b.goes.size, fun k hk ho => ?_⟩,
    ⟨Nat.le_trans a.keeps.size b.keeps.size, fun k hk hm => ?_, fun k hk hm => b.keeps.out k (Nat.lt_of_lt_of_le hk a.keeps.size) (a.keeps.out k hk hm)⟩, a.step.trans b.step⟩
  · by_cases hM : M0 k
    · have := (R.m0 k hM).1
      rw [b.rep.fr.block k this (R.m0 k hM).2, R.fr.block k this (R.m0 k hM).2]
    · have e1 := a.goes.block k hk ho
      have e2 : ¬ mutb M0 h1 σ1 k := a.keeps.out k hk (fun e => e.elim hM ho)
      rw [b.goes.block k (Nat.lt_of_lt_of_le hk a.goes.size) (fun e => e2 (.inr e)), e1]
  · rw [b.keeps.block k (Nat.lt_of_lt_of_le hk a.keeps.size) (a.keeps.out k hk hm), a.keeps.block k hk hm]
theorem Next.rv {w0 : World} {A M0 : Nat → Prop} {w w' : World} {h h' : List O} {σ σ' : Nat → Loc} (n : Next w0 A M0 w h σ w' h' σ') {v : V} {x : Value} (hv : RV w (mutb M0 h σ) h σ v x) :
    RV w' (mutb M0 h' σ') h' σ' v x := RV.keeps n.keeps n.step hv
/-- The world has only grown. -/
theorem Next.grow {w0 : World} {A M0 : Nat → Prop} {w w' : World} {h : List O} {σ : Nat → Loc} (R : Rep w0 A M0 w h σ) (g : Below w.heap.size w w') : Next w0 A M0 w h σ w' h σ := by
  have k : Keeps w (mutb M0 h σ) w' (mutb M0 h σ) := ⟨g.size, fun b hb _ => g.block b hb, fun _ _ h => h⟩
  have gs : Goes w h σ w' := ⟨g.os, g.tape, g.output, g.size, fun b hb _ => g.block b hb⟩
  exact ⟨⟨Fr.goes R gs, R.m0, R.inA, R.apart, fun o => (R.obj o).keeps k (OStep.refl _ _) (fun b _ hb => g.block b hb)⟩, gs, k, OStep.refl _ _⟩
/-- One object turns. -/
theorem Next.upd {w0 : World} {A M0 : Nat → Prop} {w w' : World} {h h' : List O} {σ σ' : Nat → Loc} (R : Rep w0 A M0 w h σ) (o : Nat)
    (hos : w'.os = w.os) (htape : w'.tape = w.tape) (hout : w'.output = w.output) (hsize : w.heap.size ≤ w'.heap.size)
    (hsame : ∀ o', o' ≠ o → getO h' o' = getO h o' ∧ σ' o' = σ o')
    (hblock : ∀ b, b < w.heap.size → (live (getO h o) → (σ o).a ≠ some b) → w'.heap[b]? = w.heap[b]?)
    (hown : ∀ b, live (getO h' o) → (σ' o).a = some b → (live (getO h o) ∧ (σ o).a = some b) ∨ w.heap.size ≤ b)
    (hstep : match getO h o with
      | .none => True
      | .cells _ => ∃ vs', getO h' o = .cells vs' ∧ σ' o = σ o
      | .row _ ver _ s xs => ∃ fz' ver' e' s' xs', getO h' o = .row fz' ver' e' s' xs' ∧ ver ≤ ver' ∧ (ver = ver' → σ' o = σ o ∧ s' = s ∧ xs'.length = xs.length))
    (hobj : Keeps w (mutb M0 h σ) w' (mutb M0 h' σ') → OStep h σ h' σ' → RO w' (mutb M0 h' σ') h' σ' (σ' o) (getO h' o)) :
    Next w0 A M0 w h σ w' h' σ' := by
  have ownd : ∀ b, b < w.heap.size → own h' σ' b → own h σ b := fun b hb ⟨o', hl, ha⟩ => by
    by_cases e : o' = o
    · subst e
      rcases hown b hl ha with ⟨hl', ha'⟩ | hge
      · exact ⟨o', hl', ha'⟩
      · omega
    · rw [(hsame o' e).1] at hl; rw [(hsame o' e).2] at ha; exact ⟨o', hl, ha⟩
  have gs : Goes w h σ w' := ⟨hos, htape, hout, hsize, fun b hb ho => hblock b hb (fun hl ha => ho ⟨o, hl, ha⟩)⟩
  have k : Keeps w (mutb M0 h σ) w' (mutb M0 h' σ') := ⟨hsize, fun b hb hm => hblock b hb (fun hl ha => hm (.inr ⟨o, hl, ha⟩)), fun b hb hm hm' => by
    rcases hm' with hm' | hm'
    · exact hm (.inl hm')
    · exact hm (.inr (ownd b hb hm'))⟩
  have st : OStep h σ h' σ' := fun o' => by
    by_cases e : o' = o
    · subst e; exact hstep
    · have := OStep.refl h σ o'
      rw [(hsame o' e).1, (hsame o' e).2]
      exact this
  have hold : ∀ b, live (getO h' o) → (σ' o).a = some b → ∀ o', o' ≠ o → live (getO h o') → (σ o').a = some b → False := fun b hl ha o' e hl' ha' => by
    have hb := (R.obj o').lt (live_ne hl') ha'
    rcases hown b hl ha with ⟨hl'', ha''⟩ | hge
    · exact e (R.apart o' o b hl' hl'' ha' ha'')
    · omega
  refine ⟨⟨Fr.goes R gs, R.m0, fun b hb => ?_, fun o1 o2 b h1 h2 a1 a2 => ?_, fun o' => ?_⟩, gs, k, st⟩
  · rcases Nat.lt_or_ge b w.heap.size with hlt | hge
    · exact R.inA b (ownd b hlt hb)
    · exact .inr (Nat.le_trans R.fr.size hge)
  · by_cases e1 : o1 = o
    · by_cases e2 : o2 = o
      · rw [e1, e2]
      · subst e1
        rw [(hsame o2 e2).1] at h2; rw [(hsame o2 e2).2] at a2
        exact (hold b h1 a1 o2 e2 h2 a2).elim
    · by_cases e2 : o2 = o
      · subst e2
        rw [(hsame o1 e1).1] at h1; rw [(hsame o1 e1).2] at a1
        exact (hold b h2 a2 o1 e1 h1 a1).elim
      · rw [(hsame o1 e1).1] at h1; rw [(hsame o1 e1).2] at a1
        rw [(hsame o2 e2).1] at h2; rw [(hsame o2 e2).2] at a2
        exact R.apart o1 o2 b h1 h2 a1 a2
  · by_cases e : o' = o
    · subst e; exact hobj k st
    · rw [(hsame o' e).1, (hsame o' e).2]
      have r := R.obj o'
      cases eo : getO h o' with
      | none => trivial
      | cells vs =>
        rw [eo] at r
        exact r.keeps k st fun b ha hb => hblock b hb fun hl ha' => e (R.apart o' o b (by rw [eo]; trivial) hl ha ha')
      | row fz ver ty s xs =>
        rw [eo] at r
        refine r.keeps k st fun b ha hb => hblock b hb fun hl ha' => ?_
        cases fz with
        | false => exact e (R.apart o' o b (by rw [eo]; rfl) hl ha ha')
        | true => exact (r.2.2 b ha).2 (.inr ⟨o, hl, ha'⟩)
end Go.Abs
