/- How states go on across canonical forms. -/
import Derived.Test.YtdbjfdjpmoackaaDoorAbsConv
namespace Go.Abs
def CStep (fx : List Nat) (fl : Nat) (h : List O) (σ : Nat → Loc) (h' : List O) (σ' : Nat → Loc) : Prop :=
  ∀ o, o < fl → match getO h o with
    | .none => True
    | .cells _ => ∃ vs', getO h' o = .cells vs' ∧ σ' o = σ o
    | .row _ ver _ s xs => memN fx o = false → ∃ fz' ver' e' s' xs', getO h' o = .row fz' ver' e' s' xs' ∧ ver ≤ ver' ∧ (ver = ver' → σ' o = σ o ∧ s' = s ∧ xs'.length = xs.length)
structure Far (fx : List Nat) (fl : Nat) (M0 : Nat → Prop) (w : World) (h : List O) (σ : Nat → Loc) (M1 : Nat → Prop) (w' : World) (h' : List O) (σ' : Nat → Loc) : Prop where
  goes : Goes w h σ w'
  keeps : Keeps w (mutb M0 h σ) w' (mutb M1 h' σ')
  step : CStep fx fl h σ h' σ'
section
variable {w0 : World} {A M0 M1 M2 : Nat → Prop} {w w' w'' : World} {h h' h'' : List O} {σ σ' σ'' : Nat → Loc} {fx : List Nat} {fl base : Nat}
theorem OStep.c (s : OStep h σ h' σ') : CStep fx fl h σ h' σ' := fun o _ => by
  have := s o
  cases e : getO h o with
  | none => trivial
  | cells vs => rw [e] at this; exact this
  | row fz ver t s xs => rw [e] at this; exact fun _ => this
theorem Far.of_next (n : Next w0 A M0 w h σ w' h' σ') : Far fx fl M0 w h σ M0 w' h' σ' := ⟨n.goes, n.keeps, n.step.c⟩
theorem Goes.refl : Goes w h σ w := ⟨rfl, rfl, rfl, Nat.le_refl _, fun _ _ _ => rfl⟩
theorem Far.refl : Far fx fl M0 w h σ M0 w h σ := ⟨Goes.refl, keepsId fun _ h => h, (OStep.refl h σ).c⟩
theorem Far.conv (hle : fl ≤ base) : Far fx fl M0 w h σ M0 w (cvH fx base h) σ := by
  refine ⟨Goes.refl, keepsId fun b => mutb_cv, fun o ho => ?_⟩
  have : getO (cvH fx base h) o = cvO fx base h o (getO h o) := by rw [cvH_get, if_pos (by omega)]
  rw [this]
  cases e : getO h o with
  | none => trivial
  | cells vs => exact ⟨_, rfl, rfl⟩
  | row fz ver t s xs =>
    intro hf
    exact ⟨fz, ver, t, s, xs, by simp only [cvO, ver0, hf, cond_false], Nat.le_refl _, fun _ => ⟨rfl, rfl, rfl⟩⟩
theorem CStep.trans (a : CStep fx fl h σ h' σ') (b : CStep fx fl h' σ' h'' σ'') : CStep fx fl h σ h'' σ'' := fun o ho => by
  have ha := a o ho
  have hb := b o ho
  cases e : getO h o with
  | none => trivial
  | cells vs =>
    simp only [e] at ha
    obtain ⟨vs', e', s'⟩ := ha
    simp only [e'] at hb
    obtain ⟨vs'', e'', s''⟩ := hb
    exact ⟨vs'', e'', s''.trans s'⟩
  | row fz ver ty s xs =>
    simp only [e] at ha
    intro hf
    obtain ⟨fz', ver', ty', t', xs', e', l', c'⟩ := ha hf
    simp only [e'] at hb
    obtain ⟨fz'', ver'', ty'', t'', xs'', e'', l'', c''⟩ := hb hf
    refine ⟨fz'', ver'', ty'', t'', xs'', e'', by omega, fun hv => ?_⟩
    obtain ⟨x1, x2, x3⟩ := c' (by omega)
    obtain ⟨y1, y2, y3⟩ := c'' (by omega)
    exact ⟨y1.trans x1, y2.trans x2, y3.trans x3⟩
/-- Foreign blocks lie as they lay, too. -/
def Foreign (M0 : Nat → Prop) (w : World) (h : List O) (σ : Nat → Loc) : Prop := ∀ b, M0 b → b < w.heap.size ∧ ¬ own h σ b
theorem Rep.foreign (R : Rep w0 A M0 w h σ) : Foreign M0 w h σ := fun b hb =>
  ⟨R.mlt (.inl hb), fun ho => by
    have := R.m0 b hb
    rcases R.inA b ho with h | h
    · exact this.2 h
    · omega⟩
theorem Far.trans (a : Far fx fl M0 w h σ M1 w' h' σ') (b : Far fx fl M1 w' h' σ' M2 w'' h'' σ'') (F : ∀ b, M0 b → ¬ own h' σ' b) : Far fx fl M0 w h σ M2 w'' h'' σ'' := by
  refine ⟨⟨b.goes.os.trans a.goes.os, b.goes.tape.trans a.goes.tape, b.goes.output.trans a.goes.output, Nat.le_trans a.goes.size b.goes.size, fun k hk ho => ?_⟩,
    ⟨Nat.le_trans a.keeps.size b.keeps.size, fun k hk hm => ?_, fun k hk hm => b.keeps.out k (Nat.lt_of_lt_of_le hk a.keeps.size) (a.keeps.out k hk hm)⟩, a.step.trans b.step⟩
  · rw [b.goes.block k (Nat.lt_of_lt_of_le hk a.goes.size) (fun e => ?_), a.goes.block k hk ho]
    by_cases hM : M0 k
    · exact F k hM e
    · exact a.keeps.out k hk (fun e => e.elim hM ho) (.inr e)
  · rw [b.keeps.block k (Nat.lt_of_lt_of_le hk a.keeps.size) (a.keeps.out k hk hm), a.keeps.block k hk hm]
theorem Far.mono {fl' : Nat} (hle : fl' ≤ fl) (a : Far fx fl M0 w h σ M1 w' h' σ') : Far fx fl' M0 w h σ M1 w' h' σ' := ⟨a.goes, a.keeps, fun o ho => a.step o (by omega)⟩
mutual
theorem Far.rv (f : Far fx fl M0 w h σ M1 w' h' σ') : {v : V} → {x : Value} → stbV fx fl v = true → RV w (mutb M0 h σ) h σ v x → RV w' (mutb M1 h' σ') h' σ' v x
  | .bad, _, _, _ => by simp only [RV]
  | .undef, _, _, hv => by simp only [RV] at hv ⊢; exact hv
  | .int _ _, _, _, hv => by simp only [RV] at hv ⊢; exact hv
  | .bool _, _, _, hv => by simp only [RV] at hv ⊢; exact hv
  | .nil, _, _, hv => by simp only [RV] at hv ⊢; exact hv
  | .sl _ _, _, _, hv => by simp only [RV] at hv ⊢; exact RC.keeps f.keeps hv
  | .slc o ver, _, hs, hv => by
    simp only [RV] at hv ⊢
    simp only [stbV, Bool.and_eq_true, Bool.not_eq_true'] at hs
    obtain ⟨fz, ver1, ty, t, xs, e, hl, h1c, hx⟩ := hv
    have hs' := f.step o (Nat.le_of_ble_eq_true hs.1)
    simp only [e] at hs'
    obtain ⟨fz', ver', ty', t', xs', e', l', c'⟩ := hs' hs.2
    refine ⟨fz', ver', ty', t', xs', e', by omega, h1c, fun hv => ?_⟩
    obtain ⟨x1, x2, x3⟩ := c' (by omega)
    rw [x1, x3]; exact hx (by omega)
  | .ptr o off, _, hs, hv => by
    simp only [RV] at hv ⊢
    simp only [stbV] at hs
    obtain ⟨vs, b, e, ha, hx⟩ := hv
    have hs' := f.step o (Nat.le_of_ble_eq_true hs)
    simp only [e] at hs'
    obtain ⟨vs', e', s'⟩ := hs'
    exact ⟨vs', b, e', by rw [s']; exact ha, hx⟩
  | .rptr o ver i off, _, hs, hv => by
    simp only [RV] at hv ⊢
    simp only [stbV, Bool.and_eq_true, Bool.not_eq_true'] at hs
    obtain ⟨fz, ver1, ty, t, xs, e, hl, h1c, hx⟩ := hv
    have hs' := f.step o (Nat.le_of_ble_eq_true hs.1)
    simp only [e] at hs'
    obtain ⟨fz', ver', ty', t', xs', e', l', c'⟩ := hs' hs.2
    refine ⟨fz', ver', ty', t', xs', e', by omega, h1c, fun hv => ?_⟩
    obtain ⟨x1, x2, x3⟩ := c' (by omega)
    obtain ⟨b, h1, h2, h3⟩ := hx (by omega)
    exact ⟨b, by rw [x1]; exact h1, by omega, by rw [x2]; exact h3⟩
  | .fptr _ _, _, _, hv => by
    simp only [RV] at hv ⊢
    obtain ⟨b, q, cs, rfl, hb, hm, hc, hr⟩ := hv
    exact ⟨b, q, cs, rfl, Nat.lt_of_lt_of_le hb f.keeps.size, f.keeps.out b hb hm, f.keeps.cells hb hm hc, RC.keeps f.keeps hr⟩
  | .clo _ _, _, hs, hv => by
    simp only [RV] at hv ⊢
    simp only [stbV] at hs
    obtain ⟨vs, rfl, hr⟩ := hv
    exact ⟨vs, rfl, Far.rvs f hs hr⟩
  | .agg _, _, hs, hv => by
    simp only [RV] at hv ⊢
    simp only [stbV] at hs
    obtain ⟨vs, rfl, h1, hr⟩ := hv
    exact ⟨vs, rfl, h1, Far.rvs f hs hr⟩
  | .tup _, _, hs, hv => by
    simp only [RV] at hv ⊢
    simp only [stbV] at hs
    obtain ⟨vs, rfl, hr⟩ := hv
    exact ⟨vs, rfl, Far.rvs f hs hr⟩
theorem Far.rvs (f : Far fx fl M0 w h σ M1 w' h' σ') : {vs : List V} → {xs : List Value} → stbV.stbL fx fl vs = true → RVs w (mutb M0 h σ) h σ vs xs → RVs w' (mutb M1 h' σ') h' σ' vs xs
  | [], _, _, hv => by simp only [RVs] at hv ⊢; exact hv
  | _ :: _, _, hs, hv => by
    simp only [RVs] at hv ⊢
    simp only [stbV.stbL, Bool.and_eq_true] at hs
    obtain ⟨x, xs, rfl, h1, h2⟩ := hv
    exact ⟨x, xs, rfl, Far.rv f hs.1 h1, Far.rvs f hs.2 h2⟩
end
theorem Far.less (a : Far fx fl M0 w h σ M1 w' h' σ') (hs : ∀ b, M2 b → M1 b) : Far fx fl M0 w h σ M2 w' h' σ' :=
  ⟨a.goes, ⟨a.keeps.size, a.keeps.block, fun b hb hm h' => a.keeps.out b hb hm (h'.imp (hs b) id)⟩, a.step⟩
/-- A state seen with fewer foreign blocks. -/
theorem RV.less {M M' : Nat → Prop} (hs : ∀ b, M' b → M b) {v : V} {x : Value} (hv : RV w M h σ v x) : RV w M' h σ v x := RV.keeps (keepsId hs) (OStep.refl h σ) hv
theorem RO.less {M M' : Nat → Prop} (hs : ∀ b, M' b → M b) {l : Loc} {o : O} (ho : RO w M h σ l o) : RO w M' h σ l o := ho.keeps (keepsId hs) (OStep.refl h σ) fun _ _ _ => rfl
/-- A block that no object owns and no datum lies in is turned: all stands as it stood. -/
theorem Keeps.turn {M : Nat → Prop} {l : Nat} (hl : M l) (o : Obj) : Keeps w M (w.putObj l o) M :=
  ⟨by simp, fun b _ hb => World.putObj_heap_other (fun e => hb (e ▸ hl)), fun _ _ h => h⟩
theorem Goes.turn {l : Nat} (hm : ∀ b, b < w.heap.size → b ≠ l) (o : Obj) : Goes w h σ (w.putObj l o) :=
  ⟨rfl, rfl, rfl, by simp, fun b hb _ => World.putObj_heap_other (hm b hb)⟩
theorem Rep.turn (R : Rep w0 A M0 w h σ) {l : Nat} (hl : M0 l) (o : Obj) : Rep (w0.putObj l o) A M0 (w.putObj l o) h σ :=
  ⟨⟨R.fr.os, R.fr.tape, R.fr.output, by simpa using R.fr.size, fun b hb hA => by
      replace hb : b < w0.heap.size := by simpa using hb
      by_cases e : b = l
      · subst e
        rw [World.putObj_heap_same (w := w0) hb, World.putObj_heap_same (w := w) (Nat.lt_of_lt_of_le hb R.fr.size)]
      · rw [World.putObj_heap_other e, World.putObj_heap_other e]; exact R.fr.block b hb hA⟩,
    fun b hb => by simpa using R.m0 b hb, fun b hb => by simpa using R.inA b hb, R.apart, fun i => by
    have r := R.obj i
    cases eo : getO h i with
    | none => trivial
    | cells vs =>
      rw [eo] at r
      exact r.keeps (Keeps.turn (.inl hl) o) (OStep.refl h σ) fun b ha hb => World.putObj_heap_other fun e => by
        subst e
        exact (R.foreign b hl).2 ⟨i, by rw [eo]; trivial, ha⟩
    | row fz ver t s xs =>
      rw [eo] at r
      refine r.keeps (Keeps.turn (.inl hl) o) (OStep.refl h σ) fun b ha hb => World.putObj_heap_other fun e => ?_
      subst e
      cases fz with
      | false => exact (R.foreign b hl).2 ⟨i, by rw [eo]; rfl, ha⟩
      | true => exact (r.2.2 b ha).2 (.inl hl)⟩
end
end Go.Abs
