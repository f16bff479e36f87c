/- Contracts: a call that hands back a closure with one box. -/
import Derived.Test.YtdbjfdjpmoackaaDoorAbsFrag2
namespace Go.Abs
open Go.RowKit
theorem RC.one1 {w : World} {M : Nat → Prop} : (s : Sh) → {x : s.den} → {cs : List Value} → RC w M s x cs → ∀ c ∈ cs, c.oneCell' = true
  | .int _, _, _, h => by simp only [RC] at h; subst h; intro c hc; simp at hc; subst hc; rfl
  | .bool, _, _, h => by simp only [RC] at h; subst h; intro c hc; simp at hc; subst hc; rfl
  | .unit, _, _, h => by simp only [RC] at h; subst h; intro c hc; cases hc
  | .sl _, _, _, h => by simp only [RC] at h; obtain ⟨a, cap, rfl, _⟩ := h; intro c hc; simp at hc; subst hc; rfl
  | .pair a b, _, _, h => by
    simp only [RC] at h
    obtain ⟨c, d, rfl, h1, h2⟩ := h
    intro v hv
    rcases List.mem_append.1 hv with hv | hv
    · exact RC.one1 a h1 v hv
    · exact RC.one1 b h2 v hv
theorem RC.encL {w : World} {M : Nat → Prop} {h : List O} {σ : Nat → Loc} : (s : Sh) → {x : s.den} → {cs : List Value} → RC w M s x cs → RVs w M h σ (encL s x) cs
  | .int _, _, _, hc => by simp only [RC] at hc; subst hc; simp only [Abs.encL, RVs, RV]; exact ⟨_, _, rfl, rfl, rfl⟩
  | .bool, _, _, hc => by simp only [RC] at hc; subst hc; simp only [Abs.encL, RVs, RV]; exact ⟨_, _, rfl, rfl, rfl⟩
  | .unit, _, _, hc => by simp only [RC] at hc; subst hc; simp only [Abs.encL, RVs]
  | .sl s, x, _, hc => by
    have hc' := hc
    simp only [RC] at hc
    obtain ⟨a, cap, rfl, _⟩ := hc
    simp only [Abs.encL, RVs, RV]
    exact ⟨_, _, rfl, hc', rfl⟩
  | .pair a b, x, _, hc => by
    simp only [RC] at hc
    obtain ⟨c, d, rfl, h1, h2⟩ := hc
    simp only [Abs.encL]
    exact (RC.encL a h1).append (RC.encL b h2)
/-- **A function that hands back a closure with a box of its own**, that nobody else knows. -/
def SpecB (P : Program) (gs : List (Nat × List Value)) (f : Nat) (ks : List Kd) (g : Nat) (s : Sh) (D : Dens ks → Option s.den) : Prop :=
  ∀ (M : Nat → Prop) (w : World) (x : Dens ks) (y : s.den) (vs : List Value), (∀ b, M b → b < w.heap.size) → GW gs w → RVs w M [] σ0 (kvals ks x) vs → D x = some y →
    Calls P f vs.toArray w fun e w' => ∃ v, e = .returned v ∧ Below w.heap.size w w' ∧ RV w' M [] σ0 (.clo g [.fptr s y]) v
def finB (g : Nat) (s : Sh) (v : V) (h : List O) : Option s.den :=
  match v with
  | .clo g' [.ptr 0 0] => bif Nat.beq g g' then (match cvH [] 1 h with | [.cells vs] => decAll [] s vs | _ => none) else none
  | _ => none
section
variable {P : Program} {w w' : World} {M : Nat → Prop} {h : List O} {σ : Nat → Loc}
theorem specB_of {gs : List (Nat × List Value)} {f : Nat} {fn : Func} {c : Code} {ks : List Kd} {g : Nat} {s : Sh} {D : Dens ks → Option s.den} (hf : P.funcs[f]? = some fn) (hb : fn.body = some c) (hm : P.follows .mixedOrders = true) (hlen : ks.length ≤ fn.ntmps)
    (hex : ∀ x y, D x = some y → ∃ C ann, CtxOk P gs fn C ∧ exec C c ann (argS 0 (kvals ks x)) [] (finK C fn.results.toList (finB g s)) = some y) : SpecB P gs f ks g s D := by
  intro M w x y vs hM hgw hv hD
  obtain ⟨C, ann, hC, hx⟩ := hex x y hD
  refine (call_sound hf hb hC.types hC.calls hC.its (hC.gs ▸ hgw.gl) hm hC.n hx (by rw [kvals_length]; exact hlen) (rep_nil w hM) (RVs.less (fun b hb => mutb_nil hb) hv)).mono ?_
  rintro e' w' ⟨v, u, h', σ', rfl, hfin, R, hr⟩
  unfold finB at hfin
  split at hfin
  · rename_i g'
    obtain ⟨hg, hfin2⟩ := cond_some hfin
    clear hfin
    have := Nat.eq_of_beq_eq_true hg
    subst this
    split at hfin2
    · rename_i us eh
      have R0 := cv_rep (fx := []) (base := 1) R
      have hr0 := cv_rv (fx := []) (base := 1) R hr
      have ev : cvV [] 1 h' (.clo g [.ptr 0 0]) = .clo g [.ptr 0 0] := rfl
      rw [eh] at R0 hr0
      rw [ev] at hr0
      simp only [RV, RVs] at hr0
      obtain ⟨ws, rfl, z, zs, hz, ⟨vs', b', hg0, ha, rfl⟩, rfl⟩ := hr0
      have ro := R0.obj 0
      have hg1 : getO [O.cells us] 0 = .cells us := rfl
      rw [hg1] at ro
      obtain ⟨b, ty, cs, hb, hcs, hrs, _⟩ := ro
      rw [hb] at ha
      have hbb := Option.some.inj ha
      subst hbb
      have hown : own [O.cells us] σ' b := ⟨0, by rw [hg1]; trivial, hb⟩
      refine ⟨_, rfl, R.fr.below, ?_⟩
      simp only [RV, RVs]
      refine ⟨ws, rfl, _, _, hz, ⟨b, 0, cs.toList, rfl, (Array.getElem?_eq_some_iff.1 hcs).1, fun hm => ?_, fun j v hj => ?_, ?_⟩, rfl⟩
      · have := hM b hm
        have := (R0.inA b hown).resolve_left id
        omega
      · rw [Nat.zero_add]
        rw [Array.getElem?_toList] at hj
        simp [World.cell?, hcs, hj]
      · exact decAll_sound R0 (hm := []) (fun o => .inl (by simp [getO])) (fun b' hb' => .inl hb') hrs (fun u _ o ver _ ver' e s xs hg => by simp [getO] at hg) hfin2
    · cases hfin2
  · cases hfin
def mkB (f : Nat) (ks : List Kd) (g : Nat) (s : Sh) (D : Dens ks → Option s.den) : Ent :=
  { f := f, run := fun args h => match decL true (setAll (frzL h (cellsOf args)) h) ks args with
    | none => none
    | some x => some { α := s.den, r := D x, v := fun y => .clo g [.fptr s y], h := some fun _ h => setAll (frzL h (cellsOf args)) h } }
theorem clo_any {h' : List O} {σ' : Nat → Loc} {g : Nat} {s : Sh} {y : s.den} {v : Value} (hv : RV w M h σ (.clo g [.fptr s y]) v) : RV w M h' σ' (.clo g [.fptr s y]) v := by
  simp only [RV, RVs] at hv ⊢
  exact hv
theorem entB {gs : List (Nat × List Value)} {f : Nat} {ks : List Kd} {g : Nat} {s : Sh} {D : Dens ks → Option s.den} (hb : HasBody P f) (hS : SpecB P gs f ks g s D) : EntOk P gs (mkB f ks g s D) where
  fn := fun _ _ _ _ => hb
  rd := fun args h hm p y hsub hp hh => by
    simp only [mkB] at hp
    split at hp
    · cases hp
    · cases hp; cases hh
  wr := fun args h p u y hp hu hr w0 A M0 w σ hgl R vs hv => by
    simp only [mkB] at hp
    split at hp
    · cases hp
    · rename_i x hx
      cases hp
      cases hu
      obtain ⟨nf, hv'⟩ := frz_args R hv hx
      refine (hS _ w x y vs (fun b hb => nf.rep.mlt hb) (hgl.now R) hv' hr).mono ?_
      rintro e' w' ⟨v, rfl, gb, hrv⟩
      have nx := Next.grow nf.rep gb
      exact ⟨v, σ, rfl, nf.trans nx R, clo_any hrv⟩
end
end Go.Abs
