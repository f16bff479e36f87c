/- Operations that make or change objects: lists of objects, shutting rows. -/
import Derived.Test.YtdbjfdjpmoackaaDoorAbsOpsR4
namespace Go.Abs
open Go.RowKit

theorem getO_lt {h : List O} {i : Nat} (hne : getO h i ≠ .none) : i < h.length := by
  rcases Nat.lt_or_ge i h.length with hh | hh
  · exact hh
  · exfalso; apply hne; simp [getO, List.getD, List.getElem?_eq_none hh]
theorem getO_set {h : List O} {i : Nat} (hi : i < h.length) (o : O) (j : Nat) : getO (h.set i o) j = if i = j then o else getO h j := by
  unfold getO
  simp only [List.getD_eq_getElem?_getD, List.getElem?_set]
  split
  · rename_i e; subst e; simp
  · rfl
theorem getO_append {h : List O} (o : O) (j : Nat) : getO (h ++ [o]) j = if j = h.length then o else getO h j := by
  unfold getO
  simp only [List.getD_eq_getElem?_getD]
  split
  · rename_i e; subst e; simp
  · rename_i e
    rcases Nat.lt_or_ge j h.length with hh | hh
    · rw [List.getElem?_append_left hh]
    · rw [List.getElem?_append_right hh, List.getElem?_eq_none hh, List.getElem?_eq_none (by simp; omega)]
theorem Rep.ext {w0 : World} {A M0 : Nat → Prop} {w : World} {h h' : List O} {σ : Nat → Loc} (R : Rep w0 A M0 w h σ) (e : ∀ o, getO h' o = getO h o) : Next w0 A M0 w h σ w h' σ := by
  have ho : ∀ b, own h' σ b → own h σ b := fun b ⟨o, h1, h2⟩ => ⟨o, by rw [← e]; exact h1, h2⟩
  have k : Keeps w (mutb M0 h σ) w (mutb M0 h' σ) := ⟨Nat.le_refl _, fun _ _ _ => rfl, fun b _ hm hm' => hm (hm'.imp id (ho b))⟩
  have st : OStep h σ h' σ := fun o => by have := OStep.refl h σ o; rw [e o]; exact this
  exact ⟨⟨R.fr, R.m0, fun b hb => R.inA b (ho b hb), fun o o' b h1 h2 => R.apart o o' b (by rw [← e]; exact h1) (by rw [← e]; exact h2), fun o => by
    rw [e o]; exact (R.obj o).keeps k st fun _ _ _ => rfl⟩, ⟨rfl, rfl, rfl, Nat.le_refl _, fun _ _ _ => rfl⟩, k, st⟩
section
variable {w0 : World} {A M0 : Nat → Prop} {w : World} {h hm : List O} {σ : Nat → Loc}
/-- A row is shut for ever. -/
theorem frz1 (R : Rep w0 A M0 w h σ) {o ver : Nat} {fz : Bool} {e : TypeId} {s : Sh} {xs : List s.den} (ho : getO h o = .row fz ver e s xs) : Next w0 A M0 w h σ w (h.set o (.row true ver e s xs)) σ := by
  have hlt := getO_lt (h := h) (i := o) (by rw [ho]; simp)
  have hg := getO_set hlt (.row true ver e s xs)
  refine Next.upd R o rfl rfl rfl (Nat.le_refl _) (fun o' hne => ⟨by rw [hg, if_neg (fun e => hne e.symm)], rfl⟩) (fun _ _ _ => rfl)
    (fun b hl ha => by rw [hg, if_pos rfl] at hl; cases hl) (by rw [ho]; exact ⟨true, ver, e, s, xs, by rw [hg, if_pos rfl], Nat.le_refl _, fun _ => ⟨rfl, rfl, rfl⟩⟩) (fun k st => ?_)
  rw [hg, if_pos rfl]
  have ro := R.obj o
  rw [ho] at ro
  cases fz with
  | true => exact RO.keeps k st (fun _ _ _ => rfl) ro
  | false =>
    obtain ⟨h1, cs, h2, h3⟩ := ro
    have hnm : ∀ b, (σ o).a = some b → ¬ mutb M0 (h.set o (.row true ver e s xs)) σ b := fun b ha hm' => by
      have hown : own h σ b := ⟨o, by rw [ho]; rfl, ha⟩
      rcases hm' with hm' | ⟨o', hl', ha'⟩
      · obtain ⟨x1, x2⟩ := R.m0 b hm'
        rcases R.inA b hown with h | h
        · exact x2 h
        · omega
      · rw [hg] at hl'
        split at hl'
        · cases hl'
        · rename_i hne
          exact hne (R.apart o o' b (by rw [ho]; rfl) hl' ha ha')
    refine ⟨h1, ?_, fun b ha => ⟨rowV_block h2 ha, hnm b ha⟩⟩
    refine rowV_sl (M := mutb M0 h σ) h2 h3 (fun b hb => ?_) hnm
    rcases hb with hb | ⟨o', hl', ha'⟩
    · exact .inl hb
    · rw [hg] at hl'
      split at hl'
      · cases hl'
      · exact .inr ⟨o', hl', ha'⟩
/-- One list of objects is the other, but for what is hidden, and rows that have been shut since. -/
def SubF (hm h : List O) : Prop := ∀ o, getO hm o = .none ∨ getO hm o = getO h o ∨ ∃ fz ver e s xs, getO hm o = .row fz ver e s xs ∧ getO h o = .row true ver e s xs
theorem Sub.f (s : Sub hm h) : SubF hm h := fun o => (s o).imp id .inl
theorem frz_next (hs : SubF hm h) (R : Rep w0 A M0 w h σ) (vs : List V) : Next w0 A M0 w h σ w (setAll (frzL hm vs) h) σ := by
  induction vs generalizing h with
  | nil => exact Next.refl R
  | cons v vs ih =>
    cases v with
    | slc o ver =>
      simp only [frzL]
      split
      · rename_i fz ver' e s xs eo
        cases hv : Nat.beq ver ver' with
        | false => exact ih hs R
        | true =>
          simp only [cond_true, setAll]
          have eh : ∃ fz', getO h o = .row fz' ver' e s xs := by
            rcases hs o with h' | h' | ⟨fz1, ver1, e1, s1, xs1, h1, h2⟩
            · rw [eo] at h'; cases h'
            · exact ⟨fz, by rw [← h', eo]⟩
            · rw [eo] at h1; cases h1; exact ⟨true, h2⟩
          obtain ⟨fz', eh⟩ := eh
          have n1 := frz1 R eh
          have hlt := getO_lt (h := h) (i := o) (by rw [eh]; simp)
          refine n1.trans (ih (fun o' => ?_) n1.rep) R
          rw [getO_set hlt]
          split
          · rename_i e'; subst e'; exact .inr (.inr ⟨fz, ver', e, s, xs, eo, rfl⟩)
          · exact hs o'
      · exact ih hs R
    | _ => exact ih hs R
theorem setAll_length (ss : List (Nat × O)) (h : List O) : (setAll ss h).length = h.length := by
  induction ss generalizing h with
  | nil => rfl
  | cons p ss ih => obtain ⟨i, o⟩ := p; simp [setAll, ih]
/-- What becomes of a place. -/
theorem setAll_get (ss : List (Nat × O)) {h : List O} (j : Nat) : getO (setAll ss h) j = getO h j ∨ ∃ o, (j, o) ∈ ss ∧ getO (setAll ss h) j = o := by
  induction ss generalizing h with
  | nil => exact .inl rfl
  | cons p ss ih =>
    obtain ⟨i, o⟩ := p
    simp only [setAll]
    rcases ih (h := h.set i o) with h' | ⟨o', h1, h2⟩
    · by_cases e : i = j
      · subst e
        by_cases hi : i < h.length
        · rw [getO_set hi, if_pos rfl] at h'
          exact .inr ⟨o, List.mem_cons_self .., h'⟩
        · rw [List.set_eq_of_length_le (by omega)] at h' ⊢
          exact .inl h'
      · left
        rw [h']
        unfold getO
        simp [List.getD_eq_getElem?_getD, e]
    · exact .inr ⟨o', List.mem_cons_of_mem _ h1, h2⟩
theorem frzL_mem {vs : List V} {i : Nat} {o : O} (hmem : (i, o) ∈ frzL hm vs) : ∃ fz ver e s xs, getO hm i = .row fz ver e s xs ∧ o = .row true ver e s xs := by
  induction vs with
  | nil => cases hmem
  | cons v vs ih =>
    cases v with
    | slc o' ver =>
      simp only [frzL] at hmem
      split at hmem
      · rename_i fz ver' e s xs eo
        cases hv : Nat.beq ver ver' with
        | false => rw [hv] at hmem; exact ih hmem
        | true =>
          rw [hv] at hmem
          simp only [cond_true, List.mem_cons, Prod.mk.injEq] at hmem
          rcases hmem with ⟨rfl, rfl⟩ | hmem
          · exact ⟨fz, ver', e, s, xs, eo, rfl⟩
          · exact ih hmem
      · exact ih hmem
    | _ => exact ih hmem
/-- Behind the shutting no row is open that the values refer to. -/
theorem frz_ref {vs : List V} {hx : List O} (hlen : ∀ i, getO hm i ≠ .none → i < hx.length) {o ver : Nat} (hv : V.slc o ver ∈ vs) {ver' : Nat} {e : TypeId} {s : Sh} {xs : List s.den}
    (hg : getO (setAll (frzL hm vs) hx) o = .row false ver' e s xs) (hh : ∃ fz ver1 e1 s1 xs1, getO hm o = .row fz ver1 e1 s1 xs1 ∧ ver = ver1) : False := by
  -- the list of the shut holds o
  obtain ⟨fz, ver1, e1, s1, xs1, h1, h2⟩ := hh
  subst h2
  have key : ∀ (vs : List V) (hx : List O), o < hx.length → V.slc o ver ∈ vs → ∃ ver e s xs, getO (setAll (frzL hm vs) hx) o = .row true ver e s xs := by
    intro vs
    induction vs with
    | nil => intro hx _ hv; cases hv
    | cons v vs ih =>
      intro hx hlt hv
      by_cases hin : V.slc o ver ∈ vs
      · cases v with
        | slc o' ver' =>
          simp only [frzL]
          split
          · rename_i fz' ver'' e' s' xs' eo
            cases hvv : Nat.beq ver' ver'' with
            | false => exact ih hx hlt hin
            | true => simp only [cond_true, setAll]; exact ih _ (by simpa using hlt) hin
          · exact ih hx hlt hin
        | _ => exact ih hx hlt hin
      · have hveq : v = .slc o ver := by
          rcases List.mem_cons.1 hv with h | h
          · exact h.symm
          · exact absurd h hin
        subst hveq
        simp only [frzL, h1]
        simp only [Nat.beq_refl, cond_true, setAll]
        rcases setAll_get (frzL hm vs) (h := hx.set o (.row true ver e1 s1 xs1)) o with h' | ⟨o', h3, h4⟩
        · rw [h', getO_set hlt, if_pos rfl]; exact ⟨_, _, _, _, rfl⟩
        · obtain ⟨_, ver2, e2, s2, xs2, _, h6⟩ := frzL_mem h3
          rw [h4, h6]; exact ⟨_, _, _, _, rfl⟩
  obtain ⟨_, _, _, _, h5⟩ := key vs hx (hlen o (by rw [h1]; simp)) hv
  rw [h5] at hg
  cases hg
theorem frz_sub (hs : Sub hm h) (hlen : ∀ i, getO hm i ≠ .none → i < h.length) (vs : List V) : Sub (setAll (frzL hm vs) hm) (setAll (frzL hm vs) h) := by
  have gen : ∀ (ss : List (Nat × O)) (a b : List O), (∀ p ∈ ss, p.1 < a.length ∧ p.1 < b.length) → Sub a b → Sub (setAll ss a) (setAll ss b) := by
    intro ss
    induction ss with
    | nil => intro a b _ h; exact h
    | cons p ss ih =>
      intro a b hlt hab
      obtain ⟨i, o⟩ := p
      simp only [setAll]
      obtain ⟨l1, l2⟩ := hlt _ (List.mem_cons_self ..)
      refine ih _ _ (fun p hp => by have := hlt p (List.mem_cons_of_mem _ hp); simpa using this) (fun j => ?_)
      rw [getO_set l1, getO_set l2]
      split
      · exact .inr rfl
      · exact hab j
  refine gen _ _ _ (fun p hp => ?_) hs
  obtain ⟨i, o⟩ := p
  obtain ⟨fz, ver, e, s, xs, h1, _⟩ := frzL_mem hp
  have : getO hm i ≠ .none := by rw [h1]; simp
  exact ⟨getO_lt this, hlen i this⟩
end
end Go.Abs
