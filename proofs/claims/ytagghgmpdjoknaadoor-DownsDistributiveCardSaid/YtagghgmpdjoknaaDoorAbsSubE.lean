/- Functions that are handed objects: their contracts, and their place in a table. -/
import Derived.Test.YtagghgmpdjoknaaDoorAbsSub
import Derived.Test.YtagghgmpdjoknaaDoorAbsCut
namespace Go.Abs
open Go.RowKit
mutual
def renP (q : Rn) : VP → VP
  | .slc o ver => .slc (q.m o) (ver + q.d o)
  | .ptr o off => .ptr (q.m o) off
  | .rptr o ver off => .rptr (q.m o) (ver + q.d o) off
  | .clo f ps => .clo f (renPs q ps)
  | .agg ps => .agg (renPs q ps)
  | .tup ps => .tup (renPs q ps)
  | p => p
def renPs (q : Rn) : List VP → List VP
  | [] => []
  | p :: r => renP q p :: renPs q r
end
def renOP (q : Rn) (o : Nat) : OP → OP
  | .none => .none
  | .cells ps => .cells (renPs q ps)
  | .row fz ver e s => .row fz (ver + q.d o) e s
mutual
theorem mkV_ren (q : Rn) : (p : VP) → (ds : List Dy) → mkV (renP q p) ds = (renV q (mkV p ds).1, (mkV p ds).2)
  | .bad, _ => rfl
  | .undef, _ => rfl
  | .nil, _ => rfl
  | .int k, ds => by cases ds with | nil => rfl | cons d _ => cases d <;> rfl
  | .bool, ds => by cases ds with | nil => rfl | cons d _ => cases d <;> rfl
  | .sl s, ds => by cases ds with | nil => rfl | cons d _ => cases d <;> rfl
  | .fptr s, ds => by cases ds with | nil => rfl | cons d _ => cases d <;> rfl
  | .slc _ _, _ => rfl
  | .ptr _ _, _ => rfl
  | .rptr _ _ _, ds => by cases ds with | nil => rfl | cons d _ => cases d <;> rfl
  | .clo f ps, ds => by simp only [renP, mkV, mkVs_ren q ps ds, renV]
  | .agg ps, ds => by simp only [renP, mkV, mkVs_ren q ps ds, renV]
  | .tup ps, ds => by simp only [renP, mkV, mkVs_ren q ps ds, renV]
theorem mkVs_ren (q : Rn) : (ps : List VP) → (ds : List Dy) → mkVs (renPs q ps) ds = (renVs q (mkVs ps ds).1, (mkVs ps ds).2)
  | [], _ => rfl
  | p :: ps, ds => by simp only [renPs, mkVs, mkV_ren q p ds, mkVs_ren q ps, renVs]
end
theorem mkO_ren (q : Rn) (o : Nat) (p : OP) (ds : List Dy) : mkO (renOP q o p) ds = (renO q o (mkO p ds).1, (mkO p ds).2) := by
  cases p with
  | none => rfl
  | cells ps => simp only [renOP, mkO, mkVs_ren q ps ds, renO]
  | row fz ver e s => cases ds with | nil => rfl | cons d _ => cases d <;> rfl
/-! ### Arguments and results -/
/-- By value, or in a form. -/
inductive RP where
  | dat (b : Bool) (s : Sh)
  | form (p : VP)
def renRP (q : Rn) : RP → RP
  | .dat b s => .dat b s
  | .form p => .form (renP q p)
def lfRs : List RP → List Lf
  | [] => []
  | .dat _ s :: r => .dat s :: lfRs r
  | .form p :: r => lfV p ++ lfRs r
def rdR (h : List O) : RP → V → Option (List Dy)
  | .dat b s, v => match decA h b s v with | some x => some [.dat s x] | none => none
  | .form p, v => rdV p v
def rdRs (h : List O) : List RP → List V → Option (List Dy)
  | [], vs => match vs with | [] => some [] | _ :: _ => none
  | p :: ps, vs =>
    match vs with
    | [] => none
    | v :: vs =>
      match rdR h p v with
      | none => none
      | some xs =>
        match rdRs h ps vs with
        | none => none
        | some ys => some (xs ++ ys)
def mkR : RP → List Dy → V × List Dy
  | .dat b _, ds => match ds with | .dat s x :: r => (cval b s x, r) | _ => (.bad, [])
  | .form p, ds => mkV p ds
def mkRs : List RP → List Dy → List V × List Dy
  | [], ds => ([], ds)
  | p :: ps, ds => match mkR p ds with | (v, r) => (match mkRs ps r with | (vs, r) => (v :: vs, r))
def datA : List RP → List V → List V
  | .dat _ _ :: ps, v :: vs => v :: datA ps vs
  | .form _ :: ps, _ :: vs => datA ps vs
  | _, _ => []
structure Sig where
  as : List RP
  hp : List OP
  rs : List RP
  hq : List OP
abbrev Sig.lx (s : Sig) : List Lf := lfRs s.as ++ lfH s.hp
abbrev Sig.ly (s : Sig) : List Lf := lfRs s.rs ++ lfH s.hq
abbrev Sig.X (s : Sig) : Type := Tup s.lx
abbrev Sig.Y (s : Sig) : Type := Tup s.ly
def Sig.ins (s : Sig) (x : s.X) : List V × List O := match mkRs s.as (encT s.lx x) with | (vs, r) => (vs, (mkH s.hp r).1)
def Sig.outs (s : Sig) (y : s.Y) : V × List O := match mkRs s.rs (encT s.ly y) with | (vs, r) => (retV vs, (mkH s.hq r).1)
/-- **A function that is handed objects**: where D answers, they are what D says behind the call. -/
def SpecH (P : Program) (gs : List (Nat × List Value)) (f : Nat) (s : Sig) (D : s.X → Option s.Y) : Prop :=
  ∀ (w : World) (A M0 : Nat → Prop) (σ : Nat → Loc) (x : s.X) (y : s.Y) (vs : List Value), GW gs w → (∀ p ∈ gs, ¬ A p.1) → Rep w A M0 w (s.ins x).2 σ → RVs w (mutb M0 (s.ins x).2 σ) (s.ins x).2 σ (s.ins x).1 vs → D x = some y →
    Calls P f vs.toArray w fun e w' => ∃ v σ', e = .returned v ∧ Next w A M0 w (s.ins x).2 σ w' (s.outs y).2 σ' ∧ RV w' (mutb M0 (s.outs y).2 σ') (s.outs y).2 σ' (s.outs y).1 v
/-! ### Out of a body's evaluation -/
def bmp (fx : List Nat) (k : Nat) : Rn := { m := fun o => o, d := fun o => bif memN fx o && Nat.blt o k then 1 else 0 }
def renL (q : Rn) : Nat → List O → List O
  | _, [] => []
  | i, o :: r => renO q i o :: renL q (i + 1) r
def tupV (n : Nat) (v : V) : Option (List V) :=
  match n with
  | 1 => some [v]
  | _ => match v with | .tup vs => some vs | _ => none
def finH (fx : List Nat) (s : Sig) (v : V) (h : List O) : Option s.Y :=
  match tupV s.rs.length (renV (bmp fx s.hp.length) (cvV fx s.hq.length h v)) with
  | none => none
  | some vs =>
    match rdRs [] s.rs vs with
    | none => none
    | some xs =>
      match rdH s.hq (renL (bmp fx s.hp.length) 0 (cvH fx s.hq.length h)) with
      | none => none
      | some ys => decT s.ly (xs ++ ys)
/-- The objects at the beginning bear the version 0, and stay what they are. -/
def sigOk : List OP → List OP → Bool
  | [], _ => true
  | p :: ps, qs =>
    match qs with
    | [] => false
    | q :: qs => (match p with
      | .none => true
      | .cells _ => (match q with | .cells _ => true | _ => false)
      | .row _ ver _ _ => Nat.beq ver 0 && (match q with | .row _ _ _ _ => true | _ => false)) && sigOk ps qs
section
variable {P : Program} {C : Ctx} {w0 : World} {A M0 : Nat → Prop} {w w' : World} {h h' H : List O} {σ σ' τ1 : Nat → Loc} {q : Rn}
theorem getO_renL (q : Rn) : (h : List O) → (i j : Nat) → getO (renL q i h) j = renO q (i + j) (getO h j)
  | [], i, j => rfl
  | o :: r, i, 0 => rfl
  | o :: r, i, j + 1 => by
    have := getO_renL q r (i + 1) j
    rw [show i + 1 + j = i + (j + 1) by omega] at this
    exact this
theorem length_renL (q : Rn) : (h : List O) → (i : Nat) → (renL q i h).length = h.length
  | [], _ => rfl
  | o :: r, i => by simp only [renL, List.length_cons, length_renL q r]
theorem mkH_length : (ps : List OP) → (ds : List Dy) → (mkH ps ds).1.length = ps.length
  | [], _ => rfl
  | p :: ps, ds => by simp only [mkH, List.length_cons, mkH_length ps]
theorem bmp_rep {fx : List Nat} {k : Nat} (R : Rep w0 A M0 w h σ) : Rep w0 A M0 w (renL (bmp fx k) 0 h) σ ∧ mutb M0 (renL (bmp fx k) 0 h) σ = mutb M0 h σ ∧
    ∀ {v : V} {x : Value}, RV w (mutb M0 h σ) h σ v x → RV w (mutb M0 (renL (bmp fx k) 0 h) σ) (renL (bmp fx k) 0 h) σ (renV (bmp fx k) v) x := by
  have hg : ∀ o, getO (renL (bmp fx k) 0 h) ((bmp fx k).m o) = renO (bmp fx k) o (getO h o) := fun o => by
    have := getO_renL (bmp fx k) h 0 o
    rwa [Nat.zero_add] at this
  have hg' : ∀ o, getO (renL (bmp fx k) 0 h) o = renO (bmp fx k) o (getO h o) := hg
  have ho : ∀ b, own (renL (bmp fx k) 0 h) σ b ↔ own h σ b := fun b => by
    constructor
    · rintro ⟨o, h1, h2⟩; rw [hg'] at h1; exact ⟨o, live_ren.1 h1, h2⟩
    · rintro ⟨o, h1, h2⟩; exact ⟨o, by rw [hg']; exact live_ren.2 h1, h2⟩
  have hm : mutb M0 (renL (bmp fx k) 0 h) σ = mutb M0 h σ := by
    funext b
    exact propext ⟨fun h => h.imp id (ho b).1, fun h => h.imp id (ho b).2⟩
  refine ⟨⟨R.fr, R.m0, fun b hb => R.inA b ((ho b).1 hb), fun o o' b h1 h2 => R.apart o o' b (by rw [hg'] at h1; exact live_ren.1 h1) (by rw [hg'] at h2; exact live_ren.1 h2), fun o => ?_⟩, hm, fun hv => ?_⟩
  · rw [hm, hg']
    exact ren_ro (fun o _ => hg o) (fun _ _ => rfl) (R.obj o)
  · rw [hm]; exact ren_rv (fun o _ => hg o) (fun _ _ => rfl) hv
theorem rdRs_rv {M : Nat → Prop} (R : Rep w0 A M0 w h σ) : (ps : List RP) → {vs : List V} → {xs : List Value} → {ds : List Dy} → (r : List Dy) → RVs w (mutb M0 h σ) h σ vs xs → rdRs [] ps vs = some ds → (∀ b, M b → mutb M0 h σ b) → M = mutb M0 h σ →
    RVs w M h σ (mkRs ps (ds ++ r)).1 xs ∧ (mkRs ps (ds ++ r)).2 = r ∧ (mkRs ps (ds ++ r)).1.length = ps.length
  | [], vs, xs, ds, r, hv, hd, _, hM => by
    cases vs with
    | nil => simp only [rdRs, Option.some.injEq] at hd; subst hd; subst hM; exact ⟨hv, rfl, rfl⟩
    | cons _ _ => simp [rdRs] at hd
  | p :: ps, vs, xs, ds, r, hv, hd, hs, hM => by
    cases vs with
    | nil => simp [rdRs] at hd
    | cons v vs =>
      simp only [rdRs] at hd
      split at hd
      · cases hd
      · rename_i d1 h1
        split at hd
        · cases hd
        · rename_i d2 h2
          cases hd
          simp only [RVs] at hv
          obtain ⟨x, xs, rfl, g1, g2⟩ := hv
          obtain ⟨i1, i2, i3⟩ := rdRs_rv R ps r g2 h2 hs hM
          cases p with
          | dat b s =>
            simp only [rdR] at h1
            split at h1
            · rename_i y hy
              cases h1
              have := decA_sound (h' := h) (σ' := σ) (Mt := M) R (hm := []) (fun o => .inl (by simp [getO])) hs g1 (fun u _ => refOk_nil) hy
              simp only [List.cons_append, List.nil_append, mkRs, mkR, RVs, List.length_cons]
              exact ⟨⟨x, xs, rfl, this, i1⟩, i2, by rw [i3]⟩
            · cases h1
          | form p =>
            simp only [rdR] at h1
            simp only [mkRs, mkR, List.append_assoc, rdV_mk p h1, RVs, List.length_cons]
            refine ⟨⟨x, xs, rfl, ?_, i1⟩, i2, by rw [i3]⟩
            rw [hM]; exact g1
theorem retV_of {M : Nat → Prop} {n : Nat} {v : V} {vs us : List V} {x : Value} (ht : tupV n v = some vs) (hv : RV w M h σ v x) (hu : ∀ xs, RVs w M h σ vs xs → RVs w M h σ us xs) (hl : us.length = n) : RV w M h σ (retV us) x := by
  unfold tupV at ht
  split at ht
  · cases ht
    obtain ⟨u, rfl⟩ : ∃ u, us = [u] := by
      cases us with
      | nil => cases hl
      | cons u r => cases r with | nil => exact ⟨u, rfl⟩ | cons _ _ => simp at hl
    have := hu [x] ⟨x, [], rfl, hv, rfl⟩
    simp only [RVs] at this
    obtain ⟨y, ys, e, h1, h2⟩ := this
    cases e
    exact h1
  · rename_i hn
    split at ht
    · rename_i ws
      cases ht
      simp only [RV] at hv
      obtain ⟨cs, h1, h2⟩ := hv
      have h3 := hu _ h2
      have : retV us = .tup us := by
        cases us with
        | nil => rfl
        | cons u r => cases r with | nil => exact absurd hl.symm (by simpa using hn) | cons _ _ => rfl
      rw [this]
      simp only [RV]
      exact ⟨cs, h1, h3⟩
    · cases ht
end
end Go.Abs
