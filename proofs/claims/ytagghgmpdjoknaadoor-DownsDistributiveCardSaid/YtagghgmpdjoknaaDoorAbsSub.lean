/- Calls that hand on objects of the caller's: the callee's numbers for them, and the caller's. -/
import Derived.Test.YtagghgmpdjoknaaDoorAbsFrag
namespace Go.Abs
open Go.RowKit
/-- Where an object of the callee's stands with the caller, and by how much its version is ahead there. -/
structure Rn where
  m : Nat → Nat
  d : Nat → Nat
mutual
def renV (q : Rn) : V → V
  | .slc o ver => .slc (q.m o) (ver + q.d o)
  | .ptr o off => .ptr (q.m o) off
  | .rptr o ver i off => .rptr (q.m o) (ver + q.d o) i off
  | .clo f vs => .clo f (renVs q vs)
  | .agg vs => .agg (renVs q vs)
  | .tup vs => .tup (renVs q vs)
  | v => v
def renVs (q : Rn) : List V → List V
  | [] => []
  | v :: r => renV q v :: renVs q r
end
def renO (q : Rn) (o : Nat) : O → O
  | .none => .none
  | .cells vs => .cells (renVs q vs)
  | .row fz ver e s xs => .row fz (ver + q.d o) e s xs
section
variable {w : World} {M : Nat → Prop} {h H : List O} {σ τ' : Nat → Loc} {q : Rn}
mutual
theorem ren_rv (hg : ∀ o, getO h o ≠ .none → getO H (q.m o) = renO q o (getO h o)) (hs : ∀ o, getO h o ≠ .none → τ' (q.m o) = σ o) : {v : V} → {x : Value} → RV w M h σ v x → RV w M H τ' (renV q v) x
  | .bad, _, _ => by simp only [renV, RV]
  | .undef, _, hv => by simp only [renV, RV] at hv ⊢; exact hv
  | .int _ _, _, hv => by simp only [renV, RV] at hv ⊢; exact hv
  | .bool _, _, hv => by simp only [renV, RV] at hv ⊢; exact hv
  | .nil, _, hv => by simp only [renV, RV] at hv ⊢; exact hv
  | .sl _ _, _, hv => by simp only [renV, RV] at hv ⊢; exact hv
  | .fptr _ _, _, hv => by simp only [renV, RV] at hv ⊢; exact hv
  | .slc o ver, x, hv => by
    simp only [renV, RV] at hv ⊢
    obtain ⟨fz, ver', e, s, xs, eo, h1, h2, h3⟩ := hv
    have hn : getO h o ≠ .none := by rw [eo]; simp
    refine ⟨fz, ver' + q.d o, e, s, xs, by rw [hg o hn, eo]; rfl, by omega, h2, fun e => ?_⟩
    rw [hs o hn]; exact h3 (by omega)
  | .ptr o off, x, hv => by
    simp only [renV, RV] at hv ⊢
    obtain ⟨vs, b, eo, h1, h2⟩ := hv
    have hn : getO h o ≠ .none := by rw [eo]; simp
    exact ⟨renVs q vs, b, by rw [hg o hn, eo]; rfl, by rw [hs o hn]; exact h1, h2⟩
  | .rptr o ver i off, x, hv => by
    simp only [renV, RV] at hv ⊢
    obtain ⟨fz, ver', e, s, xs, eo, h1, h2, h3⟩ := hv
    have hn : getO h o ≠ .none := by rw [eo]; simp
    refine ⟨fz, ver' + q.d o, e, s, xs, by rw [hg o hn, eo]; rfl, by omega, h2, fun e => ?_⟩
    rw [hs o hn]; exact h3 (by omega)
  | .clo f vs, x, hv => by
    simp only [renV, RV] at hv ⊢
    obtain ⟨us, h1, h2⟩ := hv
    exact ⟨us, h1, ren_rvs hg hs h2⟩
  | .agg vs, x, hv => by
    simp only [renV, RV] at hv ⊢
    obtain ⟨cs, h1, h2, h3⟩ := hv
    exact ⟨cs, h1, h2, ren_rvs hg hs h3⟩
  | .tup vs, x, hv => by
    simp only [renV, RV] at hv ⊢
    obtain ⟨cs, h1, h2⟩ := hv
    exact ⟨cs, h1, ren_rvs hg hs h2⟩
theorem ren_rvs (hg : ∀ o, getO h o ≠ .none → getO H (q.m o) = renO q o (getO h o)) (hs : ∀ o, getO h o ≠ .none → τ' (q.m o) = σ o) : {vs : List V} → {xs : List Value} → RVs w M h σ vs xs → RVs w M H τ' (renVs q vs) xs
  | [], _, hv => by simp only [renVs, RVs] at hv ⊢; exact hv
  | v :: vs, _, hv => by
    simp only [renVs, RVs] at hv ⊢
    obtain ⟨x, xs, e, h1, h2⟩ := hv
    exact ⟨x, xs, e, ren_rv hg hs h1, ren_rvs hg hs h2⟩
end
mutual
theorem un_rv (hg : ∀ o, getO H (q.m o) = renO q o (getO h o)) (hs : ∀ o, getO h o ≠ .none → τ' (q.m o) = σ o) : {v : V} → {x : Value} → RV w M H τ' (renV q v) x → RV w M h σ v x
  | .bad, _, _ => by simp only [RV]
  | .undef, _, hv => by simp only [renV, RV] at hv ⊢; exact hv
  | .int _ _, _, hv => by simp only [renV, RV] at hv ⊢; exact hv
  | .bool _, _, hv => by simp only [renV, RV] at hv ⊢; exact hv
  | .nil, _, hv => by simp only [renV, RV] at hv ⊢; exact hv
  | .sl _ _, _, hv => by simp only [renV, RV] at hv ⊢; exact hv
  | .fptr _ _, _, hv => by simp only [renV, RV] at hv ⊢; exact hv
  | .slc o ver, x, hv => by
    simp only [renV, RV] at hv ⊢
    obtain ⟨fz, ver', e, s, xs, eo, h1, h2, h3⟩ := hv
    rw [hg o] at eo
    cases e0 : getO h o with
    | none => rw [e0] at eo; cases eo
    | cells vs => rw [e0] at eo; cases eo
    | row fz0 ver0 ee s0 xs0 =>
      rw [e0] at eo
      cases eo
      refine ⟨_, _, _, _, _, rfl, by omega, h2, fun e => ?_⟩
      rw [← hs o (by rw [e0]; simp)]; exact h3 (by omega)
  | .ptr o off, x, hv => by
    simp only [renV, RV] at hv ⊢
    obtain ⟨vs, b, eo, h1, h2⟩ := hv
    rw [hg o] at eo
    cases e0 : getO h o with
    | none => rw [e0] at eo; cases eo
    | cells vs => exact ⟨vs, b, rfl, by rw [← hs o (by rw [e0]; simp)]; exact h1, h2⟩
    | row fz0 ver0 ee s0 xs0 => rw [e0] at eo; cases eo
  | .rptr o ver i off, x, hv => by
    simp only [renV, RV] at hv ⊢
    obtain ⟨fz, ver', e, s, xs, eo, h1, h2, h3⟩ := hv
    rw [hg o] at eo
    cases e0 : getO h o with
    | none => rw [e0] at eo; cases eo
    | cells vs => rw [e0] at eo; cases eo
    | row fz0 ver0 ee s0 xs0 =>
      rw [e0] at eo
      cases eo
      refine ⟨_, _, _, _, _, rfl, by omega, h2, fun e => ?_⟩
      rw [← hs o (by rw [e0]; simp)]; exact h3 (by omega)
  | .clo f vs, x, hv => by
    simp only [renV, RV] at hv ⊢
    obtain ⟨us, h1, h2⟩ := hv
    exact ⟨us, h1, un_rvs hg hs h2⟩
  | .agg vs, x, hv => by
    simp only [renV, RV] at hv ⊢
    obtain ⟨cs, h1, h2, h3⟩ := hv
    exact ⟨cs, h1, h2, un_rvs hg hs h3⟩
  | .tup vs, x, hv => by
    simp only [renV, RV] at hv ⊢
    obtain ⟨cs, h1, h2⟩ := hv
    exact ⟨cs, h1, un_rvs hg hs h2⟩
theorem un_rvs (hg : ∀ o, getO H (q.m o) = renO q o (getO h o)) (hs : ∀ o, getO h o ≠ .none → τ' (q.m o) = σ o) : {vs : List V} → {xs : List Value} → RVs w M H τ' (renVs q vs) xs → RVs w M h σ vs xs
  | [], _, hv => by simp only [renVs, RVs] at hv ⊢; exact hv
  | v :: vs, _, hv => by
    simp only [renVs, RVs] at hv ⊢
    obtain ⟨x, xs, e, h1, h2⟩ := hv
    exact ⟨x, xs, e, un_rv hg hs h1, un_rvs hg hs h2⟩
end
theorem ren_ro (hg : ∀ o, getO h o ≠ .none → getO H (q.m o) = renO q o (getO h o)) (hs : ∀ o, getO h o ≠ .none → τ' (q.m o) = σ o) {l : Loc} {i : Nat} {o : O} (r : RO w M h σ l o) : RO w M H τ' l (renO q i o) := by
  cases o with
  | none => trivial
  | cells vs =>
    obtain ⟨b, e, cs, h1, h2, h3, h4⟩ := r
    exact ⟨b, e, cs, h1, h2, ren_rvs hg hs h3, h4⟩
  | row fz ver e s xs => cases fz <;> exact r
theorem un_ro (hg : ∀ o, getO H (q.m o) = renO q o (getO h o)) (hs : ∀ o, getO h o ≠ .none → τ' (q.m o) = σ o) {l : Loc} {i : Nat} {o : O} (r : RO w M H τ' l (renO q i o)) : RO w M h σ l o := by
  cases o with
  | none => trivial
  | cells vs =>
    obtain ⟨b, e, cs, h1, h2, h3, h4⟩ := r
    exact ⟨b, e, cs, h1, h2, un_rvs hg hs h3, h4⟩
  | row fz ver e s xs => cases fz <;> exact r
theorem live_ren {i : Nat} {o : O} : live (renO q i o) ↔ live o := by cases o <;> exact Iff.rfl
theorem ren_none {i : Nat} {o : O} : renO q i o = .none ↔ o = .none := by cases o <;> simp [renO]
end
/-! ### A part of the objects, by itself -/
/-- The callee's objects stand among the caller's. -/
structure SubH (q : Rn) (k : Nat) (h H : List O) : Prop where
  len : h.length = k
  get : ∀ o, getO H (q.m o) = renO q o (getO h o)
  inj : ∀ o o', o < k → o' < k → q.m o = q.m o' → o = o'
section
variable {w0 : World} {A M0 : Nat → Prop} {w w' : World} {h h' H H' : List O} {σ' τ1 τ2 : Nat → Loc} {q : Rn} {k : Nat}
theorem SubH.offs (S : SubH q k h H) {o : Nat} (ho : ¬ o < k) : getO h o = .none := by
  unfold getO
  rw [List.getD_eq_getElem?_getD, List.getElem?_eq_none (by rw [S.len]; omega)]
  rfl
theorem SubH.lt (S : SubH q k h H) {o : Nat} (ho : getO h o ≠ .none) : o < k := Classical.byContradiction fun hn => ho (S.offs hn)
theorem SubH.owns (S : SubH q k h H) {b : Nat} (ho : own h (fun o => τ1 (q.m o)) b) : own H τ1 b := by
  obtain ⟨o, h1, h2⟩ := ho
  exact ⟨q.m o, by rw [S.get]; exact live_ren.2 h1, h2⟩
def restM (M0 : Nat → Prop) (h H : List O) (σ τ1 : Nat → Loc) (b : Nat) : Prop := mutb M0 H τ1 b ∧ ¬ own h σ b
theorem SubH.mutbs (S : SubH q k h H) : mutb (restM M0 h H (fun o => τ1 (q.m o)) τ1) h (fun o => τ1 (q.m o)) = mutb M0 H τ1 := by
  classical
  funext b
  refine propext ⟨?_, fun hb => ?_⟩
  · rintro (h | h)
    · exact h.1
    · exact .inr (S.owns h)
  · by_cases ho : own h (fun o => τ1 (q.m o)) b
    · exact .inr ho
    · exact .inl ⟨hb, ho⟩
theorem SubH.rep (S : SubH q k h H) (R : Rep w0 A M0 w H τ1) : Rep w (own h fun o => τ1 (q.m o)) (restM M0 h H (fun o => τ1 (q.m o)) τ1) w h (fun o => τ1 (q.m o)) where
  fr := ⟨rfl, rfl, rfl, Nat.le_refl _, fun _ _ _ => rfl⟩
  m0 := fun b hb => ⟨R.mlt hb.1, hb.2⟩
  inA := fun b hb => .inl hb
  apart := fun o o' b h1 h2 h3 h4 => S.inj o o' (S.lt (live_ne h1)) (S.lt (live_ne h2)) (R.apart _ _ b (by rw [S.get]; exact live_ren.2 h1) (by rw [S.get]; exact live_ren.2 h2) h3 h4)
  obj := fun o => by
    rw [S.mutbs]
    have := R.obj (q.m o)
    rw [S.get] at this
    exact un_ro S.get (fun _ _ => rfl) this
/-- The caller's objects behind the call. -/
structure BackH (q q' : Rn) (k : Nat) (h' H H' : List O) : Prop where
  get : ∀ o, o < h'.length → getO H' (q'.m o) = renO q' o (getO h' o)
  rest : ∀ j, (∀ o, o < h'.length → q'.m o ≠ j) → getO H' j = getO H j
  inj : ∀ o o', o < h'.length → o' < h'.length → q'.m o = q'.m o' → o = o'
  old : ∀ o, o < k → q'.m o = q.m o ∧ q'.d o = q.d o
  new : ∀ o, k ≤ o → o < h'.length → getO H (q'.m o) = .none
  len : k ≤ h'.length
open Classical in
noncomputable def backσ (q' : Rn) (n : Nat) (σ' τ1 : Nat → Loc) (j : Nat) : Loc := if hx : ∃ o, o < n ∧ q'.m o = j then σ' (Classical.choose hx) else τ1 j
theorem back_at (hinj : ∀ o o', o < h'.length → o' < h'.length → q.m o = q.m o' → o = o') {o : Nat} (ho : o < h'.length) : backσ q h'.length σ' τ1 (q.m o) = σ' o := by
  unfold backσ
  have hx : ∃ o', o' < h'.length ∧ q.m o' = q.m o := ⟨o, ho, rfl⟩
  rw [dif_pos hx]
  have := Classical.choose_spec hx
  rw [hinj _ _ this.1 ho this.2]
theorem back_rest {n j : Nat} (hj : ∀ o, o < n → q.m o ≠ j) : backσ q n σ' τ1 j = τ1 j := by
  unfold backσ
  rw [dif_neg]
  rintro ⟨o, h1, h2⟩
  exact hj o h1 h2
variable {q' : Rn}
theorem SubH.back (S : SubH q k h H) (B : BackH q q' k h' H H') (R : Rep w0 A M0 w H τ1)
    (nx : Next w (own h fun o => τ1 (q.m o)) (restM M0 h H (fun o => τ1 (q.m o)) τ1) w h (fun o => τ1 (q.m o)) w' h' σ') :
    Next w0 A M0 w H τ1 w' H' (backσ q' h'.length σ' τ1) ∧
      ∀ {v : V} {x : Value}, RV w' (mutb (restM M0 h H (fun o => τ1 (q.m o)) τ1) h' σ') h' σ' v x → RV w' (mutb M0 H' (backσ q' h'.length σ' τ1)) H' (backσ q' h'.length σ' τ1) (renV q' v) x := by
  classical
  have hlt : ∀ o, getO h' o ≠ .none → o < h'.length := fun o ho => getO_lt ho
  have hg : ∀ o, getO h' o ≠ .none → getO H' (q'.m o) = renO q' o (getO h' o) := fun o ho => B.get o (hlt o ho)
  have hs : ∀ o, getO h' o ≠ .none → backσ q' h'.length σ' τ1 (q'.m o) = σ' o := fun o ho => back_at B.inj (hlt o ho)
  -- whose objects are these?
  have part : ∀ j, (∃ o, o < h'.length ∧ q'.m o = j) ∨ ∀ o, o < h'.length → q'.m o ≠ j := fun j => by
    by_cases e : ∃ o, o < h'.length ∧ q'.m o = j
    · exact .inl e
    · exact .inr fun o h1 h2 => e ⟨o, h1, h2⟩
  have ownB : ∀ b, own H' (backσ q' h'.length σ' τ1) b → own h' σ' b ∨ ∃ j, (∀ o, o < h'.length → q'.m o ≠ j) ∧ live (getO H j) ∧ (τ1 j).a = some b := by
    rintro b ⟨j, h1, h2⟩
    rcases part j with ⟨o, ho, rfl⟩ | hj
    · rw [B.get o ho] at h1
      rw [back_at B.inj ho] at h2
      exact .inl ⟨o, live_ren.1 h1, h2⟩
    · rw [B.rest j hj] at h1
      rw [back_rest hj] at h2
      exact .inr ⟨j, hj, h1, h2⟩
  -- what lies apart from the callee's is none of its own
  have apartB : ∀ j b, (∀ o, o < h'.length → q'.m o ≠ j) → live (getO H j) → (τ1 j).a = some b → ¬ own h (fun o => τ1 (q.m o)) b := by
    rintro j b hj hl ha ⟨o, h1, h2⟩
    have hok := S.lt (live_ne h1)
    have := R.apart _ _ b (by rw [S.get]; exact live_ren.2 h1) hl h2 ha
    refine hj o (Nat.lt_of_lt_of_le hok B.len) ?_
    rw [(B.old o hok).1, this]
  have apartB' : ∀ j b, (∀ o, o < h'.length → q'.m o ≠ j) → live (getO H j) → (τ1 j).a = some b → ¬ own h' σ' b := by
    intro j b hj hl ha ho
    rcases nx.rep.inA b ho with h | h
    · exact apartB j b hj hl ha h
    · have : own H τ1 b := ⟨j, hl, ha⟩
      have := R.lt this
      omega
  have msub : ∀ b, mutb M0 H' (backσ q' h'.length σ' τ1) b → mutb (restM M0 h H (fun o => τ1 (q.m o)) τ1) h' σ' b := by
    rintro b (hb | hb)
    · exact .inl ⟨.inl hb, fun ho => (R.foreign b hb).2 (S.owns ho)⟩
    · rcases ownB b hb with hb | ⟨j, hj, hl, ha⟩
      · exact .inr hb
      · exact .inl ⟨.inr ⟨j, hl, ha⟩, apartB j b hj hl ha⟩
  have keeps : Keeps w (mutb M0 H τ1) w' (mutb M0 H' (backσ q' h'.length σ' τ1)) := by
    have k1 := nx.keeps
    rw [S.mutbs] at k1
    exact ⟨k1.size, k1.block, fun b h1 h2 h3 => k1.out b h1 h2 (msub b h3)⟩
  have goes : Goes w H τ1 w' := ⟨nx.goes.os, nx.goes.tape, nx.goes.output, nx.goes.size, fun b h1 h2 => nx.goes.block b h1 fun ho => h2 (S.owns ho)⟩
  have step : OStep H τ1 H' (backσ q' h'.length σ' τ1) := fun j => by
    rcases part j with ⟨o, ho, rfl⟩ | hj
    · by_cases hok : o < k
      · have hst := nx.step o
        rw [(B.old o hok).1, S.get, ← (B.old o hok).1]
        have hgo := B.get o ho
        have hso : backσ q' h'.length σ' τ1 (q'.m o) = σ' o := back_at B.inj ho
        cases e0 : getO h o with
        | none => trivial
        | cells vs =>
          rw [e0] at hst
          obtain ⟨vs', e1, e2⟩ := hst
          refine ⟨renVs q' vs', by rw [hgo, e1]; rfl, ?_⟩
          rw [hso, e2, (B.old o hok).1]
        | row fz ver e s xs =>
          rw [e0] at hst
          obtain ⟨fz', ver', e', s', xs', e1, h1, h2⟩ := hst
          refine ⟨fz', ver' + q'.d o, e', s', xs', by rw [hgo, e1]; rfl, by rw [(B.old o hok).2]; omega, fun hv => ?_⟩
          rw [(B.old o hok).2] at hv
          obtain ⟨h3, h4, h5⟩ := h2 (by omega)
          exact ⟨by rw [hso, h3, (B.old o hok).1], h4, h5⟩
      · rw [B.new o (by omega) ho]; trivial
    · rw [B.rest j hj, back_rest hj]
      cases ej : getO H j with
      | none => trivial
      | cells vs => exact ⟨vs, rfl, rfl⟩
      | row fz ver e s xs => exact ⟨fz, ver, e, s, xs, rfl, Nat.le_refl _, fun _ => ⟨rfl, rfl, rfl⟩⟩
  have rep : Rep w0 A M0 w' H' (backσ q' h'.length σ' τ1) := {
    fr := Fr.goes R goes
    m0 := R.m0
    inA := fun b hb => by
      rcases ownB b hb with hb | ⟨j, hj, hl, ha⟩
      · rcases nx.rep.inA b hb with h | h
        · exact R.inA b (S.owns h)
        · have := R.fr.size; omega
      · exact R.inA b ⟨j, hl, ha⟩
    apart := fun j j' b h1 h2 h3 h4 => by
      rcases part j with ⟨o, ho, rfl⟩ | hj <;> rcases part j' with ⟨o', ho', rfl⟩ | hj'
      · rw [B.get o ho] at h1
        rw [B.get o' ho'] at h2
        rw [back_at B.inj ho] at h3
        rw [back_at B.inj ho'] at h4
        rw [nx.rep.apart o o' b (live_ren.1 h1) (live_ren.1 h2) h3 h4]
      · rw [B.get o ho] at h1
        rw [back_at B.inj ho] at h3
        rw [B.rest j' hj'] at h2
        rw [back_rest hj'] at h4
        exact absurd ⟨o, live_ren.1 h1, h3⟩ (apartB' j' b hj' h2 h4)
      · rw [B.get o' ho'] at h2
        rw [back_at B.inj ho'] at h4
        rw [B.rest j hj] at h1
        rw [back_rest hj] at h3
        exact absurd ⟨o', live_ren.1 h2, h4⟩ (apartB' j b hj h1 h3)
      · rw [B.rest j hj] at h1
        rw [back_rest hj] at h3
        rw [B.rest j' hj'] at h2
        rw [back_rest hj'] at h4
        exact R.apart j j' b h1 h2 h3 h4
    obj := fun j => by
      rcases part j with ⟨o, ho, rfl⟩ | hj
      · rw [B.get o ho, back_at B.inj ho]
        exact ren_ro hg hs (RO.less msub (nx.rep.obj o))
      · rw [B.rest j hj, back_rest hj]
        have r := R.obj j
        cases hl : getO H j with
        | none => trivial
        | cells vs =>
          rw [hl] at r
          refine RO.keeps keeps step (fun b ha hb => ?_) r
          refine nx.goes.block b hb ?_
          exact apartB j b hj (by rw [hl]; trivial) ha
        | row fz ver e s xs =>
          rw [hl] at r
          refine RO.keeps keeps step (fun b ha hb => ?_) r
          refine nx.goes.block b hb ?_
          cases fz with
          | false => exact apartB j b hj (by rw [hl]; rfl) ha
          | true =>
            intro ho
            exact (r.2.2 b ha).2 (.inr (S.owns ho)) }
  exact ⟨⟨rep, goes, keeps, step⟩, fun hv => ren_rv hg hs (RV.less msub hv)⟩
end
end Go.Abs
