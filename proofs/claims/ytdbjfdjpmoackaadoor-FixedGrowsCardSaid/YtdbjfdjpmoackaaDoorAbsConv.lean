/- Canonical forms of states stand for what the states stand for. -/
import Derived.Test.YtdbjfdjpmoackaaDoorAbsOps
namespace Go.Abs
section
variable {w0 : World} {A M0 : Nat → Prop} {w : World} {h : List O} {σ : Nat → Loc} {fx : List Nat} {base : Nat}
theorem cvHs_get (g : List O) : (n i : Nat) → (l : List O) → (j : Nat) → getO (cvHs fx base g n i l) j = if j < n then cvO fx base g (i + j) (getO l j) else .none
  | 0, i, l, j => by simp [cvHs, getO]
  | n + 1, i, [], j => by
    have : getO ([] : List O) j = .none := by simp [getO]
    rw [this]
    simp [cvHs, cvO, getO]
  | n + 1, i, o :: r, 0 => by simp [cvHs, getO]
  | n + 1, i, o :: r, j + 1 => by
    have := cvHs_get g n (i + 1) r j
    simp only [cvHs]
    show getO (cvHs fx base g n (i + 1) r) j = if j + 1 < n + 1 then cvO fx base g (i + (j + 1)) (getO r j) else .none
    rw [this, show i + 1 + j = i + (j + 1) by omega]
    by_cases hj : j < n <;> simp [hj]
theorem cvH_get (o : Nat) : getO (cvH fx base h) o = if o < base then cvO fx base h o (getO h o) else .none := by
  unfold cvH
  rw [cvHs_get, Nat.zero_add]
theorem live_cv {o : Nat} (hl : live (getO (cvH fx base h) o)) : o < base ∧ live (getO h o) := by
  rw [cvH_get] at hl
  split at hl
  · refine ⟨‹_›, ?_⟩
    cases e : getO h o with
    | none => rw [e] at hl; exact hl
    | cells vs => trivial
    | row fz ver t s xs => rw [e] at hl; exact hl
  · exact hl.elim
theorem own_cv {b : Nat} (ho : own (cvH fx base h) σ b) : own h σ b := by
  obtain ⟨o, hl, ha⟩ := ho
  exact ⟨o, (live_cv hl).2, ha⟩
theorem mutb_cv {b : Nat} (ho : mutb M0 (cvH fx base h) σ b) : mutb M0 h σ b := ho.imp id own_cv
theorem keepsId {M M' : Nat → Prop} (hs : ∀ b, M' b → M b) : Keeps w M w M' := ⟨Nat.le_refl _, fun _ _ _ => rfl, fun b _ hm h' => hm (hs b h')⟩
theorem row_gone (R : Rep w0 A M0 w h σ) {o : Nat} (hb : ¬ o < base) {b : Nat} (hl : live (getO h o)) (ha : (σ o).a = some b) : ¬ mutb M0 (cvH fx base h) σ b := by
  rintro (hm | ⟨o', hl', ha'⟩)
  · have := R.m0 b hm
    rcases R.inA b ⟨o, hl, ha⟩ with h | h
    · exact this.2 h
    · omega
  · obtain ⟨h1, h2⟩ := live_cv hl'
    have := R.apart o o' b hl h2 ha ha'
    omega
mutual
theorem cv_rv (R : Rep w0 A M0 w h σ) : {v : V} → {x : Value} → RV w (mutb M0 h σ) h σ v x → RV w (mutb M0 (cvH fx base h) σ) (cvH fx base h) σ (cvV fx base h v) x
  | .bad, _, _ => by simp only [cvV, RV]
  | .undef, _, hv => by simp only [cvV, RV] at hv ⊢; exact hv
  | .int _ _, _, hv => by simp only [cvV, RV] at hv ⊢; exact hv
  | .bool _, _, hv => by simp only [cvV, RV] at hv ⊢; exact hv
  | .nil, _, hv => by simp only [cvV, RV] at hv ⊢; exact hv
  | .sl _ _, _, hv => by simp only [cvV, RV] at hv ⊢; exact RC.sub (fun b => mutb_cv) hv
  | .slc o ver, x, hv => by
    simp only [RV] at hv
    obtain ⟨fz, ver', e, s, xs, eo, hl, h1, hx⟩ := hv
    simp only [cvV, eo]
    cases hb : Nat.beq ver ver' with
    | false => simp only [cond_false, RV]
    | true =>
      have hver := Nat.eq_of_beq_eq_true hb
      subst hver
      have hx := hx rfl
      simp only [cond_true]
      cases hlt : Nat.blt o base with
      | true =>
        have hlt : o < base := Nat.le_of_ble_eq_true hlt
        simp only [cond_true, RV]
        refine ⟨fz, ver0 fx o ver, e, s, xs, ?_, Nat.le_refl _, h1, fun _ => hx⟩
        rw [cvH_get, if_pos hlt, eo]; rfl
      | false =>
        have hlt : ¬ o < base := fun h => by have := Nat.ble_eq_true_of_le h; rw [show (o + 1).ble base = Nat.blt o base from rfl, hlt] at this; cases this
        simp only [cond_false, RV]
        have ro := R.obj o
        rw [eo] at ro
        cases fz with
        | true =>
          obtain ⟨_, r, _⟩ := ro
          rw [hx]
          exact RC.sub (fun b => mutb_cv) r
        | false =>
          obtain ⟨_, cs, r1, r2⟩ := ro
          rw [hx]
          exact rowV_sl r1 r2 (fun b => mutb_cv) fun b ha => row_gone R hlt (by rw [eo]; rfl) ha
  | .ptr o off, x, hv => by
    simp only [RV] at hv
    obtain ⟨vs, b, eo, ha, hx⟩ := hv
    simp only [cvV]
    cases hlt : Nat.blt o base with
    | true =>
      have hlt : o < base := Nat.le_of_ble_eq_true hlt
      simp only [cond_true, RV]
      refine ⟨vs.map (cvV fx base h), b, ?_, ha, hx⟩
      rw [cvH_get, if_pos hlt, eo]; rfl
    | false => simp only [cond_false, RV]
  | .rptr o ver i off, x, hv => by
    simp only [RV] at hv
    obtain ⟨fz, ver', e, s, xs, eo, hl, h1, hx⟩ := hv
    simp only [cvV, eo]
    cases hb : Nat.beq ver ver' && Nat.blt o base with
    | false => simp only [cond_false, RV]
    | true =>
      rw [Bool.and_eq_true] at hb
      have hver := Nat.eq_of_beq_eq_true hb.1
      have hlt : o < base := Nat.le_of_ble_eq_true hb.2
      subst hver
      simp only [cond_true, RV]
      refine ⟨fz, ver0 fx o ver, e, s, xs, ?_, Nat.le_refl _, h1, fun _ => hx rfl⟩
      rw [cvH_get, if_pos hlt, eo]; rfl
  | .fptr _ _, _, hv => by
    simp only [cvV, RV] at hv ⊢
    obtain ⟨b, q, cs, h1, h2, h3, h4, h5⟩ := hv
    exact ⟨b, q, cs, h1, h2, fun hm => h3 (mutb_cv hm), h4, RC.sub (fun b => mutb_cv) h5⟩
  | .clo _ _, _, hv => by
    simp only [cvV, RV] at hv ⊢
    obtain ⟨vs, rfl, hr⟩ := hv
    exact ⟨vs, rfl, cv_rvs R hr⟩
  | .agg _, _, hv => by
    simp only [cvV, RV] at hv ⊢
    obtain ⟨vs, rfl, h1, hr⟩ := hv
    exact ⟨vs, rfl, h1, cv_rvs R hr⟩
  | .tup _, _, hv => by
    simp only [cvV, RV] at hv ⊢
    obtain ⟨vs, rfl, hr⟩ := hv
    exact ⟨vs, rfl, cv_rvs R hr⟩
theorem cv_rvs (R : Rep w0 A M0 w h σ) : {vs : List V} → {xs : List Value} → RVs w (mutb M0 h σ) h σ vs xs → RVs w (mutb M0 (cvH fx base h) σ) (cvH fx base h) σ (cvV.cvL fx base h vs) xs
  | [], _, hv => by simp only [cvV.cvL, RVs] at hv ⊢; exact hv
  | _ :: _, _, hv => by
    simp only [cvV.cvL, RVs] at hv ⊢
    obtain ⟨x, xs, rfl, h1, h2⟩ := hv
    exact ⟨x, xs, rfl, cv_rv R h1, cv_rvs R h2⟩
end
theorem cvL_map (vs : List V) : cvV.cvL fx base h vs = vs.map (cvV fx base h) := by
  induction vs with
  | nil => rfl
  | cons v vs ih => simp only [cvV.cvL, List.map_cons, ih]
theorem cv_ro (R : Rep w0 A M0 w h σ) {l : Loc} {i : Nat} {o : O} (ho : RO w (mutb M0 h σ) h σ l o) : RO w (mutb M0 (cvH fx base h) σ) (cvH fx base h) σ l (cvO fx base h i o) := by
  cases o with
  | none => trivial
  | cells vs =>
    obtain ⟨b, e, cs, h1, h2, h3, h4⟩ := ho
    exact ⟨b, e, cs, h1, h2, cvL_map (fx := fx) vs ▸ cv_rvs R h3, h4⟩
  | row fz ver e s xs =>
    cases fz with
    | true =>
      obtain ⟨h1, h2, h3⟩ := ho
      exact ⟨h1, RC.sub (fun b => mutb_cv) h2, fun b hb => ⟨(h3 b hb).1, fun hm => (h3 b hb).2 (mutb_cv hm)⟩⟩
    | false =>
      obtain ⟨h1, cs, h2, h3⟩ := ho
      exact ⟨h1, cs, h2, RL.keeps (keepsId fun b => mutb_cv) h3⟩
theorem cv_rep (R : Rep w0 A M0 w h σ) : Rep w0 A M0 w (cvH fx base h) σ :=
  ⟨R.fr, R.m0, fun b hb => R.inA b (own_cv hb), fun o o' b h1 h2 h3 h4 => R.apart o o' b (live_cv h1).2 (live_cv h2).2 h3 h4, fun o => by
    rw [cvH_get]
    split
    · exact cv_ro R (R.obj o)
    · trivial⟩
mutual
/-- What abides. -/
theorem stb_rv {base' : Nat} (hle : base ≤ base') {M M' : Nat → Prop} (hm : ∀ b, M' b → M b) : {v : V} → {x : Value} → stbV fx base v = true → RV w M h σ v x → RV w M' (cvH fx base' h) σ v x
  | .bad, _, _, _ => by simp only [RV]
  | .undef, _, _, hv => by simp only [RV] at hv ⊢; exact hv
  | .int _ _, _, _, hv => by simp only [RV] at hv ⊢; exact hv
  | .bool _, _, _, hv => by simp only [RV] at hv ⊢; exact hv
  | .nil, _, _, hv => by simp only [RV] at hv ⊢; exact hv
  | .sl _ _, _, _, hv => by simp only [RV] at hv ⊢; exact RC.sub hm hv
  | .slc o ver, x, hs, hv => by
    simp only [RV] at hv ⊢
    simp only [stbV, Bool.and_eq_true] at hs
    have hlt : o < base := Nat.le_of_ble_eq_true hs.1
    obtain ⟨fz, ver', e, s, xs, eo, hl, h1, hx⟩ := hv
    refine ⟨fz, ver', e, s, xs, ?_, hl, h1, hx⟩
    rw [cvH_get, if_pos (by omega), eo]
    simp only [cvO, ver0]
    cases hf : memN fx o with
    | true => rw [hf] at hs; simp at hs
    | false => rfl
  | .ptr o off, x, hs, hv => by
    simp only [RV] at hv ⊢
    simp only [stbV] at hs
    have hlt : o < base := Nat.le_of_ble_eq_true hs
    obtain ⟨vs, b, eo, ha, hx⟩ := hv
    refine ⟨vs.map (cvV fx base' h), b, ?_, ha, hx⟩
    rw [cvH_get, if_pos (by omega), eo]; rfl
  | .rptr o ver i off, x, hs, hv => by
    simp only [RV] at hv ⊢
    simp only [stbV, Bool.and_eq_true] at hs
    have hlt : o < base := Nat.le_of_ble_eq_true hs.1
    obtain ⟨fz, ver', e, s, xs, eo, hl, h1, hx⟩ := hv
    refine ⟨fz, ver', e, s, xs, ?_, hl, h1, hx⟩
    rw [cvH_get, if_pos (by omega), eo]
    simp only [cvO, ver0]
    cases hf : memN fx o with
    | true => rw [hf] at hs; simp at hs
    | false => rfl
  | .fptr _ _, _, _, hv => by
    simp only [RV] at hv ⊢
    obtain ⟨b, q, cs, h1, h2, h3, h4, h5⟩ := hv
    exact ⟨b, q, cs, h1, h2, fun h' => h3 (hm b h'), h4, RC.sub hm h5⟩
  | .clo _ _, _, hs, hv => by
    simp only [RV] at hv ⊢
    simp only [stbV] at hs
    obtain ⟨vs, rfl, hr⟩ := hv
    exact ⟨vs, rfl, stb_rvs hle hm hs hr⟩
  | .agg _, _, hs, hv => by
    simp only [RV] at hv ⊢
    simp only [stbV] at hs
    obtain ⟨vs, rfl, h1, hr⟩ := hv
    exact ⟨vs, rfl, h1, stb_rvs hle hm hs hr⟩
  | .tup _, _, hs, hv => by
    simp only [RV] at hv ⊢
    simp only [stbV] at hs
    obtain ⟨vs, rfl, hr⟩ := hv
    exact ⟨vs, rfl, stb_rvs hle hm hs hr⟩
theorem stb_rvs {base' : Nat} (hle : base ≤ base') {M M' : Nat → Prop} (hm : ∀ b, M' b → M b) : {vs : List V} → {xs : List Value} → stbV.stbL fx base vs = true → RVs w M h σ vs xs → RVs w M' (cvH fx base' h) σ vs xs
  | [], _, _, hv => by simp only [RVs] at hv ⊢; exact hv
  | _ :: _, _, hs, hv => by
    simp only [RVs] at hv ⊢
    simp only [stbV.stbL, Bool.and_eq_true] at hs
    obtain ⟨x, xs, rfl, h1, h2⟩ := hv
    exact ⟨x, xs, rfl, stb_rv hle hm hs.1 h1, stb_rvs hle hm hs.2 h2⟩
end
theorem look_cvT {ks : List Nat} {t : Slots} (i : Nat) : look (cvT fx ks base t h) i = .bad ∨ look (cvT fx ks base t h) i = cvV fx base h (look t i) := by
  unfold cvT
  induction ks with
  | nil => exact .inl rfl
  | cons k ks ih =>
    simp only [List.map_cons, look]
    cases hb : Nat.beq k i with
    | true => have := Nat.eq_of_beq_eq_true hb; subst this; exact .inr rfl
    | false => exact ih
end
end Go.Abs
