/- Contracts by value. -/
import Derived.Test.YtdbjfdjpmoackaaDoorAbsFun
namespace Go.Abs
open Go.RowKit
/-- What a parameter or a result is: a single value, an aggregate, a pointer to what nobody changes. -/
inductive Kd where
  | dat (s : Sh)
  | agg (s : Sh)
  | ptr (s : Sh)
  | clo (g : Nat) (cs : List Sh)
  | bnd (g : Nat) (s : Sh)
@[reducible] def CDen : List Sh → Type
  | [] => Unit
  | s :: cs => s.den × CDen cs
@[reducible] def Kd.den : Kd → Type
  | .dat s => s.den
  | .agg s => s.den
  | .ptr s => s.den
  | .clo _ cs => CDen cs
  | .bnd _ s => s.den
def cval (b : Bool) (s : Sh) (x : s.den) : V := bif b then .agg (encL s x) else enc s x
/-- What a closure holds: pointers to what nobody changes. -/
def cvals : (cs : List Sh) → CDen cs → List V
  | [], _ => []
  | s :: cs, x => .fptr s x.1 :: cvals cs x.2
@[reducible] def Dens : List Kd → Type
  | [] => Unit
  | k :: ks => k.den × Dens ks
def Kd.val : (k : Kd) → k.den → V
  | .dat s, x => enc s x
  | .agg s, x => .agg (encL s x)
  | .ptr s, x => .fptr s x
  | .clo g cs, x => .clo g (cvals cs x)
  | .bnd g s, x => .clo g [enc s x]
def kvals : (ks : List Kd) → Dens ks → List V
  | [], _ => []
  | k :: ks, x => k.val x.1 :: kvals ks x.2
def Sh.isAgg : Sh → Bool
  | .pair _ _ => true
  | .unit => true
  | _ => false
def Sh.flat : Sh → Bool
  | .sl _ => false
  | .pair a b => a.flat && b.flat
  | _ => true
def Kd.scal : Kd → Bool
  | .dat s => s.flat
  | .agg s => s.flat
  | .ptr _ => false
  | .clo _ cs => cs.isEmpty
  | .bnd _ _ => false
def decA (h : List O) (b : Bool) (s : Sh) (v : V) : Option s.den :=
  bif b then (match v with | .agg vs => decAll h s vs | _ => none)
  else (match v with | .agg vs => bif s.isAgg then decAll h s vs else none | v => bif s.isAgg then none else decAll h s [v])
def decP (fz : Bool) (h : List O) (s : Sh) (v : V) : Option s.den :=
  match v with
  | .fptr _ x => castSh x
  | v =>
    bif fz then none
    else
      match derefCells h v with
      | some (vs, off) => bif Nat.ble 1 s.n && Nat.ble (off + s.n) vs.length then decAll h s ((vs.drop off).take s.n) else none
      | none => none
def decC (fz : Bool) (h : List O) : (cs : List Sh) → List V → Option (CDen cs)
  | [], [] => some ()
  | [], _ :: _ => none
  | _ :: _, [] => none
  | s :: cs, v :: vs =>
    match decP fz h s v with
    | none => none
    | some x =>
      match decC fz h cs vs with
      | none => none
      | some xs => some (x, xs)
def noSlc : V → Bool
  | .slc _ _ => false
  | _ => true
def decK (fz : Bool) (h : List O) : (k : Kd) → V → Option k.den
  | .dat s, v => decA h false s v
  | .agg s, v => decA h true s v
  | .ptr s, v => decP fz h s v
  | .clo g cs, v =>
    match v with
    | .clo g' us => bif Nat.beq g g' then decC fz h cs us else none
    | _ => none
  | .bnd g s, v =>
    match v with
    | .clo g' [u] => bif Nat.beq g g' && u.cells.all noSlc then decA h false s u else none
    | _ => none
def decL (fz : Bool) (h : List O) : (ks : List Kd) → List V → Option (Dens ks)
  | [], [] => some ()
  | [], _ :: _ => none
  | _ :: _, [] => none
  | k :: ks, v :: vs =>
    match decK fz h k v with
    | none => none
    | some x =>
      match decL fz h ks vs with
      | none => none
      | some xs => some (x, xs)
abbrev σ0 : Nat → Loc := fun _ => ⟨none, 0⟩
section
variable {w w' : World} {M M' : Nat → Prop} {h h' : List O} {σ σ' : Nat → Loc}
theorem encL_enc {s : Sh} (hs : s.isAgg = true) (x : s.den) : enc s x = .agg (encL s x) := by
  cases s <;> simp_all [Sh.isAgg, enc, encL]
theorem enc_one {s : Sh} (hs : s.isAgg = false) {x : s.den} {v : Value} (hc : RC w M s x [v]) : RV w M h σ (enc s x) v := by
  cases s with
  | int k => simp only [RC, List.cons.injEq, and_true] at hc; subst hc; simp only [enc, RV]
  | bool => simp only [RC, List.cons.injEq, and_true] at hc; subst hc; simp only [enc, RV]
  | unit => cases hs
  | pair a b => cases hs
  | sl s => simp only [enc, RV]; exact hc
/-- Data by value stand for what they stand for, whatever the objects. -/
theorem encL_any : (s : Sh) → {x : s.den} → {cs : List Value} → RVs w M h σ (encL s x) cs → RVs w M h' σ' (encL s x) cs
  | .int _, _, _, hv => by simp only [encL, RVs, RV] at hv ⊢; exact hv
  | .bool, _, _, hv => by simp only [encL, RVs, RV] at hv ⊢; exact hv
  | .unit, _, _, hv => by simp only [encL, RVs] at hv ⊢; exact hv
  | .sl _, _, _, hv => by simp only [encL, RVs, RV] at hv ⊢; exact hv
  | .pair a b, x, cs, hv => by
    have hl := hv.length
    simp only [encL] at hv ⊢
    have h1 := hv.take (encL a x.1).length
    have h2 := hv.drop (encL a x.1).length
    rw [List.take_left] at h1
    rw [List.drop_left] at h2
    have h3 : RVs w M h' σ' (encL a x.1) _ := encL_any a h1
    have h4 : RVs w M h' σ' (encL b x.2) _ := encL_any b h2
    have := h3.append h4
    rwa [List.take_append_drop] at this
theorem enc_any {s : Sh} {x : s.den} {v : Value} (hv : RV w M h σ (enc s x) v) : RV w M h' σ' (enc s x) v := by
  cases hs : s.isAgg with
  | true =>
    rw [encL_enc hs] at hv ⊢
    simp only [RV] at hv ⊢
    obtain ⟨cs, h1, h2, h3⟩ := hv
    exact ⟨cs, h1, h2, encL_any s h3⟩
  | false => cases s <;> simp_all [Sh.isAgg, enc, RV]
theorem cval_any {b : Bool} {s : Sh} {x : s.den} {v : Value} (hv : RV w M h σ (cval b s x) v) : RV w M h' σ' (cval b s x) v := by
  cases b with
  | false => exact enc_any hv
  | true =>
    simp only [cval, cond_true, RV] at hv ⊢
    obtain ⟨cs, h1, h2, h3⟩ := hv
    exact ⟨cs, h1, h2, encL_any s h3⟩
theorem cvals_any : (cs : List Sh) → {x : CDen cs} → {vs : List Value} → RVs w M h σ (cvals cs x) vs → RVs w M h' σ' (cvals cs x) vs
  | [], _, _, hv => by simp only [cvals, RVs] at hv ⊢; exact hv
  | c :: cs, x, vs, hv => by
    simp only [cvals, RVs] at hv ⊢
    obtain ⟨y, ys, rfl, h1, h2⟩ := hv
    refine ⟨y, ys, rfl, ?_, cvals_any cs h2⟩
    simp only [RV] at h1 ⊢
    exact h1
theorem val_any {k : Kd} {x : k.den} {v : Value} (hv : RV w M h σ (k.val x) v) : RV w M h' σ' (k.val x) v := by
  cases k with
  | dat s => exact enc_any hv
  | agg s =>
    simp only [Kd.val, RV] at hv ⊢
    obtain ⟨cs, h1, h2, h3⟩ := hv
    exact ⟨cs, h1, h2, encL_any s h3⟩
  | ptr s => simp only [Kd.val, RV] at hv ⊢; exact hv
  | clo g cs =>
    simp only [Kd.val, RV] at hv ⊢
    obtain ⟨vs, h1, h2⟩ := hv
    exact ⟨vs, h1, cvals_any cs h2⟩
  | bnd g s =>
    simp only [Kd.val, RV, RVs] at hv ⊢
    obtain ⟨vs, h1, y, ys, h2, h3, h4⟩ := hv
    exact ⟨vs, h1, y, ys, h2, enc_any h3, h4⟩
theorem kvals_any : (ks : List Kd) → {x : Dens ks} → {vs : List Value} → RVs w M h σ (kvals ks x) vs → RVs w M h' σ' (kvals ks x) vs
  | [], _, _, hv => by simp only [kvals, RVs] at hv ⊢; exact hv
  | k :: ks, x, vs, hv => by
    simp only [kvals, RVs] at hv ⊢
    obtain ⟨y, ys, rfl, h1, h2⟩ := hv
    exact ⟨y, ys, rfl, val_any h1, kvals_any ks h2⟩
theorem retV_any {ks : List Kd} {x : Dens ks} {v : Value} (hv : RV w M h σ (retV (kvals ks x)) v) : RV w M h' σ' (retV (kvals ks x)) v := by
  have tupc : ∀ {us : List V}, (∀ {cs}, RVs w M h σ us cs → RVs w M h' σ' us cs) → RV w M h σ (.tup us) v → RV w M h' σ' (.tup us) v := fun hu hv => by
    simp only [RV] at hv ⊢
    obtain ⟨cs, h1, h2⟩ := hv
    exact ⟨cs, h1, hu h2⟩
  match ks, x with
  | [], _ => exact tupc (kvals_any []) hv
  | [k], x => exact val_any hv
  | k :: k' :: ks, x => exact tupc (kvals_any (k :: k' :: ks)) hv
/-- Flat data hold no memory. -/
theorem RC.flat : (s : Sh) → s.flat = true → {x : s.den} → {cs : List Value} → RC w M s x cs → RC w' M' s x cs
  | .int _, _, _, _, h => by simp only [RC] at h ⊢; exact h
  | .bool, _, _, _, h => by simp only [RC] at h ⊢; exact h
  | .unit, _, _, _, h => by simp only [RC] at h ⊢; exact h
  | .sl _, hs, _, _, _ => by cases hs
  | .pair a b, hs, _, _, h => by
    simp only [Sh.flat, Bool.and_eq_true] at hs
    simp only [RC] at h ⊢
    obtain ⟨c, d, rfl, h1, h2⟩ := h
    exact ⟨c, d, rfl, RC.flat a hs.1 h1, RC.flat b hs.2 h2⟩
theorem RL.flat {s : Sh} (hs : s.flat = true) {xs : List s.den} {cs : List Value} (h : RL w M s xs cs) : RL w' M' s xs cs := by
  induction xs generalizing cs with
  | nil => simpa only [RL] using h
  | cons x xs ih =>
    simp only [RL] at h ⊢
    obtain ⟨c, d, rfl, h1, h2⟩ := h
    exact ⟨c, d, rfl, RC.flat s hs h1, ih h2⟩
theorem encL_flat : (s : Sh) → s.flat = true → {x : s.den} → {cs : List Value} → RVs w M h σ (encL s x) cs → RVs w' M' h' σ' (encL s x) cs
  | .int _, _, _, _, hv => by simp only [encL, RVs, RV] at hv ⊢; exact hv
  | .bool, _, _, _, hv => by simp only [encL, RVs, RV] at hv ⊢; exact hv
  | .unit, _, _, _, hv => by simp only [encL, RVs] at hv ⊢; exact hv
  | .sl _, hs, _, _, _ => by cases hs
  | .pair a b, hs, x, cs, hv => by
    simp only [Sh.flat, Bool.and_eq_true] at hs
    simp only [encL] at hv ⊢
    have h1 := hv.take (encL a x.1).length
    have h2 := hv.drop (encL a x.1).length
    rw [List.take_left] at h1
    rw [List.drop_left] at h2
    have h3 : RVs w' M' h' σ' (encL a x.1) _ := encL_flat a hs.1 h1
    have h4 : RVs w' M' h' σ' (encL b x.2) _ := encL_flat b hs.2 h2
    have := h3.append h4
    rwa [List.take_append_drop] at this
theorem cval_flat {b : Bool} {s : Sh} (hs : s.flat = true) {x : s.den} {v : Value} (hv : RV w M h σ (cval b s x) v) : RV w' M' h' σ' (cval b s x) v := by
  have ag : RV w M h σ (.agg (encL s x)) v → RV w' M' h' σ' (.agg (encL s x)) v := fun hv => by
    simp only [RV] at hv ⊢
    obtain ⟨cs, h1, h2, h3⟩ := hv
    exact ⟨cs, h1, h2, encL_flat s hs h3⟩
  cases b with
  | true => exact ag hv
  | false =>
    simp only [cval, cond_false] at hv ⊢
    cases hb : s.isAgg with
    | true => rw [encL_enc hb] at hv ⊢; exact ag hv
    | false => cases s <;> simp_all [Sh.isAgg, enc, RV, Sh.flat]
theorem val_flat {k : Kd} (hs : k.scal = true) {x : k.den} {v : Value} (hv : RV w M h σ (k.val x) v) : RV w' M' h' σ' (k.val x) v := by
  cases k with
  | dat s => exact cval_flat (b := false) hs hv
  | agg s => exact cval_flat (b := true) hs hv
  | ptr s => cases hs
  | clo g cs =>
    simp only [Kd.val, RV] at hv ⊢
    obtain ⟨vs, h1, h2⟩ := hv
    cases cs with
    | nil => exact ⟨vs, h1, by simpa only [cvals, RVs] using h2⟩
    | cons _ _ => cases hs
  | bnd g s => cases hs
theorem kvals_flat : (ks : List Kd) → ks.all Kd.scal = true → {x : Dens ks} → {vs : List Value} → RVs w M h σ (kvals ks x) vs → RVs w' M' h' σ' (kvals ks x) vs
  | [], _, _, _, hv => by simp only [kvals, RVs] at hv ⊢; exact hv
  | k :: ks, hs, x, vs, hv => by
    simp only [List.all_cons, Bool.and_eq_true] at hs
    simp only [kvals, RVs] at hv ⊢
    obtain ⟨y, ys, rfl, h1, h2⟩ := hv
    exact ⟨y, ys, rfl, val_flat hs.1 h1, kvals_flat ks hs.2 h2⟩
theorem retV_flat {ks : List Kd} (hs : ks.all Kd.scal = true) {x : Dens ks} {v : Value} (hv : RV w M h σ (retV (kvals ks x)) v) : RV w' M' h' σ' (retV (kvals ks x)) v := by
  have tupc : ∀ {us : List V}, (∀ {cs}, RVs w M h σ us cs → RVs w' M' h' σ' us cs) → RV w M h σ (.tup us) v → RV w' M' h' σ' (.tup us) v := fun hu hv => by
    simp only [RV] at hv ⊢
    obtain ⟨cs, h1, h2⟩ := hv
    exact ⟨cs, h1, hu h2⟩
  match ks, x, hs with
  | [], _, hs => exact tupc (kvals_flat [] hs) hv
  | [k], x, hs => simp only [List.all_cons, Bool.and_eq_true] at hs; exact val_flat hs.1 hv
  | k :: k' :: ks, x, hs => exact tupc (kvals_flat (k :: k' :: ks) hs) hv
variable {w0 : World} {A M0 : Nat → Prop} {hm : List O}
theorem decA_sound (R : Rep w0 A M0 w h σ) (hs : Sub hm h) {Mt : Nat → Prop} (hsub : ∀ b, Mt b → mutb M0 h σ b) {b : Bool} {s : Sh} {v : V} {x : Value} (hv : RV w (mutb M0 h σ) h σ v x)
    (hr : ∀ u ∈ v.cells, RefOk hm σ Mt u) {y : s.den} (hd : decA hm b s v = some y) : RV w Mt h' σ' (cval b s y) x := by
  have agc : ∀ {vs : List V}, RV w (mutb M0 h σ) h σ (.agg vs) x → (∀ u ∈ vs, RefOk hm σ Mt u) → decAll hm s vs = some y → RV w Mt h' σ' (.agg (encL s y)) x := fun hv hr hd => by
    simp only [RV] at hv ⊢
    obtain ⟨cs, h1, h2, h3⟩ := hv
    exact ⟨cs, h1, h2, encL_sound _ (decAll_sound R hs hsub h3 hr hd)⟩
  cases b with
  | false =>
    simp only [decA, cond_false] at hd
    simp only [cval, cond_false]
    split at hd
    · rename_i vs
      obtain ⟨ha, hd⟩ := cond_some hd
      rw [encL_enc ha]
      exact agc hv hr hd
    · rename_i hna
      cases hb : s.isAgg with
      | true => rw [hb] at hd; cases hd
      | false =>
        rw [hb] at hd
        have hc : v.cells = [v] := by cases v <;> first | rfl | exact absurd rfl (hna _)
        exact enc_one hb (decAll_sound R hs hsub (vs := [v]) (cs := [x]) ⟨x, [], rfl, hv, rfl⟩ (fun u hu => hr u (by rw [hc]; exact hu)) hd)
  | true =>
    simp only [decA, cond_true] at hd
    split at hd
    · exact agc hv hr hd
    · cases hd
theorem decP_sound (R : Rep w0 A M0 w h σ) (hs : Sub hm h) {Mt : Nat → Prop} (hsub : ∀ b, Mt b → mutb M0 h σ b) {fz : Bool} (hfz : fz = false → ∀ b, ¬ Mt b) {s : Sh} {v : V} {x : Value} (hv : RV w (mutb M0 h σ) h σ v x)
    {y : s.den} (hd : decP fz hm s v = some y) : RV w Mt h' σ' (.fptr s y) x := by
  unfold decP at hd
  split at hd
  · obtain ⟨e, rfl⟩ := castSh_some hd
    cases e
    simp only [RV] at hv ⊢
    obtain ⟨b, q, cs, h1, h2, h3, h4, h5⟩ := hv
    exact ⟨b, q, cs, h1, h2, fun hm => h3 (hsub b hm), h4, RC.sub hsub h5⟩
  · cases fz with
    | true => cases hd
    | false =>
      simp only [cond_false] at hd
      split at hd
      · rename_i vs off hdr
        obtain ⟨hc, hd⟩ := cond_some hd
        rw [Bool.and_eq_true] at hc
        have h1 := Nat.le_of_ble_eq_true hc.1
        have h2 := Nat.le_of_ble_eq_true hc.2
        obtain ⟨b, q, cs, rfl, hcs, hrs, h1c⟩ := deref_sound R hs hv hdr
        have hrs' := (hrs.drop off).take s.n
        have hrc := decAll_sound R hs hsub hrs' (fun u hu o ver _ ver' e s' xs _ _ b _ hmt => hfz rfl b hmt) hd
        have hca : CellsAt w b (q + off) ((cs.drop off).take s.n) := fun j u hj => by
          rw [List.getElem?_take] at hj
          split at hj
          · rw [List.getElem?_drop] at hj
            have := hcs _ u hj
            rwa [← Nat.add_assoc] at this
          · cases hj
        simp only [RV]
        refine ⟨b, q + off, _, rfl, ?_, hfz rfl b, hca, hrc⟩
        have hlen := hrc.length
        obtain ⟨u, hu⟩ : ∃ u, ((cs.drop off).take s.n)[0]? = some u := ⟨_, List.getElem?_eq_getElem (by omega)⟩
        obtain ⟨o, ho, _⟩ := cells_of_cell (hca 0 u hu)
        exact (Array.getElem?_eq_some_iff.1 ho).1
      · cases hd
theorem decC_sound (R : Rep w0 A M0 w h σ) (hs : Sub hm h) {Mt : Nat → Prop} (hsub : ∀ b, Mt b → mutb M0 h σ b) {fz : Bool} (hfz : fz = false → ∀ b, ¬ Mt b) : (cs : List Sh) → {us : List V} → {xs : List Value} → RVs w (mutb M0 h σ) h σ us xs →
    {y : CDen cs} → decC fz hm cs us = some y → RVs w Mt h' σ' (cvals cs y) xs
  | [], [], xs, hv, y, hd => by simp only [RVs] at hv; simp only [cvals, RVs]; exact hv
  | [], _ :: _, xs, hv, y, hd => by simp [decC] at hd
  | _ :: _, [], xs, hv, y, hd => by simp [decC] at hd
  | s :: cs, v :: vs, xs, hv, y, hd => by
    simp only [decC] at hd
    split at hd
    · cases hd
    · rename_i x hx
      split at hd
      · cases hd
      · rename_i ys hys
        cases hd
        simp only [RVs] at hv
        obtain ⟨z, zs, rfl, h1, h2⟩ := hv
        simp only [cvals, RVs]
        exact ⟨z, zs, rfl, decP_sound R hs hsub hfz h1 hx, decC_sound R hs hsub hfz cs h2 hys⟩
theorem noSlc_ref {hm : List O} {σ : Nat → Loc} {Mt : Nat → Prop} {c : V} (hc : noSlc c = true) : RefOk hm σ Mt c := by
  intro o ver e
  subst e
  cases hc
theorem decK_sound (R : Rep w0 A M0 w h σ) (hs : Sub hm h) {Mt : Nat → Prop} (hsub : ∀ b, Mt b → mutb M0 h σ b) {fz : Bool} (hfz : fz = false → ∀ b, ¬ Mt b) {k : Kd} {v : V} {x : Value} (hv : RV w (mutb M0 h σ) h σ v x)
    (hr : ∀ u ∈ v.cells, RefOk hm σ Mt u) {y : k.den} (hd : decK fz hm k v = some y) : RV w Mt h' σ' (k.val y) x := by
  cases k with
  | dat s => exact decA_sound (b := false) R hs hsub hv hr hd
  | agg s => exact decA_sound (b := true) R hs hsub hv hr hd
  | ptr s => exact decP_sound R hs hsub hfz hv hd
  | clo g cs =>
    simp only [decK] at hd
    split at hd
    · rename_i g' us
      obtain ⟨hg, hd2⟩ := cond_some hd
      clear hd
      have := Nat.eq_of_beq_eq_true hg
      subst this
      simp only [RV] at hv
      obtain ⟨vs, rfl, hvs⟩ := hv
      simp only [Kd.val, RV]
      exact ⟨vs, rfl, decC_sound R hs hsub hfz cs hvs hd2⟩
    · cases hd
  | bnd g s =>
    simp only [decK] at hd
    split at hd
    · rename_i g' u
      obtain ⟨hg, hd2⟩ := cond_some hd
      clear hd
      simp only [Bool.and_eq_true, List.all_eq_true] at hg
      have := Nat.eq_of_beq_eq_true hg.1
      subst this
      simp only [RV, RVs] at hv
      obtain ⟨vs, rfl, z, zs, h1, h2, h3⟩ := hv
      simp only [Kd.val, RV, RVs]
      exact ⟨vs, rfl, z, zs, h1, decA_sound (b := false) R hs hsub h2 (fun c hc => noSlc_ref (hg.2 c hc)) hd2, h3⟩
    · cases hd
theorem decL_sound (R : Rep w0 A M0 w h σ) (hs : Sub hm h) {Mt : Nat → Prop} (hsub : ∀ b, Mt b → mutb M0 h σ b) {fz : Bool} (hfz : fz = false → ∀ b, ¬ Mt b) : (ks : List Kd) → {vs : List V} → {xs : List Value} → RVs w (mutb M0 h σ) h σ vs xs →
    (∀ v ∈ vs, ∀ u ∈ v.cells, RefOk hm σ Mt u) → {y : Dens ks} → decL fz hm ks vs = some y → RVs w Mt h' σ' (kvals ks y) xs
  | [], [], xs, hv, hr, y, hd => by simp only [RVs] at hv; simp only [kvals, RVs]; exact hv
  | [], _ :: _, xs, hv, hr, y, hd => by simp [decL] at hd
  | _ :: _, [], xs, hv, hr, y, hd => by simp [decL] at hd
  | k :: ks, v :: vs, xs, hv, hr, y, hd => by
    simp only [decL] at hd
    split at hd
    · cases hd
    · rename_i x hx
      split at hd
      · cases hd
      · rename_i ys hys
        cases hd
        simp only [RVs] at hv
        obtain ⟨z, zs, rfl, h1, h2⟩ := hv
        simp only [kvals, RVs]
        exact ⟨z, zs, rfl, decK_sound R hs hsub hfz h1 (hr v (by simp)) hx, decL_sound R hs hsub hfz ks h2 (fun u hu => hr u (by simp [hu])) hys⟩
end
end Go.Abs
