/- Parts of a body: a range over an iterator. -/
import Derived.Test.YtdbjfdjpmoackaaDoorAbsFrag
namespace Go.Abs
section
variable {R : Type} {C : Ctx} {t : Slots} {h : List O} {K : Ctl → Slots → List O → Option R}
def exec2 (C : Ctx) (x b : Code) (a a' : Ann) (t : Slots) (h : List O) (K : Ctl → Slots → List O → Option R) : Option R :=
  exec C x a t h fun c t h => match c with | .normal => exec C b a' t h K | _ => none
def rangeF (C : Ctx) (ps : List Tmp) (x b : Code) (a a' : Ann) (base : Nat) (t : Slots) {α : Type} (v : α → List V) (y : α) (h : List O) (K : Ctl → List O → Option R) : Option R :=
  match setPs C.n ps (v y) t with
  | none => none
  | some t => exec2 (C.low base) x b a a' t h fun c _ h => K c h
theorem range_frag {c x b : Code} {f : Operand} {ps : Array Tmp} (hc : c = .rangeFunc f ps x b) {ks : List Nat} {base : Nat} {a a' : Ann} (hfl : Nat.ble C.fl base = true) {t' : Slots} {h' : List O} (ht : cvT C.fx ks base t h = t') (hh : cvH C.fx base h = h')
    {g : Nat} {caps : List V} (hev : ev (look t') f = .clo g caps) {p : ItPkg} (hI : C.I g caps h' = some p) (hst : stbT C.fx base t' = true) (hh' : cvH C.fx base h' = h') :
    exec C c (.keep ks base (.each base a a')) t h K = forN C.fx (rangeF C ps.toList x b a a' base t' p.v) base p.xs h' (fun c h => K c t' h) := by
  subst hc; subst ht; subst hh
  simp only [exec, prep, hfl, cond_true, hev, hI, hst, Bool.and_self, hh']
  rfl
/-- One round. -/
theorem range_step {x b : Code} {ps : List Tmp} {a a' : Ann} {base : Nat} {α : Type} {v : α → List V} {y : α} {t1 : Slots} {kn : List O → Option R} {K : Ctl → List O → Option R} {ke : Nat → Slots → List O → Option R} {kr : Slots → List O → Option R}
    (hs : setPs C.n ps (v y) t = some t1) (hke : ∀ i t h, ke i t h = K (.exit i) h) (hkr : ∀ t h, kr t h = K .ret h) :
    rangeF C ps x b a a' base t v y h (canonF C.fx kn base K) = exec2 (C.low base) x b a a' t1 h (canonK C.fx (fun _ h => kn h) [] base ke kr) := by
  have : (fun c (_ : Slots) h => canonF C.fx kn base K c h) = canonK C.fx (fun _ h => kn h) [] base ke kr := by
    funext c t h
    cases c with
    | normal => rfl
    | exit i => exact (hke i t h).symm
    | ret => exact (hkr t h).symm
  simp only [rangeF, hs, this]
theorem exec2_frag {x b : Code} {a1 ay : Ann} {ks : List Nat} {base : Nat} (hfl : Nat.ble C.fl base = true) :
    exec2 C x b a1 (.keep ks base ay) t h K = exec C x a1 t h (canonK C.fx (fun t h => exec C b ay t h K) ks base (fun _ _ _ => none) (fun _ _ => none)) := by
  unfold exec2
  congr 1
  funext c t h
  cases c with
  | normal => exact exec_keep b hfl
  | _ => rfl
end
/-! ### Slices that begin nil -/
section
variable {R : Type} {C : Ctx} {t : Slots} {h : List O} {K : Ctl → Slots → List O → Option R}
theorem exec_objc (c : Code) {o j : Nat} {e : TypeId} {s : Sh} {a : Ann} (vs : List V) {h' : List O} (ho : getO h o = .cells vs) (hj : vs[j]? = some .nil) (hs : Nat.ble 1 s.n = true) (hh : h.set o (.cells (vs.set j (.slc h.length 0))) ++ [.row false 0 e s []] = h') :
    exec C c (.objc o j e s a) t h K = exec C c a t h' K := by
  subst hh
  cases c <;> simp only [exec, prep, ho, hj, hs, cond_true]
theorem exec_obj (c : Code) {i : Nat} {e : TypeId} {s : Sh} {a : Ann} {t' : Slots} {h' : List O} (hi : look t i = .nil) (hs : Nat.ble 1 s.n = true) (ht : (i, .slc h.length 0) :: t = t') (hh : h ++ [.row false 0 e s []] = h') :
    exec C c (.obj i e s a) t h K = exec C c a t' h' K := by
  subst ht; subst hh
  cases c <;> simp only [exec, prep, hi, hs, cond_true]
end
/-! ### Iterators in a table -/
structure IEnt where
  g : Nat
  run : List V → List O → Option ItPkg
def findI : List IEnt → Nat → List V → List O → Option ItPkg
  | [], _, _, _ => none
  | en :: r, g, caps, h => bif Nat.beq en.g g then en.run caps h else findI r g caps h
def mkI (g : Nat) (ks : List Kd) (s : Sh) (xs : Dens ks → List s.den) : IEnt :=
  { g := g, run := fun caps _ => match decL true [] ks caps with | none => none | some x => some { α := s.den, xs := xs x, v := fun y => encL s y } }
/-- The same where an item is one value of some cells. -/
def mkIa (g : Nat) (ks : List Kd) (s : Sh) (xs : Dens ks → List s.den) : IEnt :=
  { g := g, run := fun caps _ => match decL true [] ks caps with | none => none | some x => some { α := s.den, xs := xs x, v := fun y => [.agg (encL s y)] } }
def itPa (s : Sh) (xs : List s.den) : ItPkg := { α := s.den, xs := xs, v := fun y => [.agg (encL s y)] }
def SpecIa (P : Program) (gs : List (Nat × List Value)) (g : Nat) (ks : List Kd) (s : Sh) (xs : Dens ks → List s.den) : Prop :=
  ∀ (M : Nat → Prop) (w : World) (x : Dens ks) (vs : List Value), GW gs w → (∀ p ∈ gs, ¬ M p.1) → RVs w M [] σ0 (kvals ks x) vs → ∀ r n,
    IterAt (WF r) n P g vs.toArray ((xs x).map fun y => #[.agg ((encL s y).map sv0).toArray]) (fun X Y => ∀ b, b < w.heap.size → ¬ M b → Y.heap[b]? = X.heap[b]?) w
def itP (s : Sh) (xs : List s.den) : ItPkg := { α := s.den, xs := xs, v := fun y => encL s y }
/-- What an iterator goes through, in its order; what it holds lies as it lay between two rounds. -/
def SpecI (P : Program) (gs : List (Nat × List Value)) (g : Nat) (ks : List Kd) (s : Sh) (xs : Dens ks → List s.den) : Prop :=
  ∀ (M : Nat → Prop) (w : World) (x : Dens ks) (vs : List Value), GW gs w → (∀ p ∈ gs, ¬ M p.1) → RVs w M [] σ0 (kvals ks x) vs → ∀ r n,
    IterAt (WF r) n P g vs.toArray ((xs x).map fun y => ((encL s y).map svOf).toArray) (fun X Y => ∀ b, b < w.heap.size → ¬ M b → Y.heap[b]? = X.heap[b]?) w
structure IEntOk (P : Program) (gs : List (Nat × List Value)) (en : IEnt) : Prop where
  fn : ∀ caps h p, en.run caps h = some p → ∃ f c, P.funcs[tgtF en.g]? = some f ∧ (f.name == "runtime.NumGoroutine") = false ∧ f.body = some c
  sv : ∀ caps h p, en.run caps h = some p → ∀ x, (p.v x).all isSv = true
  it : ∀ caps h p, en.run caps h = some p → ∀ w0 A M0 w σ, Gl gs w0 A → Rep w0 A M0 w h σ → ∀ vs, RVs w (mutb M0 h σ) h σ caps vs → ∀ r n,
    IterAt (WF r) n P en.g vs.toArray (p.xs.map fun x => ((p.v x).map svOf).toArray) (fun X Y => ∀ b, b < w.heap.size → ¬ own h σ b → Y.heap[b]? = X.heap[b]?) w
theorem findI_ok {es : List IEnt} {g : Nat} {caps : List V} {h : List O} {p : ItPkg} (hf : findI es g caps h = some p) : ∃ en ∈ es, en.g = g ∧ en.run caps h = some p := by
  induction es with
  | nil => cases hf
  | cons en r ih =>
    simp only [findI] at hf
    cases hb : Nat.beq en.g g with
    | true => rw [hb] at hf; exact ⟨en, by simp, Nat.eq_of_beq_eq_true hb, hf⟩
    | false =>
      rw [hb] at hf
      obtain ⟨en', h1, h2⟩ := ih hf
      exact ⟨en', by simp [h1], h2⟩
theorem iOk_of {P : Program} {gs : List (Nat × List Value)} {C : Ctx} {es : List IEnt} (hgs : C.gs = gs) (hG : C.I = findI es) (he : ∀ en ∈ es, IEntOk P gs en) : IOk P C where
  fn := fun g caps h p hp => by rw [hG] at hp; obtain ⟨en, h1, rfl, h3⟩ := findI_ok hp; exact (he en h1).fn caps h p h3
  sv := fun g caps h p hp => by rw [hG] at hp; obtain ⟨en, h1, rfl, h3⟩ := findI_ok hp; exact (he en h1).sv caps h p h3
  it := fun g caps h p hp => by rw [hgs]; rw [hG] at hp; obtain ⟨en, h1, rfl, h3⟩ := findI_ok hp; exact (he en h1).it caps h p h3
theorem encL_sv : (s : Sh) → s.flat = true → (x : s.den) → (encL s x).all isSv = true
  | .int _, _, _ => rfl
  | .bool, _, _ => rfl
  | .unit, _, _ => rfl
  | .sl _, hs, _ => by cases hs
  | .pair a b, hs, x => by
    simp only [Sh.flat, Bool.and_eq_true] at hs
    simp only [encL, List.all_append, encL_sv a hs.1, encL_sv b hs.2, Bool.and_self]
theorem IterAt.mono {F : Fence} {n : Nat} {P : Program} {g : Nat} {lb : Array Value} {xs : List (Array Value)} {Kp Kp' : World → World → Prop} {w : World} (h : IterAt F n P g lb xs Kp w) (hk : ∀ X Y, Kp' X Y → Kp X Y) : IterAt F n P g lb xs Kp' w :=
  fun l J Jx W hb h1 h2 h3 h4 => h l J Jx W hb h1 h2 (fun i args W1 hx hJ => by
    obtain ⟨o, tmps, c, w2, hr, hq⟩ := h3 i args W1 hx hJ
    refine ⟨o, tmps, c, w2, hr, ?_⟩
    refine hq.mono ?_
    rintro e W' (⟨h5, h6, h7⟩ | h5)
    · exact .inl ⟨h5, h6, hk _ _ h7⟩
    · exact .inr h5) h4
theorem entI {P : Program} {gs : List (Nat × List Value)} {g : Nat} {ks : List Kd} {s : Sh} {xs : Dens ks → List s.den} (hb : HasBody P (tgtF g)) (hs : s.flat = true) (hS : SpecI P gs g ks s xs) : IEntOk P gs (mkI g ks s xs) where
  fn := fun _ _ _ _ => hb
  sv := fun caps h p hp x => by
    simp only [mkI] at hp
    split at hp
    · cases hp
    · cases hp; exact encL_sv s hs x
  it := fun caps h p hp w0 A M0 w σ hgl R vs hv r n => by
    simp only [mkI] at hp
    split at hp
    · cases hp
    · rename_i x hx
      cases hp
      have hv' := decL_sound (h' := []) (σ' := σ0) (hm := []) R (fun o => .inl (by simp [getO])) (Mt := own h σ) (fun b hb => .inr hb) (fun hh => by cases hh) ks hv (fun _ _ _ _ => refOk_nil) hx
      refine hS (own h σ) w x vs (hgl.now R) (fun p hp ho => ?_) hv' r n
      rcases R.inA p.1 ho with h' | h'
      · exact hgl.out p hp h'
      · have := (hgl.at_ p hp).1; omega
theorem encL_is0 : (s : Sh) → s.flat = true → (x : s.den) → (encL s x).all is0 = true
  | .int _, _, _ => rfl
  | .bool, _, _ => rfl
  | .unit, _, _ => rfl
  | .sl _, hs, _ => by cases hs
  | .pair a b, hs, x => by
    simp only [Sh.flat, Bool.and_eq_true] at hs
    simp only [encL, List.all_append, encL_is0 a hs.1, encL_is0 b hs.2, Bool.and_self]
theorem entIa {P : Program} {gs : List (Nat × List Value)} {g : Nat} {ks : List Kd} {s : Sh} {xs : Dens ks → List s.den} (hb : HasBody P (tgtF g)) (hs : s.flat = true) (hS : SpecIa P gs g ks s xs) : IEntOk P gs (mkIa g ks s xs) where
  fn := fun _ _ _ _ => hb
  sv := fun caps h p hp x => by
    simp only [mkIa] at hp
    split at hp
    · cases hp
    · cases hp
      simp only [List.all_cons, List.all_nil, Bool.and_true, isSv]
      exact encL_is0 s hs x
  it := fun caps h p hp w0 A M0 w σ hgl R vs hv r n => by
    simp only [mkIa] at hp
    split at hp
    · cases hp
    · rename_i x hx
      cases hp
      have hv' := decL_sound (h' := []) (σ' := σ0) (hm := []) R (fun o => .inl (by simp [getO])) (Mt := own h σ) (fun b hb => .inr hb) (fun hh => by cases hh) ks hv (fun _ _ _ _ => refOk_nil) hx
      refine hS (own h σ) w x vs (hgl.now R) (fun p hp ho => ?_) hv' r n
      rcases R.inA p.1 ho with h' | h'
      · exact hgl.out p hp h'
      · have := (hgl.at_ p hp).1; omega
end Go.Abs
