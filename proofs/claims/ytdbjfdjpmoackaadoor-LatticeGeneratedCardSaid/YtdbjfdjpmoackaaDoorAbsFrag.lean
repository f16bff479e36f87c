/- Parts of a body: what they come to, whatever follows. -/
import Derived.Test.YtdbjfdjpmoackaaDoorAbsEnt
namespace Go.Abs
/-- A way out, and what goes on. -/
abbrev Ko (R : Type) : Type := Slots → List O → Option R
abbrev wo {R : Type} (j : Nat) (k : Ko R) (fx ks : List Nat) (b i : Nat) (t : Slots) (h : List O) (r : Option R) : Option R := bif Nat.beq i j then k (cvT fx ks b t h) (cvH fx b h) else r
section
variable {R : Type}
/-- What follows a part: behind its end, behind an exit, at a return. -/
def canonK (fx : List Nat) (kn : Slots → List O → Option R) (ks : List Nat) (base : Nat) (ke : Nat → Slots → List O → Option R) (kr : Slots → List O → Option R) : Ctl → Slots → List O → Option R := fun c t h =>
  match c with
  | .normal => kn (cvT fx ks base t h) (cvH fx base h)
  | .exit i => ke i t h
  | .ret => kr t h
theorem canonK_eq {fx : List Nat} {ks : List Nat} {base : Nat} {K : Ctl → Slots → List O → Option R} {kn : Slots → List O → Option R} (hn : ∀ t h, K .normal t h = kn (cvT fx ks base t h) (cvH fx base h)) :
    K = canonK fx kn ks base (fun i t h => K (.exit i) t h) (fun t h => K .ret t h) := by
  funext c t h
  cases c with
  | normal => exact hn t h
  | _ => rfl
def loopD {S : Type} (f : S → (S → Option R) → Option R) : Nat → S → Option R
  | 0, _ => none
  | n + 1, s => f s (loopD f n)
theorem loopN_sim {S : Type} {fx : List Nat} {f : Slots → List O → (Ctl → Slots → List O → Option R) → Option R} {ks : List Nat} {base : Nat} {K : Ctl → Slots → List O → Option R} (emT : S → Slots) (emH : S → List O)
    {g : S → (S → Option R) → Option R} (hstep : ∀ (s : S) (kn : Slots → List O → Option R), f (emT s) (emH s) (canonK fx kn ks base (fun i t h => K (.exit i) t h) (fun t h => K .ret t h)) = g s fun s' => kn (emT s') (emH s')) :
    ∀ (n : Nat) (s : S), loopN fx f ks base n (emT s) (emH s) K = loopD g n s
  | 0, _ => rfl
  | n + 1, s => by
    have ih := loopN_sim emT emH hstep n
    have hk : (fun c t h => match c with | .normal => loopN fx f ks base n (cvT fx ks base t h) (cvH fx base h) K | c => K c t h) =
        canonK fx (fun t h => loopN fx f ks base n t h K) ks base (fun i t h => K (.exit i) t h) (fun t h => K .ret t h) := by
      funext c t h
      cases c <;> rfl
    show f (emT s) (emH s) (fun c t h => match c with | .normal => loopN fx f ks base n (cvT fx ks base t h) (cvH fx base h) K | c => K c t h) = g s (loopD g n)
    rw [hk, hstep]
    congr 1
    funext s'
    exact ih s'
def forD {α S : Type} (f : α → S → (S → Option R) → Option R) (k : S → Option R) : List α → S → Option R
  | [], s => k s
  | x :: xs, s => f x s (forD f k xs)
def canonF (fx : List Nat) (kn : List O → Option R) (base : Nat) (K : Ctl → List O → Option R) : Ctl → List O → Option R := fun c h =>
  match c with
  | .normal => kn (cvH fx base h)
  | c => K c h
theorem forN_sim {α S : Type} {fx : List Nat} {f : α → List O → (Ctl → List O → Option R) → Option R} {base : Nat} {K : Ctl → List O → Option R} (emH : S → List O) {g : α → S → (S → Option R) → Option R} {k : S → Option R}
    (hstep : ∀ (x : α) (s : S) (kn : List O → Option R), f x (emH s) (canonF fx kn base K) = g x s fun s' => kn (emH s')) (hend : ∀ s, K .normal (emH s) = k s) :
    ∀ (xs : List α) (s : S), forN fx f base xs (emH s) K = forD g k xs s
  | [], s => hend s
  | x :: xs, s => by
    have ih := forN_sim emH hstep hend xs
    have hk : (fun c h => match c with | .normal => forN fx f base xs (cvH fx base h) K | c => K c h) = canonF fx (fun h => forN fx f base xs h K) base K := by
      funext c h
      cases c <;> rfl
    show f x (emH s) (fun c h => match c with | .normal => forN fx f base xs (cvH fx base h) K | c => K c h) = g x s (forD g k xs)
    rw [hk, hstep]
    congr 1
    funext s'
    exact ih s'
end
section
variable {R : Type} {C : Ctx} {t : Slots} {h : List O} {K : Ctl → Slots → List O → Option R}
/-- What follows a part that a function's end follows. -/
def canonR (ke : Nat → Slots → List O → Option R) (kr : Ctl → Slots → List O → Option R) : Ctl → Slots → List O → Option R := fun c t h =>
  match c with
  | .normal => kr .normal t h
  | .exit i => ke i t h
  | .ret => kr .ret t h
theorem canonR_fin {rs : List ResultVar} {fin : V → List O → Option R} : finK C rs fin = canonR (fun _ _ _ => none) (finK C rs fin) := by
  funext c t h
  cases c <;> rfl
theorem exec_keep (c : Code) {ks : List Nat} {base : Nat} (hfl : Nat.ble C.fl base = true) {a : Ann} : exec C c (.keep ks base a) t h K = exec C c a (cvT C.fx ks base t h) (cvH C.fx base h) K := by
  cases c <;> simp only [exec, prep, hfl, cond_true]
theorem seq_frag {c x y : Code} (hc : c = .seq x y) {a1 ay : Ann} {ks : List Nat} {base : Nat} (hfl : Nat.ble C.fl base = true) :
    exec C c (.two a1 (.keep ks base ay)) t h K = exec C x a1 t h (canonK C.fx (fun t h => exec C y ay t h K) ks base (fun i t h => K (.exit i) t h) (fun t h => K .ret t h)) := by
  subst hc
  have : (fun c t h => match c with | .normal => exec C y (.keep ks base ay) t h K | c => K c t h) = canonK C.fx (fun t h => exec C y ay t h K) ks base (fun i t h => K (.exit i) t h) (fun t h => K .ret t h) := by
    funext c t h
    cases c with
    | normal => exact exec_keep y hfl
    | _ => rfl
  rw [← this]
  rfl
theorem cond_frag {c x y : Code} {o : Operand} (hc : c = .cond o x y) {a1 a2 : Ann} {b : Bool} (hb : ev (look t) o = .bool b) : exec C c (.two a1 a2) t h K = bif b then exec C x a1 t h K else exec C y a2 t h K := by
  subst hc
  simp only [exec, prep, hb, Ann.fst, Ann.snd]
theorem block_canon {c x : Code} {id : Nat} (hc : c = .block id x) {a : Ann} {fx : List Nat} {kn : Slots → List O → Option R} {ks : List Nat} {base : Nat} {ke : Nat → Slots → List O → Option R} {kr : Slots → List O → Option R} :
    exec C c (.one a) t h (canonK fx kn ks base ke kr) = exec C x a t h (canonK fx kn ks base (fun i t h => bif Nat.beq i id then kn (cvT fx ks base t h) (cvH fx base h) else ke i t h) kr) := by
  subst hc
  have : (fun c t h => match c with | .exit i => bif Nat.beq i id then canonK fx kn ks base ke kr .normal t h else canonK fx kn ks base ke kr (.exit i) t h | c => canonK fx kn ks base ke kr c t h) =
      canonK fx kn ks base (fun i t h => bif Nat.beq i id then kn (cvT fx ks base t h) (cvH fx base h) else ke i t h) kr := by
    funext c t h
    cases c <;> rfl
  rw [← this]
  rfl
theorem block_canonR {c x : Code} {id : Nat} (hc : c = .block id x) {a : Ann} {ke : Nat → Slots → List O → Option R} {kr : Ctl → Slots → List O → Option R} :
    exec C c (.one a) t h (canonR ke kr) = exec C x a t h (canonR (fun i t h => bif Nat.beq i id then kr .normal t h else ke i t h) kr) := by
  subst hc
  have : (fun c t h => match c with | .exit i => bif Nat.beq i id then canonR ke kr .normal t h else canonR ke kr (.exit i) t h | c => canonR ke kr c t h) =
      canonR (fun i t h => bif Nat.beq i id then kr .normal t h else ke i t h) kr := by
    funext c t h
    cases c <;> rfl
  rw [← this]
  rfl
theorem scope_frag {c x : Code} (hc : c = .scope x) {a : Ann} : exec C c (.one a) t h K = exec C x a t h K := by
  subst hc; rfl
theorem loop_frag {c b : Code} (hc : c = .loop b) {ks : List Nat} {base : Nat} {a : Ann} (hfl : Nat.ble C.fl base = true) {t' : Slots} {h' : List O} (ht : cvT C.fx ks base t h = t') (hh : cvH C.fx base h = h') :
    exec C c (.loop ks base a) t h K = loopN C.fx (exec C b a) ks base C.N t' h' K := by
  subst hc; subst ht; subst hh
  simp only [exec, prep, hfl, cond_true]
end
def cAt : Code → List Nat → Code
  | c, [] => c
  | .seq a _, 0 :: p => cAt a p
  | .seq _ b, _ :: p => cAt b p
  | .cond _ a _, 0 :: p => cAt a p
  | .cond _ _ b, _ :: p => cAt b p
  | .block _ b, _ :: p => cAt b p
  | .loop b, _ :: p => cAt b p
  | .scope b, _ :: p => cAt b p
  | .rangeFunc _ _ a _, 0 :: p => cAt a p
  | .rangeFunc _ _ _ b, _ :: p => cAt b p
  | c, _ => c
end Go.Abs
namespace Go.Abs
section
variable {R : Type} {C : Ctx} {t : Slots} {h : List O} {K : Ctl → Slots → List O → Option R}
def exec2 (C : Ctx) (x b : Code) (a a' : Ann) (t : Slots) (h : List O) (K : Ctl → Slots → List O → Option R) : Option R :=
  exec C x a t h fun c t h => match c with | .normal => exec C b a' t h K | _ => none
def rangeF (C : Ctx) (ps : List Tmp) (x b : Code) (a a' : Ann) (base : Nat) (t : Slots) {α : Type} (v : α → List V) (y : α) (h : List O) (K : Ctl → List O → Option R) : Option R :=
  match setPs C.n ps (v y) t with
  | none => none
  | some t => exec2 (C.low base) x b a a' t h fun c _ h => K c h
theorem range_frag {c x b : Code} {f : Operand} {ps : Array Tmp} (hc : c = .rangeFunc f ps x b) {ks : List Nat} {base : Nat} {a a' : Ann} (hfl : Nat.ble C.fl base = true) {t' : Slots} {h' : List O} (ht : cvT C.fx ks base t h = t') (hh : cvH C.fx base h = h')
    {g : Nat} {caps : List V} (hev : ev (look t') f = .clo g caps) {p : ItPkg} (hI : C.I g caps h' = some p) (hst : stbT C.fx base t' = true) (hh' : cvH C.fx base h' = h') :
    exec C c (.keep ks base (.each base a a')) t h K = forN C.fx (rangeF C ps.toList x b a a' base t' p.v) base p.xs h' (fun c h => K c t' h) := by
  subst hc; subst ht; subst hh
  simp only [exec, prep, hfl, cond_true, hev, hI, hst, Bool.and_self, hh']
  rfl
theorem range_fragG {c x b : Code} {f : Operand} {ps : Array Tmp} (hc : c = .rangeFunc f ps x b) {ks : List Nat} {base : Nat} {a a' : Ann} (hfl : Nat.ble C.fl base = true) {t' : Slots} {h' : List O} (ht : cvT C.fx ks base t h = t') (hh : cvH C.fx base h = h')
    {g : Nat} {caps : List V} (hev : ev (look t') f = .clo g caps) {p : ItPkg} {ok : Bool} (hI : C.I g caps h' = bif ok then some p else none) (hst : stbT C.fx base t' = true) (hh' : cvH C.fx base h' = h') :
    exec C c (.keep ks base (.each base a a')) t h K = bif ok then forN C.fx (rangeF C ps.toList x b a a' base t' p.v) base p.xs h' (fun c h => K c t' h) else none := by
  cases ok with
  | true => exact range_frag hc hfl ht hh hev hI hst hh'
  | false =>
    subst hc; subst ht; subst hh
    have hI : C.I g caps (cvH C.fx base h) = none := hI
    simp only [exec, prep, hfl, cond_true, hev, hh', hI, cond_false]
/-- One round. -/
theorem range_step {x b : Code} {ps : List Tmp} {a a' : Ann} {base : Nat} {α : Type} {v : α → List V} {y : α} {t1 : Slots} {kn : List O → Option R} {K : Ctl → List O → Option R} {ke : Nat → Slots → List O → Option R} {kr : Slots → List O → Option R}
    (hs : setPs C.n ps (v y) t = some t1) (hke : ∀ i t h, ke i t h = K (.exit i) h) (hkr : ∀ t h, kr t h = K .ret h) :
    rangeF C ps x b a a' base t v y h (canonF C.fx kn base K) = exec2 (C.low base) x b a a' t1 h (canonK C.fx (fun _ h => kn h) [] base ke kr) := by
  have : (fun c (_ : Slots) h => canonF C.fx kn base K c h) = canonK C.fx (fun _ h => kn h) [] base ke kr := by
    funext c t h
    cases c with
    | normal => rfl
    | exit i => exact (hke i t h).symm
    | ret => exact (hkr t h).symm
  simp only [rangeF, hs, this]
theorem exec2_frag {x b : Code} {a1 ay : Ann} {ks : List Nat} {base : Nat} (hfl : Nat.ble C.fl base = true) :
    exec2 C x b a1 (.keep ks base ay) t h K = exec C x a1 t h (canonK C.fx (fun t h => exec C b ay t h K) ks base (fun _ _ _ => none) (fun _ _ => none)) := by
  unfold exec2
  congr 1
  funext c t h
  cases c with
  | normal => exact exec_keep b hfl
  | _ => rfl
end
/-! ### Slices that begin nil -/
section
variable {R : Type} {C : Ctx} {t : Slots} {h : List O} {K : Ctl → Slots → List O → Option R}
theorem exec_objc (c : Code) {o j : Nat} {e : TypeId} {s : Sh} {a : Ann} (vs : List V) {h' : List O} (ho : getO h o = .cells vs) (hj : vs[j]? = some .nil) (hs : Nat.ble 1 s.n = true) (hh : h.set o (.cells (vs.set j (.slc h.length 0))) ++ [.row false 0 e s []] = h') :
    exec C c (.objc o j e s a) t h K = exec C c a t h' K := by
  subst hh
  cases c <;> simp only [exec, prep, ho, hj, hs, cond_true]
theorem exec_obj (c : Code) {i : Nat} {e : TypeId} {s : Sh} {a : Ann} {t' : Slots} {h' : List O} (hi : look t i = .nil) (hs : Nat.ble 1 s.n = true) (ht : (i, .slc h.length 0) :: t = t') (hh : h ++ [.row false 0 e s []] = h') :
    exec C c (.obj i e s a) t h K = exec C c a t' h' K := by
  subst ht; subst hh
  cases c <;> simp only [exec, prep, hi, hs, cond_true]
end
/-! ### Iterators in a table -/
structure IEnt where
  g : Nat
  run : List V → List O → Option ItPkg
def findI : List IEnt → Nat → List V → List O → Option ItPkg
  | [], _, _, _ => none
  | en :: r, g, caps, h => bif Nat.beq en.g g then en.run caps h else findI r g caps h
def mkI (g : Nat) (ks : List Kd) (s : Sh) (xs : Dens ks → List s.den) : IEnt :=
  { g := g, run := fun caps _ => match decL true [] ks caps with | none => none | some x => some { α := s.den, xs := xs x, v := fun y => encL s y } }
/-- The same where an item is one value of some cells. -/
def mkIa (g : Nat) (ks : List Kd) (s : Sh) (ok : Dens ks → Bool) (xs : Dens ks → List s.den) : IEnt :=
  { g := g, run := fun caps _ => match decL true [] ks caps with | none => none | some x => bif ok x then some { α := s.den, xs := xs x, v := fun y => [.agg (encL s y)] } else none }
def itPa (s : Sh) (xs : List s.den) : ItPkg := { α := s.den, xs := xs, v := fun y => [.agg (encL s y)] }
def SpecIa (P : Program) (gs : List (Nat × List Value)) (g : Nat) (ks : List Kd) (s : Sh) (ok : Dens ks → Bool) (xs : Dens ks → List s.den) : Prop :=
  ∀ (M : Nat → Prop) (w : World) (x : Dens ks) (vs : List Value), ok x = true → (∀ b, M b → b < w.heap.size) → GW gs w → (∀ p ∈ gs, ¬ M p.1) → RVs w M [] σ0 (kvals ks x) vs → ∀ r n,
    IterAt2 (WF r) n P g vs.toArray ((xs x).map fun y => #[.agg ((encL s y).map sv0).toArray]) M w
def itP (s : Sh) (xs : List s.den) : ItPkg := { α := s.den, xs := xs, v := fun y => encL s y }
/-- What an iterator goes through, in its order; what it holds lies as it lay between two rounds. -/
def SpecI (P : Program) (gs : List (Nat × List Value)) (g : Nat) (ks : List Kd) (s : Sh) (xs : Dens ks → List s.den) : Prop :=
  ∀ (M : Nat → Prop) (w : World) (x : Dens ks) (vs : List Value), GW gs w → (∀ p ∈ gs, ¬ M p.1) → RVs w M [] σ0 (kvals ks x) vs → ∀ r n,
    IterAt (WF r) n P g vs.toArray ((xs x).map fun y => ((encL s y).map svOf).toArray) (fun X Y => ∀ b, b < w.heap.size → ¬ M b → Y.heap[b]? = X.heap[b]?) w
structure IEntOk (P : Program) (gs : List (Nat × List Value)) (en : IEnt) : Prop where
  fn : ∀ caps h p, en.run caps h = some p → ∃ f c, P.funcs[tgtF en.g]? = some f ∧ (f.name == "runtime.NumGoroutine") = false ∧ f.body = some c
  sv : ∀ caps h p, en.run caps h = some p → ∀ x, (p.v x).all isSv = true
  it : ∀ caps h p, en.run caps h = some p → ∀ w0 A M0 w σ, Gl gs w0 A → Rep w0 A M0 w h σ → ∀ vs, RVs w (mutb M0 h σ) h σ caps vs → ∀ r n,
    IterAt2 (WF r) n P en.g vs.toArray (p.xs.map fun x => ((p.v x).map svOf).toArray) (own h σ) w
theorem findI_ok {es : List IEnt} {g : Nat} {caps : List V} {h : List O} {p : ItPkg} (hf : findI es g caps h = some p) : ∃ en ∈ es, en.g = g ∧ en.run caps h = some p := by
  induction es with
  | nil => cases hf
  | cons en r ih =>
    simp only [findI] at hf
    cases hb : Nat.beq en.g g with
    | true => rw [hb] at hf; exact ⟨en, by simp, Nat.eq_of_beq_eq_true hb, hf⟩
    | false =>
      rw [hb] at hf
      obtain ⟨en', h1, h2⟩ := ih hf
      exact ⟨en', by simp [h1], h2⟩
theorem iOk_of {P : Program} {gs : List (Nat × List Value)} {C : Ctx} {es : List IEnt} (hgs : C.gs = gs) (hG : C.I = findI es) (he : ∀ en ∈ es, IEntOk P gs en) : IOk P C where
  fn := fun g caps h p hp => by rw [hG] at hp; obtain ⟨en, h1, rfl, h3⟩ := findI_ok hp; exact (he en h1).fn caps h p h3
  sv := fun g caps h p hp => by rw [hG] at hp; obtain ⟨en, h1, rfl, h3⟩ := findI_ok hp; exact (he en h1).sv caps h p h3
  it := fun g caps h p hp => by rw [hgs]; rw [hG] at hp; obtain ⟨en, h1, rfl, h3⟩ := findI_ok hp; exact (he en h1).it caps h p h3
theorem encL_sv : (s : Sh) → s.flat = true → (x : s.den) → (encL s x).all isSv = true
  | .int _, _, _ => rfl
  | .bool, _, _ => rfl
  | .unit, _, _ => rfl
  | .sl _, hs, _ => by cases hs
  | .pair a b, hs, x => by
    simp only [Sh.flat, Bool.and_eq_true] at hs
    simp only [encL, List.all_append, encL_sv a hs.1, encL_sv b hs.2, Bool.and_self]
theorem IterAt.mono {F : Fence} {n : Nat} {P : Program} {g : Nat} {lb : Array Value} {xs : List (Array Value)} {Kp Kp' : World → World → Prop} {w : World} (h : IterAt F n P g lb xs Kp w) (hk : ∀ X Y, Kp' X Y → Kp X Y) : IterAt F n P g lb xs Kp' w :=
  fun l J Jx W hb h1 h2 h3 h4 => h l J Jx W hb h1 h2 (fun i args W1 hx hJ => by
    obtain ⟨o, tmps, c, w2, hr, hq⟩ := h3 i args W1 hx hJ
    refine ⟨o, tmps, c, w2, hr, ?_⟩
    refine hq.mono ?_
    rintro e W' (⟨h5, h6, h7⟩ | h5)
    · exact .inl ⟨h5, h6, hk _ _ h7⟩
    · exact .inr h5) h4
theorem entI {P : Program} {gs : List (Nat × List Value)} {g : Nat} {ks : List Kd} {s : Sh} {xs : Dens ks → List s.den} (hb : HasBody P (tgtF g)) (hs : s.flat = true) (hS : SpecI P gs g ks s xs) : IEntOk P gs (mkI g ks s xs) where
  fn := fun _ _ _ _ => hb
  sv := fun caps h p hp x => by
    simp only [mkI] at hp
    split at hp
    · cases hp
    · cases hp; exact encL_sv s hs x
  it := fun caps h p hp w0 A M0 w σ hgl R vs hv r n => by
    simp only [mkI] at hp
    split at hp
    · cases hp
    · rename_i x hx
      cases hp
      have hv' := decL_sound (h' := []) (σ' := σ0) (hm := []) R (fun o => .inl (by simp [getO])) (Mt := own h σ) (fun b hb => .inr hb) (fun hh => by cases hh) ks hv (fun _ _ _ _ => refOk_nil) hx
      refine IterAt.to2 (hS (own h σ) w x vs (hgl.now R) (fun p hp ho => ?_) hv' r n)
      rcases R.inA p.1 ho with h' | h'
      · exact hgl.out p hp h'
      · have := (hgl.at_ p hp).1; omega
theorem encL_is0 : (s : Sh) → s.flat = true → (x : s.den) → (encL s x).all is0 = true
  | .int _, _, _ => rfl
  | .bool, _, _ => rfl
  | .unit, _, _ => rfl
  | .sl _, hs, _ => by cases hs
  | .pair a b, hs, x => by
    simp only [Sh.flat, Bool.and_eq_true] at hs
    simp only [encL, List.all_append, encL_is0 a hs.1, encL_is0 b hs.2, Bool.and_self]
theorem entIa {P : Program} {gs : List (Nat × List Value)} {g : Nat} {ks : List Kd} {s : Sh} {ok : Dens ks → Bool} {xs : Dens ks → List s.den} (hb : HasBody P (tgtF g)) (hs : s.flat = true) (hS : SpecIa P gs g ks s ok xs) : IEntOk P gs (mkIa g ks s ok xs) where
  fn := fun _ _ _ _ => hb
  sv := fun caps h p hp x => by
    simp only [mkIa] at hp
    split at hp
    · cases hp
    · rename_i x' _
      have hok : ok x' = true := by
        cases h : ok x' with
        | true => rfl
        | false => rw [h] at hp; cases hp
      rw [hok] at hp
      cases hp
      simp only [List.all_cons, List.all_nil, Bool.and_true, isSv]
      exact encL_is0 s hs x
  it := fun caps h p hp w0 A M0 w σ hgl R vs hv r n => by
    simp only [mkIa] at hp
    split at hp
    · cases hp
    · rename_i x hx
      have hok : ok x = true := by
        cases h : ok x with
        | true => rfl
        | false => rw [h] at hp; cases hp
      rw [hok] at hp
      cases hp
      have hv' := decL_sound (h' := []) (σ' := σ0) (hm := []) R (fun o => .inl (by simp [getO])) (Mt := own h σ) (fun b hb => .inr hb) (fun hh => by cases hh) ks hv (fun _ _ _ _ => refOk_nil) hx
      refine hS (own h σ) w x vs hok (fun b hb => R.lt hb) (hgl.now R) (fun p hp ho => ?_) hv' r n
      rcases R.inA p.1 ho with h' | h'
      · exact hgl.out p hp h'
      · have := (hgl.at_ p hp).1; omega
end Go.Abs
namespace Go.Abs
open Go.RowKit
theorem RC.one1 {w : World} {M : Nat → Prop} : (s : Sh) → {x : s.den} → {cs : List Value} → RC w M s x cs → ∀ c ∈ cs, c.oneCell' = true
  | .int _, _, _, h => by simp only [RC] at h; subst h; intro c hc; simp at hc; subst hc; rfl
  | .bool, _, _, h => by simp only [RC] at h; subst h; intro c hc; simp at hc; subst hc; rfl
  | .unit, _, _, h => by simp only [RC] at h; subst h; intro c hc; cases hc
  | .sl _, _, _, h => by simp only [RC] at h; obtain ⟨a, cap, rfl, _⟩ := h; intro c hc; simp at hc; subst hc; rfl
  | .pair a b, _, _, h => by
    simp only [RC] at h
    obtain ⟨c, d, rfl, h1, h2⟩ := h
    intro v hv
    rcases List.mem_append.1 hv with hv | hv
    · exact RC.one1 a h1 v hv
    · exact RC.one1 b h2 v hv
theorem RC.encL {w : World} {M : Nat → Prop} {h : List O} {σ : Nat → Loc} : (s : Sh) → {x : s.den} → {cs : List Value} → RC w M s x cs → RVs w M h σ (encL s x) cs
  | .int _, _, _, hc => by simp only [RC] at hc; subst hc; simp only [Abs.encL, RVs, RV]; exact ⟨_, _, rfl, rfl, rfl⟩
  | .bool, _, _, hc => by simp only [RC] at hc; subst hc; simp only [Abs.encL, RVs, RV]; exact ⟨_, _, rfl, rfl, rfl⟩
  | .unit, _, _, hc => by simp only [RC] at hc; subst hc; simp only [Abs.encL, RVs]
  | .sl s, x, _, hc => by
    have hc' := hc
    simp only [RC] at hc
    obtain ⟨a, cap, rfl, _⟩ := hc
    simp only [Abs.encL, RVs, RV]
    exact ⟨_, _, rfl, hc', rfl⟩
  | .pair a b, x, _, hc => by
    simp only [RC] at hc
    obtain ⟨c, d, rfl, h1, h2⟩ := hc
    simp only [Abs.encL]
    exact (RC.encL a h1).append (RC.encL b h2)
/-- **A function that hands back a closure with a box of its own**, that nobody else knows. -/
def SpecB (P : Program) (gs : List (Nat × List Value)) (f : Nat) (ks : List Kd) (g : Nat) (s : Sh) (D : Dens ks → Option s.den) : Prop :=
  ∀ (M : Nat → Prop) (w : World) (x : Dens ks) (y : s.den) (vs : List Value), (∀ b, M b → b < w.heap.size) → GW gs w → RVs w M [] σ0 (kvals ks x) vs → D x = some y →
    Calls P f vs.toArray w fun e w' => ∃ v, e = .returned v ∧ Below w.heap.size w w' ∧ RV w' M [] σ0 (.clo g [.fptr s y]) v
def finB (g : Nat) (s : Sh) (v : V) (h : List O) : Option s.den :=
  match v with
  | .clo g' [.ptr 0 0] => bif Nat.beq g g' then (match cvH [] 1 h with | [.cells vs] => decAll [] s vs | _ => none) else none
  | _ => none
section
variable {P : Program} {w w' : World} {M : Nat → Prop} {h : List O} {σ : Nat → Loc}
theorem specB_of {gs : List (Nat × List Value)} {f : Nat} {fn : Func} {c : Code} {ks : List Kd} {g : Nat} {s : Sh} {D : Dens ks → Option s.den} (hf : P.funcs[f]? = some fn) (hb : fn.body = some c) (hm : P.follows .mixedOrders = true) (hlen : ks.length ≤ fn.ntmps)
    (hex : ∀ x y, D x = some y → ∃ C ann, CtxOk P gs fn C ∧ exec C c ann (argS 0 (kvals ks x)) [] (finK C fn.results.toList (finB g s)) = some y) : SpecB P gs f ks g s D := by
  intro M w x y vs hM hgw hv hD
  obtain ⟨C, ann, hC, hx⟩ := hex x y hD
  refine (call_sound hf hb hC.types hC.calls hC.its (hC.gs ▸ hgw.gl) hm hC.n hx (by rw [kvals_length]; exact hlen) (rep_nil w hM) (RVs.less (fun b hb => mutb_nil hb) hv)).mono ?_
  rintro e' w' ⟨v, u, h', σ', rfl, hfin, R, hr⟩
  unfold finB at hfin
  split at hfin
  · rename_i g'
    obtain ⟨hg, hfin2⟩ := cond_some hfin
    clear hfin
    have := Nat.eq_of_beq_eq_true hg
    subst this
    split at hfin2
    · rename_i us eh
      have R0 := cv_rep (fx := []) (base := 1) R
      have hr0 := cv_rv (fx := []) (base := 1) R hr
      have ev : cvV [] 1 h' (.clo g [.ptr 0 0]) = .clo g [.ptr 0 0] := rfl
      rw [eh] at R0 hr0
      rw [ev] at hr0
      simp only [RV, RVs] at hr0
      obtain ⟨ws, rfl, z, zs, hz, ⟨vs', b', hg0, ha, rfl⟩, rfl⟩ := hr0
      have ro := R0.obj 0
      have hg1 : getO [O.cells us] 0 = .cells us := rfl
      rw [hg1] at ro
      obtain ⟨b, ty, cs, hb, hcs, hrs, _⟩ := ro
      rw [hb] at ha
      have hbb := Option.some.inj ha
      subst hbb
      have hown : own [O.cells us] σ' b := ⟨0, by rw [hg1]; trivial, hb⟩
      refine ⟨_, rfl, R.fr.below, ?_⟩
      simp only [RV, RVs]
      refine ⟨ws, rfl, _, _, hz, ⟨b, 0, cs.toList, rfl, (Array.getElem?_eq_some_iff.1 hcs).1, fun hm => ?_, fun j v hj => ?_, ?_⟩, rfl⟩
      · have := hM b hm
        have := (R0.inA b hown).resolve_left id
        omega
      · rw [Nat.zero_add]
        rw [Array.getElem?_toList] at hj
        simp [World.cell?, hcs, hj]
      · exact decAll_sound R0 (hm := []) (fun o => .inl (by simp [getO])) (fun b' hb' => .inl hb') hrs (fun u _ o ver _ ver' e s xs hg => by simp [getO] at hg) hfin2
    · cases hfin2
  · cases hfin
def mkB (f : Nat) (ks : List Kd) (g : Nat) (s : Sh) (D : Dens ks → Option s.den) : Ent :=
  { f := f, run := fun args h => match decL true (setAll (frzL h (cellsOf args)) h) ks args with
    | none => none
    | some x => some { α := s.den, r := D x, v := fun y => .clo g [.fptr s y], h := some fun _ h => setAll (frzL h (cellsOf args)) h } }
theorem clo_any {h' : List O} {σ' : Nat → Loc} {g : Nat} {s : Sh} {y : s.den} {v : Value} (hv : RV w M h σ (.clo g [.fptr s y]) v) : RV w M h' σ' (.clo g [.fptr s y]) v := by
  simp only [RV, RVs] at hv ⊢
  exact hv
theorem entB {gs : List (Nat × List Value)} {f : Nat} {ks : List Kd} {g : Nat} {s : Sh} {D : Dens ks → Option s.den} (hb : HasBody P f) (hS : SpecB P gs f ks g s D) : EntOk P gs (mkB f ks g s D) where
  fn := fun _ _ _ _ => hb
  rd := fun args h hm p y hsub hp hh => by
    simp only [mkB] at hp
    split at hp
    · cases hp
    · cases hp; cases hh
  wr := fun args h p u y hp hu hr w0 A M0 w σ hgl R vs hv => by
    simp only [mkB] at hp
    split at hp
    · cases hp
    · rename_i x hx
      cases hp
      cases hu
      obtain ⟨nf, hv'⟩ := frz_args R hv hx
      refine (hS _ w x y vs (fun b hb => nf.rep.mlt hb) (hgl.now R) hv' hr).mono ?_
      rintro e' w' ⟨v, rfl, gb, hrv⟩
      have nx := Next.grow nf.rep gb
      exact ⟨v, σ, rfl, nf.trans nx R, clo_any hrv⟩
end
end Go.Abs
