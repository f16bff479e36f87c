/- Operations that leave the objects as they are: what the abstract machine says of them is so. -/
import Derived.Test.YtdbjfdjpmoackaaDoorAbsTy
namespace Go.Abs
open Go.RowKit

/-- The widest fence, in a round or not. -/
def WF (r : Option Nat) : Fence := { Fence.wide with round := r }
theorem callsIn_WF {r : Option Nat} {n : Nat} {P : Program} {f : FuncId} {args : Array Value} {w : World} {R : Ending → World → Prop} (h : Calls P f args w R) : CallsIn (WF r) n P f args w R :=
  (callsIn_wide (n := n)).2 h
def Does (r : Option Nat) (n : Nat) (P : Program) (o : Oper) (a : Act) (w : World) (Post : Value → World → Prop) : Prop :=
  ∀ (next : Act → World → Prop) (Q : Exit → Act → World → Prop), (∀ x w', Post x w' → next (a.put o.dst x) w') → o.wpIn (WF r) n P a w next Q
theorem Does.mono {r : Option Nat} {n : Nat} {P : Program} {o : Oper} {a : Act} {w : World} {Post Post' : Value → World → Prop} (h : Does r n P o a w Post) (hp : ∀ x w', Post x w' → Post' x w') : Does r n P o a w Post' :=
  fun next Q hn => h next Q fun x w' hx => hn x w' (hp x w' hx)
theorem does_value {r : Option Nat} {n : Nat} {P : Program} {o : Oper} {a : Act} {w w' : World} {Post : Value → World → Prop} {x : Value} (hd : ∀ c, o.op ≠ .defer c)
    (hrun : (execOp a.eval o).run P w = .ok (.value x) w') (hp : Post x w') : Does r n P o a w Post := by
  intro next Q hn
  refine ⟨fun _ _ => trivial, ?_⟩
  rw [Oper.semAt_eq _ _ _ hd, hrun]
  exact hn x w' hp
theorem does_skip {r : Option Nat} {n : Nat} {P : Program} {o : Oper} {a : Act} {w w' : World} {Post : Value → World → Prop} (hd : ∀ c, o.op ≠ .defer c)
    (hrun : (execOp a.eval o).run P w = .ok .skip w') (hp : Post undef w') : Does r n P o a w Post := by
  intro next Q hn
  refine ⟨fun _ _ => trivial, ?_⟩
  rw [Oper.semAt_eq _ _ _ hd, hrun]
  exact hn undef w' hp
/-- Cells that stand from the beginning, in nobody's hand. -/
structure Gl (gs : List (Nat × List Value)) (w0 : World) (A : Nat → Prop) : Prop where
  at_ : ∀ p ∈ gs, p.1 < w0.heap.size ∧ CellsAt w0 p.1 0 p.2
  out : ∀ p ∈ gs, ¬ A p.1
abbrev GW (gs : List (Nat × List Value)) (w : World) : Prop := ∀ p ∈ gs, p.1 < w.heap.size ∧ CellsAt w p.1 0 p.2
theorem GW.gl {gs : List (Nat × List Value)} {w : World} (h : GW gs w) : Gl gs w (fun _ => False) := ⟨h, fun _ _ h => h⟩
theorem Gl.now {gs : List (Nat × List Value)} {w0 w : World} {A M0 : Nat → Prop} {h : List O} {σ : Nat → Loc} (g : Gl gs w0 A) (R : Rep w0 A M0 w h σ) : GW gs w := fun p hp => by
  obtain ⟨h1, h2⟩ := g.at_ p hp
  exact ⟨Nat.lt_of_lt_of_le h1 R.fr.size, fun j v hj => (World.cell?_of_block (w := w0) (R.fr.block p.1 h1 (g.out p hp))).trans (h2 j v hj)⟩
theorem GW.below {gs : List (Nat × List Value)} {w w' : World} (g : GW gs w) (b : Below w.heap.size w w') : GW gs w' := fun p hp => by
  obtain ⟨h1, h2⟩ := g p hp
  exact ⟨Nat.lt_of_lt_of_le h1 b.size, fun j v hj => (World.cell?_of_block (w := w) (b.block p.1 h1)).trans (h2 j v hj)⟩
/-- The contracts that calls go by. -/
structure GOk (P : Program) (C : Ctx) : Prop where
  fn : ∀ g args h p, C.G g args h = some p → ∃ f c, P.funcs[g]? = some f ∧ (f.name == "runtime.NumGoroutine") = false ∧ f.body = some c
  rd : ∀ g args h hm p y, Sub hm h → C.G g args hm = some p → p.h = none → p.r = some y → ∀ w0 A M0 w σ, Gl C.gs w0 A → Rep w0 A M0 w h σ → ∀ vs, RVs w (mutb M0 h σ) h σ args vs →
    Calls P g vs.toArray w fun e w' => ∃ x, e = .returned x ∧ Below w.heap.size w w' ∧ RV w' (mutb M0 h σ) h σ (p.v y) x
  wr : ∀ g args h p u y, C.G g args h = some p → p.h = some u → p.r = some y → ∀ w0 A M0 w σ, Gl C.gs w0 A → Rep w0 A M0 w h σ → ∀ vs, RVs w (mutb M0 h σ) h σ args vs →
    Calls P g vs.toArray w fun e w' => ∃ x σ', e = .returned x ∧ Next w0 A M0 w h σ w' (u y h) σ' ∧ RV w' (mutb M0 (u y h) σ') (u y h) σ' (p.v y) x
section
variable {P : Program} {C : Ctx} {r : Option Nat} {n : Nat} {w0 : World} {A M0 : Nat → Prop} {w : World} {h hm : List O} {σ : Nat → Loc} {t : Nat → V} {a : Act} {o : Oper} {ρ : Type}
/-- What is known behind an operation that leaves the objects as they are. -/
def PostR (M0 : Nat → Prop) (w : World) (h : List O) (σ : Nat → Loc) (v : V) (x : Value) (w' : World) : Prop := Below w.heap.size w w' ∧ RV w' (mutb M0 h σ) h σ v x
theorem does_same {v : V} {x : Value} (hd : ∀ c, o.op ≠ .defer c) (hrun : (execOp a.eval o).run P w = .ok (.value x) w) (hv : RV w (mutb M0 h σ) h σ v x) : Does r n P o a w (PostR M0 w h σ v) :=
  does_value hd hrun ⟨Below.refl _ _, hv⟩
theorem constV_sound (v : Value) : RV w (mutb M0 h σ) h σ (constV v) v := by
  unfold constV
  split <;> simp only [RV]
theorem ev_sound (hrt : ∀ i, RV w (mutb M0 h σ) h σ (t i) (a.tmps.getD i undef)) (x : Operand) : RV w (mutb M0 h σ) h σ (ev t x) (a.eval x) := by
  cases x with
  | tmp i => exact hrt i
  | const v => exact constV_sound v
  | global g => simp only [ev, RV]
  | func f =>
    simp only [ev]
    cases hb : Nat.blt f 1000000 with
    | true =>
      simp only [cond_true, RV]
      exact ⟨#[], by simp only [cloV, tgtF, fstF, capF, hb, cond_true]; rfl, rfl⟩
    | false => simp only [cond_false, RV]
theorem evs_sound (hrt : ∀ i, RV w (mutb M0 h σ) h σ (t i) (a.tmps.getD i undef)) (xs : List Operand) : RVs w (mutb M0 h σ) h σ (xs.map (ev t)) (xs.map a.eval) := by
  induction xs with
  | nil => rfl
  | cons x xs ih => exact ⟨_, _, rfl, ev_sound hrt x, ih⟩
theorem rv_int {M : Nat → Prop} {k : IntKind} {m : Int} : RV w M h σ (.int k m) (.int k m) := by simp only [RV]
theorem rv_bool {M : Nat → Prop} {b : Bool} : RV w M h σ (.bool b) (.bool b) := by simp only [RV]
theorem binInt_sound {op : BinOp} {k k' : IntKind} {x y : Int} {ty : TypeId} {K : V → Option ρ} {res : ρ} (hk : isShift op = true ∨ k = k') (hb : binInt op k x y K = some res) :
    ∃ v val, K v = some res ∧ (binOp op ty (.int k x) (.int k' y)).run P w = .ok val w ∧ RV w (mutb M0 h σ) h σ v val := by
  have hdiv : ∀ {e : V}, (bif (y == 0) then none else K e) = some res → y ≠ 0 ∧ K e = some res := fun {e} hh => by
    cases hy : (y == 0) with
    | true => rw [hy] at hh; cases hh
    | false => rw [hy] at hh; exact ⟨by simpa using hy, hh⟩
  have hsh : ∀ {e : V}, (bif decide (y < 0) then none else K e) = some res → ¬ y < 0 ∧ K e = some res := fun {e} hh => by
    by_cases hy : y < 0
    · simp [hy] at hh
    · simp [hy] at hh; exact ⟨hy, hh⟩
  have hne : ∀ {a b : Sem Value}, (if k ≠ k then a else b) = b := fun {a b} => if_neg (by simp)
  cases op
  case shl => obtain ⟨h1, h2⟩ := hsh hb; exact ⟨_, _, h2, by simp only [binOp, Op.shift, h1, if_false]; rfl, rv_int⟩
  case shr => obtain ⟨h1, h2⟩ := hsh hb; exact ⟨_, _, h2, by simp only [binOp, Op.shift, h1, if_false]; rfl, rv_int⟩
  case quo => 
    obtain ⟨h1, h2⟩ := hdiv hb
    obtain rfl := hk.resolve_left (by simp [isShift])
    exact ⟨_, _, h2, by simp only [binOp, hne, Op.intDiv, h1, if_false]; rfl, rv_int⟩
  case rem => 
    obtain ⟨h1, h2⟩ := hdiv hb
    obtain rfl := hk.resolve_left (by simp [isShift])
    exact ⟨_, _, h2, by simp only [binOp, hne, Op.intDiv, h1, if_false]; rfl, rv_int⟩
  all_goals
    obtain rfl := hk.resolve_left (by simp [isShift])
    first
      | exact ⟨_, _, hb, by simp only [binOp, hne]; rfl, rv_int⟩
      | exact ⟨_, _, hb, by simp only [binOp, hne]; rfl, rv_bool⟩
theorem eqGuard_int {op : BinOp} {ty : TypeId} {x y : Operand} {k k' : IntKind} {m q : Int} : (eqGuard op ty x y (.int k m) (.int k' q)).run P w = .ok () w := by
  cases op <;> simp [eqGuard]
theorem eqGuard_bool {op : BinOp} {ty : TypeId} {x y : Operand} {b c : Bool} : (eqGuard op ty x y (.bool b) (.bool c)).run P w = .ok () w := by
  cases op <;> simp [eqGuard]
theorem run_equalIn_bool (d : Nat) {ty : TypeId} (b c : Bool) (hu : P.underlying ty = some .bool) : (Op.equalIn (d + 1) ty (.bool b) (.bool c)).run P w = .ok (b == c) w := by
  simp [Op.equalIn, run_underlying hu]
theorem run_equal_bool {ty : TypeId} (b c : Bool) (hu : P.underlying ty = some .bool) : (Op.equal ty (.bool b) (.bool c)).run P w = .ok (b == c) w := run_equalIn_bool 9999 b c hu
theorem binOpK_sound (hT : TOk P C.T) {op : BinOp} {ty : TypeId} {x y : Operand} {u v : V} {p q : Value} (hp : RV w (mutb M0 h σ) h σ u p) (hq : RV w (mutb M0 h σ) h σ v q) {K : V → Option ρ} {res : ρ} (hb : binOpK C op ty u v K = some res) :
    ∃ v val, K v = some res ∧ (do eqGuard op ty x y p q; binOp op ty p q : Sem Value).run P w = .ok val w ∧ RV w (mutb M0 h σ) h σ v val := by
  cases u with
  | int k m =>
    cases v with
    | int k' m' =>
      simp only [RV] at hp hq
      subst hp; subst hq
      simp only [binOpK] at hb
      have hres : ∃ v val, K v = some res ∧ (binOp op ty (.int k m) (.int k' m')).run P w = .ok val w ∧ RV w (mutb M0 h σ) h σ v val := by
        cases hs : isShift op with
        | true => rw [hs] at hb; exact binInt_sound (.inl hs) hb
        | false =>
          rw [hs] at hb
          simp only [cond_false] at hb
          split at hb
          · exact binInt_sound (.inr ‹_›) hb
          · cases hb
      obtain ⟨v, val, h1, h2, h3⟩ := hres
      exact ⟨v, val, h1, by rw [Sem.run_bind, eqGuard_int, Result.andThen_ok, h2], h3⟩
    | _ => simp [binOpK] at hb
  | bool b =>
    cases v with
    | bool c =>
      simp only [RV] at hp hq
      subst hp; subst hq
      simp only [binOpK] at hb
      cases hi : isBoolT C.T ty with
      | false => rw [hi] at hb; cases hb
      | true =>
        rw [hi] at hb
        simp only [cond_true] at hb
        have hu : P.underlying ty = some .bool := by
          unfold isBoolT at hi
          split at hi
          · rename_i te hte
            split at hi
            · rename_i hd
              obtain ⟨i, z, hi'⟩ := hT.get hte
              obtain ⟨u, h1, h2⟩ := hi'.und
              rw [hd] at h2; subst h2; exact h1
            · cases hi
          · cases hi
        cases op <;> simp only [binBool, reduceCtorEq] at hb
        · exact ⟨_, _, hb, by rw [Sem.run_bind, eqGuard_bool, Result.andThen_ok]; simp only [binOp, Sem.run_bind, run_equal_bool b c hu, Result.andThen_ok]; rfl, rv_bool⟩
        · exact ⟨_, _, hb, by rw [Sem.run_bind, eqGuard_bool, Result.andThen_ok]; simp only [binOp, Sem.run_bind, run_equal_bool b c hu, Result.andThen_ok]; rfl, rv_bool⟩
    | _ => simp [binOpK] at hb
  | _ => simp [binOpK] at hb
theorem unOpK_sound {op : UnOp} {u : V} {p : Value} (hp : RV w (mutb M0 h σ) h σ u p) {K : V → Option ρ} {res : ρ} (hb : unOpK op u K = some res) :
    ∃ v val, K v = some res ∧ (Op.unary op p).run P w = .ok val w ∧ RV w (mutb M0 h σ) h σ v val := by
  cases u with
  | int k m =>
    simp only [RV] at hp; subst hp
    cases op <;> simp only [unOpK, reduceCtorEq] at hb
    · exact ⟨_, _, hb, rfl, rv_int⟩
    · exact ⟨_, _, hb, rfl, rv_int⟩
  | bool b =>
    simp only [RV] at hp; subst hp
    cases op <;> simp only [unOpK, reduceCtorEq] at hb
    exact ⟨_, _, hb, rfl, rv_bool⟩
  | _ => cases op <;> simp [unOpK] at hb
theorem loadK_sound (hT : TOk P C.T) (R : Rep w0 A M0 w h σ) (hs : Sub hm h) {ty : TypeId} {u : V} {p : Value} (hp : RV w (mutb M0 h σ) h σ u p) {K : V → Option ρ} {res : ρ} (hb : loadK C hm ty u K = some res) :
    ∃ v val, K v = some res ∧ (Instr.loadAt ty p).run P w = .ok val w ∧ RV w (mutb M0 h σ) h σ v val := by
  unfold loadK at hb
  split at hb
  · cases hb
  · rename_i te hte
    split at hb
    · cases hb
    · rename_i q hq
      obtain ⟨vs, off⟩ := q
      cases hok : okPart te.isAgg te.size off vs.length with
      | false => rw [hok] at hb; cases hb
      | true =>
        rw [hok] at hb
        simp only [cond_true] at hb
        obtain ⟨b, q, cs, rfl, hc, hr, h1⟩ := deref_sound R hs hp hq
        obtain ⟨i, z, hi⟩ := hT.get hte
        refine ⟨_, _, hb, ?_, partV_sound hr h1 hok⟩
        rw [hr.length] at hok
        simp [Instr.loadAt, Instr.sureAddr, run_loadVar_at hi hc hok]
theorem sliceElem_sound (hT : TOk P C.T) {ty e : TypeId} {ee : TE} (hs : sliceElem C.T ty = some (e, ee)) : P.underlying ty = some (.slice e) ∧ ∃ i z, TeIs P e ee i z := by
  unfold sliceElem at hs
  split at hs
  · cases hs
  · rename_i te hte
    split at hs
    · rename_i e' hd
      split at hs
      · rename_i ee' hee
        simp only [Option.some.injEq, Prod.mk.injEq] at hs
        obtain ⟨rfl, rfl⟩ := hs
        obtain ⟨i, z, hi⟩ := hT.get hte
        obtain ⟨u, h1, h2⟩ := hi.und
        rw [hd] at h2; subst h2
        exact ⟨h1, hT.get hee⟩
      · cases hs
    · cases hs
theorem field_sound (hT : TOk P C.T) {ty : TypeId} {te : TE} {fs : List (Nat × TypeId)} (ht : tlook C.T ty = some te) (hd : te.d = .struct fs) :
    ∃ gs : Array Field, P.underlying ty = some (.struct gs) ∧ ∀ (f off : Nat) (ft : TypeId), fs[f]? = some (off, ft) → ∃ g : Field, gs[f]? = some g ∧ g.offset = off ∧ g.type = ft := by
  obtain ⟨i, z, hi⟩ := hT.get ht
  obtain ⟨u, h1, h2⟩ := hi.und
  rw [hd] at h2
  obtain ⟨gs, rfl, h3, _⟩ := h2
  refine ⟨gs, h1, fun f off ft hf => ?_⟩
  rw [← h3, List.getElem?_map] at hf
  cases hg : gs.toList[f]? with
  | none => rw [hg] at hf; cases hf
  | some g =>
    rw [hg] at hf
    simp only [Option.map_some, Option.some.injEq, Prod.mk.injEq] at hf
    exact ⟨g, by simpa using hg, hf.1, hf.2⟩
theorem subAt_sound {M : Nat → Prop} : (s : Sh) → {x : s.den} → {cs : List Value} → RC w M s x cs → {off size : Nat} → {y : Σ s' : Sh, s'.den} → subAt s x off size = some y →
    ∃ ds, RC w M y.1 y.2 ds ∧ (∀ j v, ds[j]? = some v → cs[off + j]? = some v)
  | .int k, x, cs, hr, off, size, y, hs => by
    simp only [subAt] at hs
    cases hc : (Nat.beq off 0 && Nat.beq size 1) with
    | false => rw [hc] at hs; cases hs
    | true =>
      rw [hc] at hs; simp only [cond_true, Option.some.injEq] at hs; subst hs
      simp only [Bool.and_eq_true] at hc
      have := Nat.eq_of_beq_eq_true hc.1
      subst this
      exact ⟨cs, hr, fun j v hj => by rwa [Nat.zero_add]⟩
  | .bool, x, cs, hr, off, size, y, hs => by
    simp only [subAt] at hs
    cases hc : (Nat.beq off 0 && Nat.beq size 1) with
    | false => rw [hc] at hs; cases hs
    | true =>
      rw [hc] at hs; simp only [cond_true, Option.some.injEq] at hs; subst hs
      simp only [Bool.and_eq_true] at hc
      have := Nat.eq_of_beq_eq_true hc.1
      subst this
      exact ⟨cs, hr, fun j v hj => by rwa [Nat.zero_add]⟩
  | .sl s, x, cs, hr, off, size, y, hs => by
    simp only [subAt] at hs
    cases hc : (Nat.beq off 0 && Nat.beq size 1) with
    | false => rw [hc] at hs; cases hs
    | true =>
      rw [hc] at hs; simp only [cond_true, Option.some.injEq] at hs; subst hs
      simp only [Bool.and_eq_true] at hc
      have := Nat.eq_of_beq_eq_true hc.1
      subst this
      exact ⟨cs, hr, fun j v hj => by rwa [Nat.zero_add]⟩
  | .unit, x, cs, hr, off, size, y, hs => by simp [subAt] at hs
  | .pair a b, x, cs, hr, off, size, y, hs => by
    simp only [subAt] at hs
    cases hc : (Nat.beq off 0 && Nat.beq size (a.n + b.n)) with
    | true =>
      rw [hc] at hs; simp only [cond_true, Option.some.injEq] at hs; subst hs
      simp only [Bool.and_eq_true] at hc
      have := Nat.eq_of_beq_eq_true hc.1
      subst this
      exact ⟨cs, hr, fun j v hj => by rwa [Nat.zero_add]⟩
    | false =>
      rw [hc] at hs; simp only [cond_false] at hs
      simp only [RC] at hr
      obtain ⟨c, d, rfl, h1, h2⟩ := hr
      have hl := h1.length
      cases hb : Nat.blt off a.n with
      | true =>
        rw [hb] at hs; simp only [cond_true] at hs
        obtain ⟨ds, h3, h4⟩ := subAt_sound a h1 hs
        refine ⟨ds, h3, fun j v hj => ?_⟩
        have := h4 j v hj
        rw [List.getElem?_append_left (List.getElem?_eq_some_iff.1 this).1]; exact this
      | false =>
        rw [hb] at hs; simp only [cond_false] at hs
        obtain ⟨ds, h3, h4⟩ := subAt_sound b h2 hs
        have hge : a.n ≤ off := by
          rcases Nat.lt_or_ge off a.n with hh | hh
          · have := Nat.ble_eq_true_of_le (show off + 1 ≤ a.n by omega)
            rw [Nat.blt, this] at hb; cases hb
          · exact hh
        refine ⟨ds, h3, fun j v hj => ?_⟩
        have := h4 j v hj
        rw [List.getElem?_append_right (by omega), hl, show off + j - a.n = off - a.n + j by omega]; exact this
end
end Go.Abs
