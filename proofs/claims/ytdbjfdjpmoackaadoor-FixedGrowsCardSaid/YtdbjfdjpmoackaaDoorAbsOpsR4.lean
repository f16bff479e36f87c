/- Operations that leave the objects as they are: all of them. -/
import Derived.Test.YtdbjfdjpmoackaaDoorAbsOpsR3
import Derived.ChangeMaps3
namespace Go.Abs
open Go.RowKit
section
variable {P : Program} {C : Ctx} {r : Option Nat} {n : Nat} {w0 : World} {A M0 : Nat → Prop} {w : World} {h hm : List O} {σ : Nat → Loc} {t : Nat → V} {a : Act} {o : Oper} {ρ : Type}
theorem buildK_sound (hT : TOk P C.T) (hrt : ∀ i, RV w (mutb M0 h σ) h σ (t i) (a.tmps.getD i undef)) {ty : TypeId} {ps : Array (Nat × Operand)} {K : V → Option ρ} {res : ρ} (hb : buildK C t ty ps.toList K = some res) :
    ∃ v val, K v = some res ∧ (Instr.build ty (ps.map fun (i, x) => (i, a.eval x))).run P w = .ok val w ∧ RV w (mutb M0 h σ) h σ v val := by
  unfold buildK at hb
  split at hb
  · cases hb
  · rename_i te hte
    obtain ⟨i, z, hi⟩ := hT.get hte
    obtain ⟨un, hu, hdd⟩ := hi.und
    obtain ⟨hz1, hz2⟩ := zeroV_sound (w := w) (M := mutb M0 h σ) (h := h) (σ := σ) te.zero hi.zv
    have hmap : (ps.map fun (x : Nat × Operand) => (x.1, a.eval x.2)).toList = ps.toList.map fun p => (p.1, a.eval p.2) := by simp
    split at hb
    · rename_i fs hd
      rw [hd] at hdd
      obtain ⟨gs, rfl, hgs, hall⟩ := hdd
      split at hb
      · cases hb
      · rename_i vs hf
        have hmm := ChangeMaps.mapM_total (f := fun f : Field => (P.info? f.type).map fun i => (f.offset, i.size)) (0, 0) (l := gs.toList) (fun x hx => by
          have := List.all_eq_true.1 hall x hx
          cases hq : P.info? x.type with
          | none => rw [hq] at this; cases this
          | some j => exact ⟨_, rfl⟩)
        obtain ⟨ds, h1, h2, h3⟩ := fill_sound (place' := fun x => (gs.toList.map fun x => ((P.info? x.type).map fun i => (x.offset, i.size)).getD (0, 0)).toArray[x]?) (fun j p hp => by
          obtain ⟨gs', hu', hfp⟩ := fieldPlaces_sound hT hte hd
          rw [hu] at hu'
          cases hu'
          obtain ⟨off, size⟩ := p
          obtain ⟨g, hg, hoff, hsz⟩ := hfp j off size hp
          have hs := hsz w
          simp only [Go.sizeOf, typeInfo, Sem.run_bind, run_program, Result.andThen_ok] at hs
          cases hq : P.info? g.type with
          | none => rw [hq] at hs; simp at hs
          | some k =>
            rw [hq] at hs
            simp at hs
            simp [hg, hq, hoff, hs]) hrt (ev_sound hrt) ps.toList hz1 hz2 hf
        refine ⟨_, _, hb, run_build w ty _ ds ?_, by simp only [RV]; exact ⟨ds, rfl, h3, h2⟩⟩
        unfold Program.built
        rw [hi.info, hu]
        simp only [hi.zero, hmm]
        rw [← h1]
        congr 1
    · rename_i m e hd
      rw [hd] at hdd
      simp only at hdd
      subst hdd
      split at hb
      · cases hb
      · rename_i ee hee
        obtain ⟨ie, ze, hie⟩ := hT.get hee
        split at hb
        · cases hb
        · rename_i vs hf
          obtain ⟨ds, h1, h2, h3⟩ := fill_sound (place' := fun j => some (j * ee.size, ee.size)) (fun j p hp => hp) hrt (ev_sound hrt) ps.toList hz1 hz2 hf
          refine ⟨_, _, hb, run_build w ty _ ds ?_, by simp only [RV]; exact ⟨ds, rfl, h3, h2⟩⟩
          unfold Program.built
          rw [hi.info, hu]
          simp only [hi.zero, hie.info, hie.size]
          rw [← h1]
          congr 1
    · cases hb
theorem minmaxK_sound {mx : Bool} {vs : List V} {xs : List Value} (hp : RVs w (mutb M0 h σ) h σ vs xs) {tys : Array TypeId} {rt : TypeId} {K : V → Option ρ} {res : ρ} (hb : minmaxK mx vs K = some res) :
    ∃ v val, K v = some res ∧ (bif mx then Builtin.max_ tys rt xs.toArray else Builtin.min_ tys rt xs.toArray).run P w = .ok val w ∧ RV w (mutb M0 h σ) h σ v val := by
  unfold minmaxK at hb
  split at hb
  · rename_i k x k' y
    split at hb
    · rename_i hk
      subst hk
      simp only [RVs, RV] at hp
      obtain ⟨p, ps, rfl, rfl, q, qs, rfl, rfl, rfl⟩ := hp
      cases mx with
      | true => exact ⟨_, _, hb, by simp [Builtin.max_, Builtin.max2], rv_int⟩
      | false => exact ⟨_, _, hb, by simp [Builtin.min_, Builtin.min2], rv_int⟩
    · cases hb
  · cases hb
theorem extractK_sound {u : V} {p : Value} {i : Nat} (hp : RV w (mutb M0 h σ) h σ u p) {K : V → Option ρ} {res : ρ} (hb : extractK u i K = some res) :
    ∃ v val, K v = some res ∧ (Instr.extract p i).run P w = .ok val w ∧ RV w (mutb M0 h σ) h σ v val := by
  cases u with
  | tup vs =>
    simp only [extractK] at hb
    simp only [RV] at hp
    obtain ⟨cs, rfl, hr⟩ := hp
    split at hb
    · rename_i v hv
      obtain ⟨x, hx, hvx⟩ := hr.get hv
      exact ⟨v, x, hb, by simp at hx; simp [Instr.extract, hx], hvx⟩
    · cases hb
  | _ => simp [extractK] at hb
theorem convertK_sound (hT : TOk P C.T) {s d : TypeId} {u : V} {p : Value} (hp : RV w (mutb M0 h σ) h σ u p) {K : V → Option ρ} {res : ρ} (hb : convertK C s d u K = some res) :
    ∃ v val, K v = some res ∧ (convert s d p).run P w = .ok val w ∧ RV w (mutb M0 h σ) h σ v val := by
  unfold convertK at hb
  split at hb
  · cases hb
  rename_i ts hts
  have hs : ∃ us, P.underlying s = some us := by
    obtain ⟨_, _, hi⟩ := hT.get hts
    obtain ⟨un, hu, _⟩ := hi.und
    exact ⟨un, hu⟩
  split at hb
  · cases hb
  · rename_i te hte
    split at hb
    · rename_i k hd
      obtain ⟨i, z, hi⟩ := hT.get hte
      obtain ⟨un, hu, hdd⟩ := hi.und
      rw [hd] at hdd
      simp only at hdd
      subst hdd
      cases u with
      | int k' m =>
        simp only at hb
        simp only [RV] at hp
        subst hp
        obtain ⟨us, hus⟩ := hs
        refine ⟨_, _, hb, ?_, rv_int⟩
        simp only [convert, Sem.run_bind, run_underlying hus, run_underlying hu, Result.andThen_ok]
        cases us <;> rfl
      | _ => simp at hb
    · cases hb
theorem nilCheckK_sound (hs : Sub hm h) {x : Operand} {u : V} {p : Value} {oo : Oper} (ho : oo.op = .nilCheck x) (hx : a.eval x = p) (hp : RV w (mutb M0 h σ) h σ u p) {K : V → Option ρ} {res : ρ} (hb : nilCheckK hm u K = some res) :
    ∃ v val, K v = some res ∧ (execOp a.eval oo).run P w = .ok (.value val) w ∧ RV w (mutb M0 h σ) h σ v val := by
  cases u with
  | ptr o' q =>
    simp only [nilCheckK] at hb
    have hp' := hp
    simp only [RV] at hp
    obtain ⟨vs, b, e, ha, hv⟩ := hp
    refine ⟨_, _, hb, ?_, hp'⟩
    subst hv
    simp [execOp, ho, hx]
  | rptr o' ver i q =>
    simp only [nilCheckK] at hb
    obtain ⟨hok, hb⟩ := cond_some hb
    obtain ⟨b, s, ha, hv, hr⟩ := rptr_sound hs hp hok
    refine ⟨_, _, hb, ?_, hp⟩
    subst hv
    simp [execOp, ho, hx]
  | fptr s y =>
    simp only [nilCheckK] at hb
    have hp' := hp
    simp only [RV] at hp
    obtain ⟨b, q, cs, hv, _⟩ := hp
    refine ⟨_, _, hb, ?_, hp'⟩
    subst hv
    simp [execOp, ho, hx]
  | clo f cs =>
    simp only [nilCheckK] at hb
    have hp' := hp
    simp only [RV] at hp
    obtain ⟨vs, hv, _⟩ := hp
    refine ⟨_, _, hb, ?_, hp'⟩
    subst hv
    simp [execOp, ho, hx, cloV]
  | _ => simp [nilCheckK] at hb
theorem blt_add (f : Nat) : Nat.blt (f + 1000000) 1000000 = false := Bool.eq_false_iff.2 fun h => by
  have : f + 1000000 + 1 ≤ 1000000 := Nat.le_of_ble_eq_true h
  omega
/-- A call of one of the program's functions: the operation itself. -/
theorem does_call {c : Call} {f : Operand} (ho : o.op = .call c) (hc : c.callee = .value f) {g : Nat} {first caps : Array Value} (hf : a.eval f = .func (.func g) first caps) {fn : Func} {code : Code}
    (hfn : P.funcs[g]? = some fn) (hname : (fn.name == "runtime.NumGoroutine") = false) (hbody : fn.body = some code) {Post : Value → World → Prop}
    (hcall : Calls P g (first ++ c.args.map a.eval ++ caps) w fun e w' => ∃ x, e = .returned x ∧ Post x w') : Does r n P o a w Post := by
  intro next Q hn
  refine ⟨fun _ _ => trivial, ?_⟩
  rw [Oper.semAt_eq _ _ _ (by intro c' hc'; rw [ho] at hc'; cases hc')]
  have hrun : (execOp a.eval o).run P w = .ok (.enter g (first ++ c.args.map a.eval ++ caps)) w := by
    simp only [execOp, ho, resolve, hc, hf, Deferred.ofValue, Sem.run_bind, Sem.run_pure, Result.andThen_ok, invoke, callFunc, run_program, hfn, hname, hbody]
    simp
  rw [hrun]
  refine ⟨fun hh => by simp [WF, Fence.wide] at hh, callsIn_WF (hcall.mono ?_)⟩
  rintro e w' ⟨x, rfl, hx⟩
  exact hn x w' hx
theorem rvs_args {w : World} {M : Nat → Prop} {h : List O} {σ : Nat → Loc} {us caps : List V} {xs vs : Array Value} (g : Nat) (hx : RVs w M h σ us xs.toList) (hc : RVs w M h σ caps vs.toList) : RVs w M h σ (argsF g us caps) (fstF g vs ++ xs ++ capF g vs).toList := by
  unfold argsF fstF capF
  cases Nat.blt g 1000000 with
  | true => simpa using hx.append hc
  | false => simpa using hc.append hx
theorem callRK_sound (hG : GOk P C) (hL : Gl C.gs w0 A) (R : Rep w0 A M0 w h σ) (hs : Sub hm h) (hrt : ∀ i, RV w (mutb M0 h σ) h σ (t i) (a.tmps.getD i undef)) {c : Call} {f : Operand} (ho : o.op = .call c) (hc : c.callee = .value f)
    {K : V → Option ρ} {res : ρ} (hb : callRK C hm (ev t f) (c.args.toList.map (ev t)) K = some res) : ∃ v, K v = some res ∧ Does r n P o a w (PostR M0 w h σ v) := by
  have hev := ev_sound hrt f
  unfold callRK at hb
  split at hb
  · rename_i g caps e
    rw [e] at hev
    simp only [RV] at hev
    obtain ⟨vs, hv, hcaps⟩ := hev
    split at hb
    · cases hb
    · rename_i p hp
      split at hb
      · rename_i hph
        cases hpr : p.r with
        | none => rw [hpr] at hb; cases hb
        | some y =>
          rw [hpr] at hb
          obtain ⟨fn, code, h1, h2, h3⟩ := hG.fn (tgtF g) _ _ _ hp
          have hargs := rvs_args g (xs := c.args.map a.eval) (by rw [Array.toList_map]; exact evs_sound hrt c.args.toList) hcaps
          have := hG.rd (tgtF g) _ h hm p y hs hp hph hpr w0 A M0 w σ hL R _ hargs
          refine ⟨_, hb, does_call ho hc hv h1 h2 h3 ?_⟩
          rw [Array.toArray_toList] at this
          exact this.mono fun e w' ⟨x, h1, h2, h3⟩ => ⟨x, h1, h2, h3⟩
      · cases hb
  · cases hb
/-- **What the abstract machine says of an operation that leaves the objects as they are is so.** -/
theorem evR_sound (hT : TOk P C.T) (hG : GOk P C) (hL : Gl C.gs w0 A) (R : Rep w0 A M0 w h σ) (hs : Sub hm h) (hrt : ∀ i, RV w (mutb M0 h σ) h σ (t i) (a.tmps.getD i undef)) {K : V → Option ρ} {res : ρ} (hb : evR C o.op t hm K = some res) :
    ∃ v, K v = some res ∧ Does r n P o a w (PostR M0 w h σ v) := by
  have fin : ∀ {e : Sem Value}, (∀ c, o.op ≠ .defer c) → (execOp a.eval o = do pure (.value (← e))) → (∃ v val, K v = some res ∧ e.run P w = .ok val w ∧ RV w (mutb M0 h σ) h σ v val) →
      ∃ v, K v = some res ∧ Does r n P o a w (PostR M0 w h σ v) := fun {e} hd he ⟨v, val, h1, h2, h3⟩ =>
    ⟨v, h1, does_same hd (by rw [he, Sem.run_bind, h2]; rfl) h3⟩
  unfold evR at hb
  split at hb
  · rename_i x ho
    exact ⟨_, hb, does_same (by rw [ho]; simp) (by first | (simp only [execOp, ho]; done) | (simp only [execOp, ho]; rfl)) (ev_sound hrt x)⟩
  · rename_i x ho
    exact ⟨_, hb, does_same (by rw [ho]; simp) (by first | (simp only [execOp, ho]; done) | (simp only [execOp, ho]; rfl)) (ev_sound hrt x)⟩
  · rename_i c x y ho
    have hc := ev_sound hrt c
    unfold pickK at hb
    split at hb
    · rename_i b e
      rw [e] at hc
      simp only [RV] at hc
      cases b with
      | true => exact ⟨_, hb, does_same (by rw [ho]; simp) (by simp [execOp, ho, hc, asBool]) (ev_sound hrt x)⟩
      | false => exact ⟨_, hb, does_same (by rw [ho]; simp) (by simp [execOp, ho, hc, asBool]) (ev_sound hrt y)⟩
    · cases hb
  · rename_i op ty x y yt ho
    exact fin (e := do eqGuard op ty x y (a.eval x) (a.eval y); binOp op ty (a.eval x) (a.eval y)) (by rw [ho]; simp) (by simp only [execOp, ho]) (binOpK_sound hT (ev_sound hrt x) (ev_sound hrt y) hb)
  · rename_i op ty x ho
    exact fin (by rw [ho]; simp) (by first | (simp only [execOp, ho]; done) | (simp only [execOp, ho]; rfl)) (unOpK_sound (ev_sound hrt x) hb)
  · rename_i s d x ho
    exact fin (by rw [ho]; simp) (by first | (simp only [execOp, ho]; done) | (simp only [execOp, ho]; rfl)) (convertK_sound hT (ev_sound hrt x) hb)
  · rename_i x ho
    obtain ⟨v, val, h1, h2, h3⟩ := nilCheckK_sound (P := P) hs ho rfl (ev_sound hrt x) hb
    exact ⟨v, h1, does_same (by rw [ho]; simp) h2 h3⟩
  · rename_i ty x ho
    exact fin (by rw [ho]; simp) (by first | (simp only [execOp, ho]; done) | (simp only [execOp, ho]; rfl)) (loadK_sound hT R hs (ev_sound hrt x) hb)
  · rename_i ty x f ho
    exact fin (by rw [ho]; simp) (by first | (simp only [execOp, ho]; done) | (simp only [execOp, ho]; rfl)) (fieldAddrK_sound hT hs (ev_sound hrt x) hb)
  · rename_i ty x f ho
    exact fin (by rw [ho]; simp) (by first | (simp only [execOp, ho]; done) | (simp only [execOp, ho]; rfl)) (fieldK_sound hT (ev_sound hrt x) hb)
  · rename_i ty x i ho
    exact fin (by rw [ho]; simp) (by first | (simp only [execOp, ho]; done) | (simp only [execOp, ho]; rfl)) (indexAddrK_sound hT R hs (ev_sound hrt x) (ev_sound hrt i) hb)
  · rename_i ty x i ho
    exact fin (by rw [ho]; simp) (by first | (simp only [execOp, ho]; done) | (simp only [execOp, ho]; rfl)) (indexK_sound hT (ev_sound hrt x) (ev_sound hrt i) hb)
  · rename_i x i ho
    exact fin (by rw [ho]; simp) (by first | (simp only [execOp, ho]; done) | (simp only [execOp, ho]; rfl)) (extractK_sound (ev_sound hrt x) hb)
  · rename_i ty ps ho
    exact fin (by rw [ho]; simp) (by first | (simp only [execOp, ho]; done) | (simp only [execOp, ho]; rfl)) (buildK_sound hT hrt hb)
  · rename_i fn first caps ho
    split at hb
    · rename_i f
      obtain ⟨hlt, hb⟩ := cond_some hb
      have hfin : ∀ {v : V}, K v = some res → RV w (mutb M0 h σ) h σ v (.func (.func f) (first.map a.eval) (caps.map a.eval)) → ∃ v, K v = some res ∧ Does r n P o a w (PostR M0 w h σ v) := fun hb hv =>
        fin (e := Instr.makeFunc (.func f) (first.map a.eval) (caps.map a.eval)) (by rw [ho]; simp) (by simp only [execOp, ho]) ⟨_, _, hb, rfl, hv⟩
      cases hf : first.isEmpty with
      | true =>
        rw [hf] at hb
        simp only [cond_true] at hb
        refine hfin hb ?_
        have : first = #[] := by simpa using hf
        subst this
        simp only [RV]
        exact ⟨caps.map a.eval, by simp [cloV, tgtF, fstF, capF, hlt], by simpa using evs_sound hrt caps.toList⟩
      | false =>
        rw [hf] at hb
        simp only [cond_false] at hb
        obtain ⟨hc, hb⟩ := cond_some hb
        have : caps = #[] := by simpa using hc
        subst this
        refine hfin hb ?_
        have hge := blt_add f
        simp only [RV]
        exact ⟨first.map a.eval, by simp [cloV, tgtF, fstF, capF, hge], by simpa using evs_sound hrt first.toList⟩
    · cases hb
  · rename_i ty x lo hi mx ho
    split at hb
    · exact fin (by rw [ho]; simp) (by first | (simp only [execOp, ho]; done) | (simp only [execOp, ho]; rfl)) (sliceK_sound hT hrt (ev_sound hrt x) hb)
    · cases hb
  · rename_i c ho
    unfold callR at hb
    split at hb
    · rename_i b hcb
      have hexec : ∀ (s : Sem Value), (∀ cs, builtin b c.argTypes o.type cs (c.args.map a.eval) = s >>= fun v => pure (.value v)) → execOp a.eval o = s >>= fun v => pure (.value v) := fun s hs' => by
        simp only [execOp, ho, resolve, hcb, invoke]
        exact hs' _
      split at hb
      · split at hb
        · rename_i x ty hx hty
          obtain ⟨l, hl⟩ : ∃ l, c.args = (x :: l).toArray := by
            cases hca : c.args.toList with
            | nil => simp [← Array.getElem?_toList, hca] at hx
            | cons y l => 
              simp [← Array.getElem?_toList, hca] at hx
              subst hx
              exact ⟨l, by apply Array.ext'; simpa using hca⟩
          refine fin (e := Builtin.len_ c.argTypes o.type (c.args.map a.eval)) (by rw [ho]; simp) (hexec _ fun _ => rfl) ?_
          have := lenK_sound (rt := o.type) (rest := l.map a.eval) hT R hs hty (ev_sound hrt x) hb
          rw [hl]
          simpa using this
        · cases hb
      · refine fin (e := Builtin.min_ c.argTypes o.type (c.args.map a.eval)) (by rw [ho]; simp) (hexec _ fun _ => rfl) ?_
        have := minmaxK_sound (P := P) (tys := c.argTypes) (rt := o.type) (evs_sound hrt c.args.toList) hb
        have e : (c.args.toList.map a.eval).toArray = c.args.map a.eval := by apply Array.ext'; simp
        rw [e] at this
        simpa only [cond_true, cond_false] using this
      · refine fin (e := Builtin.max_ c.argTypes o.type (c.args.map a.eval)) (by rw [ho]; simp) (hexec _ fun _ => rfl) ?_
        have := minmaxK_sound (P := P) (tys := c.argTypes) (rt := o.type) (evs_sound hrt c.args.toList) hb
        have e : (c.args.toList.map a.eval).toArray = c.args.map a.eval := by apply Array.ext'; simp
        rw [e] at this
        simpa only [cond_true, cond_false] using this
      · cases hb
    · rename_i f hcf
      exact callRK_sound hG hL R hs hrt ho hcf hb
    · cases hb
  · cases hb
end
end Go.Abs
