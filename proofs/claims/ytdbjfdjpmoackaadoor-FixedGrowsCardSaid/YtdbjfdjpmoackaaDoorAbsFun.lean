/- Functions: from a body's evaluation to a call's contract. -/
import Derived.Test.YtdbjfdjpmoackaaDoorAbsExec
namespace Go.Abs
open Go.RowKit
/-- All cells lie as they lay. -/
structure Kept (w w' : World) : Prop where
  os : w'.os = w.os
  tape : w'.tape = w.tape
  output : w'.output = w.output
  size : w'.heap.size = w.heap.size
  cells : ∀ (b : Nat) cs e f, w.heap[b]? = some (Obj.cells cs e f) → w'.heap[b]? = w.heap[b]?
theorem Kept.refl (w : World) : Kept w w := ⟨rfl, rfl, rfl, rfl, fun _ _ _ _ _ => rfl⟩
theorem Kept.trans {a b c : World} (h : Kept a b) (k : Kept b c) : Kept a c :=
  ⟨k.os.trans h.os, k.tape.trans h.tape, k.output.trans h.output, k.size.trans h.size, fun i cs e f hi => by
    have h1 := h.cells i cs e f hi
    rw [k.cells i cs e f (by rw [h1]; exact hi), h1]⟩
section
variable {w w' : World} {M : Nat → Prop} {h : List O} {σ : Nat → Loc}
theorem Kept.cellsAt (k : Kept w w') {b q : Nat} {cs : List Value} (hc : CellsAt w b q cs) : CellsAt w' b q cs := fun j v hj => by
  have h1 := hc j v hj
  obtain ⟨o, ho, hco⟩ := cells_of_cell h1
  cases o with
  | cells cs e f => exact (World.cell?_of_block (k.cells _ cs e f ho)).trans h1
  | _ => cases hco
theorem RC.kept (k : Kept w w') : {s : Sh} → {x : s.den} → {cs : List Value} → RC w M s x cs → RC w' M s x cs
  | .int _, _, _, h => by simp only [RC] at h ⊢; exact h
  | .bool, _, _, h => by simp only [RC] at h ⊢; exact h
  | .unit, _, _, h => by simp only [RC] at h ⊢; exact h
  | .pair _ _, _, _, h => by
    simp only [RC] at h ⊢
    obtain ⟨c, d, rfl, h1, h2⟩ := h
    exact ⟨c, d, rfl, RC.kept k h1, RC.kept k h2⟩
  | .sl s, xs, _, h => by
    simp only [RC] at h ⊢
    obtain ⟨a, cap, rfl, hl, hc, h⟩ := h
    refine ⟨a, cap, rfl, hl, hc, fun hne => ?_⟩
    obtain ⟨b, q, ha, hb, hm, hr⟩ := h hne
    refine ⟨b, q, ha, by rw [k.size]; exact hb, hm, fun i x hx => ?_⟩
    obtain ⟨cs, hcs, hR⟩ := hr i x hx
    exact ⟨cs, k.cellsAt hcs, RC.kept k hR⟩
mutual
theorem RV.kept (k : Kept w w') : {v : V} → {x : Value} → RV w M h σ v x → RV w' M h σ v x
  | .bad, _, _ => by simp only [RV]
  | .undef, _, hv => by simp only [RV] at hv ⊢; exact hv
  | .int _ _, _, hv => by simp only [RV] at hv ⊢; exact hv
  | .bool _, _, hv => by simp only [RV] at hv ⊢; exact hv
  | .nil, _, hv => by simp only [RV] at hv ⊢; exact hv
  | .sl _ _, _, hv => by simp only [RV] at hv ⊢; exact RC.kept k hv
  | .slc _ _, _, hv => by simp only [RV] at hv ⊢; exact hv
  | .ptr _ _, _, hv => by simp only [RV] at hv ⊢; exact hv
  | .rptr _ _ _ _, _, hv => by simp only [RV] at hv ⊢; exact hv
  | .fptr _ _, _, hv => by
    simp only [RV] at hv ⊢
    obtain ⟨b, q, cs, rfl, hb, hm, hc, hr⟩ := hv
    exact ⟨b, q, cs, rfl, by rw [k.size]; exact hb, hm, k.cellsAt hc, RC.kept k hr⟩
  | .clo _ _, _, hv => by
    simp only [RV] at hv ⊢
    obtain ⟨vs, rfl, hr⟩ := hv
    exact ⟨vs, rfl, RVs.kept k hr⟩
  | .agg _, _, hv => by
    simp only [RV] at hv ⊢
    obtain ⟨vs, rfl, h1, hr⟩ := hv
    exact ⟨vs, rfl, h1, RVs.kept k hr⟩
  | .tup _, _, hv => by
    simp only [RV] at hv ⊢
    obtain ⟨vs, rfl, hr⟩ := hv
    exact ⟨vs, rfl, RVs.kept k hr⟩
theorem RVs.kept (k : Kept w w') : {vs : List V} → {xs : List Value} → RVs w M h σ vs xs → RVs w' M h σ vs xs
  | [], _, hv => by simp only [RVs] at hv ⊢; exact hv
  | _ :: _, _, hv => by
    simp only [RVs] at hv ⊢
    obtain ⟨x, xs, rfl, h1, h2⟩ := hv
    exact ⟨x, xs, rfl, RV.kept k h1, RVs.kept k h2⟩
end
theorem RL.kept (k : Kept w w') {s : Sh} {xs : List s.den} {cs : List Value} (h : RL w M s xs cs) : RL w' M s xs cs := by
  induction xs generalizing cs with
  | nil => simpa only [RL] using h
  | cons x xs ih =>
    simp only [RL] at h ⊢
    obtain ⟨c, d, rfl, h1, h2⟩ := h
    exact ⟨c, d, rfl, RC.kept k h1, ih h2⟩
theorem ownsRow_kept (k : Kept w w') {e : TypeId} {n m : Nat} {v : Value} {cs : List Value} (h : w.ownsRow 0 e n v m cs) : w'.ownsRow 0 e n v m cs := by
  refine ⟨h.1, ?_⟩
  rcases h.2 with hn | ⟨g, cap, cur, rfl, h1, hg, rest⟩
  · exact .inl hn
  · exact .inr ⟨g, cap, cur, rfl, h1, by rw [k.cells g _ _ _ hg]; exact hg, rest⟩
theorem RO.kept (k : Kept w w') {l : Loc} : {o : O} → RO w M h σ l o → RO w' M h σ l o
  | .none, _ => trivial
  | .cells vs, r => by
    obtain ⟨b, e, cs, ha, hb, hr, h1⟩ := r
    exact ⟨b, e, cs, ha, by rw [k.cells b _ _ _ hb]; exact hb, RVs.kept k hr, h1⟩
  | .row true ver e t xs, r => by
    obtain ⟨h1, h2, h3⟩ := r
    exact ⟨h1, RC.kept k h2, fun b ha => ⟨by rw [k.size]; exact (h3 b ha).1, (h3 b ha).2⟩⟩
  | .row false ver e t xs, r => by
    obtain ⟨h1, cs, h2, h3⟩ := r
    exact ⟨h1, cs, ownsRow_kept k h2, RL.kept k h3⟩
theorem Rep.kept {w0 : World} {A M0 : Nat → Prop} (R : Rep w0 A M0 w h σ) (k : Kept w w') (hb : ∀ b, b < w0.heap.size → w'.heap[b]? = w.heap[b]?) : Rep w0 A M0 w' h σ :=
  ⟨⟨k.os.trans R.fr.os, k.tape.trans R.fr.tape, k.output.trans R.fr.output, by rw [k.size]; exact R.fr.size, fun b hlt hA => by rw [hb b hlt, R.fr.block b hlt hA]⟩, R.m0, R.inA, R.apart, fun o => (R.obj o).kept k⟩
end
/-! ### Marks -/
def marksOk (B : Nat) : List Deferred → World → Prop
  | [], _ => True
  | d :: ds, w => (∃ D, d = markOf D ∧ B ≤ D ∧ w.heap[D]? = some (.deferred (some [])) ∧ markOf D ∉ ds) ∧ marksOk B ds w
theorem marksOk.mono {B : Nat} {ds : List Deferred} {w w' : World} (h : marksOk B ds w) (hs : ∀ D, markOf D ∈ ds → w.heap[D]? = some (.deferred (some [])) → w'.heap[D]? = some (.deferred (some []))) : marksOk B ds w' := by
  induction ds with
  | nil => trivial
  | cons d ds ih =>
    obtain ⟨⟨D, rfl, h1, h2, h3⟩, h4⟩ := h
    exact ⟨⟨D, rfl, h1, hs D (by simp) h2, h3⟩, ih h4 fun D' hm => hs D' (by simp [hm])⟩
theorem marksOk.lt {B : Nat} {ds : List Deferred} {w : World} (h : marksOk B ds w) {D : Nat} (hm : markOf D ∈ ds) : D < w.heap.size := by
  induction ds with
  | nil => cases hm
  | cons d ds ih =>
    obtain ⟨⟨D', rfl, h1, h2, h3⟩, h4⟩ := h
    rcases List.mem_cons.1 hm with e | hm
    · simp at e; subst e; exact (Array.getElem?_eq_some_iff.1 h2).1
    · exact ih h4 hm
theorem leaves_marks {F : Fence} {n : Nat} {P : Program} {fn : Func} {tmps : Array Value} {R : Ending → World → Prop} {B : Nat} : (ds : List Deferred) → {w : World} → marksOk B ds w →
    (∀ w', Kept w w' → (∀ b, b < B → w'.heap[b]? = w.heap[b]?) → ∃ v, (results fn tmps).run P w' = .ok v w' ∧ R (.returned v) w') → LeavesInM F n P fn tmps R ds .returning w
  | [], w, _, hR => hR w (Kept.refl w) fun _ _ => rfl
  | d :: ds, w, hm, hR => by
    obtain ⟨⟨D, rfl, h1, h2, h3⟩, h4⟩ := hm
    refine ⟨by simp, .inl ⟨D, _, rfl, run_takeDeferred h2, leaves_marks ds (h4.mono fun D' hm' h' => ?_) fun w' hk hb => hR w' ?_ fun b hlt => ?_⟩⟩
    · have hne : D' ≠ D := fun e => h3 (e ▸ hm')
      rw [World.putObj_heap_other hne]; exact h'
    · refine Kept.trans (b := w.putObj D (.deferred none)) ⟨rfl, rfl, rfl, by simp, fun b cs e f hc => ?_⟩ hk
      exact World.putObj_heap_other fun e => by subst e; rw [h2] at hc; cases hc
    · rw [hb b hlt, World.putObj_heap_other (by omega)]
/-! ### Results -/
def resOne (C : Ctx) (t : Nat → V) (h : List O) : ResultVar → Option V
  | .tmp i => some (t i)
  | .cell a ty => loadK C h ty (t a) some
def resSem (tmps : Array Value) (r : ResultVar) : Sem Value :=
  match r with
  | .tmp t => pure (tmps.getD t undef)
  | .cell a t => do loadVar t (← asAddr (tmps.getD a undef))
def resL (C : Ctx) (t : Nat → V) (h : List O) : List ResultVar → Option (List V)
  | [] => some []
  | r :: rs =>
    match resOne C t h r with
    | none => none
    | some v =>
      match resL C t h rs with
      | none => none
      | some vs => some (v :: vs)
def retV : List V → V
  | [v] => v
  | vs => .tup vs
section
variable {P : Program} {C : Ctx} {w0 : World} {A M0 : Nat → Prop} {w : World} {h : List O} {σ : Nat → Loc} {t : Nat → V}
theorem resOne_sound (hT : TOk P C.T) (R : Rep w0 A M0 w h σ) {tmps : Array Value} (hr : ∀ i, RV w (mutb M0 h σ) h σ (t i) (tmps.getD i undef)) {rv : ResultVar} {v : V} (he : resOne C t h rv = some v) :
    ∃ x, (resSem tmps rv).run P w = .ok x w ∧ RV w (mutb M0 h σ) h σ v x := by
  cases rv with
  | tmp i =>
    simp only [resOne, Option.some.injEq] at he
    subst he
    exact ⟨_, rfl, hr i⟩
  | cell a ty =>
    simp only [resOne] at he
    unfold loadK at he
    split at he
    · cases he
    · rename_i te hte
      split at he
      · cases he
      · rename_i q hq
        obtain ⟨vs, off⟩ := q
        obtain ⟨hok, he⟩ := cond_some he
        cases he
        obtain ⟨b, q, cs, hx, hc, hr', h1⟩ := deref_sound R (Sub.refl h) (hr a) hq
        obtain ⟨i, z, hi⟩ := hT.get hte
        refine ⟨_, ?_, partV_sound hr' h1 hok⟩
        simp only at hok
        rw [hr'.length] at hok
        simp only [resSem, hx, asAddr, Sem.run_bind, Sem.run_pure, Result.andThen_ok, run_loadVar_at hi hc hok]
theorem resL_sound (hT : TOk P C.T) (R : Rep w0 A M0 w h σ) {tmps : Array Value} (hr : ∀ i, RV w (mutb M0 h σ) h σ (t i) (tmps.getD i undef)) : (rs : List ResultVar) → {vs : List V} → resL C t h rs = some vs →
    ∃ xs, (rs.mapM (resSem tmps)).run P w = .ok xs w ∧ RVs w (mutb M0 h σ) h σ vs xs
  | [], vs, he => by
    simp only [resL, Option.some.injEq] at he
    subst he
    exact ⟨[], rfl, rfl⟩
  | rv :: rs, vs, he => by
    simp only [resL] at he
    split at he
    · cases he
    · rename_i v hv
      split at he
      · cases he
      · rename_i us hus
        cases he
        obtain ⟨x, h1, h2⟩ := resOne_sound hT R hr hv
        obtain ⟨xs, h3, h4⟩ := resL_sound hT R hr rs hus
        refine ⟨x :: xs, ?_, x, xs, rfl, h2, h4⟩
        simp only [List.mapM_cons, Sem.run_bind, h1, Result.andThen_ok, h3, Sem.run_pure]
theorem results_sound (hT : TOk P C.T) (R : Rep w0 A M0 w h σ) {tmps : Array Value} (hr : ∀ i, RV w (mutb M0 h σ) h σ (t i) (tmps.getD i undef)) {fn : Func} {vs : List V} (he : resL C t h fn.results.toList = some vs) :
    ∃ x, (results fn tmps).run P w = .ok x w ∧ RV w (mutb M0 h σ) h σ (retV vs) x := by
  obtain ⟨xs, h1, h2⟩ := resL_sound hT R hr fn.results.toList he
  have hd : results fn tmps = (do let vs ← fn.results.mapM (resSem tmps); pure (if h : vs.size = 1 then vs[0] else .tuple vs)) := rfl
  rw [hd, Array.mapM_eq_mapM_toList]
  refine ⟨if h : xs.toArray.size = 1 then xs.toArray[0] else .tuple xs.toArray, by simp only [Sem.run_bind, map_eq_pure_bind, h1, Result.andThen_ok, Sem.run_pure], ?_⟩
  cases vs with
  | nil =>
    simp only [RVs] at h2
    subst h2
    simp only [retV, RV]
    exact ⟨#[], rfl, rfl⟩
  | cons v vs =>
    simp only [RVs] at h2
    obtain ⟨x, xs, rfl, h3, h4⟩ := h2
    cases vs with
    | nil =>
      simp only [RVs] at h4
      subst h4
      exact h3
    | cons u vs =>
      simp only [RVs] at h4
      obtain ⟨y, ys, rfl, h5, h6⟩ := h4
      simp only [retV, RV]
      exact ⟨(x :: y :: ys).toArray, by simp, x, y :: ys, rfl, h3, y, ys, rfl, h5, h6⟩
/-! ### Calls -/
def argS : Nat → List V → Slots
  | _, [] => []
  | i, v :: r => (i, v) :: argS (i + 1) r
def finK {ρ : Type} (C : Ctx) (rs : List ResultVar) (fin : V → List O → Option ρ) : Ctl → Slots → List O → Option ρ := fun c t h =>
  match c with
  | .exit _ => none
  | _ => match resL C (look t) h rs with | some vs => fin (retV vs) h | none => none
theorem argS_rv {M : Nat → Prop} : (args : List V) → {vs : List Value} → (i j : Nat) → RVs w M h σ args vs → RV w M h σ (look (argS i args) (i + j)) (vs.getD j undef)
  | [], vs, i, j, hv => by
    simp only [argS, look, RV]
  | v :: r, vs, i, j, hv => by
    simp only [RVs] at hv
    obtain ⟨x, xs, rfl, h1, h2⟩ := hv
    simp only [argS, look]
    cases j with
    | zero => simp only [Nat.add_zero, Nat.beq_refl, cond_true]; exact h1
    | succ j =>
      have hne : Nat.beq i (i + (j + 1)) = false := Bool.eq_false_iff.2 fun e => by have := Nat.eq_of_beq_eq_true e; omega
      rw [hne]
      have := argS_rv r (i + 1) j h2
      rw [show i + 1 + j = i + (j + 1) by omega] at this
      exact this
theorem argS_lt : (args : List V) → (i j : Nat) → j < i → look (argS i args) j = .bad
  | [], _, _, _ => rfl
  | v :: r, i, j, hlt => by
    have hne : Nat.beq i j = false := Bool.eq_false_iff.2 fun e => by have := Nat.eq_of_beq_eq_true e; omega
    simp only [argS, look, hne, cond_false]
    exact argS_lt r (i + 1) j (by omega)
theorem own_cells (R : Rep w0 A M0 w h σ) {b : Nat} (ho : own h σ b) : ∃ cs e f, w.heap[b]? = some (Obj.cells cs e f) := by
  obtain ⟨o, hl, ha⟩ := ho
  have r := R.obj o
  cases eo : getO h o with
  | none => rw [eo] at hl; exact hl.elim
  | cells vs =>
    rw [eo] at r
    obtain ⟨b', e, cs, ha', hb, _⟩ := r
    rw [ha] at ha'; cases ha'
    exact ⟨_, _, _, hb⟩
  | row fz ver e s xs =>
    rw [eo] at r hl
    cases fz with
    | true => cases hl
    | false =>
      obtain ⟨_, cs, hr, _⟩ := r
      rcases hr.2 with ⟨hn, _⟩ | ⟨g, cap, cur, hv, _, hg, _⟩
      · simp [rowV, Loc.addr, ha] at hn
      · simp only [rowV, Loc.addr, ha, Option.map_some, Value.slice.injEq, Option.some.injEq, Addr.mk.injEq] at hv
        obtain ⟨⟨rfl, _⟩, _⟩ := hv
        exact ⟨_, _, _, hg⟩
theorem call_sound {ρ : Type} {f : Nat} {fn : Func} {c : Code} (hf : P.funcs[f]? = some fn) (hb : fn.body = some c) (hT : TOk P C.T) (hG : GOk P C) (hI : IOk P C) (hL : Gl C.gs w0 A) (hm : P.follows .mixedOrders = true) (hn : C.n = fn.ntmps) {ann : Ann} {args : List V}
    {fin : V → List O → Option ρ} {y : ρ} (hex : exec C c ann (argS 0 args) h (finK C fn.results.toList fin) = some y) (hlen : args.length ≤ fn.ntmps) (R : Rep w0 A M0 w h σ) {vs : List Value} (hv : RVs w (mutb M0 h σ) h σ args vs) :
    Calls P f vs.toArray w fun e w' => ∃ x v h' σ', e = .returned x ∧ fin v h' = some y ∧ Rep w0 A M0 w' h' σ' ∧ RV w' (mutb M0 h' σ') h' σ' v x := by
  let E : Env := { P := P, C := C, r := none, n := 0, w0 := w0, A := A, M0 := M0, Kp := fun ds w' h' σ' => marksOk w.heap.size ds w' ∧ w.heap.size ≤ w'.heap.size }
  have hfar : ∀ {w1 w2 : World} {h1 h2 : List O} {σ1 σ2 : Nat → Loc} {ds : List Deferred}, Rep w0 A M0 w1 h1 σ1 → Far C.fx C.fl M0 w1 h1 σ1 M0 w2 h2 σ2 → marksOk w.heap.size ds w1 → marksOk w.heap.size ds w2 := fun R1 fr hk =>
    hk.mono fun D _ hD => by
      rw [fr.goes.block D (Array.getElem?_eq_some_iff.1 hD).1 (fun ho => ?_), hD]
      obtain ⟨cs, e, f, hc⟩ := own_cells R1 ho
      rw [hD] at hc; cases hc
  have hE : E.Ok := {
    types := hT, calls := hG, its := hI, glob := hL, mixed := hm
    kp := fun ds w1 h1 σ1 w2 h2 σ2 R1 _ fr hk => ⟨hfar R1 fr hk.1, Nat.le_trans hk.2 fr.goes.size⟩
    km := fun _ ds w1 h1 σ1 w2 h2 σ2 D R1 _ fr hk hD hd => ⟨⟨⟨D, rfl, Nat.le_trans hk.2 hD, hd, fun hmem => by have := hk.1.lt hmem; omega⟩, hfar R1 fr hk.1⟩, Nat.le_trans hk.2 fr.goes.size⟩
    kl := fun l hl => by cases hl }
  have hl := hv.length
  refine callsIn_wide.1 (callsIn_of_wp_marks (F := Fence.wide) (n := 0) hf hb trivial ?_)
  refine exec_sound c E hE ann (argS 0 args) h _ y _ _ w hex ⟨σ, R, fun i => ?_, ?_, trivial, Nat.le_refl _⟩ ?_
  · have := argS_rv args 0 i hv
    rw [Nat.zero_add] at this
    have e : (vs.toArray ++ Array.replicate (fn.ntmps - vs.toArray.size) undef).getD i undef = vs.getD i undef := by
      simp only [Array.getD_eq_getD_getElem?, Array.getElem?_append, List.getD_eq_getElem?_getD, List.size_toArray, List.getElem?_toArray]
      split
      · rfl
      · rename_i hni
        rw [List.getElem?_eq_none (by omega), Array.getElem?_replicate]
        split <;> rfl
    simp only [e]; exact this
  · simp only [Array.size_append, List.size_toArray, Array.size_replicate]
    show _ = C.n
    omega
  · rintro ct t' h' a' w' hc ⟨σ', R', hr', hn', hk'⟩
    have hk' : marksOk w.heap.size a'.defers w' ∧ w.heap.size ≤ w'.heap.size := hk'
    have key : (match resL C (look t') h' fn.results.toList with | some vs => fin (retV vs) h' | none => none) = some y →
        LeavesInM Fence.wide 0 P fn a'.tmps (fun e w' => ∃ x v h' σ', e = .returned x ∧ fin v h' = some y ∧ Rep w0 A M0 w' h' σ' ∧ RV w' (mutb M0 h' σ') h' σ' v x) a'.defers .returning w' := fun hc => by
      refine leaves_marks a'.defers hk'.1 fun w'' hkept hbl => ?_
      split at hc
      · rename_i us hus
        have R'' := R'.kept hkept fun b hlt => hbl b (Nat.lt_of_lt_of_le hlt R.fr.size)
        obtain ⟨x, h1, h2⟩ := results_sound hT R'' (fun i => (hr' i).kept hkept) hus
        exact ⟨x, h1, x, _, h', σ', rfl, hc, R'', h2⟩
      · cases hc
    cases ct with
    | exit id => cases hc
    | normal => exact key hc
    | ret => exact key hc
end
end Go.Abs
