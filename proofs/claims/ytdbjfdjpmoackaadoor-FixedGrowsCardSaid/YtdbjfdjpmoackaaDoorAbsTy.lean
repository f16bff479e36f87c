/- The table of types against the program's. -/
import Derived.Test.YtdbjfdjpmoackaaDoorAbsDec
namespace Go.Abs
open Go.RowKit

def zeroV : List V → List Value → Bool
  | [], vs => vs.isEmpty
  | v :: r, vs =>
    match vs with
    | [] => false
    | x :: xs =>
      (match v with
        | .int k n => (match x with | .int k' n' => decide (k = k') && decide (n = n') | _ => false)
        | .bool b => (match x with | .bool b' => decide (b = b') | _ => false)
        | .nil => (match x with | .slice none 0 0 => true | _ => false)
        | .bad => x.oneCell'
        | _ => false) && zeroV r xs
def zeroSh : Sh → List Value → Option (List Value)
  | .int k, vs => (match vs with | .int k' n :: r => if k = k' ∧ n = 0 then some r else none | _ => none)
  | .bool, vs => (match vs with | .bool b :: r => if b = false then some r else none | _ => none)
  | .unit, vs => some vs
  | .pair a b, vs => (match zeroSh a vs with | some r => zeroSh b r | none => none)
  | .sl _, vs => (match vs with | .slice none 0 0 :: r => some r | _ => none)
def tdOk (P : Program) (t : TypeId) (d : TD) : Bool :=
  match P.underlying t with
  | none => false
  | some u =>
    match d with
    | .int k => (match u with | .int k' => decide (k = k') | _ => false)
    | .bool => (match u with | .bool => true | _ => false)
    | .slice e => (match u with | .slice e' => Nat.beq e e' | _ => false)
    | .array n e => (match u with | .array n' e' => Nat.beq n n' && Nat.beq e e' | _ => false)
    | .struct fs => (match u with | .struct gs => decide (gs.toList.map (fun f => (f.offset, f.type)) = fs) && gs.toList.all (fun f => (P.info? f.type).isSome) | _ => false)
    | .other => (match u with | .struct _ => false | .array _ _ => false | _ => true)
def teOk (P : Program) (t : TypeId) (te : TE) : Bool :=
  match P.info? t with
  | none => false
  | some i =>
    Nat.beq i.size te.size && Nat.beq i.bytes te.bytes && tdOk P t te.d &&
    (match i.zero with
      | none => false
      | some z => Nat.beq z.cells.size te.size && zeroV te.zero z.cells.toList &&
        (match te.sh with
          | none => true
          | some s => Nat.beq s.n te.size && (match zeroSh s z.cells.toList with | some [] => true | _ => false)))
def TOk (P : Program) (T : List (Nat × TE)) : Prop := T.all (fun p => teOk P p.1 p.2) = true
theorem tlook_mem {T : List (Nat × TE)} {t : Nat} {te : TE} (h : tlook T t = some te) : (t, te) ∈ T := by
  induction T with
  | nil => simp [tlook] at h
  | cons p T ih =>
    obtain ⟨k, e⟩ := p
    simp only [tlook] at h
    cases hk : Nat.beq k t with
    | true =>
      rw [hk] at h; simp at h
      have := Nat.eq_of_beq_eq_true hk
      subst this; subst h; simp
    | false => rw [hk] at h; simp at h; exact List.mem_cons_of_mem _ (ih h)
theorem zeroV_sound {w : World} {M : Nat → Prop} {h : List O} {σ : Nat → Loc} : (vs : List V) → {xs : List Value} → zeroV vs xs = true → RVs w M h σ vs xs ∧ ∀ c ∈ xs, c.oneCell' = true
  | [], xs, hz => by
    simp only [zeroV, List.isEmpty_iff] at hz
    subst hz
    exact ⟨rfl, fun c hc => by cases hc⟩
  | v :: r, xs, hz => by
    cases xs with
    | nil => simp [zeroV] at hz
    | cons x xs =>
      simp only [zeroV, Bool.and_eq_true] at hz
      obtain ⟨h1, h2⟩ := hz
      obtain ⟨i1, i2⟩ := zeroV_sound (w := w) (M := M) (h := h) (σ := σ) r h2
      have : RV w M h σ v x ∧ x.oneCell' = true := by
        cases v <;> simp only [Bool.false_eq_true] at h1
        · exact ⟨by simp only [RV], h1⟩
        · split at h1
          · simp at h1; obtain ⟨rfl, rfl⟩ := h1; exact ⟨by simp only [RV], rfl⟩
          · cases h1
        · split at h1
          · simp at h1; subst h1; exact ⟨by simp only [RV], rfl⟩
          · cases h1
        · split at h1
          · exact ⟨by simp only [RV], rfl⟩
          · cases h1
      refine ⟨⟨x, xs, rfl, this.1, i1⟩, fun c hc => ?_⟩
      rcases List.mem_cons.1 hc with rfl | hc
      · exact this.2
      · exact i2 c hc
theorem zeroSh_sound {w : World} {M : Nat → Prop} : (s : Sh) → {vs r : List Value} → zeroSh s vs = some r → ∃ c, vs = c ++ r ∧ RC w M s s.zero c
  | .int k, vs, r, h => by
    simp only [zeroSh] at h
    split at h
    · split at h
      · rename_i hk; simp at h; subst h; obtain ⟨rfl, rfl⟩ := hk; exact ⟨[_], rfl, rfl⟩
      · cases h
    · cases h
  | .bool, vs, r, h => by
    simp only [zeroSh] at h
    split at h
    · split at h
      · rename_i hk; simp at h; subst h; subst hk; exact ⟨[_], rfl, rfl⟩
      · cases h
    · cases h
  | .unit, vs, r, h => by simp only [zeroSh, Option.some.injEq] at h; subst h; exact ⟨[], rfl, rfl⟩
  | .pair a b, vs, r, h => by
    simp only [zeroSh] at h
    split at h
    · rename_i r1 h1
      obtain ⟨c, rfl, hc⟩ := zeroSh_sound (w := w) (M := M) a h1
      obtain ⟨d, rfl, hd⟩ := zeroSh_sound (w := w) (M := M) b h
      exact ⟨c ++ d, by simp, c, d, rfl, hc, hd⟩
    · cases h
  | .sl s, vs, r, h => by
    simp only [zeroSh] at h
    split at h
    · simp only [Option.some.injEq] at h; subst h
      exact ⟨[_], rfl, none, 0, rfl, Nat.le_refl _, Nat.zero_le _, fun h => absurd rfl h⟩
    · cases h
/-- What the table tells of a type is so. -/
structure TeIs (P : Program) (t : TypeId) (te : TE) (i : TypeInfo) (z : Value) : Prop where
  info : P.info? t = some i
  size : i.size = te.size
  bytes : i.bytes = te.bytes
  zero : i.zero = some z
  zsize : z.cells.size = te.size
  zv : zeroV te.zero z.cells.toList = true
  td : tdOk P t te.d = true
  sh : ∀ s, te.sh = some s → s.n = te.size ∧ ∀ w M, RC w M s s.zero z.cells.toList
theorem TOk.get {P : Program} {T : List (Nat × TE)} (hT : TOk P T) {t : Nat} {te : TE} (h : tlook T t = some te) : ∃ i z, TeIs P t te i z := by
  have h1 : teOk P t te = true := List.all_eq_true.1 hT _ (tlook_mem h)
  unfold teOk at h1
  split at h1
  · cases h1
  · rename_i i hi
    simp only [Bool.and_eq_true] at h1
    obtain ⟨⟨⟨a, b⟩, c⟩, d⟩ := h1
    split at d
    · cases d
    · rename_i z hz
      simp only [Bool.and_eq_true] at d
      obtain ⟨⟨d1, d2⟩, d3⟩ := d
      refine ⟨i, z, hi, Nat.eq_of_beq_eq_true a, Nat.eq_of_beq_eq_true b, hz, Nat.eq_of_beq_eq_true d1, d2, c, fun s hs => ?_⟩
      rw [hs] at d3
      simp only [Bool.and_eq_true] at d3
      refine ⟨Nat.eq_of_beq_eq_true d3.1, fun w M => ?_⟩
      have d4 := d3.2
      split at d4
      · rename_i h0
        obtain ⟨c, hc, hr⟩ := zeroSh_sound (w := w) (M := M) s h0
        rw [List.append_nil] at hc
        rw [hc]; exact hr
      · cases d4
section
variable {P : Program} {t : TypeId} {te : TE} {i : TypeInfo} {z : Value}
theorem TeIs.und (h : TeIs P t te i z) : ∃ u, P.underlying t = some u ∧ (match te.d with
    | .int k => u = .int k
    | .bool => u = .bool
    | .slice e => u = .slice e
    | .array n e => u = .array n e
    | .struct fs => ∃ gs, u = .struct gs ∧ gs.toList.map (fun f => (f.offset, f.type)) = fs ∧ gs.toList.all (fun f => (P.info? f.type).isSome) = true
    | .other => (match u with | .struct _ => false | .array _ _ => false | _ => true) = true) := by
  have h1 := h.td
  unfold tdOk at h1
  split at h1
  · cases h1
  · rename_i u hu
    refine ⟨u, hu, ?_⟩
    cases hd : te.d with
    | int k => rw [hd] at h1; simp only at h1; split at h1 <;> simp_all
    | bool => rw [hd] at h1; simp only at h1; split at h1 <;> simp_all
    | slice e => rw [hd] at h1; simp only at h1; split at h1 <;> simp_all
    | array n e => rw [hd] at h1; simp only at h1; split at h1 <;> simp_all
    | struct fs => rw [hd] at h1; simp only at h1; split at h1 <;> simp_all
    | other => rw [hd] at h1; exact h1
theorem TeIs.sizeOf (h : TeIs P t te i z) (w : World) : (sizeOf t).run P w = .ok te.size w := by
  simp [Go.sizeOf, typeInfo, h.info, h.size]
theorem TeIs.isAgg (h : TeIs P t te i z) (w : World) : (isAgg t).run P w = .ok te.isAgg w := by
  obtain ⟨u, hu, hd⟩ := h.und
  unfold Go.isAgg TE.isAgg
  rw [Sem.run_bind, run_underlying hu w]
  cases he : te.d with
  | int k => rw [he] at hd; subst hd; rfl
  | bool => rw [he] at hd; subst hd; rfl
  | slice e => rw [he] at hd; subst hd; rfl
  | array n e => rw [he] at hd; subst hd; rfl
  | struct fs => rw [he] at hd; obtain ⟨gs, rfl, _⟩ := hd; rfl
  | other => rw [he] at hd; cases u <;> simp_all
theorem TeIs.zeroLen (h : TeIs P t te i z) : te.zero.length = te.size := by
  have := (zeroV_sound (w := default) (M := fun _ => True) (h := []) (σ := fun _ => ⟨none, 0⟩) te.zero h.zv).1.length
  rw [this, ← h.zsize]; simp
end
theorem addr_add (b q j : Nat) : (⟨b, q, none⟩ : Addr).add j = ⟨b, q + j, none⟩ := by unfold Addr.add; split <;> simp_all
theorem run_loadVar_at {P : Program} {t : TypeId} {te : TE} {i : TypeInfo} {z : Value} (h : TeIs P t te i z) {w : World} {b q off : Nat} {cs : List Value} (hc : CellsAt w b q cs)
    (hok : okPart te.isAgg te.size off cs.length = true) :
    (loadVar t ⟨b, q + off, none⟩).run P w = .ok (bif te.isAgg then .agg ((cs.drop off).take te.size).toArray else cs.getD off undef) w := by
  unfold okPart at hok
  simp only [Bool.and_eq_true, Bool.or_eq_true] at hok
  obtain ⟨h1, h2⟩ := hok
  have h1 := Nat.le_of_ble_eq_true h1
  unfold loadVar
  rw [Sem.run_bind, h.isAgg w, Result.andThen_ok]
  cases ha : te.isAgg with
  | true =>
    simp only [if_true, cond_true, Sem.run_bind, h.sizeOf w, Result.andThen_ok]
    have hl : ((cs.drop off).take te.size).length = te.size := by simp; omega
    have := run_loadCells_list (P := P) w ⟨b, q + off, none⟩ ((cs.drop off).take te.size) (fun j v hj => by
      rw [addr_add]
      rw [List.getElem?_take] at hj
      split at hj
      · rw [List.getElem?_drop] at hj
        have := hc _ v hj
        rwa [← Nat.add_assoc] at this
      · cases hj)
    rw [hl] at this
    rw [this]; rfl
  | false =>
    rw [ha] at h2
    have h2 : te.size = 1 := by rcases h2 with h2 | h2; cases h2; exact Nat.eq_of_beq_eq_true h2
    simp only [Bool.false_eq_true, if_false, cond_false]
    have hlt : off < cs.length := by omega
    have := hc off cs[off] (by simp [hlt])
    rw [run_load, this]
    simp [List.getD, hlt]
theorem partV_sound {w : World} {M : Nat → Prop} {h : List O} {σ : Nat → Loc} {vs : List V} {cs : List Value} (hr : RVs w M h σ vs cs) (h1 : ∀ c ∈ cs, c.oneCell' = true) {agg : Bool} {size off : Nat}
    (hok : okPart agg size off vs.length = true) : RV w M h σ (partV agg size off vs) (bif agg then .agg ((cs.drop off).take size).toArray else cs.getD off undef) := by
  unfold okPart at hok
  simp only [Bool.and_eq_true, Bool.or_eq_true] at hok
  obtain ⟨hle, h2⟩ := hok
  have hle := Nat.le_of_ble_eq_true hle
  unfold partV
  cases agg with
  | true =>
    simp only [cond_true, RV]
    exact ⟨_, rfl, fun c hc => h1 c (by simp only [List.toList_toArray] at hc; exact List.mem_of_mem_drop (List.mem_of_mem_take hc)), (hr.drop off).take size⟩
  | false =>
    simp only [cond_false]
    have h2 : size = 1 := by rcases h2 with h2 | h2; cases h2; exact Nat.eq_of_beq_eq_true h2
    have hlt : off < vs.length := by omega
    obtain ⟨x, hx, hv⟩ := hr.get (i := off) (v := vs[off]) (by simp [hlt])
    simp only [List.getD, hx, Option.getD_some]
    simpa [hlt] using hv
section
variable {w0 : World} {A M0 : Nat → Prop} {w : World} {h hm : List O} {σ : Nat → Loc}
theorem boxCells {vs : List V} {M : Nat → Prop} {l : Loc} (r : RO w M h σ l (.cells vs)) : ∃ b cs, l.a = some b ∧ CellsAt w b 0 cs ∧ RVs w M h σ vs cs ∧ (∀ c ∈ cs, c.oneCell' = true) := by
  obtain ⟨b, e, cs, ha, hb, hr, h1⟩ := r
  exact ⟨b, cs.toList, ha, fun j v hj => by rw [Nat.zero_add, cell_of_row w b j cs e (0, 0) hb]; simpa using hj, hr, h1⟩
theorem rowCells {fz : Bool} {ver : Nat} {e : TypeId} {s : Sh} {xs : List s.den} {M : Nat → Prop} {l : Loc} (r : RO w M h σ l (.row fz ver e s xs)) {b : Nat} (ha : l.a = some b) :
    ∃ cs, CellsAt w b 0 cs ∧ RL w M s xs cs := by
  cases fz with
  | true =>
    obtain ⟨_, r, _⟩ := r
    obtain ⟨a, cap, cs, hv, h1, h2⟩ := r.cellsOf
    rcases h2 with rfl | ⟨b', q, rfl, _, _, h2⟩
    · simp only [RL] at h1; subst h1; exact ⟨[], fun j v hj => by simp at hj, rfl⟩
    · simp only [rowV, Loc.addr, ha, Option.map_some, Value.slice.injEq, Option.some.injEq, Addr.mk.injEq] at hv
      obtain ⟨⟨rfl, rfl, _⟩, _⟩ := hv
      exact ⟨cs, h2, h1⟩
  | false =>
    obtain ⟨_, cs, h1, h2⟩ := r
    refine ⟨cs, fun j v hj => ?_, h2⟩
    have hv : rowV l xs.length = .slice (some ⟨b, 0, none⟩) xs.length l.cap := by simp [rowV, Loc.addr, ha]
    rw [hv] at h1
    rw [Nat.zero_add, World.ownsRow.cellAt h1 j (by have := (List.getElem?_eq_some_iff.1 hj).1; rw [h2.length] at this; exact this)]
    exact hj
theorem deref_sound (R : Rep w0 A M0 w h σ) (hs : Sub hm h) {a : V} {x : Value} (hv : RV w (mutb M0 h σ) h σ a x) {vs : List V} {off : Nat} (hd : derefCells hm a = some (vs, off)) :
    ∃ b q cs, x = .pointer (some ⟨b, q + off, none⟩) ∧ CellsAt w b q cs ∧ RVs w (mutb M0 h σ) h σ vs cs ∧ (∀ c ∈ cs, c.oneCell' = true) := by
  cases a with
  | ptr o off' =>
    simp only [derefCells] at hd
    split at hd
    · rename_i vs' eo
      simp only [Option.some.injEq, Prod.mk.injEq] at hd
      obtain ⟨rfl, rfl⟩ := hd
      simp only [RV] at hv
      obtain ⟨us, b, eo', ha, rfl⟩ := hv
      have eh := hs.get eo (by simp)
      have ro := R.obj o
      rw [eh] at ro
      obtain ⟨b', cs, ha', hc, hr, h1⟩ := boxCells ro
      rw [ha] at ha'; cases ha'
      exact ⟨b, 0, cs, by simp, hc, hr, h1⟩
    · cases hd
  | rptr o ver i off' =>
    simp only [derefCells] at hd
    split at hd
    · rename_i fz ver' e s xs eo
      cases hb : Nat.beq ver ver' with
      | false => simp [hb] at hd
      | true =>
        simp only [hb, cond_true, Option.some.injEq, Prod.mk.injEq] at hd
        obtain ⟨rfl, rfl⟩ := hd
        simp only [RV] at hv
        obtain ⟨fz1, ver1, e1, s1, xs1, eo1, hl, _, hx⟩ := hv
        have eh := hs.get eo (by simp)
        rw [eh] at eo1
        cases eo1
        obtain ⟨b, ha, hi, rfl⟩ := hx (Nat.eq_of_beq_eq_true hb)
        have ro := R.obj o
        rw [eh] at ro
        obtain ⟨cs, hc, hr⟩ := rowCells ro ha
        have hget : xs[i]? = some (nth s.zero xs i) := by simp [nth, List.getD, hi]
        obtain ⟨c, h1, h2⟩ := hr.get hget
        refine ⟨b, i * s.n, c, rfl, fun j v hj => ?_, encL_sound s h1, h1.one⟩
        have := hc _ v (h2 j v hj)
        rwa [Nat.zero_add] at this
    · cases hd
  | fptr s y =>
    simp only [derefCells, Option.some.injEq, Prod.mk.injEq] at hd
    obtain ⟨rfl, rfl⟩ := hd
    simp only [RV] at hv
    obtain ⟨b, q, cs, rfl, _, _, hc, hr⟩ := hv
    exact ⟨b, q, cs, by simp, hc, encL_sound s hr, hr.one⟩
  | _ => simp [derefCells] at hd
end
end Go.Abs
