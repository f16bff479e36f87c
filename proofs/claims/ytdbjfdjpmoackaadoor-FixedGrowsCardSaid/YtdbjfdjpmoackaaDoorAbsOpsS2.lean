/- Operations that make objects. -/
import Derived.Test.YtdbjfdjpmoackaaDoorAbsOpsS
import Derived.Laws.MakeOwn
namespace Go.Abs
open Go.RowKit

/-- The objects behind an operation: some have turned, one may have been made. -/
def Applied (h : List O) (ss : List (Nat × O)) (mk : Option O) (nid : Nat) (H : List O) : Prop :=
  match mk with
  | none => H = setAll ss h
  | some ob => getO H nid = ob ∧ ∀ o, o ≠ nid → getO H o = getO (setAll ss h) o
def updL (σ : Nat → Loc) (o : Nat) (l : Loc) : Nat → Loc := fun i => if i = o then l else σ i
theorem updL_same (σ : Nat → Loc) (o : Nat) (l : Loc) : updL σ o l o = l := if_pos rfl
theorem updL_other (σ : Nat → Loc) (l : Loc) {o o' : Nat} (h : o' ≠ o) : updL σ o l o' = σ o' := if_neg h
section
variable {P : Program} {C : Ctx} {r : Option Nat} {n : Nat} {w0 : World} {A M0 : Nat → Prop} {w w' : World} {h hm H : List O} {σ : Nat → Loc} {t : Nat → V} {a : Act} {o : Oper} {ρ : Type} {nid : Nat} {ob : O}
/-- What is known behind an operation that turns objects into H. -/
def PostW (w0 : World) (A M0 : Nat → Prop) (w : World) (h : List O) (σ : Nat → Loc) (H : List O) (v : V) (x : Value) (w' : World) : Prop :=
  ∃ σ', Next w0 A M0 w h σ w' H σ' ∧ RV w' (mutb M0 H σ') H σ' v x
/-- An object is made in a new block. -/
theorem mk_next (R : Rep w0 A M0 w h σ) (hn : getO h nid = .none) (hH : getO H nid = ob) (hH' : ∀ o, o ≠ nid → getO H o = getO h o) (g : Below w.heap.size w w') (l : Loc)
    (hl : ∀ b, l.a = some b → w.heap.size ≤ b) (hob : Keeps w (mutb M0 h σ) w' (mutb M0 H (updL σ nid l)) → OStep h σ H (updL σ nid l) → RO w' (mutb M0 H (updL σ nid l)) H (updL σ nid l) l ob) :
    Next w0 A M0 w h σ w' H (updL σ nid l) := by
  refine Next.upd R nid g.os g.tape g.output g.size (fun o' e => ⟨hH' o' e, updL_other σ l e⟩) (fun b hb _ => g.block b hb) (fun b hl' ha => .inr ?_) (by rw [hn]; trivial) (fun k st => ?_)
  · rw [updL_same] at ha; exact hl b ha
  · rw [updL_same, hH]; exact hob k st
theorem below_alloc (w : World) (o : Obj) : Below w.heap.size w (w.alloc o) := (Below.refl _ _).alloc (Nat.le_refl _) o
/-- A box is made. -/
theorem mk_box (R : Rep w0 A M0 w h σ) (hn : getO h nid = .none) {vs : List V} (hH : getO H nid = .cells vs) (hH' : ∀ o, o ≠ nid → getO H o = getO h o) {cs : Array Value} (e : TypeId)
    (hr : RVs w (mutb M0 h σ) h σ vs cs.toList) (h1 : ∀ c ∈ cs.toList, c.oneCell' = true) : PostW w0 A M0 w h σ H (.ptr nid 0) (.pointer (some ⟨w.heap.size, 0, none⟩)) (w.alloc (.cells cs e)) := by
  refine ⟨updL σ nid ⟨some w.heap.size, 0⟩, mk_next R hn hH hH' (below_alloc _ _) ⟨some w.heap.size, 0⟩ (fun b hb => by cases hb; exact Nat.le_refl _) (fun k st => ?_), ?_⟩
  · exact ⟨w.heap.size, e, cs, rfl, heap_alloc_new _ _, RVs.keeps k st hr, h1⟩
  · simp only [RV]
    exact ⟨vs, w.heap.size, hH, by rw [updL_same], rfl⟩
theorem evS_alloc (hT : TOk P C.T) (R : Rep w0 A M0 w h σ) {e : TypeId} {te : TE} (hte : tlook C.T e = some te) (ho : o.op = .alloc e) (hn : getO h nid = .none) (hH : Applied h [] (some (.cells te.zero)) nid H) :
    Does r n P o a w (PostW w0 A M0 w h σ H (.ptr nid 0)) := by
  obtain ⟨i, z, hi⟩ := hT.get hte
  obtain ⟨hz1, hz2⟩ := zeroV_sound (w := w) (M := mutb M0 h σ) (h := h) (σ := σ) te.zero hi.zv
  refine does_value (by rw [ho]; simp) (x := .pointer (some ⟨w.heap.size, 0, none⟩)) (w' := w.alloc (.cells z.cells e)) ?_ (mk_box R hn hH.1 hH.2 e hz1 hz2)
  simp only [execOp, ho, Instr.alloc, zeroValue, typeInfo, Sem.run_bind, run_program, Result.andThen_ok, hi.info, Sem.run_pure, hi.zero, newVar, newRow, run_newObj_alloc]
theorem evS_box (R : Rep w0 A M0 w h σ) (hrt : ∀ i, RV w (mutb M0 h σ) h σ (t i) (a.tmps.getD i undef)) {e : TypeId} {x : Operand} (hx : (ev t x).okStore = true) (ho : o.op = .box e x) (hn : getO h nid = .none)
    (hH : Applied h [] (some (.cells (ev t x).cells)) nid H) : Does r n P o a w (PostW w0 A M0 w h σ H (.ptr nid 0)) := by
  obtain ⟨hz1, hz2⟩ := rv_one (ev_sound hrt x) hx
  refine does_value (by rw [ho]; simp) (x := .pointer (some ⟨w.heap.size, 0, none⟩)) (w' := w.alloc (.cells (a.eval x).cells e)) ?_ (mk_box R hn hH.1 hH.2 e hz1 hz2)
  simp only [execOp, ho, Instr.box, Sem.run_bind, Result.andThen_ok, Sem.run_pure, newVar, newRow, run_newObj_alloc]
/-- A row is made: its value. -/
theorem mk_row (R : Rep w0 A M0 w h σ) (hn : getO h nid = .none) {e : TypeId} {s : Sh} {xs : List s.den} (hH : getO H nid = .row false 0 e s xs) (hH' : ∀ o, o ≠ nid → getO H o = getO h o)
    (g : Below w.heap.size w w') (hs1 : 1 ≤ s.n) (l : Loc) (hl : ∀ b, l.a = some b → w.heap.size ≤ b) {cs : List Value} (hown : w'.ownsRow 0 e s.n (rowV l xs.length) xs.length cs) (hr : RL w (mutb M0 h σ) s xs cs) :
    PostW w0 A M0 w h σ H (.slc nid 0) (rowV l xs.length) w' := by
  refine ⟨updL σ nid l, mk_next R hn hH hH' g l hl (fun k st => ?_), ?_⟩
  · exact ⟨hs1, cs, hown, RL.keeps k hr⟩
  · simp only [RV]
    exact ⟨false, 0, e, s, xs, hH, Nat.le_refl _, rfl, fun _ => by rw [updL_same]; rfl⟩
def repL (z : List Value) : Nat → List Value
  | 0 => []
  | n + 1 => z ++ repL z n
theorem repL_length (z : List Value) (m : Nat) : (repL z m).length = m * z.length := by
  induction m with
  | zero => simp [repL]
  | succ m ih => simp [repL, ih, Nat.succ_mul]; omega
theorem repL_get (z : List Value) (hz : 0 < z.length) : (m i : Nat) → i < m * z.length → (repL z m)[i]? = z[i % z.length]?
  | 0, i, hi => by simp at hi
  | m + 1, i, hi => by
    simp only [repL]
    rcases Nat.lt_or_ge i z.length with h | h
    · rw [List.getElem?_append_left h, Nat.mod_eq_of_lt h]
    · rw [List.getElem?_append_right h, repL_get z hz m (i - z.length) (by rw [Nat.succ_mul] at hi; omega), Nat.mod_eq_sub_mod h]
theorem madeCells_repL (z : Array Value) (hz : 0 < z.size) (m : Nat) : (madeCells z (m * z.size)).toList = repL z.toList m := by
  apply List.ext_getElem?
  intro i
  rcases Nat.lt_or_ge i (m * z.size) with h | h
  · rw [repL_get z.toList (by simpa using hz) m i (by simpa using h)]
    have hmod : i % z.size < z.size := Nat.mod_lt _ hz
    simp [madeCells, h, hmod]
  · rw [List.getElem?_eq_none (by simp [madeCells]; exact h), List.getElem?_eq_none (by rw [repL_length]; simpa using h)]
theorem RL.rep {M : Nat → Prop} {s : Sh} {z : List Value} (hz : RC w M s s.zero z) (m : Nat) : RL w M s (List.replicate m s.zero) (repL z m) := by
  induction m with
  | zero => rfl
  | succ m ih => exact ⟨z, _, rfl, hz, ih⟩
theorem RVs.rep {M : Nat → Prop} {vs : List V} {z : List Value} (hz : RVs w M h σ vs z) (m : Nat) : RVs w M h σ (repZero vs m) (repL z m) := by
  induction m with
  | zero => rfl
  | succ m ih => exact hz.append ih
theorem repL_one {z : List Value} (hz : ∀ c ∈ z, c.oneCell' = true) (m : Nat) : ∀ c ∈ repL z m, c.oneCell' = true := by
  induction m with
  | zero => intro c hc; cases hc
  | succ m ih =>
    intro c hc
    rcases List.mem_append.1 hc with hc | hc
    · exact hz c hc
    · exact ih c hc
theorem evS_makeSlice (hT : TOk P C.T) (R : Rep w0 A M0 w h σ) (hrt : ∀ i, RV w (mutb M0 h σ) h σ (t i) (a.tmps.getD i undef)) {ty : TypeId} {xl xc : Operand} (ho : o.op = .makeSlice ty xl xc) {K : V → List (Nat × O) → Option O → Option ρ} {res : ρ}
    (hb : makeSliceK C nid ty (ev t xl) (ev t xc) K = some res) :
    ∃ v ss mk, K v ss mk = some res ∧ ∀ H, Applied h ss mk nid H → (mk.isSome = true → getO h nid = .none) → Does r n P o a w (PostW w0 A M0 w h σ H v) := by
  have el := ev_sound hrt xl
  have ec := ev_sound hrt xc
  unfold makeSliceK at hb
  split at hb
  · cases hb
  · rename_i e ee he
    obtain ⟨hu, i, z, hi⟩ := sliceElem_sound hT he
    split at hb
    · cases hb
    · rename_i s hs
      split at hb
      · rename_i kl l e1
        split at hb
        · rename_i kc c e2
          rw [e1] at el
          rw [e2] at ec
          simp only [RV] at el ec
          obtain ⟨h1, hb⟩ := cond_some hb
          obtain ⟨h2, hb⟩ := cond_some hb
          simp only [Bool.and_eq_true, decide_eq_true_eq] at h2
          simp only [Bool.and_eq_true] at h1
          have hb1 := Nat.le_of_ble_eq_true h1.2
          have h1 := Nat.le_of_ble_eq_true h1.1
          refine ⟨_, _, _, hb, fun H hH hn => ?_⟩
          have hzs := hi.zsize
          obtain ⟨hsn, hz⟩ := hi.sh s hs
          have hbytes : (i.bytes : Int) * c ≤ 281474976710656 := by rw [hi.bytes, Int.mul_comm]; exact h2.2.2
          have hc0 : 0 ≤ c := by omega
          have hcap : c ≤ 9223372036854775807 := by
            have : c * 1 ≤ c * ee.bytes := Int.mul_le_mul_of_nonneg_left (by omega) hc0
            omega
          have hrun := run_make (P := P) w ty e i z hu hi.info hi.zero kl kc l c h2.1 h2.2.1 hbytes hcap
          refine does_value (by rw [ho]; simp) (x := rowV ⟨some w.heap.size, c.toNat⟩ l.toNat) (w' := w.alloc (.cells (madeCells z.cells (c.toNat * i.size)) e)) ?_ ?_
          · simp only [execOp, ho, el, ec, Sem.run_bind, hrun, Result.andThen_ok, Sem.run_pure]; rfl
          · have hlen : (List.replicate l.toNat s.zero).length = l.toNat := by simp
            have := mk_row (l := ⟨some w.heap.size, c.toNat⟩) (cs := repL z.cells.toList l.toNat) R (hn rfl) hH.1 hH.2 (below_alloc w (.cells (madeCells z.cells (c.toNat * i.size)) e)) (by rw [hsn]; exact h1) (fun b hb => by cases hb; exact Nat.le_refl _) (by
              rw [hlen]
              refine ⟨by rw [repL_length, hsn]; simp [hzs], .inr ⟨w.heap.size, c.toNat, _, rfl, Nat.zero_le _, heap_alloc_new _ _, by omega, by unfold maxLen; omega, by rw [size_madeCells, hi.size, hsn], ?_⟩⟩
              have e3 : i.size = z.cells.size := by rw [hi.size, hzs]
              rw [e3, madeCells_repL z.cells (by omega), hsn, ← hzs]
              apply List.ext_getElem?
              intro j
              rw [List.getElem?_take]
              split
              · rename_i hj
                rw [repL_get _ (by simp; omega) _ _ (by simp; exact Nat.lt_of_lt_of_le hj (Nat.mul_le_mul_right _ (by omega))), repL_get _ (by simp; omega) _ _ (by simpa using hj)]
              · rename_i hj
                rw [List.getElem?_eq_none (by rw [repL_length]; simp; omega)]) (RL.rep (hz w _) l.toNat)
            rw [hlen] at this
            exact this
        · cases hb
      · cases hb
theorem evS_buildSlice (hT : TOk P C.T) (R : Rep w0 A M0 w h σ) (hs : Sub hm h) (hrt : ∀ i, RV w (mutb M0 h σ) h σ (t i) (a.tmps.getD i undef)) {ty : TypeId} {m : Nat} {ps : Array (Nat × Operand)} (ho : o.op = .buildSlice ty m ps)
    {K : V → List (Nat × O) → Option O → Option ρ} {res : ρ} (hb : buildSliceK C t hm nid ty m ps.toList K = some res) :
    ∃ v ss mk, K v ss mk = some res ∧ ∀ H, Applied h ss mk nid H → (mk.isSome = true → getO h nid = .none) → Does r n P o a w (PostW w0 A M0 w h σ H v) := by
  unfold buildSliceK at hb
  split at hb
  · cases hb
  · rename_i e ee he
    obtain ⟨hu, i, z, hi⟩ := sliceElem_sound hT he
    split at hb
    · cases hb
    · rename_i s hsh
      obtain ⟨h1, hb⟩ := cond_some hb
      simp only [Bool.and_eq_true] at h1
      have h24 := Nat.le_of_ble_eq_true h1.1
      have h1 := Nat.le_of_ble_eq_true h1.2
      split at hb
      · cases hb
      · rename_i vs hfv
        split at hb
        · cases hb
        · rename_i xs hxs
          refine ⟨_, _, _, hb, fun H hH hn => ?_⟩
          obtain ⟨hz1, hz2⟩ := zeroV_sound (w := w) (M := mutb M0 h σ) (h := h) (σ := σ) ee.zero hi.zv
          obtain ⟨hsn, _⟩ := hi.sh s hsh
          have hzs := hi.zsize
          have hmc := madeCells_repL z.cells (by omega) m
          obtain ⟨ds, hf1, hf2, hf3⟩ := fill_sound (place' := fun j => some (j * ee.size, ee.size)) (cs := madeCells z.cells (m * z.cells.size)) (fun j p hp => hp) hrt (ev_sound hrt) ps.toList (by rw [hmc]; exact hz1.rep m) (by rw [hmc]; exact repL_one hz2 m) hfv
          -- the rows that the parts refer to are shut
          have nf := frz_next hs.f R vs
          have hsub := frz_sub hs (fun i hi => getO_lt (by rcases hs i with h' | h'; exact absurd h' hi; rw [← h']; exact hi)) vs
          have hv2 : RVs w (mutb M0 (setAll (frzL hm vs) h) σ) (setAll (frzL hm vs) h) σ vs ds.toList := RVs.keeps nf.keeps nf.step hf2
          obtain ⟨hrl, hxl⟩ := decElems_sound nf.rep hsub (Mt := mutb M0 (setAll (frzL hm vs) h) σ) (fun b hb => hb) m hv2 (fun v hv o ver e' ver' ty' s' ys hg hvv b hb hmt => by
            subst e'
            rcases setAll_get (frzL hm vs) (h := hm) o with h' | ⟨ob, h3, h4⟩
            · exact frz_ref (hx := hm) (fun i hi => getO_lt hi) hv hg ⟨_, _, _, _, _, by rw [← h']; exact hg, hvv⟩
            · obtain ⟨_, _, _, _, _, _, h6⟩ := frzL_mem h3
              rw [h4, h6] at hg; cases hg) hxs
          have hds : ds.size = m * ee.size := by
            have := hrl.length
            simp [hxl, hsn] at this
            exact this
          refine does_value (by rw [ho]; simp) (x := rowV ⟨some w.heap.size, m⟩ m) (w' := w.alloc (.cells ds e)) ?_ ?_
          · have hfill : Instr.fill (fun i => some (i * ee.size, ee.size)) (madeCells (if m * ee.size = 0 then #[] else z.cells) (m * ee.size)) (ps.map fun x => (x.1, a.eval x.2)).toList = some ds := by
              have e5 : (ps.map fun x => (x.1, a.eval x.2)).toList = ps.toList.map fun p => (p.1, a.eval p.2) := by simp
              rw [e5, ← hf1, hzs]
              by_cases h0 : m * ee.size = 0
              · rw [if_pos h0, h0, show madeCells #[] 0 = madeCells z.cells 0 by simp [madeCells]]
              · rw [if_neg h0]
            have h24' : ¬ (2 ^ 24 < m * ee.size) := by omega
            unfold madeCells at hfill
            simp only [execOp, ho, Instr.buildSlice, Sem.run_bind, run_underlying hu, Result.andThen_ok, hi.sizeOf, gt_iff_lt, h24', if_false, Sem.run_pure]
            by_cases h0 : m * ee.size = 0
            · rw [if_pos h0] at hfill
              simp only [if_pos h0, Sem.run_bind, Sem.run_pure, Result.andThen_ok]
              rw [hfill]
              simp only [newRow, Sem.run_bind, run_newObj_alloc, Result.andThen_ok, Sem.run_pure]
              rfl
            · rw [if_neg h0] at hfill
              simp only [if_neg h0, Sem.run_bind, zeroValue, typeInfo, run_program, Result.andThen_ok, hi.info, hi.zero, Sem.run_pure]
              rw [hfill]
              simp only [newRow, Sem.run_bind, run_newObj_alloc, Result.andThen_ok, Sem.run_pure]
              rfl
          · have hn' : getO (setAll (frzL hm vs) h) nid = .none := by
              rcases setAll_get (frzL hm vs) (h := h) nid with h' | ⟨ob, h3, h4⟩
              · rw [h']; exact hn rfl
              · obtain ⟨_, _, _, _, _, h5, _⟩ := frzL_mem h3
                rcases hs nid with h' | h'
                · rw [h5] at h'; cases h'
                · rw [← h', h5] at hn; cases hn rfl
            have := mk_row (l := ⟨some w.heap.size, m⟩) (cs := ds.toList) nf.rep hn' hH.1 hH.2 (below_alloc w (.cells ds e)) (by rw [hsn]; exact h1) (fun b hb => by cases hb; exact Nat.le_refl _) (by
              rw [hxl]
              exact ⟨by simp [hds, hsn], .inr ⟨w.heap.size, m, ds, rfl, Nat.zero_le _, heap_alloc_new _ _, Nat.le_refl _, by unfold maxLen; have : m * 1 ≤ m * ee.size := Nat.mul_le_mul_left _ h1; omega, by rw [hds, hsn], by rw [hsn, ← hds, ← Array.length_toList, List.take_length]⟩⟩) hrl
            rw [hxl] at this
            obtain ⟨σ', n2, hv⟩ := this
            exact ⟨σ', nf.trans n2 R, hv⟩
end
end Go.Abs
