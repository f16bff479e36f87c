/- An operation leans on its operands, and on the objects that its manner shows it. -/
import Derived.Test.YtdbjfdjpmoackaaDoorAbsNat
namespace Go.Abs
section
variable {ρ : Type} {C : Ctx} {h h' : List O} {t t' : Nat → V}
def Same (t t' : Nat → V) (o : Op) : Prop := ∀ i ∈ opTmps o, t i = t' i
theorem ev_congr {x : Operand} (hx : ∀ i, x = .tmp i → t i = t' i) : ev t x = ev t' x := by
  cases x with
  | tmp i => exact hx i rfl
  | _ => rfl
theorem Same.ev {o : Op} (hs : Same t t' o) {x : Operand} (hx : x ∈ o.operands) : ev t x = ev t' x :=
  ev_congr fun i hi => hs i (by
    subst hi
    exact List.mem_filterMap.2 ⟨.tmp i, by simpa using hx, rfl⟩)
theorem fillV_congr {place : Nat → Option (Nat × Nat)} : (ps : List (Nat × Operand)) → (vs : List V) → (∀ p ∈ ps, ev t p.2 = ev t' p.2) → fillV place t ps vs = fillV place t' ps vs
  | [], vs, _ => rfl
  | (i, x) :: r, vs, hp => by
    have hx := hp (i, x) (by simp)
    simp only at hx
    simp only [fillV, hx]
    split
    · rfl
    · rw [fillV_congr r _ fun p hm => hp p (by simp [hm])]
theorem map_congr' {xs : List Operand} (hx : ∀ x ∈ xs, ev t x = ev t' x) : xs.map (ev t) = xs.map (ev t') := List.map_congr_left hx
theorem callR_congr {c : Call} (hx : ∀ x ∈ c.operands, ev t x = ev t' x) (K : V → Option ρ) : callR C t h c K = callR C t' h c K := by
  have hargs : ∀ x ∈ c.args, ev t x = ev t' x := fun x hm => hx x (by simp [Call.operands, hm])
  have hm := map_congr' (t := t) (t' := t') (xs := c.args.toList) (fun x hm => hargs x (by simpa using hm))
  unfold callR
  split
  · split
    · split
      · rename_i x ty e _
        rw [hargs x (Array.mem_of_getElem? e)]
      · rfl
    · rw [hm]
    · rw [hm]
    · rfl
  · rename_i f hf
    rw [hm, hx f (by simp [Call.operands, hf])]
  · rfl
theorem evR_congr {o : Op} (hs : Same t t' o) (K : V → Option ρ) : evR C o t h K = evR C o t' h K := by
  have hev : ∀ x ∈ o.operands, ev t x = ev t' x := fun x hx => hs.ev hx
  cases o <;> simp only [Op.operands] at hev <;> simp only [evR]
  case build ty ps =>
    unfold buildK
    have := fun place vs => fillV_congr (place := place) ps.toList vs (fun p hp => hev p.2 (by simp; exact ⟨p.1, by simpa using hp⟩))
    simp only [this]
  case makeFunc fn first caps =>
    rw [map_congr' (xs := caps.toList) fun x hx => hev x (by simp; exact .inr (by simpa using hx)), map_congr' (xs := first.toList) fun x hx => hev x (by simp; exact .inl (by simpa using hx))]
  case slice ty x lo hi mx =>
    have h1 := hev x (by simp)
    have h2 : ∀ d (K : Int → Option ρ), optInt t lo d K = optInt t' lo d K := fun d K => by
      cases lo with
      | none => rfl
      | some y => simp only [optInt, hev y (by simp)]
    have h3 : ∀ d (K : Int → Option ρ), optInt t hi d K = optInt t' hi d K := fun d K => by
      cases hi with
      | none => rfl
      | some y => simp only [optInt, hev y (by simp)]
    cases mx <;> simp only [sliceK, h1, h2, h3]
  case call c => exact callR_congr (by simpa using hev) K
  all_goals (first | rfl | (simp_all; done))
theorem evS_congr {o : Op} (hs : Same t t' o) (nid : Nat) (K : V → List (Nat × O) → Option O → Option ρ) : evS C o t h nid K = evS C o t' h nid K := by
  have hev : ∀ x ∈ o.operands, ev t x = ev t' x := fun x hx => hs.ev hx
  cases o <;> simp only [Op.operands] at hev <;> simp only [evS]
  case buildSlice ty n ps =>
    unfold buildSliceK
    have := fun place vs => fillV_congr (place := place) ps.toList vs (fun p hp => hev p.2 (by simp; exact ⟨p.1, by simpa using hp⟩))
    simp only [this]
  case call c =>
    have hargs : ∀ x ∈ c.args, ev t x = ev t' x := fun x hm => hev x (by simp [Call.operands, hm])
    split
    · rename_i x y ty ty' e1 e2 _ _
      rw [hargs x (Array.mem_of_getElem? e1), hargs y (Array.mem_of_getElem? e2)]
    · rfl
  all_goals (first | rfl | (simp_all; done))
theorem callee?_ops {o : Op} {f : Operand} {args : Array Operand} (hc : callee? o = some (f, args)) : f ∈ o.operands ∧ ∀ x ∈ args, x ∈ o.operands := by
  unfold callee? at hc
  split at hc
  · rename_i c
    split at hc
    · rename_i f' hf
      simp only [Option.some.injEq, Prod.mk.injEq] at hc
      obtain ⟨rfl, rfl⟩ := hc
      exact ⟨by simp [Op.operands, Call.operands, hf], fun x hx => by simp [Op.operands, Call.operands, hx]⟩
    · cases hc
  · cases hc
theorem evM_congr {o : Op} (hs : Same t t' o) (md : Md) (K : V → List O → Option ρ) : evM C o t h md K = evM C o t' h md K := by
  cases md <;> simp only [evM]
  · exact evR_congr hs _
  · exact evR_congr hs _
  · rw [evS_congr hs]
  · rw [evS_congr hs]
  · unfold evW
    rw [evS_congr hs]
    split
    · rename_i f args hc
      obtain ⟨h1, h2⟩ := callee?_ops hc
      rw [hs.ev h1, map_congr' fun x hx => hs.ev (h2 x (by simpa using hx))]
    · rw [evR_congr hs]
/-- What of the objects a manner shows, and what it may change. -/
def Md.sees : Md → Nat → Prop
  | .pure, _ => False
  | .rd ids, i => memN ids i = true
  | .wr ids, i => memN ids i = true
  | .new id, i => i = id
  | .full, _ => True
def Md.foot : Md → Nat → Prop
  | .pure, _ => False
  | .rd _, _ => False
  | .wr ids, i => memN ids i = true
  | .new id, i => i = id
  | .full, _ => True
def Md.isFull : Md → Bool
  | .full => true
  | _ => false
def Md.isPure : Md → Bool
  | .pure => true
  | _ => false
structure Agree (md : Md) (h h' : List O) : Prop where
  len : md.isPure = false → h.length = h'.length
  get : ∀ i, md.sees i → getO h i = getO h' i
theorem ext_getO {h h' : List O} (hl : h.length = h'.length) (hg : ∀ i, getO h i = getO h' i) : h = h' := by
  apply List.ext_getElem hl
  intro i h1 h2
  have := hg i
  simpa [getO, List.getD, h1, h2] using this
theorem onlyF_length (p : Nat → Bool) : (i : Nat) → (h : List O) → (onlyF p i h).length = h.length
  | _, [] => rfl
  | i, x :: h => by simp [onlyF, onlyF_length p (i + 1) h]
theorem onlyF_agree {ids : List Nat} (hl : h.length = h'.length) (hg : ∀ i, memN ids i = true → getO h i = getO h' i) : onlyF (memN ids) 0 h = onlyF (memN ids) 0 h' := by
  apply ext_getO
  · rw [onlyF_length, onlyF_length, hl]
  · intro i
    rw [onlyF_get, onlyF_get, Nat.zero_add]
    split
    · exact hg i ‹_›
    · rfl
theorem getO_setAll_ne : (ss : List (Nat × O)) → (h : List O) → (i : Nat) → (∀ p ∈ ss, p.1 ≠ i) → getO (setAll ss h) i = getO h i
  | [], h, i, _ => rfl
  | (j, x) :: r, h, i, hp => by
    simp only [setAll]
    rw [getO_setAll_ne r _ i fun p hm => hp p (by simp [hm])]
    have := hp (j, x) (by simp)
    simp only at this
    simp [getO, List.getD, List.getElem?_set_ne this]
theorem getO_set_same {h h' : List O} (hl : h.length = h'.length) {i j : Nat} {x : O} (hg : getO h i = getO h' i) : getO (h.set j x) i = getO (h'.set j x) i := by
  simp only [getO, List.getD, List.getElem?_set] at hg ⊢
  rw [hl]
  split
  · rfl
  · exact hg
theorem getO_setAll_same : (ss : List (Nat × O)) → {h h' : List O} → h.length = h'.length → (i : Nat) → getO h i = getO h' i → getO (setAll ss h) i = getO (setAll ss h') i
  | [], h, h', _, i, hg => hg
  | (j, x) :: r, h, h', hl, i, hg => getO_setAll_same r (by simp [hl]) i (getO_set_same hl hg)
theorem evM_foot {o : Op} {md : Md} {v : V} {H : List O} (he : evM C o t h md two = some (v, H)) : (∀ i, ¬ md.foot i → getO H i = getO h i) ∧ (md.isFull = false → H.length = h.length) := by
  cases md with
  | pure =>
    simp only [evM] at he
    rw [evR_nat o] at he
    obtain ⟨u, _, he⟩ := Option.bind_eq_some_iff.1 he
    cases he
    exact ⟨fun _ _ => rfl, fun _ => rfl⟩
  | rd ids =>
    simp only [evM] at he
    rw [evR_nat o] at he
    obtain ⟨u, _, he⟩ := Option.bind_eq_some_iff.1 he
    cases he
    exact ⟨fun _ _ => rfl, fun _ => rfl⟩
  | wr ids =>
    obtain ⟨_, he⟩ := cond_some he
    rw [evS_nat o] at he
    obtain ⟨⟨u, ss, mk⟩, _, he⟩ := Option.bind_eq_some_iff.1 he
    cases mk with
    | some x => cases he
    | none =>
      simp only at he
      obtain ⟨hi, he⟩ := cond_some he
      cases he
      refine ⟨fun i hn => getO_setAll_ne ss h i fun p hp e => hn ?_, fun _ => setAll_length _ _⟩
      have := List.all_eq_true.1 hi p hp
      rw [e] at this
      exact this
  | new id =>
    obtain ⟨_, he⟩ := cond_some he
    rw [evS_nat o] at he
    obtain ⟨⟨u, ss, mk⟩, _, he⟩ := Option.bind_eq_some_iff.1 he
    cases ss with
    | cons p ss => cases he
    | nil =>
      cases mk with
      | none => cases he
      | some x =>
        simp only at he
        cases hg : getO h id with
        | none =>
          rw [hg] at he
          simp only at he
          obtain ⟨_, he⟩ := cond_some he
          cases he
          refine ⟨fun i hn => ?_, fun _ => by simp⟩
          have hn : id ≠ i := fun e => hn e.symm
          simp [getO, List.getD, List.getElem?_set_ne hn]
        | cells vs => rw [hg] at he; cases he
        | row fz ver e s xs => rw [hg] at he; cases he
  | full => exact ⟨fun i hn => absurd trivial hn, fun hf => by cases hf⟩
theorem evM_loc {o : Op} {md : Md} {v : V} {H : List O} (ha : Agree md h h') (he : evM C o t h md two = some (v, H)) :
    ∃ H', evM C o t h' md two = some (v, H') ∧ ∀ i, md.foot i → getO H i = getO H' i := by
  cases md with
  | pure =>
    simp only [evM] at he ⊢
    rw [evR_nat o] at he
    obtain ⟨u, h1, he⟩ := Option.bind_eq_some_iff.1 he
    cases he
    refine ⟨h', ?_, fun i hf => hf.elim⟩
    rw [evR_nat o, h1]; rfl
  | rd ids =>
    simp only [evM] at he ⊢
    rw [evR_nat o] at he
    obtain ⟨u, h1, he⟩ := Option.bind_eq_some_iff.1 he
    cases he
    refine ⟨h', ?_, fun i hf => hf.elim⟩
    rw [evR_nat o, ← onlyF_agree (ha.len rfl) ha.get, h1]; rfl
  | wr ids =>
    simp only [evM] at he ⊢
    obtain ⟨hS, he⟩ := cond_some he
    rw [evS_nat o] at he
    obtain ⟨⟨u, ss, mk⟩, h1, he⟩ := Option.bind_eq_some_iff.1 he
    cases mk with
    | some x => cases he
    | none =>
      simp only at he
      obtain ⟨hi, he⟩ := cond_some he
      cases he
      refine ⟨setAll ss h', ?_, fun i hf => getO_setAll_same ss (ha.len rfl) i (ha.get i hf)⟩
      rw [hS, cond_true, evS_nat o, ← onlyF_agree (ha.len rfl) ha.get, h1]
      simp only [Option.bind_some, hi, cond_true]
  | new id =>
    simp only [evM] at he ⊢
    obtain ⟨hS, he⟩ := cond_some he
    rw [evS_nat o] at he
    obtain ⟨⟨u, ss, mk⟩, h1, he⟩ := Option.bind_eq_some_iff.1 he
    cases ss with
    | cons p ss => cases he
    | nil =>
      cases mk with
      | none => cases he
      | some x =>
        simp only at he
        cases hg : getO h id with
        | none =>
          rw [hg] at he
          simp only at he
          obtain ⟨hlt, he⟩ := cond_some he
          cases he
          have hg' : getO h' id = .none := by rw [← ha.get id rfl, hg]
          refine ⟨h'.set id x, ?_, fun i hf => ?_⟩
          · rw [hS, cond_true, evS_nat o, h1]
            simp only [Option.bind_some, hg', ← ha.len rfl, hlt, cond_true]
          · exact getO_set_same (ha.len rfl) (ha.get i hf)
        | cells vs => rw [hg] at he; cases he
        | row fz ver e s xs => rw [hg] at he; cases he
  | full =>
    have : h = h' := ext_getO (ha.len rfl) fun i => ha.get i trivial
    subst this
    exact ⟨H, he, fun _ _ => rfl⟩
theorem memN_disj {a b : List Nat} (hd : disj a b = true) {i : Nat} (ha : memN a i = true) (hb : memN b i = true) : False := by
  unfold memN at ha
  obtain ⟨x, hx, he⟩ := List.any_eq_true.1 ha
  have he := Nat.eq_of_beq_eq_true he
  subst he
  have := List.all_eq_true.1 hd i hx
  simp [hb] at this
theorem mdOk_spec {a b : Md} (hm : mdOk a b = true) : (∀ i, a.foot i → ¬ b.sees i) ∧ (∀ i, b.foot i → ¬ a.sees i) ∧ (a.isFull = true → b.isPure = true) ∧ (b.isFull = true → a.isPure = true) := by
  have hne : ∀ {ids : List Nat} {j : Nat}, (!memN ids j) = true → memN ids j = true → False := fun {ids j} h1 h2 => by simp [h2] at h1
  cases a <;> cases b <;> simp only [mdOk, Bool.and_eq_true, Bool.false_eq_true] at hm <;>
    refine ⟨fun i hf hs => ?_, fun i hf hs => ?_, fun hh => ?_, fun hh => ?_⟩ <;>
    simp only [Md.foot, Md.sees, Md.isFull, Md.isPure, Bool.false_eq_true] at * <;>
    first
      | (subst hf; subst hs; simp at hm; done)
      | (subst hf; exact hne hm hs)
      | (subst hs; exact hne hm hf)
      | exact memN_disj hm hf hs
      | exact memN_disj hm hs hf
      | exact memN_disj hm.1 hf hs
      | exact memN_disj hm.1 hs hf
end
end Go.Abs
