/- A region's operations as steps of states; two that may change places. -/
import Derived.Test.YtdbjfdjpmoackaaDoorAbsLoc
namespace Go.Abs
section
variable {ρ : Type} {C : Ctx} {all : List Oper}
abbrev S := (Nat → V) × List O
def upd (dst : Option Tmp) (v : V) (t : Nat → V) : Nat → V :=
  match dst with
  | none => t
  | some d => fun i => bif Nat.beq d i then v else t i
def okDst (n : Nat) : Option Tmp → Bool
  | none => true
  | some d => Nat.blt d n
def actA (C : Ctx) (all : List Oper) (o : Oper) (md : Md) (t : Nat → V) (h : List O) : Option (V × List O) :=
  match o.guard with
  | none => evM C o.op t h md two
  | some (j, want) =>
    match dstOf all j with
    | none => none
    | some d =>
      match t d with
      | .bool b => if b = want then evM C o.op t h md two else some (.undef, h)
      | .undef => some (.undef, h)
      | _ => none
def stepA (C : Ctx) (all : List Oper) (x : Oper × Md) (s : S) : Option S :=
  bif okDst C.n x.1.dst then (actA C all x.1 x.2 s.1 s.2).map fun p => (upd x.1.dst p.1 s.1, p.2) else none
def runA (C : Ctx) (all : List Oper) : List (Oper × Md) → S → Option S
  | [], s => some s
  | x :: r, s => (stepA C all x s).bind (runA C all r)
def zipM : List Oper → List Md → List (Oper × Md)
  | [], _ => []
  | o :: r, mds => (o, mds.headD .full) :: zipM r mds.tail
theorem look_cons (d : Nat) (v : V) (t : Slots) : look ((d, v) :: t) = upd (some d) v (look t) := rfl
theorem upd_same {t : Nat → V} {d : Nat} {v : V} (h : t d = v) : upd (some d) v t = t := by
  funext i
  simp only [upd]
  cases hb : Nat.beq d i with
  | false => rfl
  | true => have := Nat.eq_of_beq_eq_true hb; subst this; exact h.symm
theorem putD_run {n : Nat} {dst : Option Tmp} {v : V} {t : Slots} {K : Slots → Option ρ} {res : ρ} (h : putD n dst v t K = some res) : okDst n dst = true ∧ ∃ t', look t' = upd dst v (look t) ∧ K t' = some res := by
  cases dst with
  | none => exact ⟨rfl, t, rfl, h⟩
  | some d =>
    simp only [putD] at h
    obtain ⟨h1, h2⟩ := cond_some h
    exact ⟨h1, _, look_cons d v t, h2⟩
theorem opsK_run : (r : List Oper) → (mds : List Md) → (t : Slots) → (h : List O) → (K : Slots → List O → Option ρ) → {res : ρ} → opsK C all r mds t h K = some res →
    ∃ t' h', runA C all (zipM r mds) (look t, h) = some (look t', h') ∧ K t' h' = some res
  | [], mds, t, h, K, res, hk => ⟨t, h, rfl, hk⟩
  | o :: r, mds, t, h, K, res, hk => by
    have fin : ∀ {v : V} {t1 : Slots} {H : List O}, look t1 = look t → actA C all o (mds.headD .full) (look t) h = some (v, H) →
        putD C.n o.dst v t1 (fun t => opsK C all r mds.tail t H K) = some res → ∃ t' h', runA C all (zipM (o :: r) mds) (look t, h) = some (look t', h') ∧ K t' h' = some res := by
      intro v t1 H e1 e2 e3
      obtain ⟨h1, t2, h2, h3⟩ := putD_run e3
      obtain ⟨t3, h4, h5, h6⟩ := opsK_run r mds.tail t2 H K h3
      refine ⟨t3, h4, ?_, h6⟩
      simp only [zipM, runA, stepA, h1, cond_true, e2, Option.map_some, Option.bind_some]
      rw [← e1, ← h2]; exact h5
    have evd : ∀ {t1 : Slots}, look t1 = look t → evM C o.op (look t1) h (mds.headD .full) (fun v h => putD C.n o.dst v t1 fun t => opsK C all r mds.tail t h K) = some res →
        ∃ v H, evM C o.op (look t) h (mds.headD .full) two = some (v, H) ∧ putD C.n o.dst v t1 (fun t => opsK C all r mds.tail t H K) = some res := by
      intro t1 e1 e2
      rw [evM_nat] at e2
      obtain ⟨⟨v, H⟩, h1, h2⟩ := Option.bind_eq_some_iff.1 e2
      rw [e1] at h1
      exact ⟨v, H, h1, h2⟩
    simp only [opsK] at hk
    cases hg : o.guard with
    | none =>
      rw [hg] at hk
      simp only at hk
      obtain ⟨v, H, h1, h2⟩ := evd rfl hk
      exact fin rfl (by simp only [actA, hg]; exact h1) h2
    | some gw =>
      obtain ⟨j, want⟩ := gw
      rw [hg] at hk
      simp only at hk
      cases hd : dstOf all j with
      | none => rw [hd] at hk; cases hk
      | some d =>
        rw [hd] at hk
        simp only at hk
        cases ht : look t d with
        | bool b =>
          rw [ht] at hk
          simp only at hk
          have hup : look ((d, .bool b) :: t) = look t := by rw [look_cons, upd_same ht]
          cases b with
          | true =>
            simp only [cond_true] at hk
            cases want with
            | true =>
              simp only [cond_true] at hk
              obtain ⟨v, H, h1, h2⟩ := evd hup hk
              exact fin hup (by simp only [actA, hg, hd, ht, if_true]; exact h1) h2
            | false =>
              simp only [cond_false] at hk
              exact fin hup (by simp [actA, hg, hd, ht]) hk
          | false =>
            simp only [cond_false] at hk
            cases want with
            | true =>
              simp only [cond_true] at hk
              exact fin hup (by simp [actA, hg, hd, ht]) hk
            | false =>
              simp only [cond_false] at hk
              obtain ⟨v, H, h1, h2⟩ := evd hup hk
              exact fin hup (by simp only [actA, hg, hd, ht, if_true]; exact h1) h2
        | undef =>
          rw [ht] at hk
          exact fin rfl (by simp [actA, hg, hd, ht]) hk
        | _ => rw [ht] at hk; cases hk

/-! ### Two operations change places -/
theorem actA_congr {o : Oper} {md : Md} {t t' : Nat → V} {h : List O} (hs : ∀ i ∈ reads all o, t i = t' i) : actA C all o md t h = actA C all o md t' h := by
  have h1 : Same t t' o.op := fun i hi => hs i (List.mem_append_right _ hi)
  have h2 := evM_congr (C := C) (h := h) h1 md two
  unfold actA
  cases hg : o.guard with
  | none => exact h2
  | some gw =>
    obtain ⟨j, want⟩ := gw
    simp only
    cases hd : dstOf all j with
    | none => rfl
    | some d =>
      have := hs d (List.mem_append_left _ (by simp [guardTmp, hg, hd]))
      simp only [this, h2]
theorem foot_sees {md : Md} {i : Nat} (h : md.foot i) : md.sees i := by
  cases md <;> simp_all [Md.foot, Md.sees]
theorem actA_foot {o : Oper} {md : Md} {t : Nat → V} {h : List O} {v : V} {H : List O} (he : actA C all o md t h = some (v, H)) : (∀ i, ¬ md.foot i → getO H i = getO h i) ∧ (md.isFull = false → H.length = h.length) := by
  unfold actA at he
  split at he
  · exact evM_foot he
  · split at he
    · cases he
    · split at he
      · split at he
        · exact evM_foot he
        · cases he; exact ⟨fun _ _ => rfl, fun _ => rfl⟩
      · cases he; exact ⟨fun _ _ => rfl, fun _ => rfl⟩
      · cases he
theorem actA_loc {o : Oper} {md : Md} {t : Nat → V} {h h' : List O} {v : V} {H : List O} (ha : Agree md h h') (he : actA C all o md t h = some (v, H)) :
    ∃ H', actA C all o md t h' = some (v, H') ∧ ∀ i, md.foot i → getO H i = getO H' i := by
  unfold actA at he ⊢
  split at he
  · exact evM_loc ha he
  · split at he
    · cases he
    · split at he
      · split at he
        · rename_i hb; subst hb
          simp only [if_true]
          exact evM_loc ha he
        · rename_i hb
          cases he; exact ⟨h', by simp [hb], fun i hf => ha.get i (foot_sees hf)⟩
      · cases he; exact ⟨h', rfl, fun i hf => ha.get i (foot_sees hf)⟩
      · cases he
theorem memN_iff {l : List Nat} {i : Nat} : memN l i = true ↔ i ∈ l := by
  unfold memN
  rw [List.any_eq_true]
  exact ⟨fun ⟨x, h1, h2⟩ => by rw [Nat.eq_of_beq_eq_true h2]; exact h1, fun h => ⟨i, h, Nat.beq_refl i⟩⟩
theorem upd_reads {dst : Option Tmp} {l : List Nat} (h : notIn dst l = true) {v : V} {t : Nat → V} : ∀ i ∈ l, t i = upd dst v t i := by
  intro i hi
  cases dst with
  | none => rfl
  | some d =>
    simp only [upd]
    cases hb : Nat.beq d i with
    | false => rfl
    | true =>
      have := Nat.eq_of_beq_eq_true hb; subst this
      simp only [notIn, memN_iff.2 hi] at h; cases h
theorem upd_comm {a b : Option Tmp} (h : unlike a b = true) {u v : V} {t : Nat → V} : upd a u (upd b v t) = upd b v (upd a u t) := by
  cases a with
  | none => rfl
  | some x =>
    cases b with
    | none => rfl
    | some y =>
      funext i
      simp only [upd]
      cases hx : Nat.beq x i with
      | false => rfl
      | true =>
        cases hy : Nat.beq y i with
        | false => rfl
        | true =>
          have e1 := Nat.eq_of_beq_eq_true hx; have e2 := Nat.eq_of_beq_eq_true hy
          subst e1; subst e2
          simp [unlike, Nat.beq_refl] at h
theorem stepA_some {x : Oper × Md} {s s' : S} (h : stepA C all x s = some s') : okDst C.n x.1.dst = true ∧ ∃ v H, actA C all x.1 x.2 s.1 s.2 = some (v, H) ∧ s' = (upd x.1.dst v s.1, H) := by
  unfold stepA at h
  obtain ⟨h1, h2⟩ := cond_some h
  obtain ⟨⟨v, H⟩, h3, h4⟩ := Option.map_eq_some_iff.1 h2
  exact ⟨h1, v, H, h3, h4.symm⟩
theorem swap_sound {x y : Oper × Md} (hsw : swapOk all x.1 x.2 y.1 y.2 = true) {s s1 s2 : S} (h1 : stepA C all x s = some s1) (h2 : stepA C all y s1 = some s2) :
    ∃ s1', stepA C all y s = some s1' ∧ stepA C all x s1' = some s2 := by
  simp only [swapOk, Bool.and_eq_true] at hsw
  obtain ⟨⟨⟨hu, hxy⟩, hyx⟩, hm⟩ := hsw
  obtain ⟨m1, m2, m3, m4⟩ := mdOk_spec hm
  obtain ⟨o1, va, H1, e1, rfl⟩ := stepA_some h1
  obtain ⟨o2, vb, H2, e2, rfl⟩ := stepA_some h2
  simp only at e2
  rw [← actA_congr (upd_reads hxy)] at e2
  obtain ⟨f1, l1⟩ := actA_foot e1
  obtain ⟨f2, l2⟩ := actA_foot e2
  have full_of : ∀ {md : Md}, md.isPure = false → md.isFull = true ∨ md.isFull = false := fun {md} _ => by cases md.isFull <;> simp
  have pf : ∀ {md : Md}, md.isPure = true → ∀ i, ¬ md.foot i := fun {md} hp i => by cases md <;> simp_all [Md.isPure, Md.foot]
  have pnf : ∀ {md : Md}, md.isPure = true → md.isFull = false := fun {md} hp => by cases md <;> simp_all [Md.isPure, Md.isFull]
  have nfull : ∀ {md md' : Md}, (md.isFull = true → md'.isPure = true) → md'.isPure = false → md.isFull = false := fun {md md'} hh hp => by
    cases hf : md.isFull with
    | false => rfl
    | true => rw [hh hf] at hp; cases hp
  have ag1 : Agree y.2 H1 s.2 := ⟨fun hp => l1 (nfull m3 hp), fun i hs => f1 i fun hf => m1 i hf hs⟩
  obtain ⟨H1', e3, g3⟩ := actA_loc ag1 e2
  obtain ⟨f3, l3⟩ := actA_foot e3
  have ag2 : Agree x.2 s.2 H1' := ⟨fun hp => (l3 (nfull m4 hp)).symm, fun i hs => (f3 i fun hf => m2 i hf hs).symm⟩
  obtain ⟨H2', e4, g4⟩ := actA_loc ag2 e1
  obtain ⟨f4, l4⟩ := actA_foot e4
  have hH : H2 = H2' := by
    apply ext_getO
    · cases hx : x.2.isFull with
      | true =>
        have hp := m3 hx
        have h12 : H2.length = H1.length := l2 (pnf hp)
        have hs1 : s.2 = H1' := (ext_getO (l3 (pnf hp)) fun i => f3 i (pf hp i)).symm
        rw [← hs1, e1] at e4
        cases e4
        exact h12
      | false =>
        cases hy : y.2.isFull with
        | true =>
          have hp := m4 hy
          have hs1 : H1 = s.2 := ext_getO (l1 hx) fun i => f1 i (pf hp i)
          rw [hs1, e3] at e2
          cases e2
          exact (l4 hx).symm
        | false => rw [l2 hy, l1 hx, l4 hx, l3 hy]
    · intro i
      by_cases hx : x.2.foot i
      · rw [f2 i fun hf => m1 i hx (foot_sees hf), g4 i hx]
      · by_cases hy : y.2.foot i
        · rw [g3 i hy, f4 i hx]
        · rw [f2 i hy, f1 i hx, f4 i hx, f3 i hy]
  subst hH
  refine ⟨(upd y.1.dst vb s.1, H1'), ?_, ?_⟩
  · simp only [stepA, o2, cond_true, e3, Option.map_some]
  · rw [actA_congr (upd_reads hyx (v := vb))] at e4
    simp only [stepA, o1, cond_true, e4, Option.map_some, upd_comm hu]
theorem front_sound : (pre : List (Oper × Md)) → {x : Oper × Md} → {post : List (Oper × Md)} → (∀ p ∈ pre, swapOk all p.1 p.2 x.1 x.2 = true) → {s s' : S} →
    runA C all (pre ++ x :: post) s = some s' → ∃ s1, stepA C all x s = some s1 ∧ runA C all (pre ++ post) s1 = some s'
  | [], x, post, hp, s, s', h => by
    obtain ⟨s1, h1, h2⟩ := Option.bind_eq_some_iff.1 h
    exact ⟨s1, h1, h2⟩
  | p :: pre, x, post, hp, s, s', h => by
    obtain ⟨s1, h1, h2⟩ := Option.bind_eq_some_iff.1 h
    obtain ⟨s2, h3, h4⟩ := front_sound pre (fun q hq => hp q (by simp [hq])) h2
    obtain ⟨s1', h5, h6⟩ := swap_sound (hp p (by simp)) h1 h3
    refine ⟨s1', h5, ?_⟩
    simp only [List.cons_append, runA, h6, Option.bind_some]
    exact h4
end
end Go.Abs
