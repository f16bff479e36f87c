/- Policies, plainly: requests are granted within quotas. -/
import Derived.Test.YtopjalcimclaaaaDoorAbsOrd
namespace Go.Pol
open Go.Abs
abbrev PK := Int × Int × Int
abbrev Req := Int × Int × Int × Int × Int
abbrev Tld := Int × Int × Int × Int × Int
abbrev Entr := Int × Int × Int × Int
structure PSt where
  U : PK → Int
  rd : Int
  told : List Tld
def keyR (q : Req) : PK := (q.2.1, q.2.2.1, q.2.2.2.1)
def amtR (q : Req) : Int := q.2.2.2.2
def keyT (t : Tld) : PK := (t.2.1, t.2.2.1, t.2.2.2.1)
def amtT (t : Tld) : Int := t.2.2.2.2
def keyE (e : Entr) : PK := (e.1, e.2.1, e.2.2.1)
def quo (e : Entr) : Int := e.2.2.2
/-- Levels and numbers that are none. -/
def endsOk (m : Int) (x y : Int) : Bool := decide (0 ≤ x) && (decide (0 ≤ y) && (decide (x < m) && decide (y < m)))
def numOk (n : Int) : Bool := decide (0 ≤ n) && decide (n ≤ 1000)
def bad (m : Int) (q : Req) : Bool := decide (q.2.1 < 0) || !endsOk m q.2.2.1 q.2.2.2.1 || !numOk (amtR q)
def updK (U : PK → Int) (r : PK) (v : Int) : PK → Int := fun z => if z = r then v else U z
section
variable (m : Int) (un : Int → Int → Bool) (Q : PK → Option Int)
def stepP (q : Req) (s : PSt) : Int × PSt :=
  if q.1 = 1 then
    if bad m q = true then (2, s)
    else if un q.2.2.1 q.2.2.2.1 = true then (0, s)
    else match Q (keyR q) with
      | none => (5, s)
      | some most => if s.U (keyR q) + amtR q > most then (13, s) else (0, ⟨updK s.U (keyR q) (s.U (keyR q) + amtR q), s.rd, s.told ++ [(s.rd, q.2.1, q.2.2.1, q.2.2.2.1, amtR q)]⟩)
  else if q.1 = 2 then (0, ⟨fun _ => 0, s.rd + 1, s.told⟩) else (17, s)
def runP : List Req → PSt → List Int × PSt
  | [], s => ([], s)
  | q :: l, s => ((stepP m un Q q s).1 :: (runP l (stepP m un Q q s).2).1, (runP l (stepP m un Q q s).2).2)
def st0 : PSt := ⟨fun _ => 0, 0, []⟩
theorem run_append : (a b : List Req) → (s : PSt) → runP m un Q (a ++ b) s = ((runP m un Q a s).1 ++ (runP m un Q b (runP m un Q a s).2).1, (runP m un Q b (runP m un Q a s).2).2)
  | [], b, s => rfl
  | q :: a, b, s => by
    simp only [List.cons_append, runP, run_append a b]
theorem run_len : (l : List Req) → (s : PSt) → (runP m un Q l s).1.length = l.length
  | [], _ => rfl
  | q :: l, s => by simp only [runP, List.length_cons, run_len l]
theorem step_told (q : Req) (s : PSt) : ∃ l, (stepP m un Q q s).2.told = s.told ++ l ∧ l.length ≤ 1 := by
  unfold stepP
  split
  · split
    · exact ⟨[], by simp, by simp⟩
    · split
      · exact ⟨[], by simp, by simp⟩
      · split
        · exact ⟨[], by simp, by simp⟩
        · split
          · exact ⟨[], by simp, by simp⟩
          · exact ⟨_, rfl, by simp⟩
  · split
    · exact ⟨[], by simp, by simp⟩
    · exact ⟨[], by simp, by simp⟩
theorem run_told : (l : List Req) → (s : PSt) → ∃ t, (runP m un Q l s).2.told = s.told ++ t ∧ t.length ≤ l.length
  | [], s => ⟨[], by simp [runP], by simp⟩
  | q :: l, s => by
    obtain ⟨a, h1, h2⟩ := step_told m un Q q s
    obtain ⟨t, h3, h4⟩ := run_told l (stepP m un Q q s).2
    exact ⟨a ++ t, by simp only [runP, h3, h1, List.append_assoc], by simp only [List.length_append, List.length_cons]; omega⟩
theorem step_rd (q : Req) (s : PSt) : s.rd ≤ (stepP m un Q q s).2.rd ∧ (stepP m un Q q s).2.rd ≤ s.rd + 1 := by
  unfold stepP
  repeat' split
  all_goals (simp only; omega)
/-- What is used is never more than the quota. -/
structure Inv (s : PSt) : Prop where
  pos : ∀ r, 0 ≤ s.U r
  le : ∀ r, s.U r ≤ match Q r with | some v => v | none => 0
theorem bad_num {q : Req} (h : ¬ bad m q = true) : 0 ≤ amtR q ∧ amtR q ≤ 1000 ∧ 0 ≤ q.2.1 ∧ 0 ≤ q.2.2.1 ∧ q.2.2.1 < m ∧ 0 ≤ q.2.2.2.1 ∧ q.2.2.2.1 < m := by
  unfold bad endsOk numOk at h
  simp only [Bool.or_eq_true, decide_eq_true_eq, Bool.not_eq_true', Bool.and_eq_false_iff, decide_eq_false_iff_not] at h
  omega
theorem Inv.stepP {s : PSt} (hQ : ∀ r v, Q r = some v → 0 ≤ v) (h : Inv Q s) (q : Req) : Inv Q (stepP m un Q q s).2 := by
  unfold Pol.stepP
  split
  · split
    · exact h
    · rename_i hb
      have hn := bad_num m hb
      split
      · exact h
      · split
        · exact h
        · rename_i most hq
          split
          · exact h
          · rename_i hle
            refine ⟨fun r => ?_, fun r => ?_⟩
            · simp only [updK]
              split
              · have := h.pos (keyR q); omega
              · exact h.pos r
            · simp only [updK]
              split
              · rename_i e; rw [e, hq]; simp only; omega
              · exact h.le r
  · split
    · refine ⟨fun _ => Int.le_refl _, fun r => ?_⟩
      simp only
      cases q9 : Q r with
      | none => exact Int.le_refl _
      | some v => exact hQ r v q9
    · exact h
theorem Inv.runP (hQ : ∀ r v, Q r = some v → 0 ≤ v) : (l : List Req) → {s : PSt} → Inv Q s → Inv Q (runP m un Q l s).2
  | [], _, h => h
  | q :: l, _, h => Inv.runP hQ l (Inv.stepP m un Q hQ h q)
theorem run_rd : (l : List Req) → (s : PSt) → s.rd ≤ (runP m un Q l s).2.rd ∧ (runP m un Q l s).2.rd ≤ s.rd + l.length
  | [], s => ⟨Int.le_refl _, by simp [runP]⟩
  | q :: l, s => by
    have h1 := step_rd m un Q q s
    have h2 := run_rd l (stepP m un Q q s).2
    simp only [runP, List.length_cons]
    omega
theorem inv0 (hQ : ∀ r v, Q r = some v → 0 ≤ v) : Inv Q st0 := ⟨fun _ => Int.le_refl _, fun r => by
  simp only [st0]
  cases q9 : Q r with
  | none => exact Int.le_refl _
  | some v => exact hQ r v q9⟩
/-- How much was told of a key in a round. -/
def grant (l : List Tld) (r : PK) (k : Int) : Int :=
  match l with
  | [] => 0
  | t :: l => (if t.1 = k ∧ keyT t = r then amtT t else 0) + grant l r k
theorem grant_append (a b : List Tld) (r : PK) (k : Int) : grant (a ++ b) r k = grant a r k + grant b r k := by
  induction a with
  | nil => simp [grant]
  | cons t a ih => simp only [List.cons_append, grant, ih]; omega
/-- What was told keeps to the quotas. -/
structure Good (s : PSt) : Prop where
  inv : Inv Q s
  now : ∀ r, grant s.told r s.rd = s.U r
  old : ∀ r k, grant s.told r k ≤ match Q r with | some v => v | none => 0
  rds : ∀ t ∈ s.told, 0 ≤ t.1 ∧ t.1 ≤ s.rd
  ok : ∀ t ∈ s.told, (Q (keyT t)).isSome = true ∧ 0 ≤ amtT t ∧ 0 ≤ t.2.2.1 ∧ t.2.2.1 < m ∧ 0 ≤ t.2.2.2.1 ∧ t.2.2.2.1 < m ∧ un t.2.2.1 t.2.2.2.1 = false
  rd0 : 0 ≤ s.rd
theorem grant_zero {l : List Tld} {r : PK} {k : Int} (h : ∀ t ∈ l, t.1 < k) : grant l r k = 0 := by
  induction l with
  | nil => rfl
  | cons t l ih =>
    have := h t (by simp)
    simp only [grant]
    rw [if_neg (fun e => by omega), ih fun t ht => h t (by simp [ht])]; rfl
theorem Good.stepP {s : PSt} (hQ : ∀ r v, Q r = some v → 0 ≤ v) (h : Good m un Q s) (q : Req) : Good m un Q (stepP m un Q q s).2 := by
  have hi := Inv.stepP m un Q hQ h.inv q
  revert hi
  unfold Pol.stepP
  split
  · split
    · exact fun _ => h
    · rename_i hb
      have hn := bad_num m hb
      split
      · exact fun _ => h
      · rename_i hu
        split
        · exact fun _ => h
        · rename_i most hq
          split
          · exact fun _ => h
          · rename_i hle
            intro hi
            have hg : ∀ r k, grant (s.told ++ [(s.rd, q.2.1, q.2.2.1, q.2.2.2.1, amtR q)]) r k = grant s.told r k + if s.rd = k ∧ keyR q = r then amtR q else 0 := fun r k => by
              rw [grant_append]
              simp only [grant, Int.add_zero]
              by_cases e : s.rd = k ∧ keyR q = r
              · rw [if_pos e, if_pos (by exact e)]; rfl
              · rw [if_neg e, if_neg (by exact e)]
            refine ⟨hi, fun r => ?_, fun r k => ?_, fun t ht => ?_, fun t ht => ?_, h.rd0⟩
            · simp only [hg, h.now, updK]
              by_cases e : r = keyR q
              · subst e; simp
              · rw [if_neg e, if_neg fun x => e x.2.symm]; omega
            · simp only [hg]
              by_cases e : s.rd = k ∧ keyR q = r
              · obtain ⟨rfl, rfl⟩ := e
                rw [if_pos ⟨rfl, rfl⟩, h.now, hq]; simp only; omega
              · rw [if_neg e]; have := h.old r k; omega
            · rcases List.mem_append.1 ht with ht | ht
              · exact h.rds t ht
              · simp only [List.mem_singleton] at ht; subst ht; exact ⟨h.rd0, Int.le_refl _⟩
            · rcases List.mem_append.1 ht with ht | ht
              · exact h.ok t ht
              · simp only [List.mem_singleton] at ht; subst ht
                refine ⟨by rw [show keyT (s.rd, q.2.1, q.2.2.1, q.2.2.2.1, amtR q) = keyR q from rfl, hq]; rfl, hn.1, hn.2.2.2.1, hn.2.2.2.2.1, hn.2.2.2.2.2.1, hn.2.2.2.2.2.2, by simpa using hu⟩
  · split
    · intro hi
      refine ⟨hi, fun r => ?_, h.old, fun t ht => ?_, h.ok, ?_⟩
      · simp only
        exact grant_zero fun t ht => by have := h.rds t ht; omega
      · have := h.rds t ht; simp only; omega
      · have := h.rd0; simp only; omega
    · exact fun _ => h
theorem Good.runP (hQ : ∀ r v, Q r = some v → 0 ≤ v) : (l : List Req) → {s : PSt} → Good m un Q s → Good m un Q (runP m un Q l s).2
  | [], _, h => h
  | q :: l, _, h => Good.runP hQ l (Good.stepP m un Q hQ h q)
theorem good0 (hQ : ∀ r v, Q r = some v → 0 ≤ v) : Good m un Q st0 := ⟨inv0 Q hQ, fun _ => rfl, fun r k => by
  have := (inv0 Q hQ).le r
  exact this, fun t ht => (by cases ht), fun t ht => (by cases ht), Int.le_refl _⟩
/-- What others ask does not matter: the codes of one key's requests, and of all that are none. -/
theorem step_apart {r : PK} {q : Req} {s s' : PSt} (hq : q.1 ≠ 1 ∨ keyR q = r) (h : s.U r = s'.U r) : (stepP m un Q q s).1 = (stepP m un Q q s').1 ∧ (stepP m un Q q s).2.U r = (stepP m un Q q s').2.U r := by
  unfold Pol.stepP
  split
  · rename_i h1
    have hk : keyR q = r := hq.elim (fun x => absurd h1 x) id
    subst hk
    split
    · exact ⟨rfl, h⟩
    · split
      · exact ⟨rfl, h⟩
      · split
        · exact ⟨rfl, h⟩
        · rw [h]
          split
          · exact ⟨rfl, h⟩
          · refine ⟨rfl, ?_⟩
            simp only [updK, if_pos]
  · split
    · exact ⟨rfl, rfl⟩
    · exact ⟨rfl, h⟩
theorem step_other {r : PK} {q : Req} {s : PSt} (h1 : q.1 = 1) (hk : keyR q ≠ r) : (stepP m un Q q s).2.U r = s.U r := by
  unfold Pol.stepP
  rw [if_pos h1]
  split
  · rfl
  · split
    · rfl
    · split
      · rfl
      · split
        · rfl
        · simp only [updK]
          rw [if_neg (fun e : r = keyR q => hk e.symm)]
def mine (r : PK) (q : Req) : Bool := decide (q.1 ≠ 1) || decide (keyR q = r)
theorem run_apart (r : PK) : (l : List Req) → (s s' : PSt) → s.U r = s'.U r →
    (runP m un Q (l.filter (mine r)) s').1 = ((l.zip (runP m un Q l s).1).filter fun p => mine r p.1).map (·.2)
  | [], _, _, _ => rfl
  | q :: l, s, s', h => by
    simp only [runP, List.zip_cons_cons]
    cases hm : mine r q with
    | true =>
      have hq : q.1 ≠ 1 ∨ keyR q = r := by simpa [mine] using hm
      obtain ⟨e1, e2⟩ := step_apart m un Q hq h
      rw [List.filter_cons_of_pos hm, List.filter_cons_of_pos (by simpa using hm)]
      simp only [runP, List.map_cons]
      rw [run_apart r l _ _ e2, e1]
    | false =>
      have hq : q.1 = 1 ∧ ¬ keyR q = r := by simpa [mine] using hm
      rw [List.filter_cons_of_neg (by simp [hm]), List.filter_cons_of_neg (by simp [hm])]
      exact run_apart r l _ _ ((step_other m un Q hq.1 hq.2).trans h)
end
end Go.Pol
