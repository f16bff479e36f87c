/- policy: what the functions come to. -/
import Derived.Test.YtopjalcimclaaaaDoorPol
import Derived.Test.YtopjalcimclaaaaDoorPolP
import Derived.Test.YtopjalcimclaaaaDoorLatticeS
namespace Go.Proofs.YtopjalcimclaaaaDoor
open Go.Abs Go.Pol
abbrev k3 : Sh := .pair (.int .i64) (.pair (.int .i64) (.int .i64))
abbrev v1 : Sh := .int .i64
abbrev k3n : noSl k3 = true := rfl
abbrev M3 : Type := Int × List (Int × (Int × Int × Int) × Int)
theorem bool_eqP {a b : Bool} (h : a = true ↔ b = true) : a = b := by cases a <;> cases b <;> simp_all
structure PBQ (Q : PK → Option Int) (d : M3) : Prop where
  ok : MpOk k3 v1 d
  has : ∀ r : PK, mpHas k3 v1 d r = (Q r).isSome
  get : ∀ (r : PK) (v : Int), Q r = some v → mpGet k3 v1 d r = v
structure PBU (U : PK → Int) (d : M3) : Prop where
  ok : MpOk k3 v1 d
  get : ∀ r : PK, mpGet k3 v1 d r = U r
theorem PBU.empty (c : Int) : PBU (fun _ => 0) (c, []) := ⟨⟨List.nodup_nil, List.nodup_nil, fun e h => by cases h⟩, fun r => rfl⟩
theorem PBQ.empty : PBQ (fun _ => none) ((0 : Int), []) := ⟨MpOk.empty, fun r => rfl, fun r v h => by cases h⟩
theorem PBU.put {U : PK → Int} {d : M3} (h : PBU U d) (r : PK) (v : Int) : PBU (updK U r v) (mpPut k3 v1 d r v) := ⟨h.ok.put k3n r v, fun z => by
  unfold updK
  by_cases e : z = r
  · subst e; rw [if_pos rfl]; exact mput_get (k := k3) (v := v1) k3n d z v
  · rw [if_neg e, ← h.get z]; exact mput_get_ne (k := k3) (v := v1) k3n d e v⟩
theorem ends_eq (N : Nat) (a b : Int) (m : Int) (r : List Int × List Int × List Int × Int × Int × Int × M3 × M3) : D_policy_Book_ends_h N (a, b, m, r) = some (endsOk m a b, m, r) := by
  obtain ⟨up, J, M, B, T, rd, d9, d10⟩ := r
  simp only [D_policy_Book_ends_h, policy_Book_ends_h_1]
  have hb : endsOk m a b = (decide ((if b < a then b else a) ≥ 0) && decide ((if b > a then b else a) < m)) := by
    apply bool_eqP
    unfold endsOk
    simp only [Bool.and_eq_true, decide_eq_true_eq]
    split <;> split <;> omega
  rw [hb]
  cases decide ((if b < a then b else a) ≥ 0) <;> rfl
theorem ends2_eq (N : Nat) (a b : Int) (m : Int) (r : List Int × List Int × List Int × Int × Int × Int × M3 × M3 × List Tld) : D_policy_Book_ends_h2 N (a, b, m, r) = some (endsOk m a b, m, r) := by
  obtain ⟨up, J, M, B, T, rd, d9, d10, told⟩ := r
  simp only [D_policy_Book_ends_h2, policy_Book_ends_h2_1]
  have hb : endsOk m a b = (decide ((if b < a then b else a) ≥ 0) && decide ((if b > a then b else a) < m)) := by
    apply bool_eqP
    unfold endsOk
    simp only [Bool.and_eq_true, decide_eq_true_eq]
    split <;> split <;> omega
  rw [hb]
  cases decide ((if b < a then b else a) ≥ 0) <;> rfl
theorem num_eq (N : Nat) (n : Int) : D_policy_number N (n, ()) = some (numOk n, ()) := by
  simp only [D_policy_number, policy_number_1, numOk]
  by_cases h : n ≥ 0
  · rw [d_true h, cond_true, Bool.true_and]
  · rw [d_false h, cond_false, Bool.false_and]
def unB (up : List Int) (a b : Int) : Bool := bt (nth 0 up a.toNat) b.toNat
theorem Under_eq' (N : Nat) {m : Int} {up J M : List Int} {B T : Int} (hw : WL up) {a b : Int} (h : endsOk m a b = true) (hl : up.length = m.toNat) : D_lattice_Table_Under N (((m, up), (J, (M, (B, T)))), a, b, ()) = some (unB up a b, ()) := by
  unfold endsOk at h
  simp only [Bool.and_eq_true, decide_eq_true_eq] at h
  obtain ⟨a, rfl⟩ : ∃ n : Nat, a = (n : Int) := ⟨a.toNat, by omega⟩
  obtain ⟨b, rfl⟩ : ∃ n : Nat, b = (n : Int) := ⟨b.toNat, by omega⟩
  simp only [D_lattice_Table_Under, lattice_Table_Under_1, ge0_d, lt_d (show a < up.length by omega), Bool.and_self, cond_true, Int.toNat_natCast, Has_eq N (hw.nth a), Option.bind_some, unB]
section
variable {N : Nat} {m : Int} {up J M : List Int} {B T : Int} {Q : PK → Option Int} {d9 : M3}
theorem tell_eq (hw : WL up) (hl : up.length = m.toNat) (h9 : PBQ Q d9) (hQ : ∀ r v, Q r = some v → 0 ≤ v ∧ v ≤ 1000) {s : PSt} (hs : Inv Q s) {d10 : M3} (h10 : PBU s.U d10) (ht : s.told.length ≤ 1000) {q : Req} (hq : q.1 = 1) :
    ∃ d', PBU (stepP m (unB up) Q q s).2.U d' ∧ (((stepP m (unB up) Q q s).1 ≠ 0 ∧ D_policy_Book_tell_h N (q, m, up, J, M, B, T, s.rd, d9, d10, s.told) = some (.inl ((stepP m (unB up) Q q s).1, m, up, J, M, B, T, s.rd, d9, d', (stepP m (unB up) Q q s).2.told))) ∨
      ((stepP m (unB up) Q q s).1 = 0 ∧ D_policy_Book_tell_h N (q, m, up, J, M, B, T, s.rd, d9, d10, s.told) = some (.inr (m, up, J, M, B, T, s.rd, d9, d', (stepP m (unB up) Q q s).2.told)))) := by
  obtain ⟨kd, at_, fr, to, n⟩ := q
  simp only at hq
  subst hq
  simp only [D_policy_Book_tell_h, policy_Book_tell_h_1, ends2_eq, Option.bind_some]
  have hbad : bad m ((1 : Int), at_, fr, to, n) = (decide (at_ < 0) || !endsOk m fr to || !numOk n) := rfl
  have e2 : bad m ((1 : Int), at_, fr, to, n) = true → stepP m (unB up) Q ((1 : Int), at_, fr, to, n) s = (2, s) := fun h => by
    unfold stepP; rw [if_pos rfl, if_pos h]
  cases h1 : decide (at_ < 0) with
  | true => rw [e2 (by rw [hbad, h1]; rfl)]; exact ⟨d10, h10, .inl ⟨by simp, rfl⟩⟩
  | false =>
  cases h2 : endsOk m fr to with
  | false => rw [e2 (by rw [hbad, h1, h2]; rfl)]; exact ⟨d10, h10, .inl ⟨by simp, rfl⟩⟩
  | true =>
  simp only [Bool.not_true, cond_false, num_eq N n, Option.bind_some]
  cases h3 : numOk n with
  | false => rw [e2 (by rw [hbad, h1, h2, h3]; rfl)]; exact ⟨d10, h10, .inl ⟨by simp, rfl⟩⟩
  | true =>
  have hb : ¬ bad m ((1 : Int), at_, fr, to, n) = true := by rw [hbad, h1, h2, h3]; simp
  simp only [Bool.not_true, cond_false, Under_eq' N hw h2 hl, Option.bind_some]
  cases h4 : unB up fr to with
  | true =>
    have e3 : stepP m (unB up) Q ((1 : Int), at_, fr, to, n) s = (0, s) := by unfold stepP; rw [if_pos rfl, if_neg hb, if_pos h4]
    rw [e3]; exact ⟨d10, h10, .inr ⟨rfl, rfl⟩⟩
  | false =>
  simp only [cond_false, h9.has]
  have e4 : stepP m (unB up) Q ((1 : Int), at_, fr, to, n) s = match Q (at_, fr, to) with
      | none => (5, s)
      | some most => if s.U (at_, fr, to) + n > most then (13, s) else (0, ⟨updK s.U (at_, fr, to) (s.U (at_, fr, to) + n), s.rd, s.told ++ [(s.rd, at_, fr, to, n)]⟩) := by
    unfold stepP; rw [if_pos rfl, if_neg hb, if_neg (show ¬ unB up fr to = true by simp [h4])]; rfl
  cases h5 : Q (at_, fr, to) with
  | none => rw [h5] at e4; rw [e4]; exact ⟨d10, h10, .inl ⟨by simp, rfl⟩⟩
  | some most =>
  rw [h5] at e4
  simp only at e4
  have hmost := hQ _ _ h5
  have hus := hs.le (at_, fr, to)
  have hup := hs.pos (at_, fr, to)
  rw [h5] at hus
  simp only at hus
  unfold numOk at h3
  simp only [Bool.and_eq_true, decide_eq_true_eq] at h3
  have hwr : IntKind.i64.wrap (s.U (at_, fr, to) + n) = s.U (at_, fr, to) + n := w64 (by omega) (by omega)
  have hst : mpStands k3 v1 (mpEnt k3 v1 d10 (at_, fr, to)) (mpWhen k3 v1 d10 (at_, fr, to)) = true := mpStands_ent (k := k3) (v := v1) d10 (at_, fr, to)
  have hat : ∀ y : Int, mpAt k3 v1 (mpEnt k3 v1 d10 (at_, fr, to)) (mpWhen k3 v1 d10 (at_, fr, to)) y = mpPut k3 v1 d10 (at_, fr, to) y := fun y => mpAt_ent (k := k3) (v := v1) h10.ok (at_, fr, to) y
  simp only [Option.isSome_some, Bool.not_true, cond_false, h9.get _ _ h5, h10.get, hwr]
  by_cases h6 : s.U (at_, fr, to) + n > most
  · rw [if_pos h6] at e4
    rw [e4]
    refine ⟨d10, h10, .inl ⟨by simp, ?_⟩⟩
    rw [d_true h6]; rfl
  · rw [if_neg h6] at e4
    rw [e4]
    refine ⟨mpPut k3 v1 d10 (at_, fr, to) (s.U (at_, fr, to) + n), h10.put _ _, .inr ⟨rfl, ?_⟩⟩
    have hcap : decide ((s.told.length + ([(s.rd, at_, fr, to, n)] : List Tld).length) * 40 ≤ 140737488355328) = true := d_true (by simp only [List.length_singleton]; omega)
    simp only [d_false h6, cond_false, hst, cond_true, hcap, hat, show Nat.ble 1 40 = true from rfl, Bool.and_self]
theorem Ask_eq (hw : WL up) (hl : up.length = m.toNat) (h9 : PBQ Q d9) (hQ : ∀ r v, Q r = some v → 0 ≤ v ∧ v ≤ 1000) {s : PSt} (hs : Inv Q s) {d10 : M3} (h10 : PBU s.U d10) (ht : s.told.length ≤ 1000) (hr : 0 ≤ s.rd ∧ s.rd ≤ 1000) (q : Req) :
    ∃ d', PBU (stepP m (unB up) Q q s).2.U d' ∧ D_policy_Book_Ask_h N (q, m, up, J, M, B, T, s.rd, d9, d10, s.told) = some ((stepP m (unB up) Q q s).1, m, up, J, M, B, T, (stepP m (unB up) Q q s).2.rd, d9, d', (stepP m (unB up) Q q s).2.told) := by
  by_cases hq : q.1 = 1
  · obtain ⟨d', p1, p2⟩ := tell_eq (N := N) (J := J) (M := M) (B := B) (T := T) hw hl h9 hQ hs h10 ht hq
    have hrd : (stepP m (unB up) Q q s).2.rd = s.rd := by
      unfold stepP
      rw [if_pos hq]
      repeat' split
      all_goals rfl
    refine ⟨d', p1, ?_⟩
    simp only [D_policy_Book_Ask_h, policy_Book_Ask_h_1, hq, beq_self_eq_true, cond_true]
    have hqq : ((1 : Int), q.2.1, q.2.2.1, q.2.2.2.1, q.2.2.2.2) = q := by rw [← hq]
    rw [hqq, hrd]
    rcases p2 with ⟨-, p2⟩ | ⟨p0, p2⟩
    · rw [p2]; rfl
    · rw [p2, p0]; rfl
  · by_cases hq2 : q.1 = 2
    · refine ⟨(d10.1, []), ?_, ?_⟩
      · unfold stepP; rw [if_neg hq, if_pos hq2]; exact PBU.empty _
      · simp only [D_policy_Book_Ask_h, policy_Book_Ask_h_1, hq2, show ((2 : Int) == 1) = false from rfl, beq_self_eq_true, cond_true, cond_false]
        unfold stepP
        rw [if_neg hq, if_pos hq2, w64 (by omega) (by omega)]
    · refine ⟨d10, ?_, ?_⟩
      · unfold stepP; rw [if_neg hq, if_neg hq2]; exact h10
      · simp only [D_policy_Book_Ask_h, policy_Book_Ask_h_1, beq_false_of_ne hq, beq_false_of_ne hq2, cond_false]
        unfold stepP
        rw [if_neg hq, if_neg hq2]
end
theorem ix1P {n i : Nat} (h : i < n) (hn : n ≤ 4611686018427387904) : IntKind.i64.wrap ((i : Int) + 1) = (i : Int) + 1 := w64 (by omega) (by omega)
theorem take_nthP {α : Type} {z : α} {xs : List α} {i : Nat} (h : i < xs.length) : xs.take (i + 1) = xs.take i ++ [nth z xs i] := by
  rw [List.take_succ_eq_append_getElem h, nth_lt h]
/-- What a table's entries say. -/
structure TabOk (l : List Entr) (Q : PK → Option Int) : Prop where
  all : ∀ e ∈ l, Q (keyE e) = some (quo e)
  only : ∀ r v, Q r = some v → (0 ≤ v ∧ v ≤ 1000) ∧ ∃ e ∈ l, keyE e = r ∧ quo e = v
theorem TabOk.nil : TabOk [] (fun _ => none) := ⟨fun e h => (by cases h), fun r v h => (by cases h)⟩
section
variable {N : Nat} {m : Int} {up J M : List Int} {B T : Int}
theorem add_eq {Q : PK → Option Int} {d9 : M3} (hw : WL up) (hl : up.length = m.toNat) (h9 : PBQ Q d9) (rd : Int) (d10 : M3) (e : Entr) :
    (∃ c r, c ≠ 0 ∧ D_policy_Book_add_h N (e, m, up, J, M, B, T, rd, d9, d10) = some (.inl (c, r))) ∨
    (Q (keyE e) = none ∧ 0 ≤ quo e ∧ quo e ≤ 1000 ∧ D_policy_Book_add_h N (e, m, up, J, M, B, T, rd, d9, d10) = some (.inr (m, up, J, M, B, T, rd, mpPut k3 v1 d9 (keyE e) (quo e), d10))) := by
  obtain ⟨at_, fr, to, n⟩ := e
  simp only [D_policy_Book_add_h, policy_Book_add_h_1, ends_eq, Option.bind_some, keyE, quo]
  cases h1 : decide (at_ < 0) with
  | true => exact .inl ⟨2, _, by decide, rfl⟩
  | false =>
  cases h2 : endsOk m fr to with
  | false => exact .inl ⟨2, _, by decide, rfl⟩
  | true =>
  simp only [Bool.not_true, cond_false, num_eq N n, Option.bind_some]
  cases h3 : numOk n with
  | false => exact .inl ⟨2, _, by decide, rfl⟩
  | true =>
  simp only [Bool.not_true, cond_false, Under_eq' N hw h2 hl, Option.bind_some]
  cases h4 : unB up fr to with
  | true => exact .inl ⟨12, _, by decide, rfl⟩
  | false =>
  simp only [cond_false, h9.has]
  cases h5 : Q (at_, fr, to) with
  | some v => exact .inl ⟨3, _, by decide, rfl⟩
  | none =>
    unfold numOk at h3
    simp only [Bool.and_eq_true, decide_eq_true_eq] at h3
    exact .inr ⟨rfl, h3.1, h3.2, rfl⟩
def setQ (Q : PK → Option Int) (r : PK) (v : Int) : PK → Option Int := fun z => if z = r then some v else Q z
theorem PBQ.put {Q : PK → Option Int} {d : M3} (h : PBQ Q d) (r : PK) (v : Int) : PBQ (setQ Q r v) (mpPut k3 v1 d r v) where
  ok := h.ok.put k3n r v
  has := fun z => by
    unfold setQ
    by_cases e : z = r
    · subst e; rw [if_pos rfl]; exact mput_has (k := k3) (v := v1) k3n d z v
    · rw [if_neg e, ← h.has z]; exact mput_has_ne (k := k3) (v := v1) k3n d e v
  get := fun z y hy => by
    unfold setQ at hy
    by_cases e : z = r
    · subst e; rw [if_pos rfl] at hy; cases hy; exact mput_get (k := k3) (v := v1) k3n d z _
    · rw [if_neg e] at hy; rw [← h.get z y hy]; exact mput_get_ne (k := k3) (v := v1) k3n d e v
theorem TabOk.put {l : List Entr} {Q : PK → Option Int} (h : TabOk l Q) {e : Entr} (h0 : Q (keyE e) = none) (h1 : 0 ≤ quo e) (h2 : quo e ≤ 1000) : TabOk (l ++ [e]) (setQ Q (keyE e) (quo e)) where
  all := fun x hx => by
    unfold setQ
    rcases List.mem_append.1 hx with hx | hx
    · have := h.all x hx
      rw [if_neg fun e9 => by rw [e9, h0] at this; cases this]; exact this
    · simp only [List.mem_singleton] at hx; subst hx; rw [if_pos rfl]
  only := fun r y hv => by
    unfold setQ at hv
    by_cases e9 : r = keyE e
    · rw [if_pos e9] at hv; cases hv; exact ⟨⟨h1, h2⟩, e, by simp, e9.symm, rfl⟩
    · rw [if_neg e9] at hv
      obtain ⟨p1, x, p2, p3⟩ := h.only r y hv
      exact ⟨p1, x, by simp [p2], p3⟩
theorem open_loop {table : List Entr} (hw : WL up) (hl : up.length = m.toNat) (ht : table.length ≤ 16) (d10 : M3) : ∀ (k i N' : Nat) (d9 : M3) (Q : PK → Option Int), i + k = table.length → k < N' → PBQ Q d9 → TabOk (table.take i) Q →
    let G : _ → _ → Option Rt_policy_Open_h := fun (s : Int × M3 × M3 × Int × List Int × List Int × List Int × Int × Int × Int) kn => policy_Open_h_2 N (fun s : Int × Int × M3 × M3 × Int × List Int × List Int × List Int × Int × Int × Int => policy_Open_h_1 N s.2.2.1 s.2.2.2.1 s.2.2.2.2.1 s.2.2.2.2.2.1 s.2.2.2.2.2.2.1 s.2.2.2.2.2.2.2.1 s.2.2.2.2.2.2.2.2.1 s.2.2.2.2.2.2.2.2.2.1 s.2.2.2.2.2.2.2.2.2.2) table (table.length : Int) 0 0 s.1 s.2.1 s.2.2.1 s.2.2.2.1 s.2.2.2.2.1 s.2.2.2.2.2.1 s.2.2.2.2.2.2.1 s.2.2.2.2.2.2.2.1 s.2.2.2.2.2.2.2.2.1 s.2.2.2.2.2.2.2.2.2 (backE (table, (table.length : Int), (0 : Int), (0 : Int)) kn)
    (∃ c a, c ≠ 0 ∧ loopD G N' ((i : Int), d9, d10, m, up, J, M, B, T, 0) = some (.inl (c, a))) ∨
    (∃ Q' d', PBQ Q' d' ∧ TabOk table Q' ∧ loopD G N' ((i : Int), d9, d10, m, up, J, M, B, T, 0) = some (.inr ((0, 0), d', d10, m, up, J, M, B, T, 0))) := by
  intro k
  induction k with
  | zero =>
    intro i N' d9 Q hi hN h9 hT G
    obtain ⟨n, rfl⟩ : ∃ n, N' = n + 1 := ⟨N' - 1, by omega⟩
    obtain rfl : i = table.length := by omega
    refine .inr ⟨Q, d9, h9, by rwa [List.take_length] at hT, ?_⟩
    show G _ _ = _
    simp only [G, policy_Open_h_2, lt_self, cond_false, policy_Open_h_1]
  | succ k ih =>
    intro i N' d9 Q hi hN h9 hT G
    obtain ⟨n, rfl⟩ : ∃ n, N' = n + 1 := ⟨N' - 1, by omega⟩
    have hlt : i < table.length := by omega
    have heta : ∀ x : Entr, (x.1, x.2.1, x.2.2.1, x.2.2.2) = x := fun _ => rfl
    have hG : ∀ kn, G ((i : Int), d9, d10, m, up, J, M, B, T, 0) kn = (D_policy_Book_add_h N (nth (0, 0, 0, 0) table i, m, up, J, M, B, T, 0, d9, d10)).bind fun y => caseD y (fun y => (some y.1).bind fun z => some (.inl (z, (i : Int)))) fun y => kn ((i : Int) + 1, y.2.2.2.2.2.2.2.1, y.2.2.2.2.2.2.2.2, y.1, y.2.1, y.2.2.1, y.2.2.2.1, y.2.2.2.2.1, y.2.2.2.2.2.1, y.2.2.2.2.2.2.1) := fun kn => by
      simp only [G, policy_Open_h_2, lt_d hlt, ge0_d, Int.toNat_natCast, Bool.and_self, cond_true, heta, ix1P hlt (by omega), backE_eq]
    rcases add_eq (N := N) (J := J) (M := M) (B := B) (T := T) hw hl h9 0 d10 (nth (0, 0, 0, 0) table i) with ⟨c, r, hc, h⟩ | ⟨q1, q2, q3, h⟩
    · refine .inl ⟨c, (i : Int), hc, ?_⟩
      show G _ _ = _
      rw [hG, h]; rfl
    · have h1 := h9.put (keyE (nth (0, 0, 0, 0) table i)) (quo (nth (0, 0, 0, 0) table i))
      have h2 := hT.put q1 q2 q3
      rw [← take_nthP (z := ((0 : Int), (0 : Int), (0 : Int), (0 : Int))) hlt] at h2
      have h3 := ih (i + 1) n _ _ (by omega) (by omega) h1 h2
      have e9 : loopD G (n + 1) ((i : Int), d9, d10, m, up, J, M, B, T, 0) = loopD G n (((i + 1 : Nat) : Int), mpPut k3 v1 d9 (keyE (nth (0, 0, 0, 0) table i)) (quo (nth (0, 0, 0, 0) table i)), d10, m, up, J, M, B, T, 0) := by
        show G _ _ = _
        rw [hG, h]; rfl
      rw [e9]
      exact h3
end
/-- A book is opened, or refused. -/
theorem Open_eq {N : Nat} (hN : 1000 ≤ N) {up : List Int} (hw : WL up) (n : Int) (table : List Entr) :
    (∃ c a, c ≠ 0 ∧ D_policy_Open_h N ((n, up), table) = some (.inl (c, a))) ∨
    (∃ (m : Nat) (J M : List Int) (B T : Int) (Q : PK → Option Int) (d9 : M3), n = (m : Int) ∧ Ord (m : Int) up ∧ PBQ Q d9 ∧ TabOk table Q ∧ D_policy_Open_h N ((n, up), table) = some (.inr ((0, 0), d9, (0, []), (m : Int), up, J, M, B, T, 0))) := by
  simp only [D_policy_Open_h, policy_Open_h_3]
  rcases LatOf_spec hN hw n with ⟨e, he, h1, -⟩ | ⟨m, J, M, B, T, rfl, hO, hL, h1⟩
  · refine .inl ⟨e, 0, he, ?_⟩
    rw [h1, Option.bind_some, show (e != 0) = true from bne_iff_ne.2 he]; rfl
  · rw [h1]
    simp only [Option.bind_some, bne_self_eq_false, cond_false]
    by_cases q : ((table.length : Nat) : Int) > 16
    · rw [d_true q]; exact .inl ⟨1, 0, by decide, rfl⟩
    · rw [d_false q, cond_false]
      simp only [joinD, loopE]
      rcases open_loop (N := N) (m := (m : Int)) (J := J) (M := M) (B := B) (T := T) (table := table) hw (by rw [hO.len]) (by omega) (0, []) table.length 0 N ((0 : Int), []) _ (by omega) (by omega) PBQ.empty (by rw [List.take_zero]; exact TabOk.nil) with ⟨c, a, hc, h⟩ | ⟨Q, d', p1, p2, h⟩
      · exact .inl ⟨c, a, hc, h⟩
      · exact .inr ⟨m, J, M, B, T, Q, d', rfl, hO, p1, p2, h⟩
theorem Play_no {N : Nat} {o : Int × List Int} {table : List Entr} {c a : Int} (hc : c ≠ 0) (h : D_policy_Open_h N (o, table) = some (.inl (c, a))) (script : List Req) : ∃ c' a', c' ≠ 0 ∧ D_policy_Play N (o, table, script, ()) = some ([], [], (c', a'), ()) := by
  have h' : D_policy_Open_h N ((o.1, o.2), table) = some (.inl (c, a)) := h
  simp only [D_policy_Play, policy_Play_7, h', Option.bind_some, caseD_inl, joinD, beq_false_of_ne hc, cond_false, policy_Play_3]
  refine ⟨c, a, hc, ?_⟩
  rw [show (c != 0) = true from bne_iff_ne.2 hc]; rfl
theorem Play_eq {N : Nat} (hN : 1000 ≤ N) {up J M : List Int} {B T : Int} (hw : WL up) {m : Nat} (hl : up.length = m) {Q : PK → Option Int} {d9 : M3} (h9 : PBQ Q d9) {table : List Entr} (hT : TabOk table Q)
    (h : D_policy_Open_h N (((m : Int), up), table) = some (.inr ((0, 0), d9, (0, []), (m : Int), up, J, M, B, T, 0))) (script : List Req) :
    (60 < script.length ∧ D_policy_Play N (((m : Int), up), table, script, ()) = some ([], [], (1, 0), ())) ∨
    (script.length ≤ 60 ∧ D_policy_Play N (((m : Int), up), table, script, ()) = some ((runP m (unB up) Q script st0).1, (runP m (unB up) Q script st0).2.told, (0, 0), ())) := by
  have hQ : ∀ r v, Q r = some v → 0 ≤ v ∧ v ≤ 1000 := fun r v hr => (hT.only r v hr).1
  simp only [D_policy_Play, policy_Play_7, h, Option.bind_some, caseD_inr, beq_self_eq_true, cond_true]
  by_cases q : ((script.length : Nat) : Int) > 60
  · refine .inl ⟨by omega, ?_⟩
    simp only [joinD, d_true q, cond_true, policy_Play_6]
    rfl
  · refine .inr ⟨by omega, ?_⟩
    have hlen : script.length ≤ 60 := by omega
    simp only [joinD, loopE, d_false q, cond_false, policy_Play_6, bne_self_eq_false]
    have heta : ∀ x : Req, (x.1, x.2.1, x.2.2.1, x.2.2.2.1, x.2.2.2.2) = x := fun _ => rfl
    obtain ⟨s', hI, e⟩ := loopD_inv (g := fun (s : Int × M3 × M3 × Int × List Int × List Int × List Int × Int × Int × Int × List Int × List Tld) kn => policy_Play_5 N (fun s => policy_Play_4 N s.2.2.2.2.2.2.2.2.2.2.2.1 s.2.2.2.2.2.2.2.2.2.2.2.2.1 s.2.2.2.2.2.2.2.2.2.2.2.2.2.1 s.2.2.2.2.2.2.2.2.2.2.2.2.2.2) script (script.length : Int) 0 0 0 0 s.1 s.2.1 s.2.2.1 s.2.2.2.1 s.2.2.2.2.1 s.2.2.2.2.2.1 s.2.2.2.2.2.2.1 s.2.2.2.2.2.2.2.1 s.2.2.2.2.2.2.2.2.1 s.2.2.2.2.2.2.2.2.2.1 s.2.2.2.2.2.2.2.2.2.2.1 s.2.2.2.2.2.2.2.2.2.2.2 (backE (script, (script.length : Int), (0 : Int), (0 : Int), (0 : Int), (0 : Int)) kn))
      (k := fun s => some (s.2.2.2.2.2.2.2.2.2.2.1, s.2.2.2.2.2.2.2.2.2.2.2, (0, 0), ())) script.length
      (fun i s => ∃ d10, PBU (runP m (unB up) Q (script.take i) st0).2.U d10 ∧ s = ((i : Int), d9, d10, (m : Int), up, J, M, B, T, (runP m (unB up) Q (script.take i) st0).2.rd, (runP m (unB up) Q (script.take i) st0).1, (runP m (unB up) Q (script.take i) st0).2.told)) (N := N)
      (s := ((0 : Int), d9, (0, []), (m : Int), up, J, M, B, T, 0, [], []))
      (by
        rintro i _ hi ⟨d10, hU, rfl⟩
        have hinv := Inv.runP m (unB up) Q (fun r v hr => (hQ r v hr).1) (script.take i) (inv0 Q (fun r v hr => (hQ r v hr).1))
        obtain ⟨t, ht1, ht2⟩ := run_told m (unB up) Q (script.take i) st0
        have hrd := run_rd m (unB up) Q (script.take i) st0
        have hcl := run_len m (unB up) Q (script.take i) st0
        have htl : (script.take i).length ≤ i := by rw [List.length_take]; omega
        have hr0 : st0.rd = 0 := rfl
        have ht0 : st0.told = [] := rfl
        have htk : script.take (i + 1) = script.take i ++ [nth (0, 0, 0, 0, 0) script i] := take_nthP hi
        obtain ⟨d', p1, p2⟩ := Ask_eq (N := N) (m := (m : Int)) (J := J) (M := M) (B := B) (T := T) hw (by omega) h9 hQ hinv hU (by rw [ht1, ht0]; simp only [List.nil_append]; omega) (by omega) (nth (0, 0, 0, 0, 0) script i)
        refine ⟨_, ⟨d', ?_, rfl⟩, fun kn => ?_⟩
        · rw [htk, run_append]; exact p1
        · have hcap : decide (((runP m (unB up) Q (script.take i) st0).1.length + ([(stepP m (unB up) Q (nth (0, 0, 0, 0, 0) script i) (runP m (unB up) Q (script.take i) st0).2).1] : List Int).length) * 8 ≤ 140737488355328) = true := d_true (by simp only [List.length_singleton]; omega)
          simp only [policy_Play_5, lt_d hi, ge0_d, Int.toNat_natCast, Bool.and_self, cond_true, heta, p2, Option.bind_some, hcap, show Nat.ble 1 8 = true from rfl, ix1P hi (by omega), backE_eq]
          rw [htk, run_append]
          rfl)
      (by
        rintro _ ⟨d10, hU, rfl⟩ kn
        simp only [policy_Play_5, lt_self, cond_false, policy_Play_4])
      (by omega) ⟨(0, []), PBU.empty 0, rfl⟩
    obtain ⟨d10, -, rfl⟩ := hI
    refine e.trans ?_
    simp only [List.take_length]
theorem Codes_eq {N : Nat} {a b : List Int} (hN : a.length < N) (hl : a.length ≤ 4611686018427387904 - 1) : D_ref_Codes N (a, b, ()) = some (decide (a = b), ()) := by
  simp only [D_ref_Codes, ref_Codes_3, joinD, loopE]
  by_cases hab : a.length = b.length
  case neg =>
    rw [show (((a.length : Nat) : Int) != ((b.length : Nat) : Int)) = true from bne_iff_ne.2 (by omega), cond_true, d_false fun h => hab (by rw [h])]
  rw [show (((a.length : Nat) : Int) != ((b.length : Nat) : Int)) = false by rw [hab]; exact bne_self_eq_false _, cond_false]
  have hb : ∀ (K : Unit → _) (i : Nat), i < a.length → ∀ kn, ref_Codes_2 N K a b (i : Int) (backE (a, b) kn) = if nth 0 a i = nth 0 b i then kn ((i : Int) + 1) else some (false, ()) := fun K i hi kn => by
    simp only [ref_Codes_2, lt_d hi, lt_d (show i < b.length by omega), ge0_d, Int.toNat_natCast, Bool.and_self, cond_true, ix1P hi (by omega), backE_eq]
    by_cases q : nth (0 : Int) a i = nth 0 b i
    · rw [if_pos q, q, bne_self_eq_false]; rfl
    · rw [if_neg q, show (nth (0 : Int) a i != nth 0 b i) = true from bne_iff_ne.2 q]; rfl
  by_cases q : a = b
  · rw [d_true q]
    refine loopD_pass (n := a.length) (by omega) (fun i hi kn => by rw [hb _ i hi, if_pos (by rw [q])]) (fun kn => ?_) (by omega)
    simp only [ref_Codes_2, lt_self, cond_false, ref_Codes_1]
  · rw [d_false q]
    have hex : ∃ i, i < a.length ∧ ¬ nth (0 : Int) a i = nth 0 b i := Classical.byContradiction fun hno => q (List.ext_getElem hab fun i h1 h2 => by
      rw [← nth_lt (z := (0 : Int)) h1, ← nth_lt (z := (0 : Int)) h2]
      exact Classical.byContradiction fun h => hno ⟨i, h1, h⟩)
    exact loopD_hit (n := a.length) (by omega) (fun i => ¬ nth (0 : Int) a i = nth 0 b i) (fun i hi hx kn => by rw [hb _ i hi, if_neg hx]) (fun i hi hx kn => by rw [hb _ i hi, if_pos (Decidable.not_not.1 hx)]) (by omega) hex
end Go.Proofs.YtopjalcimclaaaaDoor
