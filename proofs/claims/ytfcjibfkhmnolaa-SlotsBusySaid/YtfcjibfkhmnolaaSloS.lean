import Derived.Test.YtfcjibfkhmnolaaSlo
import Derived.Test.YtfcjibfkhmnolaaAbsLat
namespace Go.Proofs.Ytfcjibfkhmnolaa
open Go.Abs
abbrev Ask : Type := Int × Int × Int × Int
abbrev Slt : Type := Int × Int × Bool
abbrev za : Ask := (0, 0, 0, 0)
theorem lt_d {i m : Nat} (h : i < m) : decide ((i : Int) < (m : Int)) = true := d_true (by omega)
theorem lt_self (m : Nat) : decide ((m : Int) < (m : Int)) = false := d_false (by omega)
theorem ge0_d (i : Nat) : decide ((0 : Int) ≤ (i : Int)) = true := d_true (by omega)
theorem nth_app {α : Type} {z : α} {xs ys : List α} {i : Nat} (h : i < xs.length) : nth z (xs ++ ys) i = nth z xs i := by
  rw [nth_lt h, nth_lt (show i < (xs ++ ys).length by rw [List.length_append]; omega), List.getElem_append_left h]
theorem nth_end {α : Type} {z x : α} {xs : List α} : nth z (xs ++ [x]) xs.length = x := by
  rw [nth_lt (by simp), List.getElem_append_right (Nat.le_refl _)]; simp
theorem nth_out {α : Type} {z : α} {xs : List α} {i : Nat} (h : xs.length ≤ i) : nth z xs i = z := by
  unfold nth; rw [List.getD_eq_getElem?_getD, List.getElem?_eq_none h]; rfl
structure SS where
  w : List (List (Int × Int))
  p : Nat
  told : List Slt
  codes : List Int
def badA (lv : Int) (a : Ask) : Bool := decide (a.2.1 < 0) || (decide (a.2.1 ≥ lv) || (decide (a.2.2.1 < 1) || decide (a.2.2.1 > 1000)))
def popQ : List (Int × Int) → List (Int × Int)
  | [] => []
  | x :: r => if x.1 = 1 then r else (x.1 - 1, x.2) :: r
def toldQ (x : Int) : List (Int × Int) → Slt
  | [] => (x, 0, true)
  | y :: _ => (x, y.2, false)
def stp (lv : Int) (tb : List Int) (s : SS) (a : Ask) : SS :=
  if a.1 = 1 then
    if badA lv a = true then { s with codes := s.codes ++ [2] }
    else { s with w := s.w.set a.2.1.toNat (nth [] s.w a.2.1.toNat ++ [(a.2.2.1, a.2.2.2)]), codes := s.codes ++ [0] }
  else if a.1 = 2 then
    { w := s.w.set (nth 0 tb s.p).toNat (popQ (nth [] s.w (nth 0 tb s.p).toNat)), p := if s.p + 1 = tb.length then 0 else s.p + 1,
      told := s.told ++ [toldQ (nth 0 tb s.p) (nth [] s.w (nth 0 tb s.p).toNat)], codes := s.codes ++ [0] }
  else { s with codes := s.codes ++ [17] }
def s0 (lv : Int) : SS := ⟨List.replicate lv.toNat [], 0, [], []⟩
def runS (lv : Int) (tb : List Int) (l : List Ask) : SS := l.foldl (stp lv tb) (s0 lv)
theorem runS_snoc (lv : Int) (tb : List Int) (l : List Ask) (a : Ask) : runS lv tb (l ++ [a]) = stp lv tb (runS lv tb l) a := by unfold runS; rw [List.foldl_append]; rfl
structure TbOk (lv : Int) (tb : List Int) : Prop where
  lo : 1 ≤ lv
  hi : lv ≤ 8
  pos : 1 ≤ tb.length
  le : tb.length ≤ 16
  mem : ∀ i, i < tb.length → 0 ≤ nth 0 tb i ∧ nth 0 tb i < lv
structure OkS (lv : Int) (tb : List Int) (s : SS) (i : Nat) : Prop where
  wl : s.w.length = lv.toNat
  p : s.p < tb.length
  q : ∀ j, (nth [] s.w j).length ≤ i ∧ ∀ x ∈ nth [] s.w j, 1 ≤ x.1 ∧ x.1 ≤ 1000
  t : s.told.length ≤ i
  c : s.codes.length = i
theorem OkS.zero {lv : Int} {tb : List Int} (h : TbOk lv tb) : OkS lv tb (s0 lv) 0 := by
  refine ⟨by simp [s0], h.pos, fun j => ?_, Nat.le_refl _, rfl⟩
  have : nth ([] : List (Int × Int)) (s0 lv).w j = [] := by
    rcases Nat.lt_or_ge j (s0 lv).w.length with h | h
    · rw [nth_lt h]; simp [s0]
    · exact nth_out h
  rw [this]; exact ⟨Nat.le_refl _, fun x hx => by cases hx⟩
theorem popQ_len (q : List (Int × Int)) : (popQ q).length ≤ q.length := by
  cases q with
  | nil => exact Nat.le_refl _
  | cons x r => simp only [popQ]; split <;> simp
theorem popQ_ok {q : List (Int × Int)} (h : ∀ x ∈ q, 1 ≤ x.1 ∧ x.1 ≤ 1000) : ∀ x ∈ popQ q, 1 ≤ x.1 ∧ x.1 ≤ 1000 := by
  cases q with
  | nil => intro x hx; cases hx
  | cons y r =>
    intro x hx
    simp only [popQ] at hx
    have hy := h y (List.mem_cons_self ..)
    split at hx
    · exact h x (List.mem_cons_of_mem _ hx)
    · rcases List.mem_cons.1 hx with e | hx
      · subst e; constructor <;> dsimp only <;> omega
      · exact h x (List.mem_cons_of_mem _ hx)
theorem badA_f {lv : Int} {a : Ask} (h : badA lv a = false) : 0 ≤ a.2.1 ∧ a.2.1 < lv ∧ 1 ≤ a.2.2.1 ∧ a.2.2.1 ≤ 1000 := by
  simp only [badA, Bool.or_eq_false_iff, decide_eq_false_iff_not] at h
  omega
theorem OkS.step {lv : Int} {tb : List Int} (h : TbOk lv tb) {s : SS} {i : Nat} (o : OkS lv tb s i) (a : Ask) : OkS lv tb (stp lv tb s a) (i + 1) := by
  have hp := h.mem s.p o.p
  have hq : (nth 0 tb s.p).toNat < s.w.length := by rw [o.wl]; omega
  unfold stp
  by_cases h1 : a.1 = 1
  · rw [if_pos h1]
    cases hb : badA lv a with
    | true =>
      rw [if_pos rfl]
      exact ⟨o.wl, o.p, fun j => ⟨Nat.le_succ_of_le (o.q j).1, (o.q j).2⟩, Nat.le_succ_of_le o.t, by simp [o.c]⟩
    | false =>
      rw [if_neg (by decide)]
      have hf := badA_f hb
      have hl : a.2.1.toNat < s.w.length := by rw [o.wl]; omega
      refine ⟨by simp [o.wl], o.p, fun j => ?_, Nat.le_succ_of_le o.t, by simp [o.c]⟩
      dsimp only
      rw [nth_set hl]
      split
      · refine ⟨by have := (o.q a.2.1.toNat).1; simp; omega, fun x hx => ?_⟩
        rcases List.mem_append.1 hx with hx | hx
        · exact (o.q _).2 x hx
        · rw [List.mem_singleton] at hx; subst hx; exact ⟨hf.2.2.1, hf.2.2.2⟩
      · exact ⟨Nat.le_succ_of_le (o.q j).1, (o.q j).2⟩
  · rw [if_neg h1]
    by_cases h2 : a.1 = 2
    · rw [if_pos h2]
      refine ⟨by simp [o.wl], ?_, fun j => ?_, by have := o.t; simp; omega, by simp [o.c]⟩
      · have := o.p; dsimp only; split <;> omega
      · dsimp only
        rw [nth_set hq]
        split
        · exact ⟨Nat.le_trans (popQ_len _) (Nat.le_succ_of_le (o.q _).1), popQ_ok (o.q _).2⟩
        · exact ⟨Nat.le_succ_of_le (o.q j).1, (o.q j).2⟩
    · rw [if_neg h2]
      exact ⟨o.wl, o.p, fun j => ⟨Nat.le_succ_of_le (o.q j).1, (o.q j).2⟩, Nat.le_succ_of_le o.t, by simp [o.c]⟩
theorem runS_take {lv : Int} {tb : List Int} (l : List Ask) {i : Nat} (hi : i < l.length) : runS lv tb (l.take (i + 1)) = stp lv tb (runS lv tb (l.take i)) (nth za l i) := by
  rw [List.take_succ_eq_append_getElem hi, runS_snoc, nth_lt hi]
theorem runS_ok {lv : Int} {tb : List Int} (h : TbOk lv tb) (l : List Ask) : ∀ i, i ≤ l.length → OkS lv tb (runS lv tb (l.take i)) i
  | 0, _ => by simpa [runS] using OkS.zero h
  | i + 1, hi => by rw [runS_take l hi]; exact (runS_ok h l i (by omega)).step h _
theorem runS_all {lv : Int} {tb : List Int} (h : TbOk lv tb) (l : List Ask) : OkS lv tb (runS lv tb l) l.length := by
  have := runS_ok h l l.length (Nat.le_refl _); rwa [List.take_length] at this
theorem ContainsFunc_eq {N : Nat} (lv : Int) (tb : List Int) (hN : tb.length < N) (hl : tb.length ≤ 16) :
    ∃ b, D_slices_ContainsFunc_Lint_int_slots_Check_c1 N (tb, (lv, ()), ()) = some (b, ()) ∧ (b = false → ∀ i, i < tb.length → 0 ≤ nth 0 tb i ∧ nth 0 tb i < lv) := by
  have hc : ∀ x : Int, D_slots_Check_c1 N (x, lv, ()) = some (decide (x < 0) || decide (x ≥ lv), ()) := by
    intro x
    simp only [D_slots_Check_c1, slots_Check_c1_1]
    cases decide (x < 0) <;> simp
  have key : ∃ r : Int, D_slices_IndexFunc_Lint_int_slots_Check_c1 N (tb, (lv, ()), ()) = some (r, ()) ∧ (r < 0 → ∀ i, i < tb.length → 0 ≤ nth 0 tb i ∧ nth 0 tb i < lv) := by
    simp only [D_slices_IndexFunc_Lint_int_slots_Check_c1, slices_IndexFunc_Lint_int_slots_Check_c1_3, joinD, loopE]
    refine loopD_post (fun s => ∃ i : Nat, s = (i : Int) ∧ i ≤ tb.length ∧ ∀ j, j < i → 0 ≤ nth 0 tb j ∧ nth 0 tb j < lv) (fun s => tb.length - s.toNat)
      (fun o => ∃ r : Int, o = some (r, ()) ∧ (r < 0 → ∀ i, i < tb.length → 0 ≤ nth 0 tb i ∧ nth 0 tb i < lv)) ?_ N _ ⟨0, rfl, Nat.zero_le _, fun j hj => by omega⟩ (by simp; omega)
    rintro s ⟨i, rfl, hi, hall⟩ kn hkn
    by_cases hlt : i < tb.length
    · simp only [slices_IndexFunc_Lint_int_slots_Check_c1_2, lt_d hlt, ge0_d, Bool.and_self, cond_true, hc, Option.bind_some, Int.toNat_natCast, backE_eq]
      cases hb : (decide (nth 0 tb i < 0) || decide (nth 0 tb i ≥ lv)) with
      | true => rw [cond_true]; exact ⟨_, rfl, fun h => by omega⟩
      | false =>
        rw [cond_false, w64 (show -9223372036854775808 ≤ (i : Int) + 1 by omega) (show (i : Int) + 1 ≤ 9223372036854775807 by omega)]
        simp only [Bool.or_eq_false_iff, decide_eq_false_iff_not] at hb
        refine hkn _ ⟨i + 1, by omega, hlt, fun j hj => ?_⟩ (by simp; omega)
        rcases Nat.lt_or_ge j i with h | h
        · exact hall j h
        · obtain rfl : j = i := by omega
          omega
    · obtain rfl : i = tb.length := by omega
      simp only [slices_IndexFunc_Lint_int_slots_Check_c1_2, lt_self, cond_false, slices_IndexFunc_Lint_int_slots_Check_c1_1]
      exact ⟨-1, rfl, fun _ => hall⟩
  obtain ⟨r, e, h⟩ := key
  refine ⟨decide (r ≥ 0), ?_, fun hr => h (by have := of_decide_eq_false hr; omega)⟩
  simp only [D_slices_ContainsFunc_Lint_int_slots_Check_c1, slices_ContainsFunc_Lint_int_slots_Check_c1_1, e, Option.bind_some]
theorem Check_eq {N : Nat} (hN : 100 ≤ N) (lv : Int) (tb : List Int) : ∃ e, D_slots_Check N (lv, tb, ()) = some (e, ()) ∧ (e = 0 → TbOk lv tb) := by
  simp only [D_slots_Check, slots_Check_1]
  by_cases h1 : lv < 1
  · exact ⟨1, by rw [d_true h1, cond_true], fun h => absurd h (by decide)⟩
  by_cases h2 : lv > 8
  · exact ⟨1, by rw [d_false h1, d_true h2, cond_true, cond_false], fun h => absurd h (by decide)⟩
  by_cases h3 : (tb.length : Int) < 1
  · exact ⟨1, by rw [d_false h1, d_false h2, d_true h3, cond_true, cond_false, cond_false], fun h => absurd h (by decide)⟩
  by_cases h4 : (tb.length : Int) > 16
  · exact ⟨1, by rw [d_false h1, d_false h2, d_false h3, d_true h4, cond_true, cond_false, cond_false, cond_false], fun h => absurd h (by decide)⟩
  obtain ⟨b, e, hb⟩ := ContainsFunc_eq (N := N) lv tb (by omega) (by omega)
  rw [d_false h1, d_false h2, d_false h3, d_false h4, cond_false, cond_false, cond_false, cond_false, e, Option.bind_some]
  cases b with
  | true => exact ⟨2, rfl, fun h => absurd h (by decide)⟩
  | false => exact ⟨0, rfl, fun _ => ⟨by omega, by omega, by omega, by omega, hb rfl⟩⟩
theorem Next_eq {N : Nat} {lv : Int} {tb : List Int} (h : TbOk lv tb) {p : Nat} (hp : p < tb.length) :
    D_slots_Wheel_Next_h N ((p : Int), tb) = some (nth 0 tb p, ((if p + 1 = tb.length then 0 else p + 1 : Nat) : Int), tb) := by
  have hl := h.le
  simp only [D_slots_Wheel_Next_h, slots_Wheel_Next_h_1, lt_d hp, ge0_d, Bool.and_self, cond_true, Int.toNat_natCast]
  rw [w64 (show -9223372036854775808 ≤ (p : Int) + 1 by omega) (show (p : Int) + 1 ≤ 9223372036854775807 by omega)]
  by_cases e : p + 1 = tb.length
  · rw [if_pos e, beq_iff_eq.2 (show (p : Int) + 1 = (tb.length : Int) by omega), cond_true]; rfl
  · rw [if_neg e, beq_false_of_ne (show (p : Int) + 1 ≠ (tb.length : Int) by omega), cond_false]; rfl
theorem set_self {α : Type} {z : α} {xs : List α} {i : Nat} (h : i < xs.length) : xs.set i (nth z xs i) = xs := by
  rw [nth_lt h]; exact List.set_getElem_self h
abbrev KnP : Type := (Int × Nat × List Ask × Int) × (Int × List (List (Int × Int)) × List Int × Int × List Slt × List Int) → Option Rt_slots_Play
theorem play_step {N : Nat} {lv : Int} {tb : List Int} (h : TbOk lv tb) {s : SS} {i : Nat} (l : List Ask) (hl : l.length ≤ 60) (o : OkS lv tb s i) (hi : i < l.length)
    (k : List Slt × List Int → Option Rt_slots_Play) (kn : KnP) :
    slots_Play_3 N k lv 0 l (l.length : Int) (i : Int) s.w tb (s.p : Int) s.told s.codes kn
      = kn ((lv, 0, l, (l.length : Int)), (((i + 1 : Nat) : Int), (stp lv tb s (nth za l i)).w, tb, ((stp lv tb s (nth za l i)).p : Int), (stp lv tb s (nth za l i)).told, (stp lv tb s (nth za l i)).codes)) := by
  have hlo := h.lo
  have hhi := h.hi
  have fin : ∀ (c : Int) (w : List (List (Int × Int))) (tb' : List Int) (p' : Int) (t' : List Slt), slots_Play_2 N kn lv 0 c l (l.length : Int) (i : Int) w tb' p' t' s.codes = kn ((lv, 0, l, (l.length : Int)), (((i + 1 : Nat) : Int), w, tb', p', t', s.codes ++ [c])) := by
    intro c w tb' p' t'
    have := o.c
    unfold slots_Play_2
    rw [d_true (show (s.codes.length + [c].length) * 8 ≤ 140737488355328 by simp only [List.length_singleton]; omega), w64 (show -9223372036854775808 ≤ (i : Int) + 1 by omega) (show (i : Int) + 1 ≤ 9223372036854775807 by omega)]
    rfl
  have e0 : Nat.ble 1 24 = true := rfl
  unfold slots_Play_3
  simp only [lt_d hi, ge0_d, Bool.and_self, cond_true, joinD, Int.toNat_natCast, fin]
  obtain ⟨⟨kd, lvl, u, nm⟩, ha⟩ : ∃ a : Ask, nth za l i = a := ⟨_, rfl⟩
  simp only [ha]
  by_cases h1 : kd = 1
  · subst h1
    rw [beq_self_eq_true, cond_true]
    unfold stp
    rw [if_pos rfl]
    by_cases b1 : lvl < 0
    · rw [d_true b1, cond_true, if_pos (by simp [badA, b1])]
    rw [d_false b1, cond_false]
    by_cases b2 : lvl ≥ lv
    · rw [d_true b2, cond_true, if_pos (by simp [badA, b2])]
    rw [d_false b2, cond_false]
    by_cases b3 : u < 1
    · rw [d_true b3, cond_true, if_pos (by simp [badA, b3])]
    rw [d_false b3, cond_false]
    by_cases b4 : u > 1000
    · rw [d_true b4, cond_true, if_pos (by simp [badA, b4])]
    rw [d_false b4, cond_false, if_neg (by simp only [badA, d_false b1, d_false b2, d_false b3, d_false b4]; decide)]
    have hq := (o.q lvl.toNat).1
    rw [d_true (show (0 : Int) ≤ lvl by omega), d_true (show lvl < (s.w.length : Int) by rw [o.wl]; omega), Bool.and_self, cond_true,
      d_true (show ((nth ([] : List (Int × Int)) s.w lvl.toNat).length + [(u, nm)].length) * 16 ≤ 140737488355328 by simp only [List.length_singleton]; omega), cond_true, beq_self_eq_true, cond_true]
    rfl
  · rw [beq_false_of_ne h1, cond_false]
    unfold stp
    rw [if_neg h1]
    by_cases h2 : kd = 2
    · subst h2
      have hx := h.mem s.p o.p
      have ht := o.t
      rw [beq_self_eq_true, cond_true, if_pos rfl, Next_eq h o.p, Option.bind_some]
      generalize nth 0 tb s.p = x at hx ⊢
      have hxl : x.toNat < s.w.length := by rw [o.wl]; omega
      have hxd : decide (x < (s.w.length : Int)) = true := d_true (by rw [o.wl]; omega)
      have hxd0 : decide (0 ≤ x) = true := d_true hx.1
      simp only [hxd, hxd0, Bool.and_self, cond_true, beq_self_eq_true, List.length_singleton]
      rw [d_true (show (s.told.length + 1) * 24 ≤ 140737488355328 by omega)]
      have hq := (o.q x.toNat).2
      cases hqq : nth [] s.w x.toNat with
      | nil =>
        have hset : s.w.set x.toNat [] = s.w := by
          have := set_self (z := ([] : List (Int × Int))) hxl
          rwa [hqq] at this
        simp only [popQ, toldQ, hset]
        rfl
      | cons y r =>
        rw [hqq] at hq
        have hy := hq y (List.mem_cons_self ..)
        have e1 : decide ((((y :: r).length : Nat) : Int) > 0) = true := d_true (by simp only [List.length_cons]; omega)
        have e2 : decide ((0 : Int) < (((y :: r).length : Nat) : Int)) = true := d_true (by simp only [List.length_cons]; omega)
        have e4 : nth ((0 : Int), (0 : Int)) (y :: r) 0 = y := rfl
        simp only [e1, e2, Int.toNat_zero, e4, List.set_cons_zero, Int.le_refl, decide_true, Bool.and_self, cond_true, List.length_cons]
        have e5 : decide ((0 : Int) < ((r.length + 1 : Nat) : Int)) = true := d_true (by omega)
        have e6 : decide ((1 : Int) ≤ ((r.length + 1 : Nat) : Int)) = true := d_true (by omega)
        have e7 : decide ((0 : Int) ≤ 1) = true := rfl
        have e8 : ∀ z : Int × Int, nth ((0 : Int), (0 : Int)) (z :: r) 0 = z := fun _ => rfl
        have e9 : (1 : Int).toNat = 1 := rfl
        rw [w64 (show -9223372036854775808 ≤ y.1 - 1 by omega) (show y.1 - 1 ≤ 9223372036854775807 by omega)]
        simp only [e5, e6, e7, e8, e9, Bool.and_self, cond_true, e0, List.drop_succ_cons, List.drop_zero, popQ, toldQ]
        by_cases hy1 : y.1 = 1
        · rw [if_pos hy1, beq_iff_eq.2 (show y.1 - 1 = 0 by omega), cond_true]
        · rw [if_neg hy1, beq_false_of_ne (show y.1 - 1 ≠ 0 by omega), cond_false]
    · rw [beq_false_of_ne h2, cond_false, if_neg h2]
theorem Play_eq {N : Nat} (hN : 100 ≤ N) (lv : Int) (tb : List Int) (l : List Ask) :
    (∃ e, e ≠ 0 ∧ D_slots_Play N (lv, tb, l, ()) = some ([], [], e, ())) ∨
    (l.length ≤ 60 ∧ TbOk lv tb ∧ (∀ l' : List Ask, l'.length ≤ 60 → D_slots_Play N (lv, tb, l', ()) = some ((runS lv tb l').codes, (runS lv tb l').told, 0, ()))) := by
  obtain ⟨e, e1, e2⟩ := Check_eq hN lv tb
  by_cases h1 : l.length ≤ 60
  case neg =>
    refine .inl ⟨1, by decide, ?_⟩
    simp only [D_slots_Play, slots_Play_4]
    rw [d_true (show (l.length : Int) > 60 by omega), cond_true]
  by_cases h2 : e = 0
  case neg =>
    refine .inl ⟨e, h2, ?_⟩
    simp only [D_slots_Play, slots_Play_4, e1, Option.bind_some]
    rw [d_false (show ¬ (l.length : Int) > 60 by omega), cond_false, bne_iff_ne.2 h2, cond_true]
  have ht := e2 h2
  refine .inr ⟨h1, ht, fun l' h1 => ?_⟩
  subst h2
  have hlo := ht.lo
  have hhi := ht.hi
  have hle := ht.le
  have hcl : D_slices_Clone_Lint_int N (tb, ()) = some tb := by
    simp only [D_slices_Clone_Lint_int, slices_Clone_Lint_int_1]
    have : tb.isEmpty = false := by have := ht.pos; cases tb with | nil => simp at this | cons _ _ => rfl
    rw [this, cond_false, d_true (show ((([] : List Int).length + tb.length) * 8 ≤ 140737488355328) by simp only [List.length_nil]; omega)]
    rfl
  have hnw : D_slots_NewWheel_h N tb = some (tb, 0) := by simp only [D_slots_NewWheel_h, slots_NewWheel_h_1, hcl, Option.bind_some]
  simp only [D_slots_Play, slots_Play_4, e1, Option.bind_some, hnw, joinD, loopE]
  rw [d_false (show ¬ (l'.length : Int) > 60 by omega), cond_false, bne_self_eq_false, cond_false,
    d_true (show 0 ≤ lv by omega), d_true (Int.le_refl lv), d_true (show lv * 24 ≤ 281474976710656 by omega), Bool.and_self, Bool.and_self, cond_true]
  refine loopD_path l'.length (fun i => ((i : Int), (runS lv tb (l'.take i)).w, tb, ((runS lv tb (l'.take i)).p : Int), (runS lv tb (l'.take i)).told, (runS lv tb (l'.take i)).codes)) (fun i hi kn => ?_) (fun kn => ?_) (by omega)
  · dsimp only
    rw [play_step ht l' h1 (runS_ok ht l' i (by omega)) hi, backE_eq, runS_take l' hi]
  · dsimp only
    rw [List.take_length]
    unfold slots_Play_3
    rw [lt_self, cond_false]
    rfl
theorem toldQ_lev (x : Int) (q : List (Int × Int)) : (toldQ x q).1 = x := by cases q <;> rfl
end Go.Proofs.Ytfcjibfkhmnolaa
