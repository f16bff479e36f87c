/- ops: what the functions come to. -/
import Derived.Test.YtfcjibfkhmnolaaOpsA
import Derived.Test.YtfcjibfkhmnolaaBgR
import Derived.Test.YtfcjibfkhmnolaaOpsP
namespace Go.Proofs.Ytfcjibfkhmnolaa
open Go.Abs Go.Bag
/-- A loop that adds to a bag what each row becomes. -/
theorem lin_loop {R C : Type} {N : Nat} (g : C → Int × Bg → (C × (Int × Bg) → Option R) → Option R) (c : C) (rows : List Row) (f : Row → Option Row) (k : Bg → Option R) {F0 : Key → Int} {d0 : Bg} (h0 : BOk F0 d0)
    (step : ∀ (i : Nat) (b : Bg) (F : Key → Int), i < rows.length → BOk F b → ∃ b', (∀ kn, g c ((i : Int), b) kn = kn (c, ((i : Int) + 1, b'))) ∧ BOk (fun e => F e + amtO (f (nth (0, 0, 0) rows i)) e) b' ∧ b'.2.length ≤ b.2.length + 1)
    (stop : ∀ b kn, g c ((rows.length : Int), b) kn = k b) (hN : rows.length < N) :
    ∃ d', loopE g N c ((0 : Int), d0) = k d' ∧ BOk (fun e => F0 e + amt (rows.filterMap f) e) d' ∧ d'.2.length ≤ d0.2.length + rows.length := by
  unfold loopE
  obtain ⟨s', ⟨h1, h2, h3⟩, e⟩ := loopD_inv (g := fun (s : Int × Bg) kn => g c s (backE c kn)) (k := fun s : Int × Bg => k s.2) rows.length
    (fun i s => s.1 = (i : Int) ∧ BOk (fun z => F0 z + amt ((rows.take i).filterMap f) z) s.2 ∧ s.2.2.length ≤ d0.2.length + i) (N := N) (s := ((0 : Int), d0))
    (by
      rintro i ⟨_, b⟩ hi ⟨rfl, hb, hlen⟩
      simp only at hb hlen
      obtain ⟨b', e1, e2, e3⟩ := step i b _ hi hb
      refine ⟨((i : Int) + 1, b'), ⟨by simp, e2.cg fun z => ?_, by simp only; omega⟩, fun kn => by rw [e1, backE_eq]⟩
      rw [take_nth (z := ((0 : Int), (0 : Int), (0 : Int))) hi, List.filterMap_append, amt_append, amt_filterMap]
      simp only [List.filterMap_nil, amt, Int.add_zero]
      exact .of_eq (by omega))
    (by
      rintro ⟨_, b⟩ ⟨rfl, hb, hlen⟩ kn
      exact stop b _)
    hN ⟨rfl, h0.cg fun z => by simp only [List.take_zero, List.filterMap_nil, amt, Int.add_zero]; exact Cg.rfl, Nat.le_refl _⟩
  exact ⟨s'.2, e, by simpa only [List.take_length] using h2, h3⟩
theorem amtO_some (r : Row) (e : Key) : amtO (some r) e = if e = ky r then r.2.2 else 0 := by
  unfold amtO
  by_cases h : ky r = e
  · simp only [if_pos h, if_pos h.symm]
  · simp only [if_neg h]
    rw [if_neg (fun q : e = ky r => h q.symm)]
theorem Of_eq {N : Nat} (l : List Row) (hN : l.length < N) (hl : l.length ≤ 4611686018427387904) : ∃ d', D_bags_Of_h N l = some d' ∧ BOk (amt l) d' ∧ d'.2.length ≤ l.length := by
  simp only [D_bags_Of_h, bags_Of_h_3, joinD]
  obtain ⟨d', e1, e2, e3⟩ := lin_loop (N := N) (fun (c : List Row × Int) (s : Int × Bg) kn => bags_Of_h_2 N (fun s => bags_Of_h_1 N s) c.1 c.2 s.1 s.2 kn) (l, (l.length : Int)) l some (fun b => some b) BOk.empty (fun i b F hi hb => by
      obtain ⟨b', p1, p2, p3⟩ := Add_eq (N := N) hb (ky (nth (0, 0, 0) l i)) (nth ((0 : Int), (0 : Int), (0 : Int)) l i).2.2
      refine ⟨b', fun kn => ?_, p2.cg fun e => .of_eq (by rw [amtO_some]), p3⟩
      have p1' : D_bags_Bag_Add_h N (((nth ((0 : Int), (0 : Int), (0 : Int)) l i).1, (nth ((0 : Int), (0 : Int), (0 : Int)) l i).2.1), (nth ((0 : Int), (0 : Int), (0 : Int)) l i).2.2, b) = some b' := p1
      simp only [bags_Of_h_2, lt_d hi, ge0_d, Int.toNat_natCast, Bool.and_self, cond_true, p1', Option.bind_some, ix1 hi hl])
    (fun b kn => by simp only [bags_Of_h_2, lt_self, cond_false, bags_Of_h_1]) hN
  refine ⟨d', e1, e2.cg fun e => .of_eq ?_, by simpa using e3⟩
  rw [List.filterMap_some, Int.zero_add]
/-- Operators that work row by row. -/
theorem Make_lin {N : Nat} {F : Key → Int} {d : Bg} (h : BOk F d) (k A B : Int) (hk : 1 ≤ k) (hk4 : k ≤ 4) (hN : d.2.length + 10 < N) (hb : d.2.length * 24 ≤ 140737488355328) :
    ∃ (rows : List Row) (out : Bg), D_ops_Make_h N ((k, A, B), d) = some (.inl (d, k, A, B, out)) ∧ IsBag F rows ∧ BOk (amt (rows.filterMap (rowF k A B))) out ∧ rows.length = d.2.length ∧ out.2.length ≤ rows.length := by
  obtain ⟨rows, r1, r2, r3⟩ := RowsR_eq h hN hb
  have hlen : rows.length ≤ 4611686018427387904 := by omega
  have hN' : rows.length < N := by omega
  simp only [D_ops_Make_h, ops_Make_h_9, r1, Option.bind_some, D_ops_linear_h, ops_linear_h_1]
  rcases (by omega : k = 1 ∨ k = 2 ∨ k = 3 ∨ k = 4) with rfl | rfl | rfl | rfl
  · simp only [beq_self_eq_true, cond_true, Option.bind_some, caseD_inl, joinD]
    obtain ⟨d', e1, e2, e3⟩ := lin_loop (N := N) (fun (c : Int × Int × (List Row) × Int × Bg × Int × Int × Int) (s : Int × Bg) kn => ops_Make_h_2 N (fun s => ops_Make_h_1 N s.1 s.2.1 s.2.2.1 s.2.2.2.1 s.2.2.2.2) c.1 c.2.1 c.2.2.1 c.2.2.2.1 c.2.2.2.2.1 c.2.2.2.2.2.1 c.2.2.2.2.2.2.1 c.2.2.2.2.2.2.2 s.1 s.2 kn) (A, B, rows, (rows.length : Int), d, 1, A, B) rows (rowF 1 A B) (fun b => some (.inl (d, 1, A, B, b))) BOk.empty (fun i b F hi hb => by
        obtain ⟨b', p1, p2, p3⟩ := Add_eq (N := N) hb (w ((nth ((0 : Int), (0 : Int), (0 : Int)) rows i).1 + A), w ((nth ((0 : Int), (0 : Int), (0 : Int)) rows i).2.1 + B)) (nth ((0 : Int), (0 : Int), (0 : Int)) rows i).2.2
        refine ⟨b', fun kn => ?_, p2.cg fun e => .of_eq ?_, p3⟩
        · simp only [ops_Make_h_2, lt_d hi, ge0_d, Int.toNat_natCast, Bool.and_self, cond_true, D_ops_shift_row_h, ops_shift_row_h_1, ix1 hi hlen]
          unfold w at p1
          simp only [p1, Option.bind_some]
        · rw [show rowF 1 A B (nth ((0 : Int), (0 : Int), (0 : Int)) rows i) = some (w ((nth ((0 : Int), (0 : Int), (0 : Int)) rows i).1 + A), w ((nth ((0 : Int), (0 : Int), (0 : Int)) rows i).2.1 + B), (nth ((0 : Int), (0 : Int), (0 : Int)) rows i).2.2) from rfl, amtO_some]
          rfl)
      (fun b kn => by simp only [ops_Make_h_2, lt_self, cond_false, ops_Make_h_1]) hN'
    exact ⟨rows, d', e1, r2, e2.cg fun e => .of_eq (Int.zero_add _), r3, by simpa using e3⟩
  · simp only [show ((2 : Int) == 1) = false from rfl, beq_self_eq_true, cond_true, cond_false, Option.bind_some, caseD_inl, caseD_inr, joinD]
    obtain ⟨d', e1, e2, e3⟩ := lin_loop (N := N) (fun (c : (List Row) × Int × Bg × Int × Int × Int) (s : Int × Bg) kn => ops_Make_h_4 N (fun s => ops_Make_h_3 N s.1 s.2.1 s.2.2.1 s.2.2.2.1 s.2.2.2.2) c.1 c.2.1 c.2.2.1 c.2.2.2.1 c.2.2.2.2.1 c.2.2.2.2.2 s.1 s.2 kn) (rows, (rows.length : Int), d, 2, A, B) rows (rowF 2 A B) (fun b => some (.inl (d, 2, A, B, b))) BOk.empty (fun i b F hi hb => by
        obtain ⟨b', p1, p2, p3⟩ := Add_eq (N := N) hb ((nth ((0 : Int), (0 : Int), (0 : Int)) rows i).2.1, (nth ((0 : Int), (0 : Int), (0 : Int)) rows i).1) (nth ((0 : Int), (0 : Int), (0 : Int)) rows i).2.2
        refine ⟨b', fun kn => ?_, p2.cg fun e => .of_eq ?_, p3⟩
        · simp only [ops_Make_h_4, lt_d hi, ge0_d, Int.toNat_natCast, Bool.and_self, cond_true, D_ops_turn_row_h, ops_turn_row_h_1, ix1 hi hlen, p1, Option.bind_some]
        · rw [show rowF 2 A B (nth ((0 : Int), (0 : Int), (0 : Int)) rows i) = some ((nth ((0 : Int), (0 : Int), (0 : Int)) rows i).2.1, (nth ((0 : Int), (0 : Int), (0 : Int)) rows i).1, (nth ((0 : Int), (0 : Int), (0 : Int)) rows i).2.2) from rfl, amtO_some]
          rfl)
      (fun b kn => by simp only [ops_Make_h_4, lt_self, cond_false, ops_Make_h_3]) hN'
    exact ⟨rows, d', e1, r2, e2.cg fun e => .of_eq (Int.zero_add _), r3, by simpa using e3⟩
  · simp only [show ((3 : Int) == 1) = false from rfl, show ((3 : Int) == 2) = false from rfl, beq_self_eq_true, cond_true, cond_false, Option.bind_some, caseD_inl, caseD_inr, joinD]
    obtain ⟨d', e1, e2, e3⟩ := lin_loop (N := N) (fun (c : Int × Int × (List Row) × Int × Bg × Int × Int × Int) (s : Int × Bg) kn => ops_Make_h_6 N (fun s => ops_Make_h_5 N s.1 s.2.1 s.2.2.1 s.2.2.2.1 s.2.2.2.2) c.1 c.2.1 c.2.2.1 c.2.2.2.1 c.2.2.2.2.1 c.2.2.2.2.2.1 c.2.2.2.2.2.2.1 c.2.2.2.2.2.2.2 s.1 s.2 kn) (A, B, rows, (rows.length : Int), d, 3, A, B) rows (rowF 3 A B) (fun b => some (.inl (d, 3, A, B, b))) BOk.empty (fun i b F hi hb => by
        by_cases q : iand .i64 (nth ((0 : Int), (0 : Int), (0 : Int)) rows i).1 A = B
        · obtain ⟨b', p1, p2, p3⟩ := Add_eq (N := N) hb ((nth ((0 : Int), (0 : Int), (0 : Int)) rows i).1, (nth ((0 : Int), (0 : Int), (0 : Int)) rows i).2.1) (nth ((0 : Int), (0 : Int), (0 : Int)) rows i).2.2
          refine ⟨b', fun kn => ?_, p2.cg fun e => .of_eq ?_, p3⟩
          · simp only [ops_Make_h_6, lt_d hi, ge0_d, Int.toNat_natCast, Bool.and_self, cond_true, D_ops_sieve_row_h, ops_sieve_row_h_1, ix1 hi hlen, p1, Option.bind_some, beq_iff_eq.2 q]
          · rw [show rowF 3 A B (nth ((0 : Int), (0 : Int), (0 : Int)) rows i) = some (nth ((0 : Int), (0 : Int), (0 : Int)) rows i) from if_pos q, amtO_some]
            rfl
        · refine ⟨b, fun kn => ?_, hb.cg fun e => .of_eq ?_, Nat.le_succ _⟩
          · simp only [ops_Make_h_6, lt_d hi, ge0_d, Int.toNat_natCast, Bool.and_self, cond_true, D_ops_sieve_row_h, ops_sieve_row_h_1, ix1 hi hlen, Option.bind_some, beq_false_of_ne q, cond_false]
          · rw [show rowF 3 A B (nth ((0 : Int), (0 : Int), (0 : Int)) rows i) = none from if_neg q]
            simp [amtO])
      (fun b kn => by simp only [ops_Make_h_6, lt_self, cond_false, ops_Make_h_5]) hN'
    exact ⟨rows, d', e1, r2, e2.cg fun e => .of_eq (Int.zero_add _), r3, by simpa using e3⟩
  · simp only [show ((4 : Int) == 1) = false from rfl, show ((4 : Int) == 2) = false from rfl, show ((4 : Int) == 3) = false from rfl, beq_self_eq_true, cond_true, cond_false, Option.bind_some, caseD_inl, caseD_inr, joinD]
    obtain ⟨d', e1, e2, e3⟩ := lin_loop (N := N) (fun (c : (List Row) × Int × Bg × Int × Int × Int) (s : Int × Bg) kn => ops_Make_h_8 N (fun s => ops_Make_h_7 N s.1 s.2.1 s.2.2.1 s.2.2.2.1 s.2.2.2.2) c.1 c.2.1 c.2.2.1 c.2.2.2.1 c.2.2.2.2.1 c.2.2.2.2.2 s.1 s.2 kn) (rows, (rows.length : Int), d, 4, A, B) rows (rowF 4 A B) (fun b => some (.inl (d, 4, A, B, b))) BOk.empty (fun i b F hi hb => by
        obtain ⟨b', p1, p2, p3⟩ := Add_eq (N := N) hb ((nth ((0 : Int), (0 : Int), (0 : Int)) rows i).1, (nth ((0 : Int), (0 : Int), (0 : Int)) rows i).2.1) (w (0 - (nth ((0 : Int), (0 : Int), (0 : Int)) rows i).2.2))
        refine ⟨b', fun kn => ?_, p2.cg fun e => .of_eq ?_, p3⟩
        · simp only [ops_Make_h_8, lt_d hi, ge0_d, Int.toNat_natCast, Bool.and_self, cond_true, D_ops_mirror_row_h, ops_mirror_row_h_1, ix1 hi hlen]
          unfold w at p1
          simp only [p1, Option.bind_some]
        · rw [show rowF 4 A B (nth ((0 : Int), (0 : Int), (0 : Int)) rows i) = some ((nth ((0 : Int), (0 : Int), (0 : Int)) rows i).1, (nth ((0 : Int), (0 : Int), (0 : Int)) rows i).2.1, w (0 - (nth ((0 : Int), (0 : Int), (0 : Int)) rows i).2.2)) from rfl, amtO_some]
          rfl)
      (fun b kn => by simp only [ops_Make_h_8, lt_self, cond_false, ops_Make_h_7]) hN'
    exact ⟨rows, d', e1, r2, e2.cg fun e => .of_eq (Int.zero_add _), r3, by simpa using e3⟩
theorem Ports_one {N : Nat} {k A B : Int} (h : 1 ≤ k) (h8 : k ≤ 8) : D_ops_Ports N ((k, A, B), ()) = some (1, ()) := by
  simp only [D_ops_Ports, ops_Ports_1, d_true (show k ≥ 1 from h), d_true h8, cond_true]
theorem check_one {N : Nat} (hN : 10 ≤ N) {k A B : Int} (h : 1 ≤ k) (h8 : k ≤ 8) (a : List Row) : D_ops_check N ((k, A, B), 1, [a], ()) = some (if 128 < a.length then 1 else 0, ()) := by
  have hL := Large_eq (N := N) (ls := [a]) (by simp; omega) (by simp)
  simp only [D_ops_check, ops_check_1, Ports_one (N := N) (A := A) (B := B) h h8, Option.bind_some, bne_self_eq_false, cond_false, hL]
  by_cases q : 128 < a.length
  · rw [if_pos q, d_true ⟨a, by simp, q⟩]; rfl
  · rw [if_neg q, d_false (fun ⟨l, hl, h⟩ => q (by simp at hl; rw [← hl]; exact h))]; rfl
/-- Of a list of rows a row-by-row operator makes, if the list is not too long, the bag of what the rows become. -/
theorem One_lin {N : Nat} (hN : 1000 ≤ N) (k A B : Int) (hk : 1 ≤ k) (hk4 : k ≤ 4) (a : List Row) : ∃ (out : List Row) (c : Int), D_ops_One N ((k, A, B), a, ()) = some (out, c, ()) ∧
    ((a.length ≤ 128 ∧ c = 0 ∧ out.length ≤ 128 ∧ IsBag (amt (a.filterMap (rowF k A B))) out) ∨ (128 < a.length ∧ c = 1 ∧ out = [])) := by
  simp only [D_ops_One, ops_One_1, check_one (N := N) (A := A) (B := B) (by omega) hk (by omega) a, Option.bind_some]
  by_cases q : 128 < a.length
  · exact ⟨[], 1, by rw [if_pos q]; rfl, .inr ⟨q, rfl, rfl⟩⟩
  · obtain ⟨d, o1, o2, o3⟩ := Of_eq (N := N) a (by omega) (by omega)
    obtain ⟨rows, out, m1, m2, m3, m4, m5⟩ := Make_lin (N := N) o2 k A B hk hk4 (by omega) (by omega)
    obtain ⟨res, c, t1, t2⟩ := Tells_eq (N := N) m3 (by omega) (by omega)
    rw [if_neg q, bne_self_eq_false, cond_false, o1, Option.bind_some, m1, Option.bind_some, caseD_inl, t1, Option.bind_some]
    have hb : ∀ l, IsBag (amt (rows.filterMap (rowF k A B))) l → IsBag (amt (a.filterMap (rowF k A B))) l := fun l hl => hl.cg fun e => lin_cg k A B (fun e => m2.amt_cg e) e
    refine ⟨res, c, rfl, .inl ⟨by omega, ?_⟩⟩
    rcases t2 with ⟨c0, p1, p2⟩ | ⟨c1, p1, l, p2, p3⟩
    · exact ⟨c0, p1, hb _ p2⟩
    · exfalso
      have := p2.len_le (m := rows.filterMap (rowF k A B)) fun e => Cg.rfl
      have h2 := List.length_filterMap_le (rowF k A B) rows
      omega
end Go.Proofs.Ytfcjibfkhmnolaa
