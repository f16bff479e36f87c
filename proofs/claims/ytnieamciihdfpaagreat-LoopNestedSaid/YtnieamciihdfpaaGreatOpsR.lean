import Derived.Test.YtnieamciihdfpaaGreatOpsS
import Derived.Test.YtnieamciihdfpaaGreatOpsQ
namespace Go.Proofs.YtnieamciihdfpaaGreat
open Go.Abs Go.Bag
theorem Index_eq {N : Nat} (xs : List Row) (hN : xs.length < N) (hl : xs.length ≤ 4611686018427387904 - 1) :
  (∃ i : Nat, i < xs.length ∧ D_slices_IndexFunc_Lapi_Row_api_Row_ops_heap_c1 N (xs, (), ()) = some ((i : Int), ()) ∧ xs.find? (fun r => decide (r.2.2 > 0)) = some (nth (0, 0, 0) xs i)) ∨
  (D_slices_IndexFunc_Lapi_Row_api_Row_ops_heap_c1 N (xs, (), ()) = some (-1, ()) ∧ xs.find? (fun r => decide (r.2.2 > 0)) = none) := by
 simp only [D_slices_IndexFunc_Lapi_Row_api_Row_ops_heap_c1, slices_IndexFunc_Lapi_Row_api_Row_ops_heap_c1_3, joinD, loopE]
 have hb : ∀ (K : Unit → _) (i : Nat), i < xs.length → ∀ kn, slices_IndexFunc_Lapi_Row_api_Row_ops_heap_c1_2 N K xs (xs.length : Int) (i : Int) (backE (xs, (xs.length : Int)) kn) = if (nth ((0 : Int), (0 : Int), (0 : Int)) xs i).2.2 > 0 then some ((i : Int), ()) else kn ((i : Int) + 1) := fun K i hi kn => by
  simp only [slices_IndexFunc_Lapi_Row_api_Row_ops_heap_c1_2, lt_d hi, ge0_d, Int.toNat_natCast, Bool.and_self, cond_true, D_ops_heap_c1, ops_heap_c1_1, Option.bind_some, ix1 hi (by omega), backE_eq]
  by_cases q : (nth ((0 : Int), (0 : Int), (0 : Int)) xs i).2.2 > 0
  ·rw [d_true q, if_pos q]; rfl
  ·rw [d_false q, if_neg q]; rfl
 by_cases hex : ∃ i, i < xs.length ∧ (nth ((0 : Int), (0 : Int), (0 : Int)) xs i).2.2 > 0
 ·obtain ⟨i0, ⟨a1, a2⟩, a3⟩ := least hex
  refine .inl ⟨i0, a1, loopD_path i0 (fun i => (i : Int)) (fun i hi kn => ?_) (fun kn => ?_) (by omega), ?_⟩
  ·rw [hb _ i (by omega), if_neg (fun h => by have := a3 i ⟨by omega, h⟩; omega)]; rfl
  ·rw [hb _ i0 a1, if_pos a2]
  ·rw [List.find?_eq_some_iff_getElem]
   refine ⟨by simpa using a2, i0, a1, (nth_lt a1).symm, fun j hj => ?_⟩
   have := fun h => a3 j ⟨by omega, h⟩
   rw [nth_lt (z := ((0 : Int), (0 : Int), (0 : Int))) (show j < xs.length by omega)] at this
   simp only [Bool.not_eq_true', decide_eq_false_iff_not]
   intro h
   have := this h
   omega
 ·refine .inr ⟨loopD_pass (n := xs.length) (by omega) (fun i hi kn => ?_) (fun kn => ?_) (by omega), ?_⟩
  ·rw [hb _ i hi, if_neg (fun h => hex ⟨i, hi, h⟩)]
  ·simp only [slices_IndexFunc_Lapi_Row_api_Row_ops_heap_c1_2, lt_self, cond_false, slices_IndexFunc_Lapi_Row_api_Row_ops_heap_c1_1]
  ·rw [List.find?_eq_none]
   intro x hx h
   obtain ⟨i, hi, rfl⟩ := mem_nth (z := ((0 : Int), (0 : Int), (0 : Int))) hx
   exact hex ⟨i, hi, by simpa using h⟩
theorem vsum_append (a b : List Row) : vsum (a ++ b) = vsum a + vsum b := by
 induction a with
 | nil => simp [vsum]
 | cons r a ih => simp only [List.cons_append, vsum, ih]; omega
theorem heap_eq {N : Nat} (kind : Int) (xs : List Row) (hN : xs.length < N) (hl : xs.length ≤ 4611686018427387904 - 1) :
  D_ops_heap N (kind, xs, ()) = some (match hv kind xs with | some v => (v, true, ()) | none => (0, false, ())) := by
 simp only [D_ops_heap, ops_heap_4, joinD, loopE, hv]
 by_cases h5 : kind = 5
 ·rw [show (kind == 5) = true from beq_iff_eq.2 h5, cond_true, if_pos h5]
  obtain ⟨s', hI, e⟩ := loopD_inv (g := fun (s : Int × Int) kn => ops_heap_2 N (fun s => ops_heap_1 N s) xs (xs.length : Int) s.1 s.2 (backE (xs, (xs.length : Int)) kn)) (k := fun s : Int × Int => some (s.1, true, ())) xs.length
   (fun i s => s = (w (vsum (xs.take i)), (i : Int))) (N := N) (s := ((0 : Int), (0 : Int)))
   (by
    rintro i _ hi rfl
    refine ⟨_, rfl, fun kn => ?_⟩
    have h1 : IntKind.i64.wrap (w (vsum (xs.take i)) + IntKind.i64.wrap ((nth ((0 : Int), (0 : Int), (0 : Int)) xs i).2.1 * (nth ((0 : Int), (0 : Int), (0 : Int)) xs i).2.2)) = w (vsum (xs.take (i + 1))) := by
     rw [take_nth (z := ((0 : Int), (0 : Int), (0 : Int))) hi, vsum_append]
     simp only [vsum, Int.add_zero]
     exact (cg_w _).add (cg_w _)
    simp only [ops_heap_2, lt_d hi, ge0_d, Int.toNat_natCast, Bool.and_self, cond_true, ix1 hi (by omega), backE_eq, h1]
    rfl)
   (by
    rintro _ rfl kn
    simp only [ops_heap_2, lt_self, cond_false, ops_heap_1])
   hN (by simp only [List.take_zero, vsum, w_zero]; rfl)
  subst hI
  rw [e, List.take_length]
 rw [show (kind == 5) = false from beq_false_of_ne h5, cond_false, if_neg h5]
 by_cases h6 : kind = 6
 ·rw [show (kind == 6) = true from beq_iff_eq.2 h6, cond_true, if_pos h6]
  obtain ⟨s', hI, e⟩ := loopD_inv (g := fun (s : Int × Int) kn => ops_heap_3 N (fun s => ops_heap_1 N s) xs (xs.length : Int) s.1 s.2 (backE (xs, (xs.length : Int)) kn)) (k := fun s : Int × Int => some (s.1, true, ())) xs.length
   (fun i s => s = (w (tot (xs.take i)), (i : Int))) (N := N) (s := ((0 : Int), (0 : Int)))
   (by
    rintro i _ hi rfl
    refine ⟨_, rfl, fun kn => ?_⟩
    have h1 : IntKind.i64.wrap (w (tot (xs.take i)) + (nth ((0 : Int), (0 : Int), (0 : Int)) xs i).2.2) = w (tot (xs.take (i + 1))) := by
     rw [take_nth (z := ((0 : Int), (0 : Int), (0 : Int))) hi, tot_append]
     simp only [tot, Int.add_zero]
     exact (cg_w _).add Cg.rfl
    simp only [ops_heap_3, lt_d hi, ge0_d, Int.toNat_natCast, Bool.and_self, cond_true, ix1 hi (by omega), backE_eq, h1]
    rfl)
   (by
    rintro _ rfl kn
    simp only [ops_heap_3, lt_self, cond_false, ops_heap_1])
   hN (by simp only [List.take_zero, tot, w_zero]; rfl)
  subst hI
  rw [e, List.take_length]
 rw [show (kind == 6) = false from beq_false_of_ne h6, cond_false, if_neg h6]
 by_cases h8 : kind = 8
 ·rw [show (kind == 8) = true from beq_iff_eq.2 h8, cond_true, if_pos h8]
  rcases Index_eq (N := N) xs hN hl with ⟨i, hi, e1, e2⟩ | ⟨e1, e2⟩
  ·rw [e1, e2, Option.bind_some, d_false (show ¬ ((i : Nat) : Int) < 0 by omega), cond_false, ge0_d, lt_d hi]
   rfl
  ·rw [e1, e2]; rfl
 ·rw [show (kind == 8) = false from beq_false_of_ne h8, cond_false, if_neg h8]
  rfl
def addG (kind : Int) (xs : List Row) : List Row := if kind = 7 then (xs.filter fun r => decide (r.2.2 > 0)).map oneR else (rowG kind xs).toList
theorem group_one {N : Nat} (kind : Int) (rows xs : List Row) (hx : xs ≠ []) (hN : xs.length < N) (hl : xs.length ≤ 4611686018427387904 - 1) {F : Key → Int} {b : Bg} (hb : BOk F b) (kn : (Int × List Row) × Bg → Option Rt_ops_group_h) :
  ∃ b', ops_group_h_3 N kind rows b kn xs = kn ((kind, rows), b') ∧ BOk (fun e => F e + amt (addG kind xs) e) b' ∧ b'.2.length ≤ b.2.length + xs.length := by
 simp only [ops_group_h_3, addG]
 have hpos : 0 < xs.length := List.length_pos_iff.2 hx
 by_cases h7 : kind = 7
 ·rw [show (kind == 7) = true from beq_iff_eq.2 h7, cond_true, if_pos h7]
  obtain ⟨d', e1, e2, e3⟩ := lin_loop (N := N) (fun (c : List Row × Int × Int × List Row) (s : Int × Bg) kn9 => ops_group_h_2 N kn c.1 c.2.1 c.2.2.1 c.2.2.2 s.1 s.2 kn9) (xs, (xs.length : Int), kind, rows) xs (fun r => if r.2.2 > 0 then some (oneR r) else none) (fun b => kn ((kind, rows), b)) hb (fun i b F hi hb => by
    by_cases q : (nth ((0 : Int), (0 : Int), (0 : Int)) xs i).2.2 > 0
    ·obtain ⟨b', p1, p2, p3⟩ := Add_eq (N := N) hb (ky (nth (0, 0, 0) xs i)) 1
     refine ⟨b', fun kn9 => ?_, p2.cg fun e => .of_eq ?_, p3⟩
     ·have p1' : D_bags_Bag_Add_h N (((nth ((0 : Int), (0 : Int), (0 : Int)) xs i).1, (nth ((0 : Int), (0 : Int), (0 : Int)) xs i).2.1), 1, b) = some b' := p1
      simp only [ops_group_h_2, lt_d hi, ge0_d, Int.toNat_natCast, Bool.and_self, cond_true, d_true q, p1', Option.bind_some, ix1 hi (by omega)]
     ·rw [if_pos q, amtO_some]; rfl
    ·refine ⟨b, fun kn9 => ?_, hb.cg fun e => .of_eq ?_, Nat.le_succ _⟩
     ·simp only [ops_group_h_2, lt_d hi, ge0_d, Int.toNat_natCast, Bool.and_self, cond_true, d_false q, cond_false, ix1 hi (by omega)]
     ·rw [if_neg q]; simp [amtO])
   (fun b kn9 => by simp only [ops_group_h_2, lt_self, cond_false]) hN
  refine ⟨d', e1, e2.cg fun e => .of_eq ?_, by simpa using e3⟩
  congr 2
  clear e1 e2 e3 hx hN hl hpos
  induction xs with
  | nil => rfl
  | cons r xs ih =>
   by_cases q : r.2.2 > 0
   ·rw [List.filterMap_cons_some (b := oneR r) (by rw [if_pos q]), List.filter_cons_of_pos (by simpa using q), List.map_cons, ih]
   ·rw [List.filterMap_cons_none (by rw [if_neg q]), List.filter_cons_of_neg (by simpa using q), ih]
 ·rw [show (kind == 7) = false from beq_false_of_ne h7, cond_false, if_neg h7, heap_eq kind xs hN hl]
  unfold rowG
  cases q : hv kind xs with
  | none =>
   refine ⟨b, rfl, hb.cg fun e => .of_eq ?_, Nat.le_add_right _ _⟩
   simp [amt]
  | some v =>
   obtain ⟨b', p1, p2, p3⟩ := Add_eq (N := N) hb (gkey xs, v) 1
   have p1' : D_bags_Bag_Add_h N (((nth ((0 : Int), (0 : Int), (0 : Int)) xs ((0 : Int)).toNat).1, v), 1, b) = some b' := p1
   refine ⟨b', ?_, p2.cg fun e => .of_eq ?_, by omega⟩
   ·simp only [Option.bind_some, cond_true, show decide ((0 : Int) ≤ 0) = true from rfl, d_true (show (0 : Int) < (xs.length : Int) by omega), Bool.and_self, p1']
   ·simp only [Option.map_some, Option.toList_some, amt, Int.add_zero]
    by_cases h : e = (gkey xs, v)
    ·rw [if_pos h, if_pos (show ky (gkey xs, v, 1) = e from h.symm)]
    ·rw [if_neg h, if_neg (show ¬ ky (gkey xs, v, 1) = e from fun h' => h h'.symm)]
theorem group_loop {N : Nat} (kind : Int) (rows : List Row) (K : Bg → Option Rt_ops_group_h) : ∀ (gs : List (List Row)), (∀ xs ∈ gs, xs ≠ [] ∧ xs.length < N ∧ xs.length ≤ 4611686018427387904 - 1) → ∀ {F : Key → Int} {b : Bg}, BOk F b →
  ∃ b', forD (fun y s kn => ops_group_h_3 N kind rows s (backE (kind, rows) kn) y) K gs b = K b' ∧ BOk (fun e => F e + amt (gs.flatMap (addG kind)) e) b' ∧ b'.2.length ≤ b.2.length + gs.flatten.length
 | [], _, F, b, hb => ⟨b, rfl, hb.cg fun e => .of_eq (by simp [amt]), by simp⟩
 | xs :: gs, hg, F, b, hb => by
  obtain ⟨g1, g2, g3⟩ := hg xs (by simp)
  obtain ⟨b1, p1, p2, p3⟩ := group_one (N := N) kind rows xs g1 g2 g3 hb (backE (kind, rows) (forD (fun y s kn => ops_group_h_3 N kind rows s (backE (kind, rows) kn) y) K gs))
  obtain ⟨b2, q1, q2, q3⟩ := group_loop kind rows K gs (fun ys hy => hg ys (by simp [hy])) p2
  refine ⟨b2, ?_, q2.cg fun e => .of_eq ?_, by simp only [List.flatten_cons, List.length_append]; omega⟩
  ·simp only [forD]
   rw [p1, backE_eq]
   exact q1
  ·rw [List.flatMap_cons, amt_append]; omega
theorem grp_flat : ∀ (n : Nat) (t : List Row), t.length ≤ n → (grp t).flatten = t := by
 intro n
 induction n with
 | zero => intro t hl; have : t = [] := List.eq_nil_of_length_eq_zero (by omega); subst this; rfl
 | succ n ih =>
  intro t hl
  cases t with
  | nil => rfl
  | cons r l =>
   have hp := hdn_pos (l := r :: l) (by simp)
   rw [grp_cons, List.flatten_cons, ih _ (by rw [List.length_drop]; simp only [List.length_cons] at hl ⊢; omega), List.take_append_drop]
theorem addG_flat (kind : Int) (t : List Row) : (grp t).flatMap (addG kind) = outG kind t := by
 unfold outG
 by_cases h : kind = 7
 ·rw [if_pos h]
  have e : addG kind = fun xs => (xs.filter fun r : Row => decide (r.2.2 > 0)).map oneR := funext fun xs => by unfold addG; rw [if_pos h]
  rw [e]
  conv => rhs; rw [← grp_flat t.length t (Nat.le_refl _)]
  generalize grp t = gs
  induction gs with
  | nil => rfl
  | cons xs gs ih => rw [List.flatMap_cons, ih, List.flatten_cons, List.filter_append, List.map_append]
 ·rw [if_neg h]
  have e : addG kind = fun xs => (rowG kind xs).toList := funext fun xs => by unfold addG; rw [if_neg h]
  rw [e]
  generalize grp t = gs
  induction gs with
  | nil => rfl
  | cons xs gs ih =>
   rw [List.flatMap_cons, ih]
   cases q : rowG kind xs with
   | none => rw [List.filterMap_cons_none q]; rfl
   | some r => rw [List.filterMap_cons_some q]; rfl
theorem group_eq {N : Nat} (kind : Int) (t : List Row) (hs : t.Pairwise rlt) (hN : t.length < N) (hl : t.length ≤ 4611686018427387904 - 1) :
  ∃ out : Bg, D_ops_group_h N (kind, t) = some (kind, t, out) ∧ BOk (amt (outG kind t)) out ∧ out.2.length ≤ t.length := by
 simp only [D_ops_group_h, ops_group_h_4, joinD, forE]
 obtain ⟨g1, -, -⟩ := grp_props t.length t (Nat.le_refl _) (rlt_le hs)
 obtain ⟨b', p1, p2, p3⟩ := group_loop (N := N) kind t (fun s => ops_group_h_1 N kind t s) (grp t) (fun xs hx => by
  obtain ⟨q1, q2⟩ := g1 xs hx
  have : xs.length ≤ t.length := by rw [q2]; exact List.length_filter_le _ _
  exact ⟨q1, by omega, by omega⟩) BOk.empty
 refine ⟨b', p1, p2.cg fun e => .of_eq ?_, ?_⟩
 ·rw [addG_flat, Int.zero_add]
 ·rw [grp_flat t.length t (Nat.le_refl _)] at p3
  simpa using p3
theorem Make_agg {N : Nat} {F : Key → Int} {d : Bg} (h : BOk F d) (k A B : Int) (hk : 5 ≤ k) (hN : d.2.length + 10 < N) (hb : d.2.length * 24 ≤ 140737488355328) :
  ∃ (rows : List Row) (out : Bg), D_ops_Make_h N ((k, A, B), d) = some (.inr (d, k, A, B, k, rows, out)) ∧ IsBag F rows ∧ BOk (amt (outG k rows)) out ∧ rows.length = d.2.length ∧ out.2.length ≤ rows.length := by
 obtain ⟨rows, r1, r2, r3⟩ := RowsR_eq h hN hb
 obtain ⟨out, g1, g2, g3⟩ := group_eq (N := N) k rows r2.rise (by omega) (by omega)
 refine ⟨rows, out, ?_, r2, g2, r3, g3⟩
 simp only [D_ops_Make_h, ops_Make_h_9, r1, Option.bind_some, D_ops_linear_h, ops_linear_h_1, show (k == 1) = false from beq_false_of_ne (by omega), show (k == 2) = false from beq_false_of_ne (by omega), show (k == 3) = false from beq_false_of_ne (by omega), show (k == 4) = false from beq_false_of_ne (by omega), cond_false, caseD_inr, g1]
theorem One_agg {N : Nat} (hN : 1000 ≤ N) (k A B : Int) (hk : 5 ≤ k) (hk8 : k ≤ 8) (a : List Row) :
  (a.length ≤ 128 ∧ ∃ t : List Row, IsBag (amt a) t ∧ t.length ≤ a.length ∧ D_ops_One N ((k, A, B), a, ()) = some (outG k t, 0, ())) ∨ (128 < a.length ∧ D_ops_One N ((k, A, B), a, ()) = some ([], 1, ())) := by
 simp only [D_ops_One, ops_One_1, check_one (N := N) (A := A) (B := B) (by omega) (show 1 ≤ k by omega) hk8 a, Option.bind_some]
 by_cases q : 128 < a.length
 ·exact .inr ⟨q, by rw [if_pos q]; rfl⟩
 ·obtain ⟨d, o1, o2, o3⟩ := Of_eq (N := N) a (by omega) (by omega)
  obtain ⟨rows, out, m1, m2, m3, m4, m5⟩ := Make_agg (N := N) o2 k A B hk (by omega) (by omega)
  obtain ⟨res, c, t1, t2⟩ := Tells_eq (N := N) m3 (by omega) (by omega)
  refine .inl ⟨by omega, rows, m2, by omega, ?_⟩
  rw [if_neg q, bne_self_eq_false, cond_false, o1, Option.bind_some, m1, Option.bind_some, caseD_inr, t1, Option.bind_some]
  have hbag := outG_bag (kind := k) m2.rise
  rcases t2 with ⟨c0, p1, p2⟩ | ⟨c1, p1, l, p2, p3⟩
  ·rw [c0, p2.uniq hbag]
  ·exfalso
   have := p2.uniq hbag
   subst this
   have := outG_len (kind := k) m2.rise
   omega
end Go.Proofs.YtnieamciihdfpaaGreat
