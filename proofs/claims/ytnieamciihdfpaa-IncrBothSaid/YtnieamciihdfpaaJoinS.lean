import Derived.Test.YtnieamciihdfpaaPair
import Derived.Test.YtnieamciihdfpaaOpsS
import Derived.Test.YtnieamciihdfpaaJoinP
namespace Go.Proofs.Ytnieamciihdfpaa
open Go.Abs Go.Bag
theorem sum_loop {R C α X : Type} {N : Nat} {z : α} (g : X → C → Int × Bg → (C × (Int × Bg) → Option R) → Option R) (c : C) (xs : List α) (f : α → List Row) (k : X → Bg → Option R) {F0 : Key → Int} {d0 : Bg} (h0 : BOk F0 d0)
    (step : ∀ (i : Nat) (b : Bg) (F : Key → Int), i < xs.length → BOk F b → ∃ b', (∀ x kn, g x c ((i : Int), b) kn = kn (c, ((i : Int) + 1, b'))) ∧ BOk (fun e => F e + amt (f (nth z xs i)) e) b' ∧ b'.2.length ≤ b.2.length + (f (nth z xs i)).length)
    (stop : ∀ x b kn, g x c ((xs.length : Int), b) kn = k x b) (hN : xs.length < N) :
    ∃ d', (∀ x, loopE (g x) N c ((0 : Int), d0) = k x d') ∧ BOk (fun e => F0 e + amt (xs.flatMap f) e) d' ∧ d'.2.length ≤ d0.2.length + (xs.flatMap f).length := by
  unfold loopE
  obtain ⟨s', ⟨h1, h2, h3⟩, e⟩ := loopD_invk (fun (x : X) (s : Int × Bg) kn => g x c s (backE c kn)) (fun (x : X) (s : Int × Bg) => k x s.2) xs.length
    (fun i s => s.1 = (i : Int) ∧ BOk (fun z => F0 z + amt ((xs.take i).flatMap f) z) s.2 ∧ s.2.2.length ≤ d0.2.length + ((xs.take i).flatMap f).length)
    (by
      rintro i ⟨_, b⟩ hi ⟨rfl, hb, hlen⟩
      simp only at hb hlen
      obtain ⟨b', e1, e2, e3⟩ := step i b _ hi hb
      have ht : (xs.take (i + 1)).flatMap f = (xs.take i).flatMap f ++ f (nth z xs i) := by
        rw [take_nth (z := z) hi, List.flatMap_append, List.flatMap_cons, List.flatMap_nil, List.append_nil]
      refine ⟨((i : Int) + 1, b'), ⟨by simp, e2.cg fun z => ?_, ?_⟩, fun x kn => by rw [e1, backE_eq]⟩
      · rw [ht, amt_append]; exact .of_eq (by omega)
      · rw [ht, List.length_append]; simp only; omega)
    (by
      rintro ⟨_, b⟩ ⟨rfl, hb, hlen⟩ x kn
      exact stop x b _)
    (N := N) hN (s := ((0 : Int), d0)) ⟨rfl, h0.cg fun z => by simp only [List.take_zero, List.flatMap_nil, amt, Int.add_zero]; exact Cg.rfl, Nat.le_refl _⟩
  exact ⟨s'.2, e, by simpa only [List.take_length] using h2, by simpa only [List.take_length] using h3⟩
abbrev Wt : Type := Int × List (Int × Int × List (Int × Int × Int))
abbrev wGet (d : Wt) (k : Int) : List Row := mpGet (.int .i64) (.sl (.pair (.int .i64) (.pair (.int .i64) (.int .i64)))) d k
theorem with_loop {N : Nat} (K : Bg × Bg × Int × Int × Int × Bg × Wt → Option Rt_ops_Pair_h) (rb : List Row) (da db out : Bg) (k A B : Int) (hN : rb.length < N) (hl : rb.length ≤ 1000000) :
    ∃ m : Wt, loopE (fun (c : (List Row) × Int × Bg × Bg × Int × Int × Int × Bg) (s : Int × Wt) kn => ops_Pair_h_6 N K c.1 c.2.1 c.2.2.1 c.2.2.2.1 c.2.2.2.2.1 c.2.2.2.2.2.1 c.2.2.2.2.2.2.1 c.2.2.2.2.2.2.2 s.1 s.2 kn) N (rb, (rb.length : Int), da, db, k, A, B, out) ((0 : Int), ((0 : Int), [])) = K (da, db, k, A, B, out, m) ∧
      ∀ x, wGet m x = rb.filter fun s => decide (s.1 = x) := by
  unfold loopE
  obtain ⟨s', ⟨h1, h2⟩, e⟩ := loopD_inv (g := fun (s : Int × Wt) kn => ops_Pair_h_6 N K rb (rb.length : Int) da db k A B out s.1 s.2 (backE (rb, (rb.length : Int), da, db, k, A, B, out) kn)) (k := fun s : Int × Wt => K (da, db, k, A, B, out, s.2)) rb.length
    (fun i s => s.1 = (i : Int) ∧ ∀ x, wGet s.2 x = (rb.take i).filter fun s => decide (s.1 = x)) (N := N) (s := ((0 : Int), ((0 : Int), [])))
    (by
      rintro i ⟨_, m⟩ hi ⟨rfl, hm⟩
      simp only at hm
      refine ⟨((i : Int) + 1, mpPut (.int .i64) (.sl (.pair (.int .i64) (.pair (.int .i64) (.int .i64)))) m (nth ((0 : Int), (0 : Int), (0 : Int)) rb i).1 (wGet m (nth ((0 : Int), (0 : Int), (0 : Int)) rb i).1 ++ [nth ((0 : Int), (0 : Int), (0 : Int)) rb i])), ⟨by simp, fun x => ?_⟩, fun kn => ?_⟩
      · rw [take_nth (z := ((0 : Int), (0 : Int), (0 : Int))) hi, List.filter_append]
        by_cases q : x = (nth ((0 : Int), (0 : Int), (0 : Int)) rb i).1
        · subst q
          rw [List.filter_cons_of_pos (by simp), List.filter_nil, ← hm]
          exact mput_get rfl _ _ _
        · rw [List.filter_cons_of_neg (by simp; exact fun e => q e.symm), List.filter_nil, List.append_nil, ← hm]
          exact mput_get_ne rfl _ q _
      · have hlen : (wGet m (nth ((0 : Int), (0 : Int), (0 : Int)) rb i).1).length ≤ rb.length := by
          rw [hm]
          exact Nat.le_trans (List.length_filter_le _ _) (by rw [List.length_take]; omega)
        have hh : holeOk (.int .i64) (.pair (.int .i64) (.pair (.int .i64) (.int .i64))) (some (nth ((0 : Int), (0 : Int), (0 : Int)) rb i).1) m (nth ((0 : Int), (0 : Int), (0 : Int)) rb i).1 = true := eqD_refl (s := .int .i64) rfl _
        simp only [ops_Pair_h_6, lt_d hi, ge0_d, Int.toNat_natCast, Bool.and_self, cond_true, hh, ix1 hi (by omega), show Nat.ble 1 24 = true from rfl, backE_eq]
        refine (congrArg (fun b => cond (b && true) _ _) (d_true (show ((wGet m (nth ((0 : Int), (0 : Int), (0 : Int)) rb i).1).length + 1) * 24 ≤ 140737488355328 by omega))).trans ?_
        rfl)
    (by
      rintro ⟨_, m⟩ ⟨rfl, hm⟩ kn
      simp only [ops_Pair_h_6, lt_self, cond_false])
    hN ⟨rfl, fun x => rfl⟩
  exact ⟨s'.2, e, by simpa only [List.take_length] using h2⟩
theorem Pair_join {N : Nat} {F G : Key → Int} {da db : Bg} (hF : BOk F da) (hG : BOk G db) (A B : Int) (h1 : da.2.length + 10 < N) (h2 : db.2.length + 10 < N) (h3 : da.2.length ≤ 1000000) (h4 : db.2.length ≤ 1000000) :
    ∃ (ra rb : List Row) (out : Bg), D_ops_Pair_h N ((10, A, B), da, db) = some (da, db, 10, A, B, out) ∧ IsBag F ra ∧ IsBag G rb ∧ BOk (amt (JL A B ra rb)) out ∧ ra.length = da.2.length ∧ rb.length = db.2.length ∧ out.2.length ≤ ra.length * rb.length := by
  obtain ⟨ra, a1, a2, a3⟩ := RowsR_eq hF h1 (by omega)
  obtain ⟨rb, b1, b2, b3⟩ := RowsR_eq hG h2 (by omega)
  simp only [D_ops_Pair_h, ops_Pair_h_7, show ((10 : Int) == 9) = false from rfl, cond_false, joinD, b1, Option.bind_some]
  obtain ⟨m, m1, m2⟩ := with_loop (N := N) (fun s => ops_Pair_h_5 N s.1 s.2.1 s.2.2.1 s.2.2.2.1 s.2.2.2.2.1 s.2.2.2.2.2.1 s.2.2.2.2.2.2) rb da db ((0 : Int), []) 10 A B (by omega) (by omega)
  refine ⟨ra, rb, ?_⟩
  rw [m1]
  simp only [ops_Pair_h_5, joinD, a1, Option.bind_some]
  obtain ⟨d', e1, e2, e3⟩ := sum_loop (X := Unit) (N := N) (z := ((0 : Int), (0 : Int), (0 : Int))) (fun _ (c : (List Row) × Int × Bg × Bg × Int × Int × Int × Wt) (s : Int × Bg) kn => ops_Pair_h_4 N (fun s => ops_Pair_h_1 N s.1 s.2.1 s.2.2.1 s.2.2.2.1 s.2.2.2.2.1 s.2.2.2.2.2.1) c.1 c.2.1 c.2.2.1 c.2.2.2.1 c.2.2.2.2.1 c.2.2.2.2.2.1 c.2.2.2.2.2.2.1 c.2.2.2.2.2.2.2 s.1 s.2 kn) (ra, (ra.length : Int), da, db, 10, A, B, m) ra (JL1 A B rb) (fun _ b => some (da, db, 10, A, B, b)) BOk.empty (fun i b F hi hb => by
      have hlen : (wGet m (nth ((0 : Int), (0 : Int), (0 : Int)) ra i).1).length ≤ rb.length := by rw [m2]; exact List.length_filter_le _ _
      let cc := (ra, (ra.length : Int), (i : Int), wGet m (nth ((0 : Int), (0 : Int), (0 : Int)) ra i).1, ((wGet m (nth ((0 : Int), (0 : Int), (0 : Int)) ra i).1).length : Int), da, db, (10 : Int), A, B, m, (nth ((0 : Int), (0 : Int), (0 : Int)) ra i).1, (nth ((0 : Int), (0 : Int), (0 : Int)) ra i).2.1, (nth ((0 : Int), (0 : Int), (0 : Int)) ra i).2.2)
      have key : ∃ b', (∀ kn : ((List Row) × Int × Bg × Bg × Int × Int × Int × Wt) × (Int × Bg) → Option Rt_ops_Pair_h, loopE (fun (c : (List Row) × Int × Int × (List Row) × Int × Bg × Bg × Int × Int × Int × Wt × Int × Int × Int) (s : Int × Bg) kn' => ops_Pair_h_3 N (fun s => ops_Pair_h_2 N kn s.1 s.2.1 s.2.2.1 s.2.2.2.1 s.2.2.2.2.1 s.2.2.2.2.2.1 s.2.2.2.2.2.2.1 s.2.2.2.2.2.2.2.1 s.2.2.2.2.2.2.2.2.1 s.2.2.2.2.2.2.2.2.2.1) c.1 c.2.1 c.2.2.1 c.2.2.2.1 c.2.2.2.2.1 c.2.2.2.2.2.1 c.2.2.2.2.2.2.1 c.2.2.2.2.2.2.2.1 c.2.2.2.2.2.2.2.2.1 c.2.2.2.2.2.2.2.2.2.1 c.2.2.2.2.2.2.2.2.2.2.1 c.2.2.2.2.2.2.2.2.2.2.2.1 c.2.2.2.2.2.2.2.2.2.2.2.2.1 c.2.2.2.2.2.2.2.2.2.2.2.2.2 s.1 s.2 kn') N cc ((0 : Int), b) = kn ((ra, (ra.length : Int), da, db, 10, A, B, m), ((i : Int) + 1, b'))) ∧ BOk (fun e => F e + amt ((wGet m (nth ((0 : Int), (0 : Int), (0 : Int)) ra i).1).flatMap fun s => [jrow A B (nth (0, 0, 0) ra i) s]) e) b' ∧ b'.2.length ≤ b.2.length + ((wGet m (nth ((0 : Int), (0 : Int), (0 : Int)) ra i).1).flatMap fun s => [jrow A B (nth (0, 0, 0) ra i) s]).length := by
        refine sum_loop (X := ((List Row) × Int × Bg × Bg × Int × Int × Int × Wt) × (Int × Bg) → Option Rt_ops_Pair_h) (N := N) (z := ((0 : Int), (0 : Int), (0 : Int))) (fun kn (c : (List Row) × Int × Int × (List Row) × Int × Bg × Bg × Int × Int × Int × Wt × Int × Int × Int) (s : Int × Bg) kn' => ops_Pair_h_3 N (fun s => ops_Pair_h_2 N kn s.1 s.2.1 s.2.2.1 s.2.2.2.1 s.2.2.2.2.1 s.2.2.2.2.2.1 s.2.2.2.2.2.2.1 s.2.2.2.2.2.2.2.1 s.2.2.2.2.2.2.2.2.1 s.2.2.2.2.2.2.2.2.2.1) c.1 c.2.1 c.2.2.1 c.2.2.2.1 c.2.2.2.2.1 c.2.2.2.2.2.1 c.2.2.2.2.2.2.1 c.2.2.2.2.2.2.2.1 c.2.2.2.2.2.2.2.2.1 c.2.2.2.2.2.2.2.2.2.1 c.2.2.2.2.2.2.2.2.2.2.1 c.2.2.2.2.2.2.2.2.2.2.2.1 c.2.2.2.2.2.2.2.2.2.2.2.2.1 c.2.2.2.2.2.2.2.2.2.2.2.2.2 s.1 s.2 kn') cc (wGet m (nth ((0 : Int), (0 : Int), (0 : Int)) ra i).1) (fun s => [jrow A B (nth (0, 0, 0) ra i) s]) (fun kn b' => kn ((ra, (ra.length : Int), da, db, 10, A, B, m), ((i : Int) + 1, b'))) hb (fun j b F hj hb => ?_) (fun kn b kn' => ?_) (by omega)
        · obtain ⟨b', p1, p2, p3⟩ := Add_eq (N := N) hb (ky (jrow A B (nth (0, 0, 0) ra i) (nth (0, 0, 0) (wGet m (nth ((0 : Int), (0 : Int), (0 : Int)) ra i).1) j))) (jrow A B (nth (0, 0, 0) ra i) (nth (0, 0, 0) (wGet m (nth ((0 : Int), (0 : Int), (0 : Int)) ra i).1) j)).2.2
          refine ⟨b', fun kn kn' => ?_, p2.cg fun e => .of_eq ?_, by simpa using p3⟩
          · simp only [cc, ops_Pair_h_3, lt_d hj, ge0_d, Int.toNat_natCast, Bool.and_self, cond_true, ix1 hj (by omega)]
            refine (congrArg (fun o => Option.bind o _) p1).trans ?_
            rfl
          · simp only [amt, Int.add_zero]
            congr 1
            by_cases q : e = ky (jrow A B (nth (0, 0, 0) ra i) (nth (0, 0, 0) (wGet m (nth ((0 : Int), (0 : Int), (0 : Int)) ra i).1) j))
            · rw [if_pos q, if_pos q.symm]
            · rw [if_neg q, if_neg (fun h => q h.symm)]
        · simp only [cc, ops_Pair_h_3, lt_self, cond_false, ops_Pair_h_2, ix1 hi (show ra.length ≤ 4611686018427387904 by omega)]
      obtain ⟨b', k1, k2, k3⟩ := key
      have hfm : ((wGet m (nth ((0 : Int), (0 : Int), (0 : Int)) ra i).1).flatMap fun s => [jrow A B (nth (0, 0, 0) ra i) s]) = JL1 A B rb (nth (0, 0, 0) ra i) := by
        rw [m2]; unfold JL1; exact List.map_eq_flatMap.symm
      rw [hfm] at k2 k3
      refine ⟨b', fun _ kn => ?_, k2, k3⟩
      simp only [ops_Pair_h_4, lt_d hi, ge0_d, Int.toNat_natCast, Bool.and_self, cond_true, joinD]
      exact k1 kn)
    (fun _ b kn => by simp only [ops_Pair_h_4, lt_self, cond_false, ops_Pair_h_1]) (by omega)
  refine ⟨d', e1 (), a2, b2, e2.cg fun e => .of_eq (Int.zero_add _), a3, b3, ?_⟩
  have := JL_len A B ra rb
  unfold JL at this
  simp only [List.length_nil, Nat.zero_add] at e3
  omega
end Go.Proofs.Ytnieamciihdfpaa
