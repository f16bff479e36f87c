/- How many pairs of rows with one key there are. -/
import Derived.Test.YtfcjibfkhmnolaaJoinT
namespace Go.Proofs.Ytfcjibfkhmnolaa
open Go.Abs Go.Bag
-- watershed/watershedkeep.totalPairs
abbrev Ks_keep_totalPairs : List Kd := [.dat (.sl (.pair (.int .i64) (.pair (.int .i64) (.int .i64)))), .dat (.sl (.pair (.int .i64) (.pair (.int .i64) (.int .i64))))]
abbrev Rk_keep_totalPairs : List Kd := [.dat (.int .i64)]
abbrev Rt_keep_totalPairs : Type := Dens Rk_keep_totalPairs
noncomputable def C_keep_totalPairs (_N : Nat) : Ctx := { T := [(2, ⟨.int .i64, 1, 8, some (.int .i64), [.int .i64 (0 : Int)], false, []⟩), (46, ⟨.slice 51, 1, 24, some (.sl (.pair (.int .i64) (.pair (.int .i64) (.int .i64)))), [.nil], false, []⟩), (51, ⟨.struct [(0, 2), (1, 2), (2, 2)], 3, 24, some (.pair (.int .i64) (.pair (.int .i64) (.int .i64))), [.int .i64 (0 : Int), .int .i64 (0 : Int), .int .i64 (0 : Int)], true, []⟩)], G := findE [], I := findI [], N := _N, n := 37, fx := [], fl := 0, gs := [] }
noncomputable def keep_totalPairs_1 (_N : Nat) (_v25 : Int) : Option Rt_keep_totalPairs :=
  (some (_v25, ()))
noncomputable def keep_totalPairs_2 (_N : Nat) (_kn27 : ((List (Int × Int × Int)) × (List (Int × Int × Int)) × Int) × (Int × Int) → Option Rt_keep_totalPairs) (_v17 : List (Int × Int × Int)) (_v18 : Int) (_v19 : List (Int × Int × Int)) (_v20 : Int) (_v21 : Int) : Option Rt_keep_totalPairs :=
  (_kn27 ((_v17, _v19, _v20), (_v18, (IntKind.i64.wrap (_v21 + (1 : Int))))))
noncomputable def keep_totalPairs_3 (_N : Nat) (_k28 : ((List (Int × Int × Int)) × Int × (List (Int × Int × Int)) × Int × Int × Int × Int × Int) → Option Rt_keep_totalPairs) (_v6 : List (Int × Int × Int)) (_v8 : List (Int × Int × Int)) (_v9 : Int) (_v10 : Int) (_v11 : List (Int × Int × Int)) (_v12 : Int) (_v14 : Int) (_v15 : Int) (_v16 : Int) (_v7 : Int) (_v13 : Int) (_kn29 : ((List (Int × Int × Int)) × (List (Int × Int × Int)) × Int × Int × (List (Int × Int × Int)) × Int × Int × Int × Int) × (Int × Int) → Option Rt_keep_totalPairs) : Option Rt_keep_totalPairs :=
  (bif (decide (_v13 < _v12)) then (bif (decide (0 ≤ _v13) && decide (_v13 < (_v11.length : Int))) then (bif (_v14 == ((nth ((0 : Int), ((0 : Int), (0 : Int))) _v11 (_v13).toNat).1)) then (_kn29 ((_v6, _v8, _v9, _v10, _v11, _v12, _v14, _v15, _v16), ((IntKind.i64.wrap (_v7 + (IntKind.i64.wrap (_v16 * (((nth ((0 : Int), ((0 : Int), (0 : Int))) _v11 (_v13).toNat).2).2))))), (IntKind.i64.wrap (_v13 + (1 : Int)))))) else (_kn29 ((_v6, _v8, _v9, _v10, _v11, _v12, _v14, _v15, _v16), (_v7, (IntKind.i64.wrap (_v13 + (1 : Int))))))) else none) else (_k28 (_v6, _v7, _v8, _v9, _v10, _v14, _v15, _v16)))
noncomputable def keep_totalPairs_4 (_N : Nat) (_k26 : Int → Option Rt_keep_totalPairs) (_v1 : List (Int × Int × Int)) (_v3 : List (Int × Int × Int)) (_v4 : Int) (_v2 : Int) (_v5 : Int) (_kn27 : ((List (Int × Int × Int)) × (List (Int × Int × Int)) × Int) × (Int × Int) → Option Rt_keep_totalPairs) : Option Rt_keep_totalPairs :=
  (bif (decide (_v5 < _v4)) then (joinD (fun (_s : (List (Int × Int × Int)) × Int × (List (Int × Int × Int)) × Int × Int × Int × Int × Int) => keep_totalPairs_2 _N _kn27 _s.1 _s.2.1 _s.2.2.1 _s.2.2.2.1 _s.2.2.2.2.1) fun _k28 => (bif (decide (0 ≤ _v5) && decide (_v5 < (_v3.length : Int))) then (loopE (fun (_c : (List (Int × Int × Int)) × (List (Int × Int × Int)) × Int × Int × (List (Int × Int × Int)) × Int × Int × Int × Int) (_s : Int × Int) _kn => keep_totalPairs_3 _N _k28 _c.1 _c.2.1 _c.2.2.1 _c.2.2.2.1 _c.2.2.2.2.1 _c.2.2.2.2.2.1 _c.2.2.2.2.2.2.1 _c.2.2.2.2.2.2.2.1 _c.2.2.2.2.2.2.2.2 _s.1 _s.2 _kn) _N (_v1, _v3, _v4, _v5, _v1, (_v1.length : Int), (nth ((0 : Int), ((0 : Int), (0 : Int))) _v3 (_v5).toNat).1, ((nth ((0 : Int), ((0 : Int), (0 : Int))) _v3 (_v5).toNat).2).1, ((nth ((0 : Int), ((0 : Int), (0 : Int))) _v3 (_v5).toNat).2).2) (_v2, (0 : Int))) else none)) else (_k26 _v2))
noncomputable def keep_totalPairs_5 (_N : Nat) (_x1 : List (Int × Int × Int)) (_x2 : List (Int × Int × Int)) : Option Rt_keep_totalPairs :=
  (joinD (fun (_s : Int) => keep_totalPairs_1 _N _s) fun _k26 => (loopE (fun (_c : (List (Int × Int × Int)) × (List (Int × Int × Int)) × Int) (_s : Int × Int) _kn => keep_totalPairs_4 _N _k26 _c.1 _c.2.1 _c.2.2 _s.1 _s.2 _kn) _N (_x2, _x1, (_x1.length : Int)) ((0 : Int), (0 : Int))))
noncomputable def D_keep_totalPairs (_N : Nat) (_x : Dens Ks_keep_totalPairs) : Option Rt_keep_totalPairs := keep_totalPairs_5 _N _x.1 _x.2.1
theorem sp_keep_totalPairs (_N : Nat) : SpecD Try.prog [] 30 Ks_keep_totalPairs Rk_keep_totalPairs (D_keep_totalPairs _N) := mkSpD (fn := Try.f30) (c := bodyOf Try.f30) (C := C_keep_totalPairs _N)
    (a := .two .none (.two .none (.join 0 ⟨[(5, .int .i64)], []⟩ (.two .none (.one (.loop 0 ⟨[(1, .sl (.pair (.int .i64) (.pair (.int .i64) (.int .i64)))), (5, .int .i64), (10, .sl (.pair (.int .i64) (.pair (.int .i64) (.int .i64)))), (11, .int .i64), (12, .int .i64)], []⟩ [1, 4] (.two .none (.two .none (.join 1 ⟨[(1, .sl (.pair (.int .i64) (.pair (.int .i64) (.int .i64)))), (5, .int .i64), (10, .sl (.pair (.int .i64) (.pair (.int .i64) (.int .i64)))), (11, .int .i64), (12, .int .i64)], [.cells [.int .i64, .int .i64, .int .i64]]⟩ (.one (.two .none (.two .none (.one (.loop 1 ⟨[(1, .sl (.pair (.int .i64) (.pair (.int .i64) (.int .i64)))), (5, .int .i64), (7, .ptr 0 0), (10, .sl (.pair (.int .i64) (.pair (.int .i64) (.int .i64)))), (11, .int .i64), (12, .int .i64), (16, .sl (.pair (.int .i64) (.pair (.int .i64) (.int .i64)))), (17, .int .i64), (18, .int .i64)], [.cells [.int .i64, .int .i64, .int .i64]]⟩ [1, 7] .none))))) .none)))))) .none)))
    (by kernel_rfl) rfl (by kernel_rfl) (by kernel_rfl) ⟨rfl, by unfold TOk; kernel_rfl, gOk_of rfl rfl (List.forall_mem_nil _), iOk_of rfl rfl (List.forall_mem_nil _), rfl⟩ (fun _x => by kernel_rfl)
theorem en_keep_totalPairs (_N : Nat) : EntOk Try.prog [] (mkP 30 Ks_keep_totalPairs Rk_keep_totalPairs (D_keep_totalPairs _N)) := entP ⟨Try.f30, bodyOf Try.f30, by kernel_rfl, by kernel_rfl, rfl⟩ (by kernel_rfl) (sp_keep_totalPairs _N)
theorem pairs_in {N : Nat} (A B : Int) (a b : List Row) (i : Nat) (r : Row) (T : Int) (hN : b.length < N) (hl : b.length ≤ 1000000) (K : (List Row) × Int × (List Row) × Int × Int × Int × Int × Int → Option Rt_keep_totalPairs) :
    loopE (fun (c : (List Row) × (List Row) × Int × Int × (List Row) × Int × Int × Int × Int) (s : Int × Int) kn => keep_totalPairs_3 N K c.1 c.2.1 c.2.2.1 c.2.2.2.1 c.2.2.2.2.1 c.2.2.2.2.2.1 c.2.2.2.2.2.2.1 c.2.2.2.2.2.2.2.1 c.2.2.2.2.2.2.2.2 s.1 s.2 kn) N (b, a, (a.length : Int), (i : Int), b, (b.length : Int), r.1, r.2.1, r.2.2) (w T, (0 : Int)) =
      K (b, w (T + tot (JL1 A B b r)), a, (a.length : Int), (i : Int), r.1, r.2.1, r.2.2) := by
  unfold loopE
  obtain ⟨s', hI, e⟩ := loopD_inv (g := fun (s : Int × Int) kn => keep_totalPairs_3 N K b a (a.length : Int) (i : Int) b (b.length : Int) r.1 r.2.1 r.2.2 s.1 s.2 (backE (b, a, (a.length : Int), (i : Int), b, (b.length : Int), r.1, r.2.1, r.2.2) kn)) (k := fun s : Int × Int => K (b, s.1, a, (a.length : Int), (i : Int), r.1, r.2.1, r.2.2)) b.length
    (fun j s => s.2 = (j : Int) ∧ s.1 = w (T + tot (JL1 A B (b.take j) r))) (N := N) (s := (w T, (0 : Int)))
    (by
      rintro j ⟨_, _⟩ hj ⟨rfl, rfl⟩
      refine ⟨(w (T + tot (JL1 A B (b.take (j + 1)) r)), (j : Int) + 1), ⟨by simp, rfl⟩, fun kn => ?_⟩
      rw [JL1_take A B hj, tot_append]
      simp only [keep_totalPairs_3, lt_d hj, ge0_d, Int.toNat_natCast, Bool.and_self, cond_true, ix1 hj (by omega), backE_eq]
      by_cases q : r.1 = (nth ((0 : Int), (0 : Int), (0 : Int)) b j).1
      · have h1 : IntKind.i64.wrap (w (T + tot (JL1 A B (b.take j) r)) + IntKind.i64.wrap (r.2.2 * (nth ((0 : Int), (0 : Int), (0 : Int)) b j).2.2)) = w (T + (tot (JL1 A B (b.take j) r) + tot [jrow A B r (nth (0, 0, 0) b j)])) := by
          simp only [tot, Int.add_zero]
          refine (((cg_w _).add (Cg.rfl (a := w (r.2.2 * (nth ((0 : Int), (0 : Int), (0 : Int)) b j).2.2)))).trans (.of_eq ?_) : Cg _ _)
          rw [Int.add_assoc]; rfl
        rw [if_pos q, show (r.1 == (nth ((0 : Int), (0 : Int), (0 : Int)) b j).1) = true from beq_iff_eq.2 q, cond_true, h1]
      · rw [if_neg q, show (r.1 == (nth ((0 : Int), (0 : Int), (0 : Int)) b j).1) = false from beq_false_of_ne q, cond_false]
        simp only [tot, Int.add_zero])
    (by
      rintro ⟨_, _⟩ ⟨rfl, rfl⟩ kn
      simp only [keep_totalPairs_3, lt_self, cond_false])
    hN ⟨rfl, by simp only [List.take_zero, JL1, List.filter_nil, List.map_nil, tot, Int.add_zero]⟩
  rw [e, hI.2, List.take_length]
theorem totalPairs_eq {N : Nat} (A B : Int) (a b : List Row) (h1 : a.length < N) (h2 : b.length < N) (h3 : a.length ≤ 1000000) (h4 : b.length ≤ 1000000) :
    D_keep_totalPairs N (a, b, ()) = some (w (tot (JL A B a b)), ()) := by
  simp only [D_keep_totalPairs, keep_totalPairs_5, joinD]
  unfold loopE
  obtain ⟨s', hI, e⟩ := loopD_inv (g := fun (s : Int × Int) kn => keep_totalPairs_4 N (fun s => keep_totalPairs_1 N s) b a (a.length : Int) s.1 s.2 (backE (b, a, (a.length : Int)) kn)) (k := fun s : Int × Int => some (s.1, ())) a.length
    (fun i s => s.2 = (i : Int) ∧ s.1 = w (tot (JL A B (a.take i) b))) (N := N) (s := ((0 : Int), (0 : Int)))
    (by
      rintro i ⟨_, _⟩ hi ⟨rfl, rfl⟩
      refine ⟨(w (tot (JL A B (a.take (i + 1)) b)), (i : Int) + 1), ⟨by simp, rfl⟩, fun kn => ?_⟩
      have ht : tot (JL A B (a.take (i + 1)) b) = tot (JL A B (a.take i) b) + tot (JL1 A B b (nth (0, 0, 0) a i)) := by
        rw [take_nth (z := ((0 : Int), (0 : Int), (0 : Int))) hi, JL_append, tot_append]
        simp only [JL, List.flatMap_cons, List.flatMap_nil, List.append_nil]
      simp only [keep_totalPairs_4, lt_d hi, ge0_d, Int.toNat_natCast, Bool.and_self, cond_true, joinD]
      refine (pairs_in A B a b i (nth (0, 0, 0) a i) (tot (JL A B (a.take i) b)) h2 h4 _).trans ?_
      simp only [keep_totalPairs_2, ix1 hi (show a.length ≤ 4611686018427387904 by omega), backE_eq, ht])
    (by
      rintro ⟨_, _⟩ ⟨rfl, rfl⟩ kn
      simp only [keep_totalPairs_4, lt_self, cond_false, keep_totalPairs_1])
    h1 ⟨rfl, by simp only [List.take_zero, JL, List.flatMap_nil, tot, w_zero]⟩
  rw [e, hI.2, List.take_length]
theorem tot_cg' {a b : List Row} (h : ∀ e, Cg (amt a e) (amt b e)) : w (tot a) = w (tot b) := tot_cg h
end Go.Proofs.Ytfcjibfkhmnolaa
