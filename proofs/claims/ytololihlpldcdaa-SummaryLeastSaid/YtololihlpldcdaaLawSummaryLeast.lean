/- The front of a list of summaries: the law answers true for every list. No condition. -/
import Derived.Test.YtololihlpldcdaaSummO
import Derived.Test.YtololihlpldcdaaFrame0
namespace Go.Proofs.Ytololihlpldcdaa
open Go Go.ChangeShapes Go.WideShapes Go.ChangeAt Go.WideMaps Go.WideElems Go.RowKit Go.Abs
open Go.Smy (Sm sumCheck sumCheck_iff placeN leqP)
-- watershed/watershedref.SummarySame
abbrev Ks_ref_SummarySame : List Kd := [.dat (.pair (.int .i64) (.pair (.int .i64) (.sl (.int .i64)))), .dat (.pair (.int .i64) (.pair (.int .i64) (.sl (.int .i64))))]
abbrev Rk_ref_SummarySame : List Kd := [.dat (.bool)]
abbrev Rt_ref_SummarySame : Type := Dens Rk_ref_SummarySame
noncomputable def C_ref_SummarySame (_N : Nat) : Ctx := { T := [(3, ⟨.int .i64, 1, 8, some (.int .i64), [.int .i64 (0 : Int)], false, []⟩), (26, ⟨.slice 3, 1, 24, some (.sl (.int .i64)), [.nil], false, []⟩), (41, ⟨.struct [(0, 3), (1, 3), (2, 26)], 3, 40, some (.pair (.int .i64) (.pair (.int .i64) (.sl (.int .i64)))), [.int .i64 (0 : Int), .int .i64 (0 : Int), .nil], false, []⟩)], G := findE [mkP 31 Ks_ref_TimesSame Rk_ref_TimesSame (D_ref_TimesSame _N)], I := findI [], N := _N, n := 24, fx := [], fl := 0, gs := [] }
noncomputable def ref_SummarySame_1 (_N : Nat) (_x1 : Int × Int × List Int) (_x2 : Int × Int × List Int) : Option Rt_ref_SummarySame :=
  (bif (_x1.1 == _x2.1) then (bif (_x1.2.1 == _x2.2.1) then ((D_ref_TimesSame _N (_x1.2.2, _x2.2.2, ())).bind fun _y2 => (some (_y2.1, ()))) else (some (false, ()))) else (some (false, ())))
noncomputable def D_ref_SummarySame (_N : Nat) (_x : Dens Ks_ref_SummarySame) : Option Rt_ref_SummarySame := ref_SummarySame_1 _N _x.1 _x.2.1
theorem sp_ref_SummarySame (_N : Nat) : SpecD Try.prog [] 51 Ks_ref_SummarySame Rk_ref_SummarySame (D_ref_SummarySame _N) := mkSpD (fn := Try.f51) (c := bodyOf Try.f51) (C := C_ref_SummarySame _N)
    (a := .none)
    (by kernel_rfl) rfl (by kernel_rfl) (by kernel_rfl) ⟨rfl, by unfold TOk; kernel_rfl, gOk_of rfl rfl (List.forall_mem_cons.2 ⟨en_ref_TimesSame _N, (List.forall_mem_nil _)⟩), iOk_of rfl rfl (List.forall_mem_nil _), rfl⟩ (fun _x => by kernel_rfl)
theorem en_ref_SummarySame (_N : Nat) : EntOk Try.prog [] (mkP 51 Ks_ref_SummarySame Rk_ref_SummarySame (D_ref_SummarySame _N)) := entP ⟨Try.f51, bodyOf Try.f51, by kernel_rfl, by kernel_rfl, rfl⟩ (by kernel_rfl) (sp_ref_SummarySame _N)
-- watershed/watershedref.SummariesSame
abbrev Ks_ref_SummariesSame : List Kd := [.dat (.sl (.pair (.int .i64) (.pair (.int .i64) (.sl (.int .i64))))), .dat (.sl (.pair (.int .i64) (.pair (.int .i64) (.sl (.int .i64)))))]
abbrev Rk_ref_SummariesSame : List Kd := [.dat (.bool)]
abbrev Rt_ref_SummariesSame : Type := Dens Rk_ref_SummariesSame
noncomputable def C_ref_SummariesSame (_N : Nat) : Ctx := { T := [(36, ⟨.slice 41, 1, 24, some (.sl (.pair (.int .i64) (.pair (.int .i64) (.sl (.int .i64))))), [.nil], false, []⟩), (41, ⟨.struct [(0, 3), (1, 3), (2, 26)], 3, 40, some (.pair (.int .i64) (.pair (.int .i64) (.sl (.int .i64)))), [.int .i64 (0 : Int), .int .i64 (0 : Int), .nil], false, []⟩)], G := findE [mkP 51 Ks_ref_SummarySame Rk_ref_SummarySame (D_ref_SummarySame _N)], I := findI [], N := _N, n := 27, fx := [], fl := 0, gs := [] }
noncomputable def ref_SummariesSame_1 (_N : Nat) : Option Rt_ref_SummariesSame :=
  (some (true, ()))
noncomputable def ref_SummariesSame_2 (_N : Nat) (_k6 : Unit → Option Rt_ref_SummariesSame) (_v1 : List (Int × Int × List Int)) (_v2 : List (Int × Int × List Int)) (_v3 : Int) (_kn7 : ((List (Int × Int × List Int)) × (List (Int × Int × List Int))) × Int → Option Rt_ref_SummariesSame) : Option Rt_ref_SummariesSame :=
  (bif (decide (_v3 < (_v1.length : Int))) then (bif (decide (0 ≤ _v3) && decide (_v3 < (_v1.length : Int))) then (bif (decide (0 ≤ _v3) && decide (_v3 < (_v2.length : Int))) then ((D_ref_SummarySame _N (((nth ((0 : Int), ((0 : Int), [])) _v1 (_v3).toNat).1, (((nth ((0 : Int), ((0 : Int), [])) _v1 (_v3).toNat).2).1, ((nth ((0 : Int), ((0 : Int), [])) _v1 (_v3).toNat).2).2)), ((nth ((0 : Int), ((0 : Int), [])) _v2 (_v3).toNat).1, (((nth ((0 : Int), ((0 : Int), [])) _v2 (_v3).toNat).2).1, ((nth ((0 : Int), ((0 : Int), [])) _v2 (_v3).toNat).2).2)), ())).bind fun _y8 => (bif (!_y8.1) then (some (false, ())) else (_kn7 ((_v1, _v2), (IntKind.i64.wrap (_v3 + (1 : Int))))))) else none) else none) else (_k6 ()))
noncomputable def ref_SummariesSame_3 (_N : Nat) (_x1 : List (Int × Int × List Int)) (_x2 : List (Int × Int × List Int)) : Option Rt_ref_SummariesSame :=
  (bif ((_x1.length : Int) != (_x2.length : Int)) then (some (false, ())) else (joinD (fun (_s : Unit) => ref_SummariesSame_1 _N) fun _k6 => (loopE (fun (_c : (List (Int × Int × List Int)) × (List (Int × Int × List Int))) (_s : Int) _kn => ref_SummariesSame_2 _N _k6 _c.1 _c.2 _s _kn) _N (_x1, _x2) (0 : Int))))
noncomputable def D_ref_SummariesSame (_N : Nat) (_x : Dens Ks_ref_SummariesSame) : Option Rt_ref_SummariesSame := ref_SummariesSame_3 _N _x.1 _x.2.1
theorem sp_ref_SummariesSame (_N : Nat) : SpecD Try.prog [] 24 Ks_ref_SummariesSame Rk_ref_SummariesSame (D_ref_SummariesSame _N) := mkSpD (fn := Try.f24) (c := bodyOf Try.f24) (C := C_ref_SummariesSame _N)
    (a := .two .none (.two .none (.join 0 ⟨[], []⟩ (.two .none (.one (.loop 0 ⟨[(0, .sl (.pair (.int .i64) (.pair (.int .i64) (.sl (.int .i64))))), (1, .sl (.pair (.int .i64) (.pair (.int .i64) (.sl (.int .i64))))), (5, .int .i64)], []⟩ [2] (.two .none (.two (.one (.two (.draw 0 [.pure, .pure, .pure, .pure, .pure, .pure, .pure, .pure, .pure, .pure]) .none)) .none))))) .none)))
    (by kernel_rfl) rfl (by kernel_rfl) (by kernel_rfl) ⟨rfl, by unfold TOk; kernel_rfl, gOk_of rfl rfl (List.forall_mem_cons.2 ⟨en_ref_SummarySame _N, (List.forall_mem_nil _)⟩), iOk_of rfl rfl (List.forall_mem_nil _), rfl⟩ (fun _x => by kernel_rfl)
theorem en_ref_SummariesSame (_N : Nat) : EntOk Try.prog [] (mkP 24 Ks_ref_SummariesSame Rk_ref_SummariesSame (D_ref_SummariesSame _N)) := entP ⟨Try.f24, bodyOf Try.f24, by kernel_rfl, by kernel_rfl, rfl⟩ (by kernel_rfl) (sp_ref_SummariesSame _N)
-- watershed/watershedkeep.SummaryLeast
abbrev Ks_keep_SummaryLeast : List Kd := [.dat (.sl (.pair (.int .i64) (.pair (.int .i64) (.sl (.int .i64)))))]
abbrev Rk_keep_SummaryLeast : List Kd := [.dat (.bool)]
abbrev Rt_keep_SummaryLeast : Type := Dens Rk_keep_SummaryLeast
noncomputable def C_keep_SummaryLeast (_N : Nat) : Ctx := { T := [(36, ⟨.slice 41, 1, 24, some (.sl (.pair (.int .i64) (.pair (.int .i64) (.sl (.int .i64))))), [.nil], false, []⟩), (41, ⟨.struct [(0, 3), (1, 3), (2, 26)], 3, 40, some (.pair (.int .i64) (.pair (.int .i64) (.sl (.int .i64)))), [.int .i64 (0 : Int), .int .i64 (0 : Int), .nil], false, []⟩)], G := findE [mkQ 23 Ks_summary_Front Rk_summary_Front (D_summary_Front _N), mkP 24 Ks_ref_SummariesSame Rk_ref_SummariesSame (D_ref_SummariesSame _N), mkP 25 Ks_summary_Leq Rk_summary_Leq (D_summary_Leq _N)], I := findI [], N := _N, n := 84, fx := [], fl := 0, gs := [] }
noncomputable def keep_SummaryLeast_1 (_N : Nat) : Option Rt_keep_SummaryLeast :=
  (some (true, ()))
noncomputable def keep_SummaryLeast_2 (_N : Nat) (_kn54 : (List (Int × Int × List Int)) × Int → Option Rt_keep_SummaryLeast) (_v46 : List (Int × Int × List Int)) (_v47 : Int) : Option Rt_keep_SummaryLeast :=
  (_kn54 (_v46, (IntKind.i64.wrap (_v47 + (1 : Int)))))
noncomputable def keep_SummaryLeast_3 (_N : Nat) (_k55 : ((List (Int × Int × List Int)) × Int) → Option Rt_keep_SummaryLeast) (_v41 : List (Int × Int × List Int)) (_v42 : Int) (_v43 : Int) (_kn56 : ((List (Int × Int × List Int)) × Int) × Int → Option Rt_keep_SummaryLeast) : Option Rt_keep_SummaryLeast :=
  (bif (decide (_v43 < (_v41.length : Int))) then (bif (_v42 != _v43) then (bif (decide (0 ≤ _v42) && decide (_v42 < (_v41.length : Int))) then (bif (decide (0 ≤ _v43) && decide (_v43 < (_v41.length : Int))) then ((D_summary_Leq _N (((nth ((0 : Int), ((0 : Int), [])) _v41 (_v42).toNat).1, (((nth ((0 : Int), ((0 : Int), [])) _v41 (_v42).toNat).2).1, ((nth ((0 : Int), ((0 : Int), [])) _v41 (_v42).toNat).2).2)), ((nth ((0 : Int), ((0 : Int), [])) _v41 (_v43).toNat).1, (((nth ((0 : Int), ((0 : Int), [])) _v41 (_v43).toNat).2).1, ((nth ((0 : Int), ((0 : Int), [])) _v41 (_v43).toNat).2).2)), ())).bind fun _y57 => (bif _y57.1 then (some (false, ())) else (_kn56 ((_v41, _v42), (IntKind.i64.wrap (_v43 + (1 : Int))))))) else none) else none) else (_kn56 ((_v41, _v42), (IntKind.i64.wrap (_v43 + (1 : Int)))))) else (_k55 (_v41, _v42)))
noncomputable def keep_SummaryLeast_4 (_N : Nat) (_k53 : Unit → Option Rt_keep_SummaryLeast) (_v39 : List (Int × Int × List Int)) (_v40 : Int) (_kn54 : (List (Int × Int × List Int)) × Int → Option Rt_keep_SummaryLeast) : Option Rt_keep_SummaryLeast :=
  (bif (decide (_v40 < (_v39.length : Int))) then (joinD (fun (_s : (List (Int × Int × List Int)) × Int) => keep_SummaryLeast_2 _N _kn54 _s.1 _s.2) fun _k55 => (loopE (fun (_c : (List (Int × Int × List Int)) × Int) (_s : Int) _kn => keep_SummaryLeast_3 _N _k55 _c.1 _c.2 _s _kn) _N (_v39, _v40) (0 : Int))) else (_k53 ()))
noncomputable def keep_SummaryLeast_5 (_N : Nat) (_v38 : List (Int × Int × List Int)) : Option Rt_keep_SummaryLeast :=
  (joinD (fun (_s : Unit) => keep_SummaryLeast_1 _N) fun _k53 => (loopE (fun (_c : (List (Int × Int × List Int))) (_s : Int) _kn => keep_SummaryLeast_4 _N _k53 _c _s _kn) _N _v38 (0 : Int)))
noncomputable def keep_SummaryLeast_6 (_N : Nat) (_kn59 : ((List (Int × Int × List Int)) × (List (Int × Int × List Int)) × Int) × Int → Option Rt_keep_SummaryLeast) (_v29 : List (Int × Int × List Int)) (_v30 : List (Int × Int × List Int)) (_v31 : Int) (_v32 : Int) : Option Rt_keep_SummaryLeast :=
  (_kn59 ((_v29, _v30, _v31), (IntKind.i64.wrap (_v32 + (1 : Int)))))
noncomputable def keep_SummaryLeast_7 (_N : Nat) (_k60 : ((List (Int × Int × List Int)) × (List (Int × Int × List Int)) × Int × Int × Int × Int × List Int) → Option Rt_keep_SummaryLeast) (_v21 : List (Int × Int × List Int)) (_v22 : Bool) (_v23 : List (Int × Int × List Int)) (_v24 : Int) (_v25 : Int) (_v26 : Int) (_v27 : Int) (_v28 : List Int) : Option Rt_keep_SummaryLeast :=
  (bif (!_v22) then (some (false, ())) else (_k60 (_v21, _v23, _v24, _v25, _v26, _v27, _v28)))
noncomputable def keep_SummaryLeast_8 (_N : Nat) (_k61 : ((List (Int × Int × List Int)) × Bool × (List (Int × Int × List Int)) × Int × Int × Int × Int × List Int) → Option Rt_keep_SummaryLeast) (_v8 : List (Int × Int × List Int)) (_v10 : List (Int × Int × List Int)) (_v11 : Int) (_v12 : Int) (_v13 : List (Int × Int × List Int)) (_v14 : Int) (_v16 : Int) (_v17 : Int) (_v18 : List Int) (_v9 : Bool) (_v15 : Int) (_kn62 : ((List (Int × Int × List Int)) × (List (Int × Int × List Int)) × Int × Int × (List (Int × Int × List Int)) × Int × Int × Int × List Int) × (Bool × Int) → Option Rt_keep_SummaryLeast) : Option Rt_keep_SummaryLeast :=
  (bif (decide (_v15 < _v14)) then (bif (decide (0 ≤ _v15) && decide (_v15 < (_v13.length : Int))) then (bif _v9 then (_kn62 ((_v8, _v10, _v11, _v12, _v13, _v14, _v16, _v17, _v18), (true, (IntKind.i64.wrap (_v15 + (1 : Int)))))) else ((D_summary_Leq _N (((nth ((0 : Int), ((0 : Int), [])) _v13 (_v15).toNat).1, (((nth ((0 : Int), ((0 : Int), [])) _v13 (_v15).toNat).2).1, ((nth ((0 : Int), ((0 : Int), [])) _v13 (_v15).toNat).2).2)), (_v16, (_v17, _v18)), ())).bind fun _y63 => (_kn62 ((_v8, _v10, _v11, _v12, _v13, _v14, _v16, _v17, _v18), (_y63.1, (IntKind.i64.wrap (_v15 + (1 : Int)))))))) else none) else (_k61 (_v8, _v9, _v10, _v11, _v12, _v16, _v17, _v18)))
noncomputable def keep_SummaryLeast_9 (_N : Nat) (_k58 : (List (Int × Int × List Int)) → Option Rt_keep_SummaryLeast) (_v4 : List (Int × Int × List Int)) (_v5 : List (Int × Int × List Int)) (_v6 : Int) (_v7 : Int) (_kn59 : ((List (Int × Int × List Int)) × (List (Int × Int × List Int)) × Int) × Int → Option Rt_keep_SummaryLeast) : Option Rt_keep_SummaryLeast :=
  (bif (decide (_v7 < _v6)) then (joinD (fun (_s : (List (Int × Int × List Int)) × (List (Int × Int × List Int)) × Int × Int × Int × Int × List Int) => keep_SummaryLeast_6 _N _kn59 _s.1 _s.2.1 _s.2.2.1 _s.2.2.2.1) fun _k60 => (bif (decide (0 ≤ _v7) && decide (_v7 < (_v5.length : Int))) then (joinD (fun (_s : (List (Int × Int × List Int)) × Bool × (List (Int × Int × List Int)) × Int × Int × Int × Int × List Int) => keep_SummaryLeast_7 _N _k60 _s.1 _s.2.1 _s.2.2.1 _s.2.2.2.1 _s.2.2.2.2.1 _s.2.2.2.2.2.1 _s.2.2.2.2.2.2.1 _s.2.2.2.2.2.2.2) fun _k61 => (loopE (fun (_c : (List (Int × Int × List Int)) × (List (Int × Int × List Int)) × Int × Int × (List (Int × Int × List Int)) × Int × Int × Int × List Int) (_s : Bool × Int) _kn => keep_SummaryLeast_8 _N _k61 _c.1 _c.2.1 _c.2.2.1 _c.2.2.2.1 _c.2.2.2.2.1 _c.2.2.2.2.2.1 _c.2.2.2.2.2.2.1 _c.2.2.2.2.2.2.2.1 _c.2.2.2.2.2.2.2.2 _s.1 _s.2 _kn) _N (_v4, _v5, _v6, _v7, _v4, (_v4.length : Int), (nth ((0 : Int), ((0 : Int), [])) _v5 (_v7).toNat).1, ((nth ((0 : Int), ((0 : Int), [])) _v5 (_v7).toNat).2).1, ((nth ((0 : Int), ((0 : Int), [])) _v5 (_v7).toNat).2).2) (false, (0 : Int)))) else none)) else (_k58 _v4))
noncomputable def keep_SummaryLeast_10 (_N : Nat) (_x1 : List (Int × Int × List Int)) : Option Rt_keep_SummaryLeast :=
  ((D_summary_Front _N (_x1, ())).bind fun _y50 => (bif (_y50.2.1 != (0 : Int)) then (some (((_y50.1.length : Int) == (0 : Int)), ())) else ((D_summary_Front _N (_y50.1, ())).bind fun _y51 => (bif (_y51.2.1 != (0 : Int)) then (some (false, ())) else ((D_ref_SummariesSame _N (_y50.1, _y51.1, ())).bind fun _y52 => (bif (!_y52.1) then (some (false, ())) else (joinD (fun (_s : (List (Int × Int × List Int))) => keep_SummaryLeast_5 _N _s) fun _k58 => (loopE (fun (_c : (List (Int × Int × List Int)) × (List (Int × Int × List Int)) × Int) (_s : Int) _kn => keep_SummaryLeast_9 _N _k58 _c.1 _c.2.1 _c.2.2 _s _kn) _N (_y50.1, _x1, (_x1.length : Int)) (0 : Int)))))))))
noncomputable def D_keep_SummaryLeast (_N : Nat) (_x : Dens Ks_keep_SummaryLeast) : Option Rt_keep_SummaryLeast := keep_SummaryLeast_10 _N _x.1
theorem sp_keep_SummaryLeast (_N : Nat) : SpecD Try.prog [] 8 Ks_keep_SummaryLeast Rk_keep_SummaryLeast (D_keep_SummaryLeast _N) := mkSpD (fn := Try.f8) (c := bodyOf Try.f8) (C := C_keep_SummaryLeast _N)
    (a := .two .none (.two .none (.two .none (.two .none (.two .none (.join 0 ⟨[(3, .sl (.pair (.int .i64) (.pair (.int .i64) (.sl (.int .i64)))))], []⟩ (.two .none (.one (.loop 0 ⟨[(3, .sl (.pair (.int .i64) (.pair (.int .i64) (.sl (.int .i64))))), (36, .sl (.pair (.int .i64) (.pair (.int .i64) (.sl (.int .i64))))), (37, .int .i64), (38, .int .i64)], []⟩ [3] (.two .none (.two .none (.join 1 ⟨[(3, .sl (.pair (.int .i64) (.pair (.int .i64) (.sl (.int .i64))))), (36, .sl (.pair (.int .i64) (.pair (.int .i64) (.sl (.int .i64))))), (37, .int .i64), (38, .int .i64)], [.cells [.int .i64, .int .i64, .sl (.int .i64)]]⟩ (.one (.two .none (.two .none (.join 1 ⟨[(3, .sl (.pair (.int .i64) (.pair (.int .i64) (.sl (.int .i64))))), (8, .bool), (36, .sl (.pair (.int .i64) (.pair (.int .i64) (.sl (.int .i64))))), (37, .int .i64), (38, .int .i64)], [.cells [.int .i64, .int .i64, .sl (.int .i64)]]⟩ (.two .none (.one (.loop 1 ⟨[(3, .sl (.pair (.int .i64) (.pair (.int .i64) (.sl (.int .i64))))), (7, .ptr 0 0), (8, .bool), (36, .sl (.pair (.int .i64) (.pair (.int .i64) (.sl (.int .i64))))), (37, .int .i64), (38, .int .i64), (42, .sl (.pair (.int .i64) (.pair (.int .i64) (.sl (.int .i64))))), (43, .int .i64), (44, .int .i64)], [.cells [.int .i64, .int .i64, .sl (.int .i64)]]⟩ [1, 7] .none))) .none)))) .none)))))) (.join 0 ⟨[], []⟩ (.two .none (.one (.loop 0 ⟨[(3, .sl (.pair (.int .i64) (.pair (.int .i64) (.sl (.int .i64))))), (11, .int .i64)], []⟩ [1] (.two .none (.join 0 ⟨[(3, .sl (.pair (.int .i64) (.pair (.int .i64) (.sl (.int .i64))))), (11, .int .i64)], []⟩ (.one (.two .none (.one (.loop 0 ⟨[(3, .sl (.pair (.int .i64) (.pair (.int .i64) (.sl (.int .i64))))), (11, .int .i64), (12, .int .i64)], []⟩ [2] (.two .none (.two (.one (.two (.draw 0 [.pure, .pure, .pure, .pure, .pure, .pure, .pure, .pure, .pure, .pure, .pure, .pure, .pure, .pure]) .none)) .none)))))) .none))))) .none)))))))
    (by kernel_rfl) rfl (by kernel_rfl) (by kernel_rfl) ⟨rfl, by unfold TOk; kernel_rfl, gOk_of rfl rfl (List.forall_mem_cons.2 ⟨qen_summary_Front _N, (List.forall_mem_cons.2 ⟨en_ref_SummariesSame _N, (List.forall_mem_cons.2 ⟨en_summary_Leq _N, (List.forall_mem_nil _)⟩)⟩)⟩), iOk_of rfl rfl (List.forall_mem_nil _), rfl⟩ (fun _x => by kernel_rfl)
theorem en_keep_SummaryLeast (_N : Nat) : EntOk Try.prog [] (mkP 8 Ks_keep_SummaryLeast Rk_keep_SummaryLeast (D_keep_SummaryLeast _N)) := entP ⟨Try.f8, bodyOf Try.f8, by kernel_rfl, by kernel_rfl, rfl⟩ (by kernel_rfl) (sp_keep_SummaryLeast _N)
theorem SSame_self {N : Nat} (hN : 1000 ≤ N) {s : Tr} (h : s.2.2.length ≤ 4) : D_ref_SummarySame N (s, s, ()) = some (true, ()) := by
  simp only [D_ref_SummarySame, ref_SummarySame_1, beq_self_eq_true, cond_true, Same_self (N := N) hN (show s.2.2.length ≤ 900 by omega), Option.bind_some]
theorem SsSame_self {N : Nat} (hN : 1000 ≤ N) {f : List Tr} (hl : f.length ≤ 64) (h4 : ∀ s ∈ f, s.2.2.length ≤ 4) : D_ref_SummariesSame N (f, f, ()) = some (true, ()) := by
  simp only [D_ref_SummariesSame, ref_SummariesSame_3, bne_self_eq_false, cond_false, joinD, loopE]
  refine loopD_pass (n := f.length) (by omega) (fun i hi kn => ?_) (fun kn => by simp only [ref_SummariesSame_2, lt_self, cond_false, ref_SummariesSame_1]) (by omega)
  have := h4 _ (nth_mem (z := z3) hi)
  simp only [ref_SummariesSame_2, lt_d hi, ge0_d, Bool.and_self, cond_true, Int.toNat_natCast, nth3, SSame_self hN this, Option.bind_some, Bool.not_true, cond_false, backE_eq, ix1 hi (show f.length ≤ 100000 by omega)]
theorem law_SummaryLeast (l : List Tr) (_wl : wfS (.sl (.pair (.int .i64) (.pair (.int .i64) (.sl (.int .i64))))) l) : ∃ N, D_keep_SummaryLeast N (l, ()) = some (true, ()) := by
  refine ⟨1000 + l.length, ?_⟩
  generalize hNN : 1000 + l.length = N
  have hN : 1000 ≤ N := by omega
  simp only [D_keep_SummaryLeast, keep_SummaryLeast_10]
  rcases FrontS_eq hN l with ⟨_, e, he, e1⟩ | ⟨hSL, f, e1, f2, f3, f4⟩
  · simp only [e1, Option.bind_some, bne_iff_ne.2 he, cond_true]
    rfl
  have hlen := hSL.len
  have hfl : ∀ s, s ∈ f → s ∈ l := fun s hs => ((f3 s).1 hs).1
  have hSf : SL f := ⟨by omega, fun s hs => hSL.ok s (hfl s hs), fun s hs => by
    have h0 : nth z3 f 0 ∈ l := hfl _ (nth_mem (List.length_pos_of_mem hs))
    rw [hSL.one s (hfl s hs), hSL.one _ h0]⟩
  rcases FrontS_eq hN f with ⟨h, _⟩ | ⟨_, g, e2, g2, g3, g4⟩
  · exact absurd hSf h
  have hgf : g = f := riseS_uniq g2 f2 fun s => by
    rw [g3]
    exact ⟨fun h => h.1, fun h => ⟨h, fun r hr hrs => ((f3 s).1 h).2 r (hfl r hr) hrs⟩⟩
  subst hgf
  simp only [e1, e2, Option.bind_some, bne_self_eq_false, cond_false, SsSame_self hN hSf.len fun s hs => hSf.p4 hs, Bool.not_true, joinD, loopE]
  have hfin : keep_SummaryLeast_5 N g = some (true, ()) := by
    simp only [keep_SummaryLeast_5, joinD, loopE]
    refine loopD_pass (n := g.length) (by omega) (fun i hi kn => ?_) (fun kn => by simp only [keep_SummaryLeast_4, lt_self, cond_false, keep_SummaryLeast_1]) (by omega)
    simp only [keep_SummaryLeast_4, lt_d hi, cond_true, joinD, loopE]
    refine loopD_pass (n := g.length) (by omega) (fun j hj kn2 => ?_) (fun kn2 => by simp only [keep_SummaryLeast_3, lt_self, cond_false, keep_SummaryLeast_2, backE_eq, ix1 hi (show g.length ≤ 100000 by omega)]) (by omega)
    simp only [keep_SummaryLeast_3, lt_d hj, lt_d hi, ge0_d, Bool.and_self, cond_true, Int.toNat_natCast, nth3, SLeq_eq hN, Option.bind_some, backE_eq, ix1 hj (show g.length ≤ 100000 by omega)]
    by_cases q : i = j
    · subst q; rw [bne_self_eq_false, cond_false]
    · rw [bne_iff_ne.2 (show (i : Int) ≠ (j : Int) by omega), cond_true]
      cases q2 : leqS (nth z3 g i) (nth z3 g j) with
      | false => rfl
      | true =>
        have := ((f3 _).1 (nth_mem (z := z3) hj)).2 _ (hfl _ (nth_mem (z := z3) hi)) q2
        rw [nth_lt hi, nth_lt hj] at this
        exact absurd ((List.getElem_inj f2.nodup).1 this) q
  refine loopD_pass (n := l.length) (by omega) (fun i hi kn => ?_) (fun kn => by simp only [keep_SummaryLeast_9, lt_self, cond_false]; exact hfin) (by omega)
  simp only [keep_SummaryLeast_9, lt_d hi, ge0_d, Bool.and_self, cond_true, joinD, loopE, Int.toNat_natCast]
  have hst : ∀ j, (g.take (j + 1)).any (fun r => leqS r (nth z3 l i)) = ((g.take j).any (fun r => leqS r (nth z3 l i)) || (if j < g.length then leqS (nth z3 g j) (nth z3 l i) else false)) := fun j => by
    by_cases hj : j < g.length
    · rw [List.take_succ_eq_append_getElem hj, List.any_append, if_pos hj, nth_lt hj]; simp
    · rw [if_neg hj, Bool.or_false, List.take_of_length_le (by omega), List.take_of_length_le (by omega)]
  refine Eq.trans (loopD_path (N := N) g.length (fun j => ((g.take j).any (fun r => leqS r (nth z3 l i)), (j : Int))) (k := kn ((i : Int) + 1)) (fun j hj kn2 => ?_) (fun kn2 => ?_) (by omega)) rfl
  · have := hst j
    rw [if_pos hj] at this
    rw [this]
    have hb : ∀ b, keep_SummaryLeast_8 N (fun _s => keep_SummaryLeast_7 N (fun _s => keep_SummaryLeast_6 N (backE (g, l, (l.length : Int)) kn) _s.1 _s.2.1 _s.2.2.1 _s.2.2.2.1) _s.1 _s.2.1 _s.2.2.1 _s.2.2.2.1 _s.2.2.2.2.1 _s.2.2.2.2.2.1 _s.2.2.2.2.2.2.1 _s.2.2.2.2.2.2.2) g l (l.length : Int) (i : Int) g (g.length : Int) (nth z3 l i).1 (nth z3 l i).2.1 (nth z3 l i).2.2 b (j : Int) (backE (g, l, (l.length : Int), (i : Int), g, (g.length : Int), (nth z3 l i).1, (nth z3 l i).2.1, (nth z3 l i).2.2) kn2) = kn2 (b || leqS (nth z3 g j) (nth z3 l i), ((j + 1 : Nat) : Int)) := fun b => by
      simp only [keep_SummaryLeast_8, lt_d hj, ge0_d, Bool.and_self, cond_true, Int.toNat_natCast, nth3, SLeq_eq hN, Option.bind_some, backE_eq, ix1 hj (show g.length ≤ 100000 by omega)]
      cases b <;> rfl
    exact hb _
  · simp only [keep_SummaryLeast_8, lt_self, cond_false, List.take_length]
    obtain ⟨r, hr, hrs⟩ := min_under hSL (nth_mem (z := z3) hi)
    rw [List.any_eq_true.2 ⟨r, (f3 r).2 hr, hrs⟩]
    simp only [keep_SummaryLeast_7, Bool.not_true, cond_false, keep_SummaryLeast_6, backE_eq, ix1 hi (show l.length ≤ 100000 by omega)]
set_option maxRecDepth 100000 in
theorem lifted_SummaryLeast (os : Os) (started : os.Started) (H : Type) (enc : TypeId × Value → H) :
    ReturnsInHanded {} Try.checked os 8 .any (Rows.summaryLeastSpec.pre6 enc Try.prog Try.f8 Rows.summaryLeastRow.domain false) (Rows.summaryLeastSpec.post enc Try.prog Try.f8 false true false false) := by
  refine returnsInHanded_of_change_sized (C := Try.checked) own started (by kernel_rfl) Try.func8
    (ChangeSpec.witness6 (enc := enc) (C := Try.checked) false ⟨#[], #[.slice none 0 0], []⟩ 8 (by kernel_rfl) (by kernel_rfl) (by kernel_rfl) (by kernel_rfl)) ?_
  intro W base args ds gs before hval0 hW _ hsz0 _
  have hgw : GW [] W := fun _ h => nomatch h
  have hval : ∀ (j : Nat) t v, Try.f8.params[j]? = some t → args[j]? = some v → Value.okWide Try.prog W .any base t v := hval0
  have hW' := hW
  obtain ⟨p, q, hA0, hV, rfl, _, _⟩ := hW
  have hA : DataW.TrodAll enc Try.prog W 0 (fun _ => true) true Try.f8.params.toList args.toList ds p := hA0
  rw [Try.params8] at hA hval
  obtain ⟨v0, vs0, d0, ds0, p0, q0, hargs, rfl, rfl, h0, r0⟩ := trodAll_cons hA
  obtain ⟨rfl, rfl, rfl⟩ := trodAll_nil r0
  obtain rfl : args = #[v0] := by cases args; simp_all
  obtain ⟨rfl, rfl⟩ := trodVars_none hV
  have hall := List.all_eq_true.1 hsz0
  clear hA0 hval0 hsz0
  simp only [List.append_nil] at hW'
  have hlt0 : ∀ x ∈ p0, x.block < W.heap.size := fun x hx => hW'.lt x (by simp [hx])
  obtain ⟨x0, g0, w0⟩ := open_kd (k := .dat (.sl (.pair (.int .i64) (.pair (.int .i64) (.sl (.int .i64)))))) (by kernel_rfl) (hval 0 36 v0 rfl rfl) h0
  obtain ⟨N, hN⟩ := law_SummaryLeast x0 w0
  refine (sp_keep_SummaryLeast N (fun _ => False) W (x0, ()) (true, ()) [v0] (fun _ h => h.elim) hgw ⟨v0, _, rfl, g0, rfl⟩ hN).mono ?_
  rintro e W' ⟨v, rfl, hg, hr⟩
  replace hg := hg.old
  have hr : v = .bool true := by simpa only [kvals, retV, Kd.val, Go.Abs.enc, RV] using hr
  subst hr
  exact ⟨_, rfl, _, _, _, [], p0 ++ [], [], hW', (trodAll_cons_mk (shut_bool (show Try.prog.underlying 4 = some .bool by kernel_rfl) _) trodAll_mk0), (trodAll_cons_mk (Below.trod laidOut (by kernel_rfl) (of_decide_eq_true (by kernel_rfl)) h0 hg hlt0) trodAll_mk0), rfl, hg.frame _, fun h => by cases h⟩

/-- The statement: whatever the arguments, the law's function returns true and leaves them as they were. -/
theorem summaryLeast_holds : Rows.SummaryLeastSaid :=
  OpenClaim.holds_of_wide 8 Try.f8 rfl rfl rfl rfl rfl rfl rfl ⟨rfl, rfl, rfl, rfl, rfl⟩ rfl rfl rfl rfl rfl (by kernel_rfl) Try.func8 (by kernel_rfl)
    (of_decide_eq_true (by kernel_rfl)) (by unfold Func.isWrapper; first | (rw [if_pos (by decide +kernel)]; kernel_rfl) | (rw [if_neg (by decide +kernel)]; exact ⟨rfl, rfl⟩))
    (fun os started H enc _ => lifted_SummaryLeast os started H enc)
end Go.Proofs.Ytololihlpldcdaa
