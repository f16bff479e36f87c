import Derived.Test.YtnieamciihdfpaaGreatHisT
namespace Go.Proofs.YtnieamciihdfpaaGreat
open Go.Abs
abbrev Ks_slices_Clone_Lapi_Diff_api_Diff : List Kd := [.dat (.sl (.pair (.sl (.int .i64)) (.sl (.pair (.int .i64) (.pair (.int .i64) (.int .i64))))))]
abbrev Rt_slices_Clone_Lapi_Diff_api_Diff : Type := List (List Int × List (Int × Int × Int))
noncomputable def C_slices_Clone_Lapi_Diff_api_Diff (_N : Nat) : Ctx := { T := [(24, ⟨.slice 28, 1, 24, some (.sl (.pair (.sl (.int .i64)) (.sl (.pair (.int .i64) (.pair (.int .i64) (.int .i64)))))), [.nil], false, []⟩), (28, ⟨.struct [(0, 25), (1, 26)], 2, 48, some (.pair (.sl (.int .i64)) (.sl (.pair (.int .i64) (.pair (.int .i64) (.int .i64))))), [.nil, .nil], false, []⟩)], G := findE [], I := findI [], N := _N, n := 8, fx := [], fl := 0, gs := [] }
noncomputable def slices_Clone_Lapi_Diff_api_Diff_1 (_N : Nat) (_x1 : List (List Int × List (Int × Int × Int))) : Option Rt_slices_Clone_Lapi_Diff_api_Diff :=
 (bif _x1.isEmpty then (dem2 (some []) (bif (decide ((([] : List (List Int × List (Int × Int × Int))).length + _x1.length) * 48 ≤ 140737488355328) && Nat.ble 1 48) then (some (([] : List (List Int × List (Int × Int × Int))) ++ _x1)) else none)) else (bif (decide ((([] : List (List Int × List (Int × Int × Int))).length + _x1.length) * 48 ≤ 140737488355328) && Nat.ble 1 48) then (some (([] : List (List Int × List (Int × Int × Int))) ++ _x1)) else none))
noncomputable def D_slices_Clone_Lapi_Diff_api_Diff (_N : Nat) (_x : Dens Ks_slices_Clone_Lapi_Diff_api_Diff) : Option Rt_slices_Clone_Lapi_Diff_api_Diff := slices_Clone_Lapi_Diff_api_Diff_1 _N _x.1
theorem sp_slices_Clone_Lapi_Diff_api_Diff (_N : Nat) : SpecF Tryz.prog [] 71 Ks_slices_Clone_Lapi_Diff_api_Diff 28 (.pair (.sl (.int .i64)) (.sl (.pair (.int .i64) (.pair (.int .i64) (.int .i64))))) (D_slices_Clone_Lapi_Diff_api_Diff _N) := mkSpF (fn := Tryz.f71) (c := bodyOf Tryz.f71) (C := C_slices_Clone_Lapi_Diff_api_Diff _N)
  (a := .none)
  (by kernel_rfl) rfl (by kernel_rfl) (by kernel_rfl) ⟨rfl, by unfold TOk; kernel_rfl, gOk_of rfl rfl (List.forall_mem_nil _), iOk_of rfl rfl (List.forall_mem_nil _), rfl⟩ (fun _x => by kernel_rfl)
theorem en_slices_Clone_Lapi_Diff_api_Diff (_N : Nat) : EntOk Tryz.prog [] (mkG 71 Ks_slices_Clone_Lapi_Diff_api_Diff 28 (.pair (.sl (.int .i64)) (.sl (.pair (.int .i64) (.pair (.int .i64) (.int .i64))))) (D_slices_Clone_Lapi_Diff_api_Diff _N)) := entG ⟨Tryz.f71, bodyOf Tryz.f71, by kernel_rfl, by kernel_rfl, rfl⟩ (Nat.le_of_ble_eq_true (by kernel_rfl)) (sp_slices_Clone_Lapi_Diff_api_Diff _N)
abbrev Ks_diffs_Moves_c1 : List Kd := [.dat (.pair (.sl (.int .i64)) (.sl (.pair (.int .i64) (.pair (.int .i64) (.int .i64))))), .dat (.pair (.sl (.int .i64)) (.sl (.pair (.int .i64) (.pair (.int .i64) (.int .i64)))))]
abbrev Rk_diffs_Moves_c1 : List Kd := [.dat (.int .i64)]
abbrev Rt_diffs_Moves_c1 : Type := Dens Rk_diffs_Moves_c1
noncomputable def C_diffs_Moves_c1 (_N : Nat) : Ctx := { T := [(25, ⟨.slice 3, 1, 24, some (.sl (.int .i64)), [.nil], false, []⟩), (28, ⟨.struct [(0, 25), (1, 26)], 2, 48, some (.pair (.sl (.int .i64)) (.sl (.pair (.int .i64) (.pair (.int .i64) (.int .i64))))), [.nil, .nil], false, []⟩)], G := findE [mkP 42 Ks_slices_Compare_Lint_int Rk_slices_Compare_Lint_int (D_slices_Compare_Lint_int _N)], I := findI [], N := _N, n := 10, fx := [], fl := 0, gs := [] }
noncomputable def diffs_Moves_c1_1 (_N : Nat) (_x1 : List Int × List (Int × Int × Int)) (_x2 : List Int × List (Int × Int × Int)) : Option Rt_diffs_Moves_c1 :=
 ((D_slices_Compare_Lint_int _N (_x1.1, _x2.1, ())).bind fun _y2 => (some (_y2.1, ())))
noncomputable def D_diffs_Moves_c1 (_N : Nat) (_x : Dens Ks_diffs_Moves_c1) : Option Rt_diffs_Moves_c1 := diffs_Moves_c1_1 _N _x.1 _x.2.1
theorem sp_diffs_Moves_c1 (_N : Nat) : SpecD Tryz.prog [] 72 Ks_diffs_Moves_c1 Rk_diffs_Moves_c1 (D_diffs_Moves_c1 _N) := mkSpD (fn := Tryz.f72) (c := bodyOf Tryz.f72) (C := C_diffs_Moves_c1 _N)
  (a := .none)
  (by kernel_rfl) rfl (by kernel_rfl) (by kernel_rfl) ⟨rfl, by unfold TOk; kernel_rfl, gOk_of rfl rfl (List.forall_mem_cons.2 ⟨en_slices_Compare_Lint_int _N, (List.forall_mem_nil _)⟩), iOk_of rfl rfl (List.forall_mem_nil _), rfl⟩ (fun _x => by kernel_rfl)
shelf_lay_g SlLaysF0.n6 Slsf 6 at Tryz 57 as lay_sortMove
theorem hb_sortMove : HasBody Tryz.prog 57 := ⟨Tryz.f57, bodyOf Tryz.f57, by kernel_rfl, by kernel_rfl, rfl⟩
theorem hg_sortMove : HasBody Tryz.prog 72 := ⟨Tryz.f72, bodyOf Tryz.f72, by kernel_rfl, by kernel_rfl, rfl⟩
theorem en_sortMove (_N : Nat) : EntOk Tryz.prog [] (mkS 57 28 (.pair (.sl (.int .i64)) (.sl (.pair (.int .i64) (.pair (.int .i64) (.int .i64))))) 72 (fun p q => (D_diffs_Moves_c1 _N (p, q, ())).map (·.1))) := entSK lay_sortMove Tryz.isAgg28 Tryz.sizeOf28 hb_sortMove hg_sortMove (by kernel_rfl) rfl (sp_diffs_Moves_c1 _N)
end Go.Proofs.YtnieamciihdfpaaGreat
