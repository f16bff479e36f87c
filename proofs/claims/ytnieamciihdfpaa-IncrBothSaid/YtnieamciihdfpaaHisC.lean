import Derived.Test.YtnieamciihdfpaaHisT
namespace Go.Proofs.Ytnieamciihdfpaa
open Go.Abs
abbrev Ks_slices_Clone_Lapi_Diff_api_Diff : List Kd := [.dat (.sl (.pair (.sl (.int .i64)) (.sl (.pair (.int .i64) (.pair (.int .i64) (.int .i64))))))]
abbrev Rt_slices_Clone_Lapi_Diff_api_Diff : Type := List (List Int × List (Int × Int × Int))
noncomputable def C_slices_Clone_Lapi_Diff_api_Diff (_N : Nat) : Ctx := { T := [(22, ⟨.slice 64, 1, 24, some (.sl (.pair (.sl (.int .i64)) (.sl (.pair (.int .i64) (.pair (.int .i64) (.int .i64)))))), [.nil], false, []⟩), (64, ⟨.struct [(0, 32), (1, 35)], 2, 48, some (.pair (.sl (.int .i64)) (.sl (.pair (.int .i64) (.pair (.int .i64) (.int .i64))))), [.nil, .nil], false, []⟩)], G := findE [], I := findI [], N := _N, n := 8, fx := [], fl := 0, gs := [] }
noncomputable def slices_Clone_Lapi_Diff_api_Diff_1 (_N : Nat) (_x1 : List (List Int × List (Int × Int × Int))) : Option Rt_slices_Clone_Lapi_Diff_api_Diff :=
  (bif _x1.isEmpty then (dem2 (some []) (bif (decide ((([] : List (List Int × List (Int × Int × Int))).length + _x1.length) * 48 ≤ 140737488355328) && Nat.ble 1 48) then (some (([] : List (List Int × List (Int × Int × Int))) ++ _x1)) else none)) else (bif (decide ((([] : List (List Int × List (Int × Int × Int))).length + _x1.length) * 48 ≤ 140737488355328) && Nat.ble 1 48) then (some (([] : List (List Int × List (Int × Int × Int))) ++ _x1)) else none))
noncomputable def D_slices_Clone_Lapi_Diff_api_Diff (_N : Nat) (_x : Dens Ks_slices_Clone_Lapi_Diff_api_Diff) : Option Rt_slices_Clone_Lapi_Diff_api_Diff := slices_Clone_Lapi_Diff_api_Diff_1 _N _x.1
theorem sp_slices_Clone_Lapi_Diff_api_Diff (_N : Nat) : SpecF Try.prog [] 60 Ks_slices_Clone_Lapi_Diff_api_Diff 64 (.pair (.sl (.int .i64)) (.sl (.pair (.int .i64) (.pair (.int .i64) (.int .i64))))) (D_slices_Clone_Lapi_Diff_api_Diff _N) := mkSpF (fn := Try.f60) (c := bodyOf Try.f60) (C := C_slices_Clone_Lapi_Diff_api_Diff _N)
    (a := .none)
    (by kernel_rfl) rfl (by kernel_rfl) (by kernel_rfl) ⟨rfl, by unfold TOk; kernel_rfl, gOk_of rfl rfl (List.forall_mem_nil _), iOk_of rfl rfl (List.forall_mem_nil _), rfl⟩ (fun _x => by kernel_rfl)
theorem en_slices_Clone_Lapi_Diff_api_Diff (_N : Nat) : EntOk Try.prog [] (mkG 60 Ks_slices_Clone_Lapi_Diff_api_Diff 64 (.pair (.sl (.int .i64)) (.sl (.pair (.int .i64) (.pair (.int .i64) (.int .i64))))) (D_slices_Clone_Lapi_Diff_api_Diff _N)) := entG ⟨Try.f60, bodyOf Try.f60, by kernel_rfl, by kernel_rfl, rfl⟩ (Nat.le_of_ble_eq_true (by kernel_rfl)) (sp_slices_Clone_Lapi_Diff_api_Diff _N)
abbrev Ks_diffs_Moves_c1 : List Kd := [.dat (.pair (.sl (.int .i64)) (.sl (.pair (.int .i64) (.pair (.int .i64) (.int .i64))))), .dat (.pair (.sl (.int .i64)) (.sl (.pair (.int .i64) (.pair (.int .i64) (.int .i64)))))]
abbrev Rk_diffs_Moves_c1 : List Kd := [.dat (.int .i64)]
abbrev Rt_diffs_Moves_c1 : Type := Dens Rk_diffs_Moves_c1
noncomputable def C_diffs_Moves_c1 (_N : Nat) : Ctx := { T := [(32, ⟨.slice 3, 1, 24, some (.sl (.int .i64)), [.nil], false, []⟩), (64, ⟨.struct [(0, 32), (1, 35)], 2, 48, some (.pair (.sl (.int .i64)) (.sl (.pair (.int .i64) (.pair (.int .i64) (.int .i64))))), [.nil, .nil], false, []⟩)], G := findE [mkP 59 Ks_slices_Compare_Lint_int Rk_slices_Compare_Lint_int (D_slices_Compare_Lint_int _N)], I := findI [], N := _N, n := 10, fx := [], fl := 0, gs := [] }
noncomputable def diffs_Moves_c1_1 (_N : Nat) (_x1 : List Int × List (Int × Int × Int)) (_x2 : List Int × List (Int × Int × Int)) : Option Rt_diffs_Moves_c1 :=
  ((D_slices_Compare_Lint_int _N (_x1.1, _x2.1, ())).bind fun _y2 => (some (_y2.1, ())))
noncomputable def D_diffs_Moves_c1 (_N : Nat) (_x : Dens Ks_diffs_Moves_c1) : Option Rt_diffs_Moves_c1 := diffs_Moves_c1_1 _N _x.1 _x.2.1
theorem sp_diffs_Moves_c1 (_N : Nat) : SpecD Try.prog [] 61 Ks_diffs_Moves_c1 Rk_diffs_Moves_c1 (D_diffs_Moves_c1 _N) := mkSpD (fn := Try.f61) (c := bodyOf Try.f61) (C := C_diffs_Moves_c1 _N)
    (a := .none)
    (by kernel_rfl) rfl (by kernel_rfl) (by kernel_rfl) ⟨rfl, by unfold TOk; kernel_rfl, gOk_of rfl rfl (List.forall_mem_cons.2 ⟨en_slices_Compare_Lint_int _N, (List.forall_mem_nil _)⟩), iOk_of rfl rfl (List.forall_mem_nil _), rfl⟩ (fun _x => by kernel_rfl)
shelf_lay_g SlLaysF0.n6 Slsf 6 at Try 57 as lay_sortMove
theorem hb_sortMove : HasBody Try.prog 57 := ⟨Try.f57, bodyOf Try.f57, by kernel_rfl, by kernel_rfl, rfl⟩
theorem hg_sortMove : HasBody Try.prog 61 := ⟨Try.f61, bodyOf Try.f61, by kernel_rfl, by kernel_rfl, rfl⟩
theorem en_sortMove (_N : Nat) : EntOk Try.prog [] (mkS 57 64 (.pair (.sl (.int .i64)) (.sl (.pair (.int .i64) (.pair (.int .i64) (.int .i64))))) 61 (fun p q => (D_diffs_Moves_c1 _N (p, q, ())).map (·.1))) := entSK lay_sortMove Try.isAgg64 Try.sizeOf64 hb_sortMove hg_sortMove (by kernel_rfl) rfl (sp_diffs_Moves_c1 _N)
end Go.Proofs.Ytnieamciihdfpaa
