/- counts.Front, counts.Moves: the functions. -/
import Derived.Test.YtololihlpldcdaaCountsV
import Derived.Test.YtololihlpldcdaaTimesF
namespace Go.Proofs.Ytololihlpldcdaa
open Go.Abs
-- (watershed/counts.tally).ahead$1
abbrev Ks_counts_tally_ahead_c1 : List Kd := [.dat (.pair (.sl (.int .i64)) (.int .i64))]
abbrev Rk_counts_tally_ahead_c1 : List Kd := [.dat (.bool)]
abbrev Rt_counts_tally_ahead_c1 : Type := Dens Rk_counts_tally_ahead_c1
noncomputable def C_counts_tally_ahead_c1 (_N : Nat) : Ctx := { T := [(2, ⟨.int .i64, 1, 8, some (.int .i64), [.int .i64 (0 : Int)], false, []⟩), (52, ⟨.struct [(0, 26), (1, 2)], 2, 32, some (.pair (.sl (.int .i64)) (.int .i64)), [.nil, .int .i64 (0 : Int)], false, []⟩)], G := findE [], I := findI [], N := _N, n := 6, fx := [], fl := 0, gs := [] }
noncomputable def counts_tally_ahead_c1_1 (_N : Nat) (_x1 : List Int × Int) : Option Rt_counts_tally_ahead_c1 :=
  (some ((decide (_x1.2 ≤ (0 : Int))), ()))
noncomputable def D_counts_tally_ahead_c1 (_N : Nat) (_x : Dens Ks_counts_tally_ahead_c1) : Option Rt_counts_tally_ahead_c1 := counts_tally_ahead_c1_1 _N _x.1
theorem sp_counts_tally_ahead_c1 (_N : Nat) : SpecD Try.prog [] 99 Ks_counts_tally_ahead_c1 Rk_counts_tally_ahead_c1 (D_counts_tally_ahead_c1 _N) := mkSpD (fn := Try.f99) (c := bodyOf Try.f99) (C := C_counts_tally_ahead_c1 _N)
    (a := .none)
    (by kernel_rfl) rfl (by kernel_rfl) (by kernel_rfl) ⟨rfl, by unfold TOk; kernel_rfl, gOk_of rfl rfl (List.forall_mem_nil _), iOk_of rfl rfl (List.forall_mem_nil _), rfl⟩ (fun _x => by kernel_rfl)
theorem en_counts_tally_ahead_c1 (_N : Nat) : EntOk Try.prog [] (mkP 99 Ks_counts_tally_ahead_c1 Rk_counts_tally_ahead_c1 (D_counts_tally_ahead_c1 _N)) := entP ⟨Try.f99, bodyOf Try.f99, by kernel_rfl, by kernel_rfl, rfl⟩ (by kernel_rfl) (sp_counts_tally_ahead_c1 _N)
-- slices.Clone[[]watershed/api.Count,watershed/api.Count]
abbrev Ks_slices_Clone_Lapi_Count_api_Count : List Kd := [.dat (.sl (.pair (.sl (.int .i64)) (.int .i64)))]
abbrev Rt_slices_Clone_Lapi_Count_api_Count : Type := List (List Int × Int)
noncomputable def C_slices_Clone_Lapi_Count_api_Count (_N : Nat) : Ctx := { T := [(47, ⟨.slice 52, 1, 24, some (.sl (.pair (.sl (.int .i64)) (.int .i64))), [.nil], false, []⟩), (52, ⟨.struct [(0, 26), (1, 2)], 2, 32, some (.pair (.sl (.int .i64)) (.int .i64)), [.nil, .int .i64 (0 : Int)], false, []⟩)], G := findE [], I := findI [], N := _N, n := 8, fx := [], fl := 0, gs := [] }
noncomputable def slices_Clone_Lapi_Count_api_Count_1 (_N : Nat) (_x1 : List (List Int × Int)) : Option Rt_slices_Clone_Lapi_Count_api_Count :=
  (bif _x1.isEmpty then (dem2 (some []) (bif (decide ((([] : List (List Int × Int)).length + _x1.length) * 32 ≤ 140737488355328) && Nat.ble 1 32) then (some (([] : List (List Int × Int)) ++ _x1)) else none)) else (bif (decide ((([] : List (List Int × Int)).length + _x1.length) * 32 ≤ 140737488355328) && Nat.ble 1 32) then (some (([] : List (List Int × Int)) ++ _x1)) else none))
noncomputable def D_slices_Clone_Lapi_Count_api_Count (_N : Nat) (_x : Dens Ks_slices_Clone_Lapi_Count_api_Count) : Option Rt_slices_Clone_Lapi_Count_api_Count := slices_Clone_Lapi_Count_api_Count_1 _N _x.1
theorem sp_slices_Clone_Lapi_Count_api_Count (_N : Nat) : SpecF Try.prog [] 88 Ks_slices_Clone_Lapi_Count_api_Count 52 (.pair (.sl (.int .i64)) (.int .i64)) (D_slices_Clone_Lapi_Count_api_Count _N) := mkSpF (fn := Try.f88) (c := bodyOf Try.f88) (C := C_slices_Clone_Lapi_Count_api_Count _N)
    (a := .none)
    (by kernel_rfl) rfl (by kernel_rfl) (by kernel_rfl) ⟨rfl, by unfold TOk; kernel_rfl, gOk_of rfl rfl (List.forall_mem_nil _), iOk_of rfl rfl (List.forall_mem_nil _), rfl⟩ (fun _x => by kernel_rfl)
theorem en_slices_Clone_Lapi_Count_api_Count (_N : Nat) : EntOk Try.prog [] (mkG 88 Ks_slices_Clone_Lapi_Count_api_Count 52 (.pair (.sl (.int .i64)) (.int .i64)) (D_slices_Clone_Lapi_Count_api_Count _N)) := entG ⟨Try.f88, bodyOf Try.f88, by kernel_rfl, by kernel_rfl, rfl⟩ (Nat.le_of_ble_eq_true (by kernel_rfl)) (sp_slices_Clone_Lapi_Count_api_Count _N)
theorem qen_slices_Clone_Lapi_Count_api_Count (_N : Nat) : EntOk Try.prog [] (mkQ 88 Ks_slices_Clone_Lapi_Count_api_Count [.dat (.sl (.pair (.sl (.int .i64)) (.int .i64)))] (fun _x => (D_slices_Clone_Lapi_Count_api_Count _N _x).map fun _y => (_y, ()))) := entQ ⟨Try.f88, bodyOf Try.f88, by kernel_rfl, by kernel_rfl, rfl⟩ (specD_of_F (sp_slices_Clone_Lapi_Count_api_Count _N))
-- (with objects) slices.IndexFunc[watershed/counts.tally,watershed/api.Count]
abbrev Sg_slices_IndexFunc_counts_tally_api_Count_h : Sig := ⟨[.form (.slc 0 0), .form (.clo 99 [])], [.row false 0 52 (.pair (.sl (.int .i64)) (.int .i64))],
  [.dat false (.int .i64)], [.row false 0 52 (.pair (.sl (.int .i64)) (.int .i64))], []⟩
abbrev Rt_slices_IndexFunc_counts_tally_api_Count_h : Type := Int × (List (List Int × Int))
noncomputable def C_slices_IndexFunc_counts_tally_api_Count_h (_N : Nat) : Ctx := { T := [(52, ⟨.struct [(0, 26), (1, 2)], 2, 32, some (.pair (.sl (.int .i64)) (.int .i64)), [.nil, .int .i64 (0 : Int)], false, []⟩), (103, ⟨.slice 52, 1, 24, some (.sl (.pair (.sl (.int .i64)) (.int .i64))), [.nil], false, []⟩)], G := findE [mkP 99 Ks_counts_tally_ahead_c1 Rk_counts_tally_ahead_c1 (D_counts_tally_ahead_c1 _N)], I := findI [], N := _N, n := 19, fx := [], fl := 1, gs := [] }
noncomputable def slices_IndexFunc_counts_tally_api_Count_h_1 (_N : Nat) (_v6 : List (List Int × Int)) : Option Rt_slices_IndexFunc_counts_tally_api_Count_h :=
  (some ((-1 : Int), _v6))
noncomputable def slices_IndexFunc_counts_tally_api_Count_h_2 (_N : Nat) (_k7 : (List (List Int × Int)) → Option Rt_slices_IndexFunc_counts_tally_api_Count_h) (_v1 : Int) (_v3 : List (List Int × Int)) (_v2 : Int) (_kn8 : (Int × (List (List Int × Int))) × Int → Option Rt_slices_IndexFunc_counts_tally_api_Count_h) : Option Rt_slices_IndexFunc_counts_tally_api_Count_h :=
  (bif (decide (_v2 < _v1)) then (bif (decide (0 ≤ _v2) && decide (_v2 < (_v3.length : Int))) then ((D_counts_tally_ahead_c1 _N (((nth ([], (0 : Int)) _v3 ((_v2).toNat)).1, (nth ([], (0 : Int)) _v3 ((_v2).toNat)).2), ())).bind fun _y9 => (bif _y9.1 then (some (_v2, _v3)) else (_kn8 ((_v1, _v3), (IntKind.i64.wrap (_v2 + (1 : Int))))))) else none) else (_k7 _v3))
noncomputable def slices_IndexFunc_counts_tally_api_Count_h_3 (_N : Nat) (_x1 : List (List Int × Int)) : Option Rt_slices_IndexFunc_counts_tally_api_Count_h :=
  (joinD (fun (_s : (List (List Int × Int))) => slices_IndexFunc_counts_tally_api_Count_h_1 _N _s) fun _k7 => (loopE (fun (_c : Int × (List (List Int × Int))) (_s : Int) _kn => slices_IndexFunc_counts_tally_api_Count_h_2 _N _k7 _c.1 _c.2 _s _kn) _N ((_x1.length : Int), _x1) (0 : Int)))
noncomputable def D_slices_IndexFunc_counts_tally_api_Count_h (_N : Nat) (_x : (List (List Int × Int))) : Option Rt_slices_IndexFunc_counts_tally_api_Count_h := slices_IndexFunc_counts_tally_api_Count_h_3 _N _x
theorem sp_slices_IndexFunc_counts_tally_api_Count_h (_N : Nat) : SpecH Try.prog [] 119 Sg_slices_IndexFunc_counts_tally_api_Count_h (D_slices_IndexFunc_counts_tally_api_Count_h _N) := mkSpH (fn := Try.f119) (c := bodyOf Try.f119) (C := (C_slices_IndexFunc_counts_tally_api_Count_h _N))
    (a := .two .none (.join 1 ⟨[], [.row false 0 52 (.pair (.sl (.int .i64)) (.int .i64))]⟩ (.two .none (.one (.loop 1 ⟨[(0, .slc 0 0), (1, .clo 99 []), (7, .int .i64), (8, .int .i64)], [.row false 0 52 (.pair (.sl (.int .i64)) (.int .i64))]⟩ [1] .none))) .none))
    (by kernel_rfl) rfl (by kernel_rfl) (by kernel_rfl) (by kernel_rfl) rfl ⟨rfl, by unfold TOk; kernel_rfl, gOk_of rfl rfl (List.forall_mem_cons.2 ⟨en_counts_tally_ahead_c1 _N, (List.forall_mem_nil _)⟩), iOk_of rfl rfl (List.forall_mem_nil _), rfl⟩ (fun _x => by kernel_rfl)
theorem en_slices_IndexFunc_counts_tally_api_Count_h (_N : Nat) : EntOk Try.prog [] (mkHe 119 Sg_slices_IndexFunc_counts_tally_api_Count_h (D_slices_IndexFunc_counts_tally_api_Count_h _N)) := entH ⟨Try.f119, bodyOf Try.f119, by kernel_rfl, by kernel_rfl, rfl⟩ (sp_slices_IndexFunc_counts_tally_api_Count_h _N)
-- (with objects) slices.DeleteFunc[watershed/counts.tally,watershed/api.Count]
abbrev Sg_slices_DeleteFunc_counts_tally_api_Count_h : Sig := ⟨[.form (.slc 0 0), .form (.clo 99 [])], [.row false 0 52 (.pair (.sl (.int .i64)) (.int .i64))],
  [.dat false (.sl (.pair (.sl (.int .i64)) (.int .i64)))], [.row true 0 52 (.pair (.sl (.int .i64)) (.int .i64))], []⟩
abbrev Rt_slices_DeleteFunc_counts_tally_api_Count_h : Type := (List (List Int × Int)) × (List (List Int × Int))
noncomputable def C_slices_DeleteFunc_counts_tally_api_Count_h (_N : Nat) : Ctx := { T := [(52, ⟨.struct [(0, 26), (1, 2)], 2, 32, some (.pair (.sl (.int .i64)) (.int .i64)), [.nil, .int .i64 (0 : Int)], false, []⟩), (103, ⟨.slice 52, 1, 24, some (.sl (.pair (.sl (.int .i64)) (.int .i64))), [.nil], false, []⟩)], G := findE [mkHe 119 Sg_slices_IndexFunc_counts_tally_api_Count_h (D_slices_IndexFunc_counts_tally_api_Count_h _N), mkP 99 Ks_counts_tally_ahead_c1 Rk_counts_tally_ahead_c1 (D_counts_tally_ahead_c1 _N)], I := findI [], N := _N, n := 42, fx := [], fl := 1, gs := [] }
noncomputable def slices_DeleteFunc_counts_tally_api_Count_h_1 (_N : Nat) (_v7 : Int) (_v8 : List (List Int × Int)) : Option Rt_slices_DeleteFunc_counts_tally_api_Count_h :=
  (bif (decide (0 ≤ _v7) && decide (_v7 ≤ (_v8.length : Int))) then (bif (decide (0 ≤ (0 : Int)) && (decide ((0 : Int) ≤ _v7) && decide (_v7 ≤ ((_v8.take _v7.toNat ++ List.replicate (_v8.length - _v7.toNat) ([], (0 : Int))).length : Int)))) then (some ((((_v8.take _v7.toNat ++ List.replicate (_v8.length - _v7.toNat) ([], (0 : Int))).take _v7.toNat).drop (0 : Int).toNat), (_v8.take _v7.toNat ++ List.replicate (_v8.length - _v7.toNat) ([], (0 : Int))))) else none) else none)
noncomputable def slices_DeleteFunc_counts_tally_api_Count_h_2 (_N : Nat) (_k10 : (Int × (List (List Int × Int))) → Option Rt_slices_DeleteFunc_counts_tally_api_Count_h) (_v2 : Int) (_v3 : Int) (_v4 : List (List Int × Int)) (_kn11 : Unit × (Int × Int × (List (List Int × Int))) → Option Rt_slices_DeleteFunc_counts_tally_api_Count_h) : Option Rt_slices_DeleteFunc_counts_tally_api_Count_h :=
  (bif (decide (_v3 < (_v4.length : Int))) then (bif (decide (0 ≤ _v3) && decide (_v3 < (_v4.length : Int))) then ((D_counts_tally_ahead_c1 _N (((nth ([], (0 : Int)) _v4 ((_v3).toNat)).1, (nth ([], (0 : Int)) _v4 ((_v3).toNat)).2), ())).bind fun _y12 => (bif (!_y12.1) then (bif (decide (0 ≤ _v2) && decide (_v2 < (_v4.length : Int))) then (_kn11 ((), ((IntKind.i64.wrap (_v2 + (1 : Int))), (IntKind.i64.wrap (_v3 + (1 : Int))), (_v4.set ((_v2).toNat) ((nth ([], (0 : Int)) _v4 ((_v3).toNat)).1, (nth ([], (0 : Int)) _v4 ((_v3).toNat)).2))))) else none) else (_kn11 ((), (_v2, (IntKind.i64.wrap (_v3 + (1 : Int))), _v4))))) else none) else (_k10 (_v2, _v4)))
noncomputable def slices_DeleteFunc_counts_tally_api_Count_h_3 (_N : Nat) (_x1 : List (List Int × Int)) : Option Rt_slices_DeleteFunc_counts_tally_api_Count_h :=
  ((D_slices_IndexFunc_counts_tally_api_Count_h _N _x1).bind fun _y9 => (bif (_y9.1 == (-1 : Int)) then (some (_y9.2, _y9.2)) else (joinD (fun (_s : Int × (List (List Int × Int))) => slices_DeleteFunc_counts_tally_api_Count_h_1 _N _s.1 _s.2) fun _k10 => (loopE (fun (_c : Unit) (_s : Int × Int × (List (List Int × Int))) _kn => slices_DeleteFunc_counts_tally_api_Count_h_2 _N _k10 _s.1 _s.2.1 _s.2.2 _kn) _N () (_y9.1, (IntKind.i64.wrap (_y9.1 + (1 : Int))), _y9.2)))))
noncomputable def D_slices_DeleteFunc_counts_tally_api_Count_h (_N : Nat) (_x : (List (List Int × Int))) : Option Rt_slices_DeleteFunc_counts_tally_api_Count_h := slices_DeleteFunc_counts_tally_api_Count_h_3 _N _x
theorem sp_slices_DeleteFunc_counts_tally_api_Count_h (_N : Nat) : SpecH Try.prog [] 98 Sg_slices_DeleteFunc_counts_tally_api_Count_h (D_slices_DeleteFunc_counts_tally_api_Count_h _N) := mkSpH (fn := Try.f98) (c := bodyOf Try.f98) (C := (C_slices_DeleteFunc_counts_tally_api_Count_h _N))
    (a := .two .none (.two .none (.two (.two .none (.two (.two (.shut 0 .none) .none) .none)) (.join 1 ⟨[(0, .slc 0 0), (5, .int .i64)], [.row false 0 52 (.pair (.sl (.int .i64)) (.int .i64))]⟩ (.two .none (.one (.loop 1 ⟨[(0, .slc 0 0), (1, .clo 99 []), (5, .int .i64), (6, .int .i64)], [.row false 0 52 (.pair (.sl (.int .i64)) (.int .i64))]⟩ [0, 1, 2] .none))) (.two .none (.two (.shut 0 .none) .none))))))
    (by kernel_rfl) rfl (by kernel_rfl) (by kernel_rfl) (by kernel_rfl) rfl ⟨rfl, by unfold TOk; kernel_rfl, gOk_of rfl rfl (List.forall_mem_cons.2 ⟨en_slices_IndexFunc_counts_tally_api_Count_h _N, (List.forall_mem_cons.2 ⟨en_counts_tally_ahead_c1 _N, (List.forall_mem_nil _)⟩)⟩), iOk_of rfl rfl (List.forall_mem_nil _), rfl⟩ (fun _x => by kernel_rfl)
theorem en_slices_DeleteFunc_counts_tally_api_Count_h (_N : Nat) : EntOk Try.prog [] (mkHe 98 Sg_slices_DeleteFunc_counts_tally_api_Count_h (D_slices_DeleteFunc_counts_tally_api_Count_h _N)) := entH ⟨Try.f98, bodyOf Try.f98, by kernel_rfl, by kernel_rfl, rfl⟩ (sp_slices_DeleteFunc_counts_tally_api_Count_h _N)
-- (with objects) (watershed/counts.tally).ahead
abbrev Sg_counts_tally_ahead_h : Sig := ⟨[.form (.slc 0 0)], [.row false 0 52 (.pair (.sl (.int .i64)) (.int .i64))],
  [.dat false (.sl (.sl (.int .i64)))], [.row true 0 52 (.pair (.sl (.int .i64)) (.int .i64))], []⟩
abbrev Rt_counts_tally_ahead_h : Type := List (List Int) × (List (List Int × Int))
noncomputable def C_counts_tally_ahead_h (_N : Nat) : Ctx := { T := [], G := findE [mkHe 98 Sg_slices_DeleteFunc_counts_tally_api_Count_h (D_slices_DeleteFunc_counts_tally_api_Count_h _N), mkG 65 Ks_counts_tally_list 26 (.sl (.int .i64)) (D_counts_tally_list _N)], I := findI [], N := _N, n := 6, fx := [], fl := 1, gs := [] }
noncomputable def counts_tally_ahead_h_1 (_N : Nat) (_x1 : List (List Int × Int)) : Option Rt_counts_tally_ahead_h :=
  ((D_slices_DeleteFunc_counts_tally_api_Count_h _N _x1).bind fun _y3 => ((D_counts_tally_list _N (_y3.1, ())).bind fun _y4 => (some (_y4, _y3.2))))
noncomputable def D_counts_tally_ahead_h (_N : Nat) (_x : (List (List Int × Int))) : Option Rt_counts_tally_ahead_h := counts_tally_ahead_h_1 _N _x
theorem sp_counts_tally_ahead_h (_N : Nat) : SpecH Try.prog [] 89 Sg_counts_tally_ahead_h (D_counts_tally_ahead_h _N) := mkSpH (fn := Try.f89) (c := bodyOf Try.f89) (C := (C_counts_tally_ahead_h _N))
    (a := .none)
    (by kernel_rfl) rfl (by kernel_rfl) (by kernel_rfl) (by kernel_rfl) rfl ⟨rfl, by unfold TOk; kernel_rfl, gOk_of rfl rfl (List.forall_mem_cons.2 ⟨en_slices_DeleteFunc_counts_tally_api_Count_h _N, (List.forall_mem_cons.2 ⟨en_counts_tally_list _N, (List.forall_mem_nil _)⟩)⟩), iOk_of rfl rfl (List.forall_mem_nil _), rfl⟩ (fun _x => by kernel_rfl)
theorem en_counts_tally_ahead_h (_N : Nat) : EntOk Try.prog [] (mkHe 89 Sg_counts_tally_ahead_h (D_counts_tally_ahead_h _N)) := entH ⟨Try.f89, bodyOf Try.f89, by kernel_rfl, by kernel_rfl, rfl⟩ (sp_counts_tally_ahead_h _N)
-- watershed/counts.front
abbrev Ks_counts_front : List Kd := [.dat (.sl (.pair (.sl (.int .i64)) (.int .i64)))]
abbrev Rt_counts_front : Type := List (List Int)
noncomputable def C_counts_front (_N : Nat) : Ctx := { T := [], G := findE [mkG 88 Ks_slices_Clone_Lapi_Count_api_Count 52 (.pair (.sl (.int .i64)) (.int .i64)) (D_slices_Clone_Lapi_Count_api_Count _N), mkHe 89 Sg_counts_tally_ahead_h (D_counts_tally_ahead_h _N), mkG 39 Ks_times_Least 26 (.sl (.int .i64)) (D_times_Least _N)], I := findI [], N := _N, n := 7, fx := [], fl := 0, gs := [] }
noncomputable def counts_front_1 (_N : Nat) (_x1 : List (List Int × Int)) : Option Rt_counts_front :=
  ((D_slices_Clone_Lapi_Count_api_Count _N (_x1, ())).bind fun _y4 => ((D_counts_tally_ahead_h _N _y4).bind fun _y5 => ((D_times_Least _N (_y5.1, ())).bind fun _y6 => (some _y6))))
noncomputable def D_counts_front (_N : Nat) (_x : Dens Ks_counts_front) : Option Rt_counts_front := counts_front_1 _N _x.1
theorem sp_counts_front (_N : Nat) : SpecF Try.prog [] 58 Ks_counts_front 26 (.sl (.int .i64)) (D_counts_front _N) := mkSpF (fn := Try.f58) (c := bodyOf Try.f58) (C := C_counts_front _N)
    (a := .none)
    (by kernel_rfl) rfl (by kernel_rfl) (by kernel_rfl) ⟨rfl, by unfold TOk; kernel_rfl, gOk_of rfl rfl (List.forall_mem_cons.2 ⟨en_slices_Clone_Lapi_Count_api_Count _N, (List.forall_mem_cons.2 ⟨en_counts_tally_ahead_h _N, (List.forall_mem_cons.2 ⟨en_times_Least _N, (List.forall_mem_nil _)⟩)⟩)⟩), iOk_of rfl rfl (List.forall_mem_nil _), rfl⟩ (fun _x => by kernel_rfl)
theorem en_counts_front (_N : Nat) : EntOk Try.prog [] (mkG 58 Ks_counts_front 26 (.sl (.int .i64)) (D_counts_front _N)) := entG ⟨Try.f58, bodyOf Try.f58, by kernel_rfl, by kernel_rfl, rfl⟩ (Nat.le_of_ble_eq_true (by kernel_rfl)) (sp_counts_front _N)
theorem qen_counts_front (_N : Nat) : EntOk Try.prog [] (mkQ 58 Ks_counts_front [.dat (.sl (.sl (.int .i64)))] (fun _x => (D_counts_front _N _x).map fun _y => (_y, ()))) := entQ ⟨Try.f58, bodyOf Try.f58, by kernel_rfl, by kernel_rfl, rfl⟩ (specD_of_F (sp_counts_front _N))
-- watershed/counts.Front
abbrev Ks_counts_Front : List Kd := [.dat (.sl (.pair (.sl (.int .i64)) (.int .i64)))]
abbrev Rk_counts_Front : List Kd := [.dat (.sl (.sl (.int .i64))), .dat (.int .i64)]
abbrev Rt_counts_Front : Type := Dens Rk_counts_Front
noncomputable def C_counts_Front (_N : Nat) : Ctx := { T := [], G := findE [mkP 34 Ks_counts_Check Rk_counts_Check (D_counts_Check _N), mkG 58 Ks_counts_front 26 (.sl (.int .i64)) (D_counts_front _N)], I := findI [], N := _N, n := 12, fx := [], fl := 0, gs := [] }
noncomputable def counts_Front_1 (_N : Nat) (_x1 : List (List Int × Int)) : Option Rt_counts_Front :=
  ((D_counts_Check _N (_x1, ())).bind fun _y3 => (bif (_y3.1 != (0 : Int)) then (some ([], _y3.1, ())) else ((D_counts_front _N (_x1, ())).bind fun _y4 => (some (_y4, (0 : Int), ())))))
noncomputable def D_counts_Front (_N : Nat) (_x : Dens Ks_counts_Front) : Option Rt_counts_Front := counts_Front_1 _N _x.1
theorem sp_counts_Front (_N : Nat) : SpecD Try.prog [] 28 Ks_counts_Front Rk_counts_Front (D_counts_Front _N) := mkSpD (fn := Try.f28) (c := bodyOf Try.f28) (C := C_counts_Front _N)
    (a := .none)
    (by kernel_rfl) rfl (by kernel_rfl) (by kernel_rfl) ⟨rfl, by unfold TOk; kernel_rfl, gOk_of rfl rfl (List.forall_mem_cons.2 ⟨en_counts_Check _N, (List.forall_mem_cons.2 ⟨en_counts_front _N, (List.forall_mem_nil _)⟩)⟩), iOk_of rfl rfl (List.forall_mem_nil _), rfl⟩ (fun _x => by kernel_rfl)
theorem en_counts_Front (_N : Nat) : EntOk Try.prog [] (mkD 28 Ks_counts_Front Rk_counts_Front (D_counts_Front _N)) := entD ⟨Try.f28, bodyOf Try.f28, by kernel_rfl, by kernel_rfl, rfl⟩ (sp_counts_Front _N)
theorem qen_counts_Front (_N : Nat) : EntOk Try.prog [] (mkQ 28 Ks_counts_Front Rk_counts_Front (D_counts_Front _N)) := entQ ⟨Try.f28, bodyOf Try.f28, by kernel_rfl, by kernel_rfl, rfl⟩ (sp_counts_Front _N)
-- (with objects) watershed/counts.Moves$1
abbrev Sg_counts_Moves_c1_h : Sig := ⟨[.form (.slc 0 0), .dat false (.int .i64)], [.row false 0 26 (.sl (.int .i64))],
  [.dat false (.sl (.pair (.sl (.int .i64)) (.int .i64)))], [.row false 0 26 (.sl (.int .i64))], []⟩
abbrev Rt_counts_Moves_c1_h : Type := (List (List Int × Int)) × List (List Int)
noncomputable def C_counts_Moves_c1_h (_N : Nat) : Ctx := { T := [(2, ⟨.int .i64, 1, 8, some (.int .i64), [.int .i64 (0 : Int)], false, []⟩), (22, ⟨.slice 26, 1, 24, some (.sl (.sl (.int .i64))), [.nil], false, []⟩), (26, ⟨.slice 3, 1, 24, some (.sl (.int .i64)), [.nil], false, []⟩), (47, ⟨.slice 52, 1, 24, some (.sl (.pair (.sl (.int .i64)) (.int .i64))), [.nil], false, []⟩), (52, ⟨.struct [(0, 26), (1, 2)], 2, 32, some (.pair (.sl (.int .i64)) (.int .i64)), [.nil, .int .i64 (0 : Int)], false, []⟩)], G := findE [], I := findI [], N := _N, n := 22, fx := [1], fl := 1, gs := [] }
noncomputable def counts_Moves_c1_h_1 (_N : Nat) (_v6 : List (List Int)) (_v7 : List (List Int × Int)) : Option Rt_counts_Moves_c1_h :=
  (some (_v7, _v6))
noncomputable def counts_Moves_c1_h_2 (_N : Nat) (_k8 : (List (List Int) × (List (List Int × Int))) → Option Rt_counts_Moves_c1_h) (_v1 : Int) (_v2 : Int) (_v4 : List (List Int)) (_v3 : Int) (_v5 : List (List Int × Int)) (_kn9 : (Int × Int × List (List Int)) × (Int × (List (List Int × Int))) → Option Rt_counts_Moves_c1_h) : Option Rt_counts_Moves_c1_h :=
  (bif (decide (_v3 < _v2)) then (bif (decide (0 ≤ _v3) && decide (_v3 < (_v4.length : Int))) then (bif (decide ((_v5.length + ([((nth ([]) _v4 ((_v3).toNat)), _v1)]).length) * 32 ≤ 140737488355328) && Nat.ble 1 32) then (_kn9 ((_v1, _v2, _v4), ((IntKind.i64.wrap (_v3 + (1 : Int))), (_v5 ++ [((nth ([]) _v4 ((_v3).toNat)), _v1)])))) else none) else none) else (_k8 (_v4, _v5)))
noncomputable def counts_Moves_c1_h_3 (_N : Nat) (_x1 : Int) (_x2 : List (List Int)) : Option Rt_counts_Moves_c1_h :=
  (joinD (fun (_s : List (List Int) × (List (List Int × Int))) => counts_Moves_c1_h_1 _N _s.1 _s.2) fun _k8 => (loopE (fun (_c : Int × Int × List (List Int)) (_s : Int × (List (List Int × Int))) _kn => counts_Moves_c1_h_2 _N _k8 _c.1 _c.2.1 _c.2.2 _s.1 _s.2 _kn) _N (_x1, (_x2.length : Int), _x2) ((0 : Int), [])))
noncomputable def D_counts_Moves_c1_h (_N : Nat) (_x : Int × List (List Int)) : Option Rt_counts_Moves_c1_h := counts_Moves_c1_h_3 _N _x.1 _x.2
theorem sp_counts_Moves_c1_h (_N : Nat) : SpecH Try.prog [] 60 Sg_counts_Moves_c1_h (D_counts_Moves_c1_h _N) := mkSpH (fn := Try.f60) (c := bodyOf Try.f60) (C := (C_counts_Moves_c1_h _N))
    (a := .two .none (.two .none (.join 2 ⟨[(5, .slc 1 0)], [.row false 0 26 (.sl (.int .i64)), .row false 0 52 (.pair (.sl (.int .i64)) (.int .i64))]⟩ (.two .none (.one (.obj 5 52 (.pair (.sl (.int .i64)) (.int .i64)) (.loop 2 ⟨[(1, .int .i64), (5, .slc 1 0), (8, .slc 0 0), (9, .int .i64), (10, .int .i64)], [.row false 0 26 (.sl (.int .i64)), .row false 0 52 (.pair (.sl (.int .i64)) (.int .i64))]⟩ [2, 4] .none)))) .none)))
    (by kernel_rfl) rfl (by kernel_rfl) (by kernel_rfl) (by kernel_rfl) rfl ⟨rfl, by unfold TOk; kernel_rfl, gOk_of rfl rfl (List.forall_mem_nil _), iOk_of rfl rfl (List.forall_mem_nil _), rfl⟩ (fun _x => by kernel_rfl)
theorem en_counts_Moves_c1_h (_N : Nat) : EntOk Try.prog [] (mkHe 60 Sg_counts_Moves_c1_h (D_counts_Moves_c1_h _N)) := entH ⟨Try.f60, bodyOf Try.f60, by kernel_rfl, by kernel_rfl, rfl⟩ (sp_counts_Moves_c1_h _N)
-- watershed/counts.Moves
abbrev Ks_counts_Moves : List Kd := [.dat (.sl (.pair (.sl (.int .i64)) (.int .i64))), .dat (.sl (.pair (.sl (.int .i64)) (.int .i64)))]
abbrev Rk_counts_Moves : List Kd := [.dat (.sl (.pair (.sl (.int .i64)) (.int .i64))), .dat (.int .i64)]
abbrev Rt_counts_Moves : Type := Dens Rk_counts_Moves
noncomputable def C_counts_Moves (_N : Nat) : Ctx := { T := [], G := findE [mkP 59 Ks_counts_pair Rk_counts_pair (D_counts_pair _N), mkG 58 Ks_counts_front 26 (.sl (.int .i64)) (D_counts_front _N), mkHe 60 Sg_counts_Moves_c1_h (D_counts_Moves_c1_h _N), mkQ 61 Ks_counts_merge Rk_counts_merge (D_counts_merge _N)], I := findI [], N := _N, n := 25, fx := [], fl := 0, gs := [] }
noncomputable def counts_Moves_1 (_N : Nat) (_x1 : List (List Int × Int)) (_x2 : List (List Int × Int)) : Option Rt_counts_Moves :=
  ((D_counts_pair _N (_x1, _x2, ())).bind fun _y7 => (bif (_y7.1 != (0 : Int)) then (some ([], _y7.1, ())) else ((D_counts_front _N (_x1, ())).bind fun _y8 => ((D_counts_Moves_c1_h _N ((-1 : Int), _y8)).bind fun _y9 => ((D_counts_front _N (_x2, ())).bind fun _y10 => ((D_counts_Moves_c1_h _N ((1 : Int), _y10)).bind fun _y11 => ((D_counts_merge _N (_y9.1, _y11.1, ())).bind fun _y12 => (some (_y12.1, _y12.2.1, ())))))))))
noncomputable def D_counts_Moves (_N : Nat) (_x : Dens Ks_counts_Moves) : Option Rt_counts_Moves := counts_Moves_1 _N _x.1 _x.2.1
theorem sp_counts_Moves (_N : Nat) : SpecD Try.prog [] 29 Ks_counts_Moves Rk_counts_Moves (D_counts_Moves _N) := mkSpD (fn := Try.f29) (c := bodyOf Try.f29) (C := C_counts_Moves _N)
    (a := .none)
    (by kernel_rfl) rfl (by kernel_rfl) (by kernel_rfl) ⟨rfl, by unfold TOk; kernel_rfl, gOk_of rfl rfl (List.forall_mem_cons.2 ⟨en_counts_pair _N, (List.forall_mem_cons.2 ⟨en_counts_front _N, (List.forall_mem_cons.2 ⟨en_counts_Moves_c1_h _N, (List.forall_mem_cons.2 ⟨qen_counts_merge _N, (List.forall_mem_nil _)⟩)⟩)⟩)⟩), iOk_of rfl rfl (List.forall_mem_nil _), rfl⟩ (fun _x => by kernel_rfl)
theorem en_counts_Moves (_N : Nat) : EntOk Try.prog [] (mkD 29 Ks_counts_Moves Rk_counts_Moves (D_counts_Moves _N)) := entD ⟨Try.f29, bodyOf Try.f29, by kernel_rfl, by kernel_rfl, rfl⟩ (sp_counts_Moves _N)
theorem qen_counts_Moves (_N : Nat) : EntOk Try.prog [] (mkQ 29 Ks_counts_Moves Rk_counts_Moves (D_counts_Moves _N)) := entQ ⟨Try.f29, bodyOf Try.f29, by kernel_rfl, by kernel_rfl, rfl⟩ (sp_counts_Moves _N)
end Go.Proofs.Ytololihlpldcdaa
