/- What two concepts have in common is a concept's; turned round there are as many: the law answers true for every context. No condition. -/
import Derived.Test.YtkijpiphgnnonaaDoorPolM
import Derived.Test.YtkijpiphgnnonaaDoorOrderS
import Derived.Test.YtkijpiphgnnonaaDoorFrame
namespace Go.Proofs.YtkijpiphgnnonaaDoor
open Go Go.ChangeShapes Go.WideShapes Go.ChangeAt Go.WideMaps Go.WideElems Go.RowKit Go.Abs Go.Pol
-- watershed/watershedref.PolarCheck
abbrev Ks_ref_PolarCheck : List Kd := [.dat (.pair (.sl (.int .u32)) (.int .i64))]
abbrev Rk_ref_PolarCheck : List Kd := [.dat (.int .i64)]
abbrev Rt_ref_PolarCheck : Type := Dens Rk_ref_PolarCheck
noncomputable def C_ref_PolarCheck (_N : Nat) : Ctx := { T := [(3, ⟨.int .i64, 1, 8, some (.int .i64), [.int .i64 (0 : Int)], false, []⟩), (22, ⟨.slice 29, 1, 24, some (.sl (.int .u32)), [.nil], false, []⟩), (24, ⟨.struct [(0, 22), (1, 3)], 2, 32, some (.pair (.sl (.int .u32)) (.int .i64)), [.nil, .int .i64 (0 : Int)], false, []⟩), (29, ⟨.int .u32, 1, 4, some (.int .u32), [.int .u32 (0 : Int)], false, []⟩)], G := findE [mkP 24 Ks_ref_Outside Rk_ref_Outside (D_ref_Outside _N)], I := findI [], N := _N, n := 31, fx := [], fl := 0, gs := Gs }
noncomputable def ref_PolarCheck_1 (_N : Nat) : Option Rt_ref_PolarCheck :=
  (some ((0 : Int), ()))
noncomputable def ref_PolarCheck_2 (_N : Nat) (_k10 : (List Int × Int) → Option Rt_ref_PolarCheck) (_v1 : List Int) (_v2 : Int) (_v4 : List Int) (_v5 : Int) (_v3 : Int) (_kn11 : (List Int × Int × List Int × Int) × Int → Option Rt_ref_PolarCheck) : Option Rt_ref_PolarCheck :=
  (bif (decide (_v3 < _v2)) then (bif (decide (0 ≤ _v3) && decide (_v3 < (_v1.length : Int))) then ((D_ref_Outside _N ((nth (0 : Int) _v1 (_v3).toNat), _v5, ())).bind fun _y12 => (bif _y12.1 then (some ((2 : Int), ())) else (_kn11 ((_v1, _v2, _v4, _v5), (IntKind.i64.wrap (_v3 + (1 : Int))))))) else none) else (_k10 (_v4, _v5)))
noncomputable def ref_PolarCheck_3 (_N : Nat) (_x1 : List Int × Int) : Option Rt_ref_PolarCheck :=
  (bif (decide ((_x1.1.length : Int) > (16 : Int))) then (some ((1 : Int), ())) else (bif (decide (_x1.2 < (0 : Int))) then (some ((1 : Int), ())) else (bif (decide (_x1.2 > (16 : Int))) then (some ((1 : Int), ())) else (joinD (fun (_s : List Int × Int) => ref_PolarCheck_1 _N) fun _k10 => (loopE (fun (_c : List Int × Int × List Int × Int) (_s : Int) _kn => ref_PolarCheck_2 _N _k10 _c.1 _c.2.1 _c.2.2.1 _c.2.2.2 _s _kn) _N (_x1.1, (_x1.1.length : Int), _x1.1, _x1.2) (0 : Int))))))
noncomputable def D_ref_PolarCheck (_N : Nat) (_x : Dens Ks_ref_PolarCheck) : Option Rt_ref_PolarCheck := ref_PolarCheck_3 _N _x.1
theorem sp_ref_PolarCheck (_N : Nat) : SpecD Tryd.prog Gs 6 Ks_ref_PolarCheck Rk_ref_PolarCheck (D_ref_PolarCheck _N) := mkSpD (fn := Tryd.f6) (c := bodyOf Tryd.f6) (C := C_ref_PolarCheck _N)
    (a := .two .none (.two .none (.join 1 ⟨[], [.cells [.sl (.int .u32), .int .i64]]⟩ (.two .none (.one (.loop 1 ⟨[(1, .ptr 0 0), (20, .sl (.int .u32)), (21, .int .i64), (22, .int .i64)], [.cells [.sl (.int .u32), .int .i64]]⟩ [2] .none))) .none)))
    (by kernel_rfl) rfl (by kernel_rfl) (by kernel_rfl) ⟨rfl, by unfold TOk; kernel_rfl, gOk_of rfl rfl (List.forall_mem_cons.2 ⟨en_ref_Outside _N, (List.forall_mem_nil _)⟩), iOk_of rfl rfl (List.forall_mem_nil _), rfl⟩ (fun _x => by kernel_rfl)
theorem en_ref_PolarCheck (_N : Nat) : EntOk Tryd.prog Gs (mkP 6 Ks_ref_PolarCheck Rk_ref_PolarCheck (D_ref_PolarCheck _N)) := entP ⟨Tryd.f6, bodyOf Tryd.f6, by kernel_rfl, by kernel_rfl, rfl⟩ (by kernel_rfl) (sp_ref_PolarCheck _N)
-- watershed/watershedkeep.PolarMeets
abbrev Ks_keep_PolarMeets : List Kd := [.dat (.pair (.sl (.int .u32)) (.int .i64))]
abbrev Rk_keep_PolarMeets : List Kd := [.dat (.bool)]
abbrev Rt_keep_PolarMeets : Type := Dens Rk_keep_PolarMeets
noncomputable def C_keep_PolarMeets (_N : Nat) : Ctx := { T := [(3, ⟨.int .i64, 1, 8, some (.int .i64), [.int .i64 (0 : Int)], false, []⟩), (22, ⟨.slice 29, 1, 24, some (.sl (.int .u32)), [.nil], false, []⟩), (24, ⟨.struct [(0, 22), (1, 3)], 2, 32, some (.pair (.sl (.int .u32)) (.int .i64)), [.nil, .int .i64 (0 : Int)], false, []⟩), (25, ⟨.slice 31, 1, 24, some (.sl (.pair (.int .u32) (.int .u32))), [.nil], false, []⟩), (29, ⟨.int .u32, 1, 4, some (.int .u32), [.int .u32 (0 : Int)], false, []⟩), (31, ⟨.struct [(0, 29), (1, 29)], 2, 8, some (.pair (.int .u32) (.int .u32)), [.int .u32 (0 : Int), .int .u32 (0 : Int)], true, []⟩), (34, ⟨.int .u64, 1, 8, some (.int .u64), [.int .u64 (0 : Int)], false, []⟩)], G := findE [mkQ 5 Ks_polar_Concepts Rk_polar_Concepts (D_polar_Concepts _N), mkP 6 Ks_ref_PolarCheck Rk_ref_PolarCheck (D_ref_PolarCheck _N), mkD 5 Ks_polar_Concepts Rk_polar_Concepts (D_polar_Concepts _N), mkP 7 Ks_ref_Bit Rk_ref_Bit (D_ref_Bit _N)], I := findI [], N := _N, n := 140, fx := [2], fl := 0, gs := Gs }
noncomputable def keep_PolarMeets_1 (_N : Nat) (_v77 : List (Int × Int)) (_v80 : Int) (_v81 : List Int) : Option Rt_keep_PolarMeets :=
  ((D_polar_Concepts _N ((_v81, _v80), ())).bind fun _y85 => (bif (_y85.2.1 == (0 : Int)) then (some (((_y85.1.length : Int) == (_v77.length : Int)), ())) else (some (false, ()))))
noncomputable def keep_PolarMeets_2 (_N : Nat) (_kn87 : ((List (Int × Int)) × List Int × Int × Int) × (Int × List Int) → Option Rt_keep_PolarMeets) (_v63 : List (Int × Int)) (_v64 : Int) (_v65 : List Int) (_v66 : Int) (_v67 : Int) (_v68 : List Int) : Option Rt_keep_PolarMeets :=
  (_kn87 ((_v63, _v65, _v66, _v67), ((IntKind.i64.wrap (_v64 + (1 : Int))), _v68)))
noncomputable def keep_PolarMeets_3 (_N : Nat) (_k88 : ((List (Int × Int)) × Int × List Int × Int × Int × List Int × List Int) → Option Rt_keep_PolarMeets) (_v57 : List (Int × Int)) (_v58 : Int) (_v59 : Int) (_v60 : List Int) (_v61 : Int) (_v62 : Int) (_v74 : List Int) : Option Rt_keep_PolarMeets :=
  (bif (decide ((_v74.length + ([_v59]).length) * 4 ≤ 140737488355328) && Nat.ble 1 4) then (_k88 (_v57, _v58, _v60, _v61, _v62, (_v74 ++ [_v59]), [_v59])) else none)
noncomputable def keep_PolarMeets_4 (_N : Nat) (_k89 : ((List (Int × Int)) × Int × Int × List Int × Int × Int × List Int) → Option Rt_keep_PolarMeets) (_v48 : List (Int × Int)) (_v49 : Int) (_v52 : List Int) (_v53 : Int) (_v54 : Int) (_v71 : List Int) (_v50 : Int) (_v51 : Int) (_kn90 : ((List (Int × Int)) × Int × List Int × Int × Int × List Int) × (Int × Int) → Option Rt_keep_PolarMeets) : Option Rt_keep_PolarMeets :=
  (bif (decide (_v51 < (_v52.length : Int))) then (bif (decide (0 ≤ _v51) && decide (_v51 < (_v52.length : Int))) then ((D_ref_Bit _N ((nth (0 : Int) _v52 (_v51).toNat), _v49, ())).bind fun _y91 => (bif _y91.1 then (bif (decide ((IntKind.u64.wrap _v51) < 0)) then none else (_kn90 ((_v48, _v49, _v52, _v53, _v54, _v71), ((ior .u32 _v50 (ishl .u32 (1 : Int) (IntKind.u64.wrap _v51))), (IntKind.i64.wrap (_v51 + (1 : Int))))))) else (_kn90 ((_v48, _v49, _v52, _v53, _v54, _v71), (_v50, (IntKind.i64.wrap (_v51 + (1 : Int)))))))) else none) else (_k89 (_v48, _v49, _v50, _v52, _v53, _v54, _v71)))
noncomputable def keep_PolarMeets_5 (_N : Nat) (_k86 : ((List (Int × Int)) × List Int × Int × Int × List Int) → Option Rt_keep_PolarMeets) (_v43 : List (Int × Int)) (_v45 : List Int) (_v46 : Int) (_v47 : Int) (_v44 : Int) (_v70 : List Int) (_kn87 : ((List (Int × Int)) × List Int × Int × Int) × (Int × List Int) → Option Rt_keep_PolarMeets) : Option Rt_keep_PolarMeets :=
  (bif (decide (_v44 < _v46)) then (joinD (fun (_s : (List (Int × Int)) × Int × List Int × Int × Int × List Int × List Int) => keep_PolarMeets_2 _N _kn87 _s.1 _s.2.1 _s.2.2.1 _s.2.2.2.1 _s.2.2.2.2.1 _s.2.2.2.2.2.1) fun _k88 => (joinD (fun (_s : (List (Int × Int)) × Int × Int × List Int × Int × Int × List Int) => keep_PolarMeets_3 _N _k88 _s.1 _s.2.1 _s.2.2.1 _s.2.2.2.1 _s.2.2.2.2.1 _s.2.2.2.2.2.1 _s.2.2.2.2.2.2) fun _k89 => (loopE (fun (_c : (List (Int × Int)) × Int × List Int × Int × Int × List Int) (_s : Int × Int) _kn => keep_PolarMeets_4 _N _k89 _c.1 _c.2.1 _c.2.2.1 _c.2.2.2.1 _c.2.2.2.2.1 _c.2.2.2.2.2 _s.1 _s.2 _kn) _N (_v43, _v44, _v45, _v46, _v47, _v70) ((0 : Int), (0 : Int))))) else (_k86 (_v43, _v45, _v46, _v47, _v70)))
noncomputable def keep_PolarMeets_6 (_N : Nat) (_v39 : List (Int × Int)) (_v40 : List Int) (_v41 : Int) : Option Rt_keep_PolarMeets :=
  ((D_ref_PolarCheck _N ((_v40, _v41), ())).bind fun _y84 => (bif (_y84.1 != (0 : Int)) then (some (false, ())) else (joinD (fun (_s : (List (Int × Int)) × List Int × Int × Int × List Int) => keep_PolarMeets_1 _N _s.1 _s.2.2.2.1 _s.2.2.2.2) fun _k86 => (loopE (fun (_c : (List (Int × Int)) × List Int × Int × Int) (_s : Int × List Int) _kn => keep_PolarMeets_5 _N _k86 _c.1 _c.2.1 _c.2.2.1 _c.2.2.2 _s.1 _s.2 _kn) _N (_v39, _v40, _v41, (_v40.length : Int)) ((0 : Int), [])))))
noncomputable def keep_PolarMeets_7 (_N : Nat) (_kn93 : ((List (Int × Int)) × List Int × Int) × Int → Option Rt_keep_PolarMeets) (_v35 : List (Int × Int)) (_v36 : Int) (_v37 : List Int) (_v38 : Int) : Option Rt_keep_PolarMeets :=
  (_kn93 ((_v35, _v37, _v38), (IntKind.i64.wrap (_v36 + (1 : Int)))))
noncomputable def keep_PolarMeets_8 (_N : Nat) (_kn95 : ((List (Int × Int)) × Int × List Int × Int) × Int → Option Rt_keep_PolarMeets) (_v28 : List (Int × Int)) (_v29 : Int) (_v30 : Int) (_v33 : List Int) (_v34 : Int) : Option Rt_keep_PolarMeets :=
  (_kn95 ((_v28, _v29, _v33, _v34), (IntKind.i64.wrap (_v30 + (1 : Int)))))
noncomputable def keep_PolarMeets_9 (_N : Nat) (_k96 : ((List (Int × Int)) × Int × Int × Bool × Bool × List Int × Int) → Option Rt_keep_PolarMeets) (_v21 : List (Int × Int)) (_v22 : Int) (_v23 : Int) (_v24 : Bool) (_v25 : Bool) (_v26 : List Int) (_v27 : Int) : Option Rt_keep_PolarMeets :=
  (bif (!_v24) then (some (false, ())) else (bif (!_v25) then (some (false, ())) else (_k96 (_v21, _v22, _v23, _v25, (!_v25), _v26, _v27))))
noncomputable def keep_PolarMeets_10 (_N : Nat) (_k97 : ((List (Int × Int)) × Int × Int × Bool × Bool × List Int × Int) → Option Rt_keep_PolarMeets) (_v11 : List (Int × Int)) (_v12 : Int) (_v13 : Int) (_v16 : List (Int × Int)) (_v17 : Int) (_v19 : List Int) (_v20 : Int) (_v14 : Bool) (_v15 : Bool) (_v18 : Int) (_kn98 : ((List (Int × Int)) × Int × Int × (List (Int × Int)) × Int × List Int × Int) × (Bool × Bool × Int) → Option Rt_keep_PolarMeets) : Option Rt_keep_PolarMeets :=
  (bif (decide (_v18 < _v17)) then (bif (decide (0 ≤ _v18) && decide (_v18 < (_v16.length : Int))) then (bif _v14 then (bif _v15 then (_kn98 ((_v11, _v12, _v13, _v16, _v17, _v19, _v20), (true, true, (IntKind.i64.wrap (_v18 + (1 : Int)))))) else (bif (decide (0 ≤ _v12) && decide (_v12 < (_v11.length : Int))) then (bif (decide (0 ≤ _v13) && decide (_v13 < (_v11.length : Int))) then (_kn98 ((_v11, _v12, _v13, _v16, _v17, _v19, _v20), (true, (((nth ((0 : Int), (0 : Int)) _v16 (_v18).toNat).2) == (iand .u32 ((nth ((0 : Int), (0 : Int)) _v11 (_v12).toNat).2) ((nth ((0 : Int), (0 : Int)) _v11 (_v13).toNat).2))), (IntKind.i64.wrap (_v18 + (1 : Int)))))) else none) else none)) else (bif (decide (0 ≤ _v12) && decide (_v12 < (_v11.length : Int))) then (bif (decide (0 ≤ _v13) && decide (_v13 < (_v11.length : Int))) then (bif _v15 then (_kn98 ((_v11, _v12, _v13, _v16, _v17, _v19, _v20), ((((nth ((0 : Int), (0 : Int)) _v16 (_v18).toNat).1) == (iand .u32 ((nth ((0 : Int), (0 : Int)) _v11 (_v12).toNat).1) ((nth ((0 : Int), (0 : Int)) _v11 (_v13).toNat).1))), true, (IntKind.i64.wrap (_v18 + (1 : Int)))))) else (bif (decide (0 ≤ _v12) && decide (_v12 < (_v11.length : Int))) then (bif (decide (0 ≤ _v13) && decide (_v13 < (_v11.length : Int))) then (_kn98 ((_v11, _v12, _v13, _v16, _v17, _v19, _v20), ((((nth ((0 : Int), (0 : Int)) _v16 (_v18).toNat).1) == (iand .u32 ((nth ((0 : Int), (0 : Int)) _v11 (_v12).toNat).1) ((nth ((0 : Int), (0 : Int)) _v11 (_v13).toNat).1))), (((nth ((0 : Int), (0 : Int)) _v16 (_v18).toNat).2) == (iand .u32 ((nth ((0 : Int), (0 : Int)) _v11 (_v12).toNat).2) ((nth ((0 : Int), (0 : Int)) _v11 (_v13).toNat).2))), (IntKind.i64.wrap (_v18 + (1 : Int)))))) else none) else none)) else none) else none)) else none) else (_k97 (_v11, _v12, _v13, _v14, _v15, _v19, _v20)))
noncomputable def keep_PolarMeets_11 (_N : Nat) (_k94 : ((List (Int × Int)) × Int × List Int × Int) → Option Rt_keep_PolarMeets) (_v6 : List (Int × Int)) (_v7 : Int) (_v9 : List Int) (_v10 : Int) (_v8 : Int) (_kn95 : ((List (Int × Int)) × Int × List Int × Int) × Int → Option Rt_keep_PolarMeets) : Option Rt_keep_PolarMeets :=
  (bif (decide (_v8 < _v7)) then (joinD (fun (_s : (List (Int × Int)) × Int × Int × Bool × Bool × List Int × Int) => keep_PolarMeets_8 _N _kn95 _s.1 _s.2.1 _s.2.2.1 _s.2.2.2.2.2.1 _s.2.2.2.2.2.2) fun _k96 => (joinD (fun (_s : (List (Int × Int)) × Int × Int × Bool × Bool × List Int × Int) => keep_PolarMeets_9 _N _k96 _s.1 _s.2.1 _s.2.2.1 _s.2.2.2.1 _s.2.2.2.2.1 _s.2.2.2.2.2.1 _s.2.2.2.2.2.2) fun _k97 => (loopE (fun (_c : (List (Int × Int)) × Int × Int × (List (Int × Int)) × Int × List Int × Int) (_s : Bool × Bool × Int) _kn => keep_PolarMeets_10 _N _k97 _c.1 _c.2.1 _c.2.2.1 _c.2.2.2.1 _c.2.2.2.2.1 _c.2.2.2.2.2.1 _c.2.2.2.2.2.2 _s.1 _s.2.1 _s.2.2 _kn) _N (_v6, _v7, _v8, _v6, (_v6.length : Int), _v9, _v10) (false, false, (0 : Int))))) else (_k94 (_v6, _v7, _v9, _v10)))
noncomputable def keep_PolarMeets_12 (_N : Nat) (_k92 : ((List (Int × Int)) × List Int × Int) → Option Rt_keep_PolarMeets) (_v2 : List (Int × Int)) (_v4 : List Int) (_v5 : Int) (_v3 : Int) (_kn93 : ((List (Int × Int)) × List Int × Int) × Int → Option Rt_keep_PolarMeets) : Option Rt_keep_PolarMeets :=
  (bif (decide (_v3 < (_v2.length : Int))) then (joinD (fun (_s : (List (Int × Int)) × Int × List Int × Int) => keep_PolarMeets_7 _N _kn93 _s.1 _s.2.1 _s.2.2.1 _s.2.2.2) fun _k94 => (loopE (fun (_c : (List (Int × Int)) × Int × List Int × Int) (_s : Int) _kn => keep_PolarMeets_11 _N _k94 _c.1 _c.2.1 _c.2.2.1 _c.2.2.2 _s _kn) _N (_v2, _v3, _v4, _v5) (0 : Int))) else (_k92 (_v2, _v4, _v5)))
noncomputable def keep_PolarMeets_13 (_N : Nat) (_x1 : List Int × Int) : Option Rt_keep_PolarMeets :=
  ((D_polar_Concepts _N ((_x1.1, _x1.2), ())).bind fun _y83 => (bif (_y83.2.1 != (0 : Int)) then (some ((_y83.2.1 != (0 : Int)), ())) else (bif ((_y83.1.length : Int) == (0 : Int)) then (some ((_y83.2.1 != (0 : Int)), ())) else (joinD (fun (_s : (List (Int × Int)) × List Int × Int) => keep_PolarMeets_6 _N _s.1 _s.2.1 _s.2.2) fun _k92 => (loopE (fun (_c : (List (Int × Int)) × List Int × Int) (_s : Int) _kn => keep_PolarMeets_12 _N _k92 _c.1 _c.2.1 _c.2.2 _s _kn) _N (_y83.1, _x1.1, _x1.2) (0 : Int))))))
noncomputable def D_keep_PolarMeets (_N : Nat) (_x : Dens Ks_keep_PolarMeets) : Option Rt_keep_PolarMeets := keep_PolarMeets_13 _N _x.1
theorem sp_keep_PolarMeets (_N : Nat) : SpecD Tryd.prog Gs 3 Ks_keep_PolarMeets Rk_keep_PolarMeets (D_keep_PolarMeets _N) := mkSpD (fn := Tryd.f3) (c := bodyOf Tryd.f3) (C := C_keep_PolarMeets _N)
    (a := .two .none (.two .none (.two .none (.join 1 ⟨[(1, .ptr 0 0), (3, .sl (.pair (.int .u32) (.int .u32)))], [.cells [.sl (.int .u32), .int .i64]]⟩ (.two .none (.one (.loop 1 ⟨[(1, .ptr 0 0), (3, .sl (.pair (.int .u32) (.int .u32))), (5, .int .i64)], [.cells [.sl (.int .u32), .int .i64]]⟩ [1] (.two .none (.join 1 ⟨[(1, .ptr 0 0), (3, .sl (.pair (.int .u32) (.int .u32))), (5, .int .i64)], [.cells [.sl (.int .u32), .int .i64]]⟩ (.one (.two .none (.one (.loop 1 ⟨[(1, .ptr 0 0), (3, .sl (.pair (.int .u32) (.int .u32))), (5, .int .i64), (6, .int .i64)], [.cells [.sl (.int .u32), .int .i64]]⟩ [2] (.two .none (.join 1 ⟨[(1, .ptr 0 0), (3, .sl (.pair (.int .u32) (.int .u32))), (5, .int .i64), (6, .int .i64), (85, .bool), (86, .bool)], [.cells [.sl (.int .u32), .int .i64]]⟩ (.one (.two .none (.two .none (.join 1 ⟨[(1, .ptr 0 0), (3, .sl (.pair (.int .u32) (.int .u32))), (5, .int .i64), (6, .int .i64), (7, .bool), (8, .bool)], [.cells [.sl (.int .u32), .int .i64]]⟩ (.two .none (.one (.loop 1 ⟨[(1, .ptr 0 0), (3, .sl (.pair (.int .u32) (.int .u32))), (5, .int .i64), (6, .int .i64), (7, .bool), (8, .bool), (41, .sl (.pair (.int .u32) (.int .u32))), (42, .int .i64), (43, .int .i64)], [.cells [.sl (.int .u32), .int .i64]]⟩ [3, 4, 7] (.two .none (.two .none (.two (.one (.two .none (.two (.draw 0 [.pure, .pure, .pure, .rd [1], .pure, .pure, .pure, .pure, .pure, .pure, .pure, .pure, .pure, .pure, .pure, .pure, .pure, .pure]) (.draw 0 [.pure, .pure, .pure, .rd [1], .pure, .pure, .pure, .pure, .pure, .pure, .pure, .pure, .pure, .pure, .pure, .pure, .pure, .pure])))) .none)))))) .none)))) .none)))))) .none))))) (.two .none (.two .none (.join 3 ⟨[(3, .sl (.pair (.int .u32) (.int .u32))), (11, .ptr 1 0)], [.cells [.sl (.int .u32), .int .i64], .cells [.slc 2 0, .int .i64], .row false 0 29 (.int .u32)]⟩ (.two .none (.one (.objc 1 0 29 (.int .u32) (.loop 3 ⟨[(1, .ptr 0 0), (3, .sl (.pair (.int .u32) (.int .u32))), (11, .ptr 1 0), (12, .int .i64)], [.cells [.sl (.int .u32), .int .i64], .cells [.slc 2 0, .int .i64], .row false 0 29 (.int .u32)]⟩ [1, 5] (.two .none (.join 4 ⟨[(1, .ptr 0 0), (3, .sl (.pair (.int .u32) (.int .u32))), (11, .ptr 1 0), (12, .int .i64)], [.cells [.sl (.int .u32), .int .i64], .cells [.slc 2 0, .int .i64], .row false 0 29 (.int .u32), .row false 0 29 (.int .u32)]⟩ (.one (.two .none (.join 3 ⟨[(1, .ptr 0 0), (3, .sl (.pair (.int .u32) (.int .u32))), (11, .ptr 1 0), (12, .int .i64), (13, .int .u32)], [.cells [.sl (.int .u32), .int .i64], .cells [.slc 2 0, .int .i64], .row false 0 29 (.int .u32)]⟩ (.two .none (.one (.loop 3 ⟨[(1, .ptr 0 0), (3, .sl (.pair (.int .u32) (.int .u32))), (11, .ptr 1 0), (12, .int .i64), (13, .int .u32), (14, .int .i64)], [.cells [.sl (.int .u32), .int .i64], .cells [.slc 2 0, .int .i64], .row false 0 29 (.int .u32)]⟩ [2, 3] .none))) .none))) .none)))))) .none)))))))
    (by kernel_rfl) rfl (by kernel_rfl) (by kernel_rfl) ⟨rfl, by unfold TOk; kernel_rfl, gOk_of rfl rfl (List.forall_mem_cons.2 ⟨qen_polar_Concepts _N, (List.forall_mem_cons.2 ⟨en_ref_PolarCheck _N, (List.forall_mem_cons.2 ⟨en_polar_Concepts _N, (List.forall_mem_cons.2 ⟨en_ref_Bit _N, (List.forall_mem_nil _)⟩)⟩)⟩)⟩), iOk_of rfl rfl (List.forall_mem_nil _), rfl⟩ (fun _x => by kernel_rfl)
theorem en_keep_PolarMeets (_N : Nat) : EntOk Tryd.prog Gs (mkP 3 Ks_keep_PolarMeets Rk_keep_PolarMeets (D_keep_PolarMeets _N)) := entP ⟨Tryd.f3, bodyOf Tryd.f3, by kernel_rfl, by kernel_rfl, rfl⟩ (by kernel_rfl) (sp_keep_PolarMeets _N)
section
variable {rows : List Int} {n : Int}
theorem inter_cls (hw : WL rows) (hc : ctxOk rows n) {a b : Int} (ha : Cls rows.length (clf rows n) a) (hb : Cls rows.length (clf rows n) b) : Cls rows.length (clf rows n) (iand .u32 a b) := by
  have hcl := clf_clo hw hc
  have hbt := bt_iand ha.w hb.w
  have hlt : ∀ i, bt (iand .u32 a b) i = true → i < rows.length := fun i h => by rw [hbt, Bool.and_eq_true] at h; exact ha.lt i h.1
  have h1 : sbs (iand .u32 a b) a := fun i h => by rw [hbt, Bool.and_eq_true] at h; exact h.1
  have h2 : sbs (iand .u32 a b) b := fun i h => by rw [hbt, Bool.and_eq_true] at h; exact h.2
  refine ⟨W32.iand, hlt, bt_ext (hcl.w _) W32.iand fun i _ => Bool.eq_iff_iff.2 ⟨fun h => ?_, fun h => hcl.ext _ hlt i h⟩⟩
  have k1 := hcl.mono _ _ h1 i h
  have k2 := hcl.mono _ _ h2 i h
  rw [ha.eq] at k1
  rw [hb.eq] at k2
  rw [hbt, k1, k2]; rfl
theorem up_or (hw : WL rows) (hc : ctxOk rows n) {a b : Int} (ha : W32 a) (hb : W32 b) : upf rows n (ior .u32 a b) = iand .u32 (upf rows n a) (upf rows n b) := by
  refine bt_ext (upf_W hw _) W32.iand fun j _ => ?_
  rw [Bool.eq_iff_iff, bt_iand (upf_W hw _) (upf_W hw _), Bool.and_eq_true, bt_upf hw hc, bt_upf hw hc, bt_upf hw hc]
  refine ⟨fun ⟨h1, h2⟩ => ⟨⟨h1, fun i hi h => h2 i hi (by rw [bt_ior ha hb, h]; rfl)⟩, h1, fun i hi h => h2 i hi (by rw [bt_ior ha hb, h, Bool.or_true])⟩, fun ⟨⟨h1, h2⟩, _, h3⟩ => ⟨h1, fun i hi h => ?_⟩⟩
  rw [bt_ior ha hb, Bool.or_eq_true] at h
  exact h.elim (h2 i hi) (h3 i hi)
theorem Cps.cls {ws : List Int} {l : List (Int × Int)} (h : Cps rows n ws l) {p : Int × Int} (hp : p ∈ l) : Cls rows.length (clf rows n) p.1 ∧ p.2 = upf rows n p.1 := by
  obtain ⟨b, hb, rfl⟩ := (h.mem p).1 hp
  exact ⟨(h.all b).1 hb, rfl⟩
theorem Cps.has {ws : List Int} {l : List (Int × Int)} (h : Cps rows n ws l) {b : Int} (hb : Cls rows.length (clf rows n) b) : (b, upf rows n b) ∈ l := (h.mem _).2 ⟨b, (h.all b).2 hb, rfl⟩
theorem meets_rows (hw : WL rows) (hc : ctxOk rows n) {ws : List Int} {l : List (Int × Int)} (h : Cps rows n ws l) {p q : Int × Int} (hp : p ∈ l) (hq : q ∈ l) : ∃ x ∈ l, x.1 = iand .u32 p.1 q.1 :=
  ⟨_, h.has (inter_cls hw hc (h.cls hp).1 (h.cls hq).1), rfl⟩
theorem meets_cols (hw : WL rows) (hc : ctxOk rows n) {ws : List Int} {l : List (Int × Int)} (h : Cps rows n ws l) {p q : Int × Int} (hp : p ∈ l) (hq : q ∈ l) : ∃ x ∈ l, x.2 = iand .u32 p.2 q.2 := by
  obtain ⟨a1, a2⟩ := h.cls hp
  obtain ⟨b1, b2⟩ := h.cls hq
  have hlt : ∀ i, bt (ior .u32 p.1 q.1) i = true → i < rows.length := fun i h => by
    rw [bt_ior a1.w b1.w, Bool.or_eq_true] at h
    exact h.elim (a1.lt i) (b1.lt i)
  have hcl := clf_clo hw hc
  refine ⟨_, h.has (b := clf rows n (ior .u32 p.1 q.1)) ⟨hcl.w _, hcl.lt _, hcl.idem _ hlt⟩, ?_⟩
  show upf rows n (clf rows n (ior .u32 p.1 q.1)) = _
  rw [up_dn hw hc hlt, up_or hw hc a1.w b1.w, a2, b2]
/-! ### Turned round -/
theorem cols_ctx (hc : ctxOk rows n) : ctxOk (colsS rows n rows.length) (rows.length : Int) := by
  refine ⟨by rw [colsS_len]; have := hc.2.2.1; omega, by omega, by have := hc.1; omega, fun i hi j h => ?_⟩
  rw [colsS_len] at hi
  rw [Int.toNat_natCast]
  exact ((bt_cols hc hi j).1 h).1
theorem dn_turned (hw : WL rows) (hc : ctxOk rows n) {x : Int} (hx : ∀ i, bt x i = true → i < rows.length) : dnf (colsS rows n rows.length) (rows.length : Int) x = upf rows n x := by
  have hc' := cols_ctx hc
  refine bt_ext (dnf_W _) (upf_W hw _) fun j _ => ?_
  rw [Bool.eq_iff_iff, bt_dnf hc', bt_upf hw hc, colsS_len]
  refine and_congr_right fun hj => ⟨fun h i hi hb => ((bt_cols hc hj i).1 (h i hi hb).2).2, fun h i hi hb => ⟨by rw [Int.toNat_natCast]; exact hx i hb, (bt_cols hc hj i).2 ⟨hx i hb, h i hi hb⟩⟩⟩
theorem up_turned (y : Int) : upf (colsS rows n rows.length) (rows.length : Int) y = dnf rows n y := rfl
theorem cls_there (hw : WL rows) (hc : ctxOk rows n) {a : Int} (ha : Cls rows.length (clf rows n) a) : Cls (colsS rows n rows.length).length (clf (colsS rows n rows.length) (rows.length : Int)) (upf rows n a) := by
  refine ⟨upf_W hw _, fun j h => by rw [colsS_len]; exact ((bt_upf hw hc _ j).1 h).1, ?_⟩
  show dnf (colsS rows n rows.length) (rows.length : Int) (upf (colsS rows n rows.length) (rows.length : Int) (upf rows n a)) = _
  have e : dnf rows n (upf rows n a) = a := ha.eq
  rw [up_turned, e, dn_turned hw hc ha.lt]
theorem cls_back (hw : WL rows) (hc : ctxOk rows n) {b : Int} (hb : Cls (colsS rows n rows.length).length (clf (colsS rows n rows.length) (rows.length : Int)) b) : Cls rows.length (clf rows n) (dnf rows n b) ∧ upf rows n (dnf rows n b) = b := by
  have hlt : ∀ i, bt (dnf rows n b) i = true → i < rows.length := fun i h => ((bt_dnf hc _ i).1 h).1
  have e : upf rows n (dnf rows n b) = b := by
    rw [← dn_turned hw hc hlt, ← up_turned]
    exact hb.eq
  exact ⟨⟨dnf_W _, hlt, by show dnf rows n (upf rows n (dnf rows n b)) = _; rw [e]⟩, e⟩
theorem turned_le (hw : WL rows) (hc : ctxOk rows n) {ws vs : List Int} (hws : ∀ b, Cls rows.length (clf rows n) b → b ∈ ws) (hvn : vs.Nodup) (hv : ∀ b ∈ vs, Cls (colsS rows n rows.length).length (clf (colsS rows n rows.length) (rows.length : Int)) b) : vs.length ≤ ws.length := by
  have hn : (vs.map (dnf rows n)).Nodup := List.pairwise_map.2 (List.Pairwise.imp_of_mem (fun {x y} hx hy hne e => hne (by rw [← (cls_back hw hc (hv x hx)).2, e, (cls_back hw hc (hv y hy)).2])) hvn)
  have := hn.length_le_of_subset (l₂ := ws) fun x hx => by
    obtain ⟨b, hb, rfl⟩ := List.mem_map.1 hx
    exact hws _ (cls_back hw hc (hv b hb)).1
  rwa [List.length_map] at this
theorem there_le (hw : WL rows) (hc : ctxOk rows n) {ws vs : List Int} (hws : ∀ b, Cls (colsS rows n rows.length).length (clf (colsS rows n rows.length) (rows.length : Int)) b → b ∈ vs) (hwn : ws.Nodup) (hv : ∀ b ∈ ws, Cls rows.length (clf rows n) b) : ws.length ≤ vs.length := by
  have hn : (ws.map (upf rows n)).Nodup := List.pairwise_map.2 (List.Pairwise.imp_of_mem (fun {x y} hx hy hne e => hne (by
    have e1 : dnf rows n (upf rows n x) = x := (hv x hx).eq
    have e2 : dnf rows n (upf rows n y) = y := (hv y hy).eq
    rw [← e1, e, e2])) hwn)
  have := hn.length_le_of_subset (l₂ := vs) fun x hx => by
    obtain ⟨b, hb, rfl⟩ := List.mem_map.1 hx
    exact hws _ (cls_there hw hc (hv b hb))
  rwa [List.length_map] at this
end
theorem PCheck_eq {N : Nat} (hN : 1000 ≤ N) {rows : List Int} (hw : WL rows) {n : Int} (hc : ctxOk rows n) : D_ref_PolarCheck N ((rows, n), ()) = some (0, ()) := by
  have h16 := hc.1
  obtain ⟨k, rfl⟩ : ∃ k : Nat, n = (k : Int) := ⟨n.toNat, by have := hc.2.1; omega⟩
  have hk : k ≤ 16 := by have := hc.2.2.1; omega
  simp only [D_ref_PolarCheck, ref_PolarCheck_3, d_false (show ¬ (rows.length : Int) > 16 by omega), d_false (show ¬ (k : Int) < 0 by omega), d_false (show ¬ (k : Int) > 16 by omega), cond_false, joinD, loopE]
  refine loopD_pass (n := rows.length) (by omega) (fun i hi kn => ?_) (fun kn => by simp only [ref_PolarCheck_2, lt_self, cond_false, ref_PolarCheck_1]) (by omega)
  obtain ⟨b, e1, e2⟩ := Outside_eq (N := N) (by omega) (hw.nth i) (show k ≤ 32 by omega)
  have hb : b = false := Bool.eq_false_iff.2 fun h => by
    obtain ⟨j, h1, h2⟩ := e2.1 h
    have := hc.2.2.2 i hi j h2
    omega
  subst hb
  simp only [ref_PolarCheck_2, lt_d hi, ge0_d, Bool.and_self, cond_true, Int.toNat_natCast, e1, Option.bind_some, cond_false, backE_eq, w1 h16 hi]
theorem any_step {α : Type} {l : List α} {j : Nat} (hj : j < l.length) (f : α → Bool) : (l.take (j + 1)).any f = ((l.take j).any f || f l[j]) := by
  rw [List.take_succ_eq_append_getElem hj, List.any_append]; simp
theorem polar_meets {N : Nat} (hN : 1000 ≤ N) {rows : List Int} (hw : WL rows) {n : Int} (hc : ctxOk rows n) : D_keep_PolarMeets N ((rows, n), ()) = some (true, ()) := by
  have h16 := hc.1
  simp only [D_keep_PolarMeets, keep_PolarMeets_13]
  rcases concepts_eq hN hw hc with ⟨_, _, _, _, e⟩ | ⟨ws, l, hl, e⟩
  · rw [e]; rfl
  have hpos : 0 < l.length := List.length_pos_of_mem (hl.has (first_cls (clf_clo hw hc)).1)
  have hl256 : l.length ≤ 256 := by rw [hl.len]; exact hl.few
  simp only [e, Option.bind_some, bne_self_eq_false, cond_false]
  rw [show ((l.length : Int) == 0) = false from beq_false_of_ne (by omega), cond_false]
  simp only [joinD, loopE]
  have ixl : ∀ {i}, i < l.length → IntKind.i64.wrap ((i : Int) + 1) = (i : Int) + 1 := fun {i} hi => w64 (by omega) (by omega)
  -- the last part
  have hfin : keep_PolarMeets_6 N l rows n = some (true, ()) := by
    simp only [keep_PolarMeets_6, PCheck_eq hN hw hc, Option.bind_some, bne_self_eq_false, cond_false, joinD, loopE]
    obtain ⟨k, rfl⟩ : ∃ k : Nat, n = (k : Int) := ⟨n.toNat, by have := hc.2.1; omega⟩
    have hk : k ≤ 16 := by have := hc.2.2.1; omega
    have hlast : keep_PolarMeets_1 N l (rows.length : Int) (colsS rows (k : Int) rows.length) = some (true, ()) := by
      have hc' := cols_ctx hc
      have hw' := WL.colsS rows (k : Int) rows.length
      simp only [keep_PolarMeets_1]
      rcases concepts_eq hN hw' hc' with ⟨vs, v1, v2, v3, _⟩ | ⟨vs, m, hm, em⟩
      · have := turned_le hw hc (ws := ws) (fun b hb => (hl.all b).2 hb) v1 v2
        have := hl.few
        omega
      · rw [em]
        simp only [Option.bind_some, beq_self_eq_true, cond_true]
        have h1 := turned_le hw hc (ws := ws) (fun b hb => (hl.all b).2 hb) hm.nd fun b hb => (hm.all b).1 hb
        have h2 := there_le hw hc (vs := vs) (fun b hb => (hm.all b).2 hb) hl.nd fun b hb => (hl.all b).1 hb
        rw [show ((m.length : Int) == (l.length : Int)) = true from beq_iff_eq.2 (by rw [hm.len, hl.len]; omega)]
    refine (loopD_path (N := N) k (fun j => ((j : Int), (colsS rows (k : Int) rows.length).take j)) (fun j hj kn => ?_) (fun kn => ?_) (by omega))
    · simp only [keep_PolarMeets_5, lt_d hj, cond_true, joinD, loopE]
      have hcl : (colsS rows (k : Int) rows.length).length = k := by rw [colsS_len]; simp
      have hnx : (colsS rows (k : Int) rows.length).take (j + 1) = (colsS rows (k : Int) rows.length).take j ++ [mkw rows.length fun i => bt (nth 0 rows i) j] := by
        rw [List.take_succ_eq_append_getElem (by omega), ← nth_lt (z := 0) (by omega), nth_cols (by simpa using hj)]
      refine (loopD_path (N := N) rows.length (fun i => (mkw i (fun i => bt (nth 0 rows i) j), (i : Int))) (k := kn (((j + 1 : Nat) : Int), (colsS rows (k : Int) rows.length).take (j + 1))) (fun i hi kn2 => ?_) (fun kn2 => ?_) (by omega))
      · simp only [keep_PolarMeets_4, lt_d hi, ge0_d, Bool.and_self, cond_true, Int.toNat_natCast, Bit_eq N (hw.nth i) (show j < 4611686018427387904 by omega), Option.bind_some, backE_eq, w1 h16 hi]
        rw [mkw_succ]
        have e : IntKind.u64.wrap (i : Int) = (i : Int) := by rw [IntKind.wrap_u64]; omega
        cases q : bt (nth 0 rows i) j with
        | true =>
          rw [cond_true, e, d_false (show ¬ (i : Int) < 0 by omega), cond_false]
          rfl
        | false =>
          rw [cond_false]
          rfl
      · simp only [keep_PolarMeets_4, lt_self, cond_false]
        simp only [keep_PolarMeets_3]
        rw [d_true (by simp only [List.length_singleton, List.length_take]; omega), show Nat.ble 1 4 = true from rfl, Bool.and_self, cond_true, hnx]
        simp only [keep_PolarMeets_2, backE_eq, w1 hk hj]
        rfl
    · simp only [keep_PolarMeets_5, lt_self, cond_false]
      rw [List.take_of_length_le (by rw [colsS_len]; simp)]
      exact hlast
  refine loopD_pass (n := l.length) (by omega) (fun i hi kn => ?_) (fun kn => by simp only [keep_PolarMeets_12, lt_self, cond_false]; exact hfin) (by omega)
  simp only [keep_PolarMeets_12, lt_d hi, cond_true, joinD, loopE]
  refine loopD_pass (n := i) (by omega) (fun j hj kn2 => ?_) (fun kn2 => by simp only [keep_PolarMeets_11, lt_self, cond_false, keep_PolarMeets_7, backE_eq, ixl hi]) (by omega)
  have hjl : j < l.length := by omega
  simp only [keep_PolarMeets_11, lt_d hj, cond_true, joinD, loopE]
  have hi' : nth ((0 : Int), (0 : Int)) l i = l[i] := nth_lt hi
  have hj' : nth ((0 : Int), (0 : Int)) l j = l[j] := nth_lt hjl
  refine (loopD_path (N := N) l.length (fun t => ((l.take t).any (fun x => x.1 == iand .u32 (l[i]).1 (l[j]).1), (l.take t).any (fun x => x.2 == iand .u32 (l[i]).2 (l[j]).2), (t : Int))) (k := kn2 ((j : Int) + 1)) (fun t ht kn3 => ?_) (fun kn3 => ?_) (by omega))
  · have ht' : nth ((0 : Int), (0 : Int)) l t = l[t] := nth_lt ht
    rw [any_step ht, any_step ht]
    simp only [keep_PolarMeets_10, lt_d ht, lt_d hi, lt_d hjl, ge0_d, Bool.and_self, cond_true, Int.toNat_natCast, hi', hj', ht', backE_eq, ixl ht]
    cases (l.take t).any (fun x => x.1 == iand .u32 (l[i]).1 (l[j]).1) <;> cases (l.take t).any (fun x => x.2 == iand .u32 (l[i]).2 (l[j]).2) <;> rfl
  · simp only [keep_PolarMeets_10, lt_self, cond_false, List.take_length]
    obtain ⟨x, hx, ex⟩ := meets_rows hw hc hl (List.getElem_mem hi) (List.getElem_mem hjl)
    obtain ⟨y, hy, ey⟩ := meets_cols hw hc hl (List.getElem_mem hi) (List.getElem_mem hjl)
    have h1 : l.any (fun x => x.1 == iand .u32 (l[i]).1 (l[j]).1) = true := List.any_eq_true.2 ⟨x, hx, beq_iff_eq.2 ex⟩
    have h2 : l.any (fun x => x.2 == iand .u32 (l[i]).2 (l[j]).2) = true := List.any_eq_true.2 ⟨y, hy, beq_iff_eq.2 ey⟩
    rw [h1, h2]
    simp only [keep_PolarMeets_9, Bool.not_true, cond_false, keep_PolarMeets_8, backE_eq, ixl hjl]
theorem law_PolarMeets (c : List Int × Int) (hc : wfS (.pair (.sl (.int .u32)) (.int .i64)) c) : ∃ N, D_keep_PolarMeets N (c, ()) = some (true, ()) := by
  obtain ⟨rows, n⟩ := c
  have hw : WL rows := WL_of hc.1
  refine ⟨1000 + rows.length, ?_⟩
  by_cases h : ctxOk rows n
  · exact polar_meets (by omega) hw h
  · obtain ⟨e, he, hne⟩ := openS_neg h
    simp only [D_keep_PolarMeets, keep_PolarMeets_13, D_polar_Concepts, polar_Concepts_3, open_eq hw n (show rows.length < 1000 + rows.length by omega), he, Option.bind_some, bne_iff_ne.2 hne, cond_true]
set_option maxRecDepth 100000 in
theorem lifted_PolarMeets (os : Os) (started : os.Started) (H : Type) (enc : TypeId × Value → H) :
    ReturnsInHanded {} Tryd.checked os 3 .any (fun w args => (Rows.polarMeetsSpec.pre enc Tryd.prog Tryd.f3 [] false w args ∧ laidMetH Tryd.prog Rows.polarMeetsRow.laid w) ∧ sizedMet enc Tryd.prog Tryd.f3 (OpenSpec.ofChange Rows.polarMeetsSpec) false w args) (Rows.polarMeetsSpec.post enc Tryd.prog Tryd.f3 false true false false) := by
  refine returnsInHanded_of_change_and (C := Tryd.checked) (X := fun w _ => laidMetH Tryd.prog Rows.polarMeetsRow.laid w) (fun _ _ _ hh h => h.of_heap hh) own started (by kernel_rfl) Tryd.func3
    (ChangeSpec.witness_shaped (enc := enc) (C := Tryd.checked) (os := os) (X := fun w _ => laidMetH Tryd.prog Rows.polarMeetsRow.laid w) false (World.doorLaid Tryd.prog 400 os) #[.agg #[.slice none 0 0, .int .i64 0]] 8 rfl (World.shaped_of_RefB (by kernel_rfl) (by kernel_rfl)) (by kernel_rfl) (by kernel_rfl) (by kernel_rfl) (door_met os _)) ?_
  intro W base args ds gs before hval0 hW _ hsz0 hL _
  have hgw : GW Gs W := gw_of hL
  have hval : ∀ (j : Nat) t v, Tryd.f3.params[j]? = some t → args[j]? = some v → Value.okWide Tryd.prog W .any base t v := hval0
  have hW' := hW
  obtain ⟨p, q, hA0, hV, rfl, _, _⟩ := hW
  have hA : DataW.TrodAll enc Tryd.prog W 0 (fun _ => true) true Tryd.f3.params.toList args.toList ds p := hA0
  rw [Tryd.params3] at hA hval
  obtain ⟨v0, vs0, d0, ds0, p0, q0, hargs, rfl, rfl, h0, r0⟩ := trodAll_cons hA
  obtain ⟨rfl, rfl, rfl⟩ := trodAll_nil r0
  obtain rfl : args = #[v0] := by cases args; simp_all
  obtain ⟨rfl, rfl⟩ := trodVars_none hV
  have hall := List.all_eq_true.1 hsz0
  clear hA0 hval0 hsz0
  simp only [List.append_nil] at hW'
  have hlt0 : ∀ x ∈ p0, x.block < W.heap.size := fun x hx => hW'.lt x (by simp [hx])
  obtain ⟨x0, g0, w0⟩ := open_kd (k := .dat (.pair (.sl (.int .u32)) (.int .i64))) (by kernel_rfl) (hval 0 24 v0 rfl rfl) h0
  obtain ⟨N, hN⟩ := law_PolarMeets x0 w0
  refine (sp_keep_PolarMeets N (fun _ => False) W (x0, ()) (true, ()) [v0] (fun _ h => h.elim) hgw ⟨v0, _, rfl, g0, rfl⟩ hN).mono ?_
  rintro e W' ⟨v, rfl, hg, hr⟩
  replace hg := hg.old
  have hr : v = .bool true := by simpa only [kvals, retV, Kd.val, Go.Abs.enc, RV] using hr
  subst hr
  exact ⟨_, rfl, _, _, _, [], p0 ++ [], [], hW', (trodAll_cons_mk (shut_bool (show Tryd.prog.underlying 4 = some .bool by kernel_rfl) _) trodAll_mk0), (trodAll_cons_mk (Below.trod laidOut (by kernel_rfl) (of_decide_eq_true (by kernel_rfl)) h0 hg hlt0) trodAll_mk0), rfl, hg.frame _, fun h => by cases h⟩

/-- The statement: whatever the arguments, the law's function returns true and leaves them as they were. -/
theorem polarMeets_holds : Rows.PolarMeetsSaid :=
  OpenClaim.holds_of_wide 3 Tryd.f3 rfl rfl rfl rfl rfl rfl rfl ⟨rfl, rfl, rfl, rfl, rfl⟩ rfl rfl rfl rfl rfl (by kernel_rfl) Tryd.func3 (by kernel_rfl)
    (of_decide_eq_true (by kernel_rfl)) (by unfold Func.isWrapper; first | (rw [if_pos (by decide +kernel)]; kernel_rfl) | (rw [if_neg (by decide +kernel)]; exact ⟨rfl, rfl⟩))
    (fun os started H enc _ => lifted_PolarMeets os started H enc)
/-- The statement's card: the variable that the road reads is tied to the program's text. -/
theorem polarMeets_card : Rows.PolarMeetsCardSaid :=
  Claim7.holds_tied_plain_at .later [] [.data] true (true, "eebcbe0f3c8be3f0a6d70c5c4bf7b8bb5613e0469acd865ab9a669de598ee326") false polarMeets_holds (fun _ h => by cases h) (by kernel_rfl) (fun _ h => by cases h) polarMeets_row_tie rfl ⟨rfl, rfl⟩ (by kernel_rfl) rfl
    (fun f fn hf hfn => by
      obtain rfl : f = 3 := Option.some.inj ((show Tryd.prog.funcNamed "watershed/watershedkeep.PolarMeets" = some 3 by kernel_rfl).symm.trans hf) |>.symm
      obtain rfl : fn = Tryd.f3 := (Option.some.inj (Tryd.func3.symm.trans hfn)).symm
      exact ⟨by kernel_rfl, fun j t ht => by
        have h3 := List.all_eq_true.1 (show (Tryd.f3.params.toList.all fun t => !(Tryd.prog.wantsStandIn t)) = true by kernel_rfl) t (by rw [← Array.getElem?_toList] at ht; exact List.mem_of_getElem? ht)
        have h4 : Tryd.prog.wantsStandIn t = false := by simpa using h3
        exact h4⟩)
    (by kernel_rfl)
end Go.Proofs.YtkijpiphgnnonaaDoor
