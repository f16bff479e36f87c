/- Dilworth's theorem: the law answers true for every order and every set. No condition. -/
import Derived.Test.YtgnhcmdmlcjpkaaDoorDilT
import Derived.Test.YtgnhcmdmlcjpkaaDoorLooseS
import Derived.Test.YtgnhcmdmlcjpkaaDoorFrame
namespace Go.Proofs.YtgnhcmdmlcjpkaaDoor
open Go Go.ChangeShapes Go.WideShapes Go.ChangeAt Go.WideMaps Go.WideElems Go.RowKit Go.Abs
-- watershed/watershedkeep.chained
abbrev Ks_keep_chained : List Kd := [.dat (.pair (.int .i64) (.sl (.int .u32))), .dat (.sl (.int .i64))]
abbrev Rk_keep_chained : List Kd := [.dat (.bool)]
abbrev Rt_keep_chained : Type := Dens Rk_keep_chained
noncomputable def C_keep_chained (_N : Nat) : Ctx := { T := [(3, ⟨.int .i64, 1, 8, some (.int .i64), [.int .i64 (0 : Int)], false, []⟩), (24, ⟨.struct [(0, 3), (1, 22)], 2, 32, some (.pair (.int .i64) (.sl (.int .u32))), [.int .i64 (0 : Int), .nil], false, []⟩), (29, ⟨.slice 3, 1, 24, some (.sl (.int .i64)), [.nil], false, []⟩)], G := findE [mkP 15 Ks_keep_within Rk_keep_within (D_keep_within _N), mkP 57 Ks_keep_under Rk_keep_under (D_keep_under _N)], I := findI [], N := _N, n := 29, fx := [], fl := 0, gs := Gs }
noncomputable def keep_chained_1 (_N : Nat) : Option Rt_keep_chained :=
  (some (true, ()))
noncomputable def keep_chained_2 (_N : Nat) (_k11 : (Int × List Int) → Option Rt_keep_chained) (_v2 : List Int) (_v4 : Int) (_v5 : List Int) (_v3 : Int) (_kn12 : (List Int × Int × List Int) × Int → Option Rt_keep_chained) : Option Rt_keep_chained :=
  (bif (decide (_v3 < (_v2.length : Int))) then (bif (decide (0 ≤ (IntKind.i64.wrap (_v3 - (1 : Int)))) && decide ((IntKind.i64.wrap (_v3 - (1 : Int))) < (_v2.length : Int))) then (bif (decide (0 ≤ _v3) && decide (_v3 < (_v2.length : Int))) then ((D_keep_under _N ((_v4, _v5), (nth (0 : Int) _v2 (IntKind.i64.wrap (_v3 - (1 : Int))).toNat), (nth (0 : Int) _v2 (_v3).toNat), ())).bind fun _y13 => (bif (!_y13.1) then (some (false, ())) else (_kn12 ((_v2, _v4, _v5), (IntKind.i64.wrap (_v3 + (1 : Int))))))) else none) else none) else (_k11 (_v4, _v5)))
noncomputable def keep_chained_3 (_N : Nat) (_x1 : Int × List Int) (_x2 : List Int) : Option Rt_keep_chained :=
  ((D_keep_within _N (_x1.1, _x2, ())).bind fun _y10 => (bif (!_y10.1) then (some (false, ())) else (joinD (fun (_s : Int × List Int) => keep_chained_1 _N) fun _k11 => (loopE (fun (_c : List Int × Int × List Int) (_s : Int) _kn => keep_chained_2 _N _k11 _c.1 _c.2.1 _c.2.2 _s _kn) _N (_x2, _x1.1, _x1.2) (1 : Int)))))
noncomputable def D_keep_chained (_N : Nat) (_x : Dens Ks_keep_chained) : Option Rt_keep_chained := keep_chained_3 _N _x.1 _x.2.1
theorem sp_keep_chained (_N : Nat) : SpecD Tryd.prog Gs 29 Ks_keep_chained Rk_keep_chained (D_keep_chained _N) := mkSpD (fn := Tryd.f29) (c := bodyOf Tryd.f29) (C := C_keep_chained _N)
    (a := .two .none (.two .none (.join 1 ⟨[], [.cells [.int .i64, .sl (.int .u32)]]⟩ (.two .none (.one (.loop 1 ⟨[(1, .sl (.int .i64)), (2, .ptr 0 0), (5, .int .i64)], [.cells [.int .i64, .sl (.int .u32)]]⟩ [1] (.two .none (.two (.one (.two (.draw 0 [.rd [0], .pure, .pure, .pure, .pure, .pure, .pure, .pure, .pure, .pure, .pure, .pure]) .none)) .none))))) .none)))
    (by kernel_rfl) rfl (by kernel_rfl) (by kernel_rfl) ⟨rfl, by unfold TOk; kernel_rfl, gOk_of rfl rfl (List.forall_mem_cons.2 ⟨en_keep_within _N, (List.forall_mem_cons.2 ⟨en_keep_under _N, (List.forall_mem_nil _)⟩)⟩), iOk_of rfl rfl (List.forall_mem_nil _), rfl⟩ (fun _x => by kernel_rfl)
theorem en_keep_chained (_N : Nat) : EntOk Tryd.prog Gs (mkP 29 Ks_keep_chained Rk_keep_chained (D_keep_chained _N)) := entP ⟨Tryd.f29, bodyOf Tryd.f29, by kernel_rfl, by kernel_rfl, rfl⟩ (by kernel_rfl) (sp_keep_chained _N)
-- watershed/watershedkeep.OrderDilworth
abbrev Ks_keep_OrderDilworth : List Kd := [.dat (.pair (.int .i64) (.sl (.int .u32))), .dat (.int .u32)]
abbrev Rk_keep_OrderDilworth : List Kd := [.dat (.bool)]
abbrev Rt_keep_OrderDilworth : Type := Dens Rk_keep_OrderDilworth
noncomputable def C_keep_OrderDilworth (_N : Nat) : Ctx := { T := [(3, ⟨.int .i64, 1, 8, some (.int .i64), [.int .i64 (0 : Int)], false, []⟩), (24, ⟨.struct [(0, 3), (1, 22)], 2, 32, some (.pair (.int .i64) (.sl (.int .u32))), [.int .i64 (0 : Int), .nil], false, []⟩), (29, ⟨.slice 3, 1, 24, some (.sl (.int .i64)), [.nil], false, []⟩), (76, ⟨.slice 29, 1, 24, some (.sl (.sl (.int .i64))), [.nil], false, []⟩), (78, ⟨.struct [(0, 29), (1, 76)], 2, 48, some (.pair (.sl (.int .i64)) (.sl (.sl (.int .i64)))), [.nil, .nil], false, []⟩), (82, ⟨.int .u64, 1, 8, some (.int .u64), [.int .u64 (0 : Int)], false, []⟩)], G := findE [mkP 23 Ks_keep_sound Rk_keep_sound (D_keep_sound _N), mkP 26 Ks_keep_refused Rk_keep_refused (D_keep_refused _N), mkQ 27 Ks_order_Split Rk_order_Split (D_order_Split _N), mkP 28 Ks_order_Check Rk_order_Check (D_order_Check _N), mkP 15 Ks_keep_within Rk_keep_within (D_keep_within _N), mkP 30 Ks_keep_loose Rk_keep_loose (D_keep_loose _N), mkP 31 Ks_keep_size Rk_keep_size (D_keep_size _N), mkP 32 Ks_ref_Outside Rk_ref_Outside (D_ref_Outside _N), mkP 29 Ks_keep_chained Rk_keep_chained (D_keep_chained _N)], I := findI [], N := _N, n := 146, fx := [], fl := 0, gs := Gs }
noncomputable def keep_OrderDilworth_1 (_N : Nat) (_v59 : Int) (_v60 : Int) (_v61 : Int) (_v62 : Int) (_v63 : Int) (_v64 : List Int) (_v65 : List Int) : Option Rt_keep_OrderDilworth :=
  ((D_keep_loose _N ((_v63, _v64), _v60, ())).bind fun _y77 => (bif (!_y77.1) then (some (false, ())) else (bif (_v62 != _v63) then (some (false, ())) else ((D_keep_size _N (_v61, ())).bind fun _y78 => (bif (_y78.1 != _v63) then (some (false, ())) else ((D_ref_Outside _N (_v59, _v63, ())).bind fun _y79 => (bif _y79.1 then (some (true, ())) else ((D_keep_loose _N ((_v63, _v64), _v59, ())).bind fun _y80 => (bif (!_y80.1) then (some (true, ())) else ((D_keep_size _N (_v59, ())).bind fun _y81 => (some ((decide (_y81.1 ≤ (_v65.length : Int))), ()))))))))))))
noncomputable def keep_OrderDilworth_2 (_N : Nat) (_kn83 : (Int × Int × List (List Int) × Int × Int × List Int × List Int × List (List Int)) × (Int × Int × Int) → Option Rt_keep_OrderDilworth) (_v47 : Int) (_v48 : Int) (_v49 : Int) (_v50 : Int) (_v51 : List (List Int)) (_v52 : Int) (_v53 : Int) (_v54 : Int) (_v55 : List Int) (_v56 : List Int) (_v57 : List (List Int)) : Option Rt_keep_OrderDilworth :=
  (_kn83 ((_v47, _v48, _v51, _v52, _v54, _v55, _v56, _v57), (_v49, _v50, (IntKind.i64.wrap (_v53 + (1 : Int))))))
noncomputable def keep_OrderDilworth_3 (_N : Nat) (_k84 : (Int × Int × Int × Int × List (List Int) × Int × Int × Int × List Int × List Int × List (List Int)) → Option Rt_keep_OrderDilworth) (_v33 : Int) (_v34 : Int) (_v37 : List (List Int)) (_v38 : Int) (_v39 : Int) (_v40 : List Int) (_v41 : Int) (_v43 : Int) (_v44 : List Int) (_v45 : List Int) (_v46 : List (List Int)) (_v35 : Int) (_v36 : Int) (_v42 : Int) (_kn86 : (Int × Int × List (List Int) × Int × Int × List Int × Int × Int × List Int × List Int × List (List Int)) × (Int × Int × Int) → Option Rt_keep_OrderDilworth) : Option Rt_keep_OrderDilworth :=
  (bif (decide (_v42 < _v41)) then (bif (decide (0 ≤ _v42) && decide (_v42 < (_v40.length : Int))) then (bif (decide ((IntKind.u64.wrap (nth (0 : Int) _v40 (_v42).toNat)) < 0)) then none else (_kn86 ((_v33, _v34, _v37, _v38, _v39, _v40, _v41, _v43, _v44, _v45, _v46), ((ior .u32 _v35 (ishl .u32 (1 : Int) (IntKind.u64.wrap (nth (0 : Int) _v40 (_v42).toNat)))), (IntKind.i64.wrap (_v36 + (1 : Int))), (IntKind.i64.wrap (_v42 + (1 : Int))))))) else none) else (_k84 (_v33, _v34, _v35, _v36, _v37, _v38, _v39, _v43, _v44, _v45, _v46)))
noncomputable def keep_OrderDilworth_4 (_N : Nat) (_k82 : (Int × Int × Int × Int × Int × List Int × List Int × List (List Int)) → Option Rt_keep_OrderDilworth) (_v21 : Int) (_v22 : Int) (_v25 : List (List Int)) (_v26 : Int) (_v28 : Int) (_v29 : List Int) (_v30 : List Int) (_v31 : List (List Int)) (_v23 : Int) (_v24 : Int) (_v27 : Int) (_kn83 : (Int × Int × List (List Int) × Int × Int × List Int × List Int × List (List Int)) × (Int × Int × Int) → Option Rt_keep_OrderDilworth) : Option Rt_keep_OrderDilworth :=
  (bif (decide (_v27 < _v26)) then (joinD (fun (_s : Int × Int × Int × Int × List (List Int) × Int × Int × Int × List Int × List Int × List (List Int)) => keep_OrderDilworth_2 _N _kn83 _s.1 _s.2.1 _s.2.2.1 _s.2.2.2.1 _s.2.2.2.2.1 _s.2.2.2.2.2.1 _s.2.2.2.2.2.2.1 _s.2.2.2.2.2.2.2.1 _s.2.2.2.2.2.2.2.2.1 _s.2.2.2.2.2.2.2.2.2.1 _s.2.2.2.2.2.2.2.2.2.2) fun _k84 => (bif (decide (0 ≤ _v27) && decide (_v27 < (_v25.length : Int))) then ((D_keep_chained _N ((_v28, _v29), (nth ([]) _v25 (_v27).toNat), ())).bind fun _y85 => (bif (!_y85.1) then (some (false, ())) else (loopE (fun (_c : Int × Int × List (List Int) × Int × Int × List Int × Int × Int × List Int × List Int × List (List Int)) (_s : Int × Int × Int) _kn => keep_OrderDilworth_3 _N _k84 _c.1 _c.2.1 _c.2.2.1 _c.2.2.2.1 _c.2.2.2.2.1 _c.2.2.2.2.2.1 _c.2.2.2.2.2.2.1 _c.2.2.2.2.2.2.2.1 _c.2.2.2.2.2.2.2.2.1 _c.2.2.2.2.2.2.2.2.2.1 _c.2.2.2.2.2.2.2.2.2.2 _s.1 _s.2.1 _s.2.2 _kn) _N (_v21, _v22, _v25, _v26, _v27, (nth ([]) _v25 (_v27).toNat), ((nth ([]) _v25 (_v27).toNat).length : Int), _v28, _v29, _v30, _v31) (_v23, _v24, (0 : Int))))) else none)) else (_k82 (_v21, _v22, _v23, _v24, _v28, _v29, _v30, _v31)))
noncomputable def keep_OrderDilworth_5 (_N : Nat) (_v15 : Int) (_v16 : Int) (_v17 : Int) (_v18 : List Int) (_v19 : List Int) (_v20 : List (List Int)) : Option Rt_keep_OrderDilworth :=
  (joinD (fun (_s : Int × Int × Int × Int × Int × List Int × List Int × List (List Int)) => keep_OrderDilworth_1 _N _s.1 _s.2.1 _s.2.2.1 _s.2.2.2.1 _s.2.2.2.2.1 _s.2.2.2.2.2.1 _s.2.2.2.2.2.2.1) fun _k82 => (loopE (fun (_c : Int × Int × List (List Int) × Int × Int × List Int × List Int × List (List Int)) (_s : Int × Int × Int) _kn => keep_OrderDilworth_4 _N _k82 _c.1 _c.2.1 _c.2.2.1 _c.2.2.2.1 _c.2.2.2.2.1 _c.2.2.2.2.2.1 _c.2.2.2.2.2.2.1 _c.2.2.2.2.2.2.2 _s.1 _s.2.1 _s.2.2 _kn) _N (_v15, _v16, _v20, (_v20.length : Int), _v17, _v18, _v19, _v20) ((0 : Int), (0 : Int), (0 : Int))))
noncomputable def keep_OrderDilworth_6 (_N : Nat) (_k87 : (Int × Int × Int × List Int × List Int × List (List Int)) → Option Rt_keep_OrderDilworth) (_v6 : Int) (_v8 : List Int) (_v9 : Int) (_v11 : Int) (_v12 : List Int) (_v13 : List Int) (_v14 : List (List Int)) (_v7 : Int) (_v10 : Int) (_kn88 : (Int × List Int × Int × Int × List Int × List Int × List (List Int)) × (Int × Int) → Option Rt_keep_OrderDilworth) : Option Rt_keep_OrderDilworth :=
  (bif (decide (_v10 < _v9)) then (bif (decide (0 ≤ _v10) && decide (_v10 < (_v8.length : Int))) then (bif (decide (_v10 > (0 : Int))) then (bif (decide (0 ≤ (IntKind.i64.wrap (_v10 - (1 : Int)))) && decide ((IntKind.i64.wrap (_v10 - (1 : Int))) < (_v13.length : Int))) then (bif (decide ((nth (0 : Int) _v13 (IntKind.i64.wrap (_v10 - (1 : Int))).toNat) ≥ (nth (0 : Int) _v8 (_v10).toNat))) then (some (false, ())) else (bif (decide ((IntKind.u64.wrap (nth (0 : Int) _v8 (_v10).toNat)) < 0)) then none else (_kn88 ((_v6, _v8, _v9, _v11, _v12, _v13, _v14), ((ior .u32 _v7 (ishl .u32 (1 : Int) (IntKind.u64.wrap (nth (0 : Int) _v8 (_v10).toNat)))), (IntKind.i64.wrap (_v10 + (1 : Int)))))))) else none) else (bif (decide ((IntKind.u64.wrap (nth (0 : Int) _v8 (_v10).toNat)) < 0)) then none else (_kn88 ((_v6, _v8, _v9, _v11, _v12, _v13, _v14), ((ior .u32 _v7 (ishl .u32 (1 : Int) (IntKind.u64.wrap (nth (0 : Int) _v8 (_v10).toNat)))), (IntKind.i64.wrap (_v10 + (1 : Int)))))))) else none) else (_k87 (_v6, _v7, _v11, _v12, _v13, _v14)))
noncomputable def keep_OrderDilworth_7 (_N : Nat) (_x1 : Int × List Int) (_x2 : Int) : Option Rt_keep_OrderDilworth :=
  ((D_keep_sound _N ((_x1.1, _x1.2), ())).bind fun _y72 => (bif (!_y72.1) then ((D_keep_refused _N ((_x1.1, _x1.2), ())).bind fun _y73 => (some (_y73.1, ()))) else ((D_order_Split _N ((_x1.1, _x1.2), ())).bind fun _y74 => (bif (_y74.2.1 != (0 : Int)) then ((D_order_Check _N ((_x1.1, _x1.2), ())).bind fun _y75 => (bif (_y75.1 == _y74.2.1) then (bif ((_y74.1.1.length : Int) == (0 : Int)) then (some (((_y74.1.2.length : Int) == (0 : Int)), ())) else (some (false, ()))) else (some (false, ())))) else (bif ((_y74.1.1.length : Int) != (_y74.1.2.length : Int)) then (some (false, ())) else ((D_keep_within _N (_x1.1, _y74.1.1, ())).bind fun _y76 => (bif (!_y76.1) then (some (false, ())) else (joinD (fun (_s : Int × Int × Int × List Int × List Int × List (List Int)) => keep_OrderDilworth_5 _N _s.1 _s.2.1 _s.2.2.1 _s.2.2.2.1 _s.2.2.2.2.1 _s.2.2.2.2.2) fun _k87 => (loopE (fun (_c : Int × List Int × Int × Int × List Int × List Int × List (List Int)) (_s : Int × Int) _kn => keep_OrderDilworth_6 _N _k87 _c.1 _c.2.1 _c.2.2.1 _c.2.2.2.1 _c.2.2.2.2.1 _c.2.2.2.2.2.1 _c.2.2.2.2.2.2 _s.1 _s.2 _kn) _N (_x2, _y74.1.1, (_y74.1.1.length : Int), _x1.1, _x1.2, _y74.1.1, _y74.1.2) ((0 : Int), (0 : Int)))))))))))
noncomputable def D_keep_OrderDilworth (_N : Nat) (_x : Dens Ks_keep_OrderDilworth) : Option Rt_keep_OrderDilworth := keep_OrderDilworth_7 _N _x.1 _x.2.1
theorem sp_keep_OrderDilworth (_N : Nat) : SpecD Tryd.prog Gs 10 Ks_keep_OrderDilworth Rk_keep_OrderDilworth (D_keep_OrderDilworth _N) := mkSpD (fn := Tryd.f10) (c := bodyOf Tryd.f10) (C := C_keep_OrderDilworth _N)
    (a := .two .none (.two .none (.two .none (.two .none (.two .none (.two .none (.join 2 ⟨[(1, .int .u32), (2, .ptr 0 0), (5, .ptr 1 0), (7, .int .u32)], [.cells [.int .i64, .sl (.int .u32)], .cells [.sl (.int .i64), .sl (.sl (.int .i64))]]⟩ (.two .none (.one (.loop 2 ⟨[(1, .int .u32), (2, .ptr 0 0), (5, .ptr 1 0), (7, .int .u32), (60, .sl (.int .i64)), (61, .int .i64), (62, .int .i64)], [.cells [.int .i64, .sl (.int .u32)], .cells [.sl (.int .i64), .sl (.sl (.int .i64))]]⟩ [1, 4] .none))) (.two .none (.two .none (.join 2 ⟨[(1, .int .u32), (2, .ptr 0 0), (5, .ptr 1 0), (7, .int .u32), (10, .int .u32), (11, .int .i64)], [.cells [.int .i64, .sl (.int .u32)], .cells [.sl (.int .i64), .sl (.sl (.int .i64))]]⟩ (.two .none (.one (.loop 2 ⟨[(1, .int .u32), (2, .ptr 0 0), (5, .ptr 1 0), (7, .int .u32), (10, .int .u32), (11, .int .i64), (86, .sl (.sl (.int .i64))), (87, .int .i64), (88, .int .i64)], [.cells [.int .i64, .sl (.int .u32)], .cells [.sl (.int .i64), .sl (.sl (.int .i64))]]⟩ [2, 3, 6] (.two .none (.two .none (.join 2 ⟨[(1, .int .u32), (2, .ptr 0 0), (5, .ptr 1 0), (7, .int .u32), (10, .int .u32), (11, .int .i64), (86, .sl (.sl (.int .i64))), (87, .int .i64), (88, .int .i64)], [.cells [.int .i64, .sl (.int .u32)], .cells [.sl (.int .i64), .sl (.sl (.int .i64))]]⟩ (.one (.two .none (.two .none (.two .none (.one (.loop 2 ⟨[(1, .int .u32), (2, .ptr 0 0), (5, .ptr 1 0), (7, .int .u32), (10, .int .u32), (11, .int .i64), (86, .sl (.sl (.int .i64))), (87, .int .i64), (88, .int .i64), (96, .sl (.int .i64)), (97, .int .i64), (98, .int .i64)], [.cells [.int .i64, .sl (.int .u32)], .cells [.sl (.int .i64), .sl (.sl (.int .i64))]]⟩ [2, 3, 9] .none)))))) .none)))))) (.two (.two (.draw 0 [.rd [0], .pure, .pure, .pure, .pure, .pure, .pure, .rd [0], .pure, .pure, .pure, .pure, .pure, .pure, .rd [0], .pure, .pure]) .none) (.two (.draw 0 [.pure, .pure, .rd [0], .pure, .pure, .rd [0], .pure, .pure, .pure, .pure, .pure, .pure, .pure, .pure, .rd [1], .pure, .pure, .pure, .pure]) .none))))))))))))
    (by kernel_rfl) rfl (by kernel_rfl) (by kernel_rfl) ⟨rfl, by unfold TOk; kernel_rfl, gOk_of rfl rfl (List.forall_mem_cons.2 ⟨en_keep_sound _N, (List.forall_mem_cons.2 ⟨en_keep_refused _N, (List.forall_mem_cons.2 ⟨qen_order_Split _N, (List.forall_mem_cons.2 ⟨en_order_Check _N, (List.forall_mem_cons.2 ⟨en_keep_within _N, (List.forall_mem_cons.2 ⟨en_keep_loose _N, (List.forall_mem_cons.2 ⟨en_keep_size _N, (List.forall_mem_cons.2 ⟨en_ref_Outside _N, (List.forall_mem_cons.2 ⟨en_keep_chained _N, (List.forall_mem_nil _)⟩)⟩)⟩)⟩)⟩)⟩)⟩)⟩)⟩), iOk_of rfl rfl (List.forall_mem_nil _), rfl⟩ (fun _x => by kernel_rfl)
theorem en_keep_OrderDilworth (_N : Nat) : EntOk Tryd.prog Gs (mkP 10 Ks_keep_OrderDilworth Rk_keep_OrderDilworth (D_keep_OrderDilworth _N)) := entP ⟨Tryd.f10, bodyOf Tryd.f10, by kernel_rfl, by kernel_rfl, rfl⟩ (by kernel_rfl) (sp_keep_OrderDilworth _N)
abbrev castL (c : List Nat) : List Int := c.map fun (i : Nat) => (i : Int)
theorem mem_cast {c : List Nat} {x : Nat} : (x : Int) ∈ castL c ↔ x ∈ c :=
  ⟨fun h => by obtain ⟨y, hy, e⟩ := List.mem_map.1 h; obtain rfl : y = x := by omega
               exact hy, fun h => List.mem_map.2 ⟨x, h, rfl⟩⟩
theorem nthc {c : List Nat} {p : Nat} (h : p < c.length) : nth 0 (castL c) p = ((c[p] : Nat) : Int) := by
  rw [nth_lt (by simpa using h)]; simp
theorem chained_true {N m : Nat} (hN : 1000 ≤ N) {up : List Int} (hw : WL up) (hul : up.length = m) (hm : m ≤ 16) {c : List Nat} (hlt : ∀ x ∈ c, x < m) (hp : c.Pairwise (slt up)) (hl : c.length ≤ 16) : D_keep_chained N (((m : Int), up), castL c, ()) = some (true, ()) := by
  obtain ⟨w, w1', w2⟩ := within_eq (N := N) (n := (m : Int)) (xs := castL c) (by simp; omega) (by simp; omega)
  have hwt : w = true := w2.2 fun x hx => by
    obtain ⟨y, hy, rfl⟩ := List.mem_map.1 hx
    have := hlt y hy
    omega
  subst hwt
  simp only [D_keep_chained, keep_chained_3, w1', Option.bind_some, Bool.not_true, cond_false, joinD, loopE]
  refine loopD_path (N := N) (c.length - 1) (fun t => ((t + 1 : Nat) : Int)) (fun p hp' kn => ?_) (fun kn => ?_) (by omega)
  · have e1 : IntKind.i64.wrap (((p + 1 : Nat) : Int) - 1) = ((p : Nat) : Int) := by rw [w64 (by omega) (by omega)]; omega
    have e2 : IntKind.i64.wrap (((p + 1 : Nat) : Int) + 1) = ((p + 1 + 1 : Nat) : Int) := by rw [w64 (by omega) (by omega)]; omega
    have l1 := hlt _ (List.getElem_mem (show p < c.length by omega))
    have l2 := hlt _ (List.getElem_mem (show p + 1 < c.length by omega))
    have hs := List.pairwise_iff_getElem.1 hp p (p + 1) (by omega) (by omega) (by omega)
    simp only [keep_chained_2, e1, e2, ge0_d, lt_d (show p + 1 < (castL c).length by simp; omega), lt_d (show p < (castL c).length by simp; omega), Bool.and_self, cond_true, Int.toNat_natCast, nthc (show p < c.length by omega), nthc (show p + 1 < c.length by omega), kunder_eq N hw (show c[p] < up.length by omega) (show c[p + 1] < 4611686018427387904 by omega), Option.bind_some, backE_eq]
    rw [d_true hs.2, show bt (nth 0 up c[p]) c[p + 1] = true from hs.1]
    rfl
  · simp only [keep_chained_2]
    rw [d_false (show ¬ ((c.length - 1 + 1 : Nat) : Int) < ((castL c).length : Nat) by simp; omega), cond_false, keep_chained_1]
theorem u64w {i : Nat} (hi : i < 32) : IntKind.u64.wrap (i : Int) = (i : Int) := by rw [IntKind.wrap_u64]; omega
theorem ishl_one {i : Nat} (hi : i < 32) : ishl .u32 1 (IntKind.u64.wrap (i : Int)) = one i := by
  rw [u64w hi]
  rfl
noncomputable def orL (w : Int) (d : List Nat) : Int := d.foldl (fun w x => ior .u32 w (one x)) w
theorem orL_bt : ∀ (d : List Nat) (w : Int), W32 w → (∀ x ∈ d, x < 32) → W32 (orL w d) ∧ ∀ x, bt (orL w d) x = true ↔ bt w x = true ∨ x ∈ d
  | [], w, hw, _ => ⟨hw, fun x => by simp [orL]⟩
  | a :: d, w, hw, h => by
    obtain ⟨h1, h2⟩ := orL_bt d (ior .u32 w (one a)) W32.ior fun x hx => h x (by simp [hx])
    refine ⟨h1, fun x => ?_⟩
    show bt (orL (ior .u32 w (one a)) d) x = true ↔ _
    rw [h2 x, bt_ior hw (W32.one a), bt_one (h a (by simp))]
    simp only [Bool.or_eq_true, decide_eq_true_eq, List.mem_cons]
    exact or_assoc
theorem dil_true {N m : Nat} (hN : 1000 ≤ N) {up : List Int} (hw : WL up) (ho : Ord (m : Int) up) {set : Int} (hset : W32 set) : D_keep_OrderDilworth N (((m : Int), up), set, ()) = some (true, ()) := by
  have hm : m ≤ 16 := by have := ho.h1; omega
  have hul : up.length = m := by have := ho.len; omega
  have hso := slt_so ho
  obtain ⟨b, hb, hb2⟩ := sound_eq (N := N) (by omega) hw (m : Int)
  obtain ⟨nx, ls, w, hW, hsp, hv, hwm, hlen, hloo⟩ := Split_eq hN hw ho
  have hel : (els w).length ≤ m := by
    have := (nodup_els w).length_le_of_subset (l₂ := List.range m) fun x hx => List.mem_range.2 (hwm x ((mem_els hW).1 hx))
    rwa [List.length_range] at this
  obtain ⟨b2, hb3, hb4⟩ := within_eq (N := N) (n := (m : Int)) (xs := castL (els w)) (by simp; omega) (by simp; omega)
  have hbt : b2 = true := hb4.2 fun x hx => by
    obtain ⟨y, hy, rfl⟩ := List.mem_map.1 hx
    have := hwm y ((mem_els hW).1 hy)
    omega
  subst hbt
  simp only [D_keep_OrderDilworth, keep_OrderDilworth_7, hb, hb2.2 ho, Option.bind_some, Bool.not_true, cond_false, hsp, bne_self_eq_false]
  rw [show (((castL (els w)).length : Int) != ((chainsL m m nx ls).length : Int)) = false from by
    rw [bne_eq_false_iff_eq, ← hlen]; simp]
  simp only [cond_false, hb3, Option.bind_some, Bool.not_true, joinD, loopE]
  have hasc : (els w).Pairwise (· < ·) := List.Pairwise.filter _ List.pairwise_lt_range
  -- the antichain as a word
  obtain ⟨s, ⟨w2, rfl, hw2, hwb⟩, hs⟩ := loopD_inv (N := N) (g := fun (s : Int × Int) kn => keep_OrderDilworth_6 N (fun s => keep_OrderDilworth_5 N s.1 s.2.1 s.2.2.1 s.2.2.2.1 s.2.2.2.2.1 s.2.2.2.2.2) set (castL (els w)) ((castL (els w)).length) (m : Int) up (castL (els w)) (chainsL m m nx ls) s.1 s.2 (backE (set, castL (els w), ((castL (els w)).length : Int), (m : Int), up, castL (els w), chainsL m m nx ls) kn))
    (k := fun s => keep_OrderDilworth_5 N set s.1 (m : Int) up (castL (els w)) (chainsL m m nx ls)) (els w).length
    (fun t s => ∃ w2 : Int, s = (w2, (t : Int)) ∧ W32 w2 ∧ ∀ x, bt w2 x = true ↔ x ∈ (els w).take t)
    (fun t s ht h => by
      obtain ⟨w2, rfl, h1, h2⟩ := h
      have ha : (els w)[t] < m := hwm _ ((mem_els hW).1 (List.getElem_mem ht))
      refine ⟨(ior .u32 w2 (one (els w)[t]), ((t + 1 : Nat) : Int)), ⟨_, rfl, W32.ior, fun x => ?_⟩, fun kn => ?_⟩
      · rw [bt_ior h1 (W32.one _), bt_one (by omega), Bool.or_eq_true, h2 x, decide_eq_true_iff, List.take_succ_eq_append_getElem ht, List.mem_append, List.mem_singleton]
      · simp only [keep_OrderDilworth_6, lt_d (show t < (castL (els w)).length by simpa using ht), ge0_d, Bool.and_self, cond_true, Int.toNat_natCast, nthc ht, ishl_one (show (els w)[t] < 32 by omega), backE_eq, w1 hm (show t < m by omega)]
        rw [d_false (show ¬ IntKind.u64.wrap (((els w)[t] : Nat) : Int) < 0 by rw [u64w (by omega)]; omega)]
        simp only [cond_false]
        by_cases q : (t : Int) > 0
        · have e1 : IntKind.i64.wrap ((t : Int) - 1) = ((t - 1 : Nat) : Int) := by rw [w64 (by omega) (by omega)]; omega
          rw [d_true q, cond_true, e1, ge0_d, lt_d (show t - 1 < (castL (els w)).length by simp; omega), Bool.and_self, cond_true, Int.toNat_natCast, nthc (show t - 1 < (els w).length by omega), d_false (by
            have := List.pairwise_iff_getElem.1 hasc (t - 1) t (by omega) (by omega) (by omega)
            omega), cond_false]
          rfl
        · rw [d_false q, cond_false]; rfl)
    (fun s h kn => by
      obtain ⟨w2, rfl, _⟩ := h
      simp only [keep_OrderDilworth_6]
      rw [d_false (show ¬ (((els w).length : Nat) : Int) < ((castL (els w)).length : Nat) by simp), cond_false])
    (by omega) (s := (0, 0)) ⟨0, rfl, W32.zero, fun x => by rw [bt_zero]; simp⟩
  rw [List.take_length] at hwb
  rw [hs]
  simp only [keep_OrderDilworth_5, joinD, loopE]
  have hcl := chainsL_len m m nx ls
  have hall : ∀ c ∈ chainsL m m nx ls, ∃ d : List Nat, c = castL d ∧ (∀ x ∈ d, x < m) ∧ d.Pairwise (slt up) ∧ d.length ≤ 16 := fun c hc => by
    obtain ⟨s, hs, rfl⟩ := List.mem_map.1 hc
    have hsn := List.mem_range.1 (List.mem_filter.1 hs).1
    have hch := Dil.chf_n hso hv hsn
    have h1 := (hch.pw hso hv hsn).1
    have h2 := hch.low hv hsn
    have hnd : (Dil.chf (nth 0 nx) m s).Nodup := h1.imp fun {a b} (h : slt up a b) (e : a = b) => h.2 e
    have h3 := hnd.length_le_of_subset (l₂ := List.range m) fun x hx => List.mem_range.2 (h2 x hx)
    rw [List.length_range] at h3
    exact ⟨_, rfl, h2, h1, by omega⟩
  have hfl : (chainsL m m nx ls).flatten = castL ((Dil.starts m (nth 0 ls)).flatMap (Dil.chf (nth 0 nx) m)) := by
    unfold chainsL Dil.starts castL
    rw [List.map_flatMap, List.flatMap_def]
  have hfll : (chainsL m m nx ls).flatten.length = m := by
    rw [hfl, List.length_map, Dil.all_len hso hv]
  have hpre : ∀ t, ((chainsL m m nx ls).take t).flatten.length ≤ m := fun t => by
    have : (chainsL m m nx ls).flatten = ((chainsL m m nx ls).take t).flatten ++ ((chainsL m m nx ls).drop t).flatten := by
      rw [← List.flatten_append, List.take_append_drop]
    have h2 := congrArg List.length this
    rw [hfll, List.length_append] at h2
    omega
  -- all chains
  obtain ⟨s, ⟨sn, rfl, hsn, hsb⟩, hs⟩ := loopD_inv (N := N) (g := fun (s : Int × Int × Int) kn => keep_OrderDilworth_4 N (fun s => keep_OrderDilworth_1 N s.1 s.2.1 s.2.2.1 s.2.2.2.1 s.2.2.2.2.1 s.2.2.2.2.2.1 s.2.2.2.2.2.2.1) set w2 (chainsL m m nx ls) ((chainsL m m nx ls).length) (m : Int) up (castL (els w)) (chainsL m m nx ls) s.1 s.2.1 s.2.2 (backE (set, w2, chainsL m m nx ls, ((chainsL m m nx ls).length : Int), (m : Int), up, castL (els w), chainsL m m nx ls) kn))
    (k := fun s => keep_OrderDilworth_1 N set w2 s.1 s.2.1 (m : Int) up (castL (els w))) (chainsL m m nx ls).length
    (fun t s => ∃ sn : Int, s = (sn, ((((chainsL m m nx ls).take t).flatten.length : Nat) : Int), (t : Int)) ∧ W32 sn ∧ ∀ x : Nat, bt sn x = true ↔ (x : Int) ∈ ((chainsL m m nx ls).take t).flatten)
    (fun t s ht h => by
      obtain ⟨sn, rfl, h1, h2⟩ := h
      obtain ⟨d, hd, d1, d2, d3⟩ := hall _ (List.getElem_mem ht)
      have hnt : nth [] (chainsL m m nx ls) t = castL d := by rw [nth_lt ht, hd]
      have hpt := hpre t
      have htk : ((chainsL m m nx ls).take (t + 1)).flatten = ((chainsL m m nx ls).take t).flatten ++ castL d := by
        rw [List.take_succ_eq_append_getElem ht, List.flatten_append, hd]; simp
      have hpt1 := hpre (t + 1)
      rw [htk, List.length_append, List.length_map] at hpt1
      generalize hF : ((chainsL m m nx ls).take t).flatten = F at *
      -- one chain
      have hin : ∀ kn : Int × Int × Int → Option Rt_keep_OrderDilworth,
          loopD (fun (s : Int × Int × Int) kn2 => keep_OrderDilworth_3 N (fun s => keep_OrderDilworth_2 N (backE (set, w2, chainsL m m nx ls, ((chainsL m m nx ls).length : Int), (m : Int), up, castL (els w), chainsL m m nx ls) kn) s.1 s.2.1 s.2.2.1 s.2.2.2.1 s.2.2.2.2.1 s.2.2.2.2.2.1 s.2.2.2.2.2.2.1 s.2.2.2.2.2.2.2.1 s.2.2.2.2.2.2.2.2.1 s.2.2.2.2.2.2.2.2.2.1 s.2.2.2.2.2.2.2.2.2.2) set w2 (chainsL m m nx ls) ((chainsL m m nx ls).length) (t : Int) (castL d) ((castL d).length) (m : Int) up (castL (els w)) (chainsL m m nx ls) s.1 s.2.1 s.2.2 (backE (set, w2, chainsL m m nx ls, ((chainsL m m nx ls).length : Int), (t : Int), castL d, ((castL d).length : Int), (m : Int), up, castL (els w), chainsL m m nx ls) kn2)) N (sn, (F.length : Int), 0) = kn (orL sn d, ((F.length + d.length : Nat) : Int), ((t + 1 : Nat) : Int)) := fun kn => by
        refine (loopD_path (N := N) d.length (fun u => (orL sn (d.take u), ((F.length + u : Nat) : Int), (u : Int))) (k := kn (orL sn d, ((F.length + d.length : Nat) : Int), ((t + 1 : Nat) : Int))) (fun u hu kn2 => ?_) (fun kn2 => ?_) (by omega))
        · have hx := d1 _ (List.getElem_mem hu)
          have e2 : IntKind.i64.wrap ((((F.length + u : Nat) : Int)) + 1) = ((F.length + (u + 1) : Nat) : Int) := by rw [w64 (by omega) (by omega)]; omega
          simp only [keep_OrderDilworth_3, lt_d (show u < (castL d).length by simpa using hu), ge0_d, Bool.and_self, cond_true, Int.toNat_natCast, nthc hu, ishl_one (show d[u] < 32 by omega), backE_eq, e2, w1 (show 16 ≤ 16 by omega) (show u < 16 by omega)]
          rw [d_false (show ¬ IntKind.u64.wrap ((d[u] : Nat) : Int) < 0 by rw [u64w (by omega)]; omega), cond_false, List.take_succ_eq_append_getElem hu, orL, orL, List.foldl_append]
          rfl
        · simp only [keep_OrderDilworth_3]
          rw [d_false (show ¬ ((d.length : Nat) : Int) < ((castL d).length : Nat) by simp), cond_false]
          simp only [keep_OrderDilworth_2, backE_eq, w1 hm (show t < m by omega), List.take_length]
          rfl
      obtain ⟨o1, o2⟩ := orL_bt d sn h1 fun x hx => by have := d1 x hx; omega
      refine ⟨(orL sn d, ((F.length + d.length : Nat) : Int), ((t + 1 : Nat) : Int)), ⟨_, ?_, o1, fun x => ?_⟩, fun kn => ?_⟩
      · rw [htk, List.length_append, List.length_map]
      · rw [htk, o2, h2, List.mem_append, mem_cast]
      · simp only [keep_OrderDilworth_4, lt_d ht, ge0_d, Bool.and_self, cond_true, joinD, loopE, Int.toNat_natCast, hnt, chained_true hN hw hul hm d1 d2 d3, Option.bind_some, Bool.not_true, cond_false]
        exact hin kn)
    (fun s h kn => by
      obtain ⟨sn, rfl, _⟩ := h
      simp only [keep_OrderDilworth_4, lt_self, cond_false])
    (by omega) (s := (0, 0, 0)) ⟨0, rfl, W32.zero, fun x => by rw [bt_zero]; simp⟩
  rw [List.take_length] at hsb
  rw [hs]
  have hsm : ∀ x, bt sn x = true ↔ x < m := fun x => by
    rw [hsb, hfl, ← Dil.all_mem (nx := nth 0 nx) (ls := nth 0 ls) hso hv, mem_cast]
  have hw2m : ∀ x, bt w2 x = true → x < m := fun x h => hwm x ((mem_els hW).1 ((hwb x).1 h))
  obtain ⟨b3, e3, e4⟩ := loose_eq hN hm hw ho hw2 hw2m
  have hb3' : b3 = true := e4.2 fun i j hi hj h => hloo i j ((mem_els hW).1 ((hwb i).1 hi)) ((mem_els hW).1 ((hwb j).1 hj)) h
  have hsz : (els sn).length = m := by
    have h1 := (nodup_els sn).length_le_of_subset (l₂ := List.range m) fun x hx => List.mem_range.2 ((hsm x).1 ((mem_els hsn).1 hx))
    have h2 := (List.nodup_range (n := m)).length_le_of_subset (l₂ := els sn) fun x hx => (mem_els hsn).2 ((hsm x).2 (List.mem_range.1 hx))
    rw [List.length_range] at h1 h2
    omega
  obtain ⟨b5, e5, e6⟩ := Outside_eq (N := N) (by omega) hset (show m ≤ 32 by omega)
  simp only [keep_OrderDilworth_1, e3, hb3', Option.bind_some, Bool.not_true, cond_false, List.take_length, hfll, bne_self_eq_false, size_eq hN hsn, hsz, e5]
  cases b5 with
  | true => rfl
  | false =>
    have hin : ∀ x, bt set x = true → x < m := fun x h => Classical.byContradiction fun h' => by
      have := e6.2 ⟨x, by omega, h⟩
      cases this
    obtain ⟨b7, e7, e8⟩ := loose_eq hN hm hw ho hset hin
    simp only [cond_false, e7, Option.bind_some]
    cases b7 with
    | false => rfl
    | true =>
      have hlo := e8.1 rfl
      simp only [Bool.not_true, cond_false, size_eq hN hset, Option.bind_some]
      have := Dil.loose_le hso hv (nodup_els set) (fun x hx => hin x ((mem_els hset).1 hx)) fun x hx y hy h => h.2 (hlo x y ((mem_els hset).1 hx) ((mem_els hset).1 hy) h.1)
      have hst : (chainsL m m nx ls).length = (Dil.starts m (nth 0 ls)).length := by unfold chainsL; rw [List.length_map]; rfl
      rw [d_true (show (((els set).length : Nat) : Int) ≤ ((castL (els w)).length : Nat) by rw [List.length_map]; omega)]
theorem law_OrderDilworth (o : Int × List Int) (set : Int) (ho : wfS (.pair (.int .i64) (.sl (.int .u32))) o) (hs : wfS (.int .u32) set) : ∃ N, D_keep_OrderDilworth N (o, set, ()) = some (true, ()) := by
  obtain ⟨n, up⟩ := o
  have hw : WL up := WL_of ho.2
  refine ⟨1000, ?_⟩
  by_cases h : Ord n up
  · obtain ⟨m, rfl⟩ : ∃ m : Nat, n = (m : Int) := ⟨n.toNat, by have := h.h0; omega⟩
    exact dil_true (by omega) hw h hs
  · obtain ⟨b, hb, hb2⟩ := sound_eq (N := 1000) (by omega) hw n
    obtain ⟨b', hb', hb2'⟩ := refused_eq (N := 1000) (by omega) hw n
    simp only [D_keep_OrderDilworth, keep_OrderDilworth_7, hb, show b = false from Bool.eq_false_iff.2 fun e => h (hb2.1 e), Option.bind_some, Bool.not_false, cond_true, hb', hb2'.2 h]
set_option maxRecDepth 100000 in
theorem lifted_OrderDilworth (os : Os) (started : os.Started) (H : Type) (enc : TypeId × Value → H) :
    ReturnsInHanded {} Tryd.checked os 10 .any (fun w args => (Rows.orderDilworthSpec.pre enc Tryd.prog Tryd.f10 [] false w args ∧ laidMetH Tryd.prog Rows.orderDilworthRow.laid w) ∧ sizedMet enc Tryd.prog Tryd.f10 (OpenSpec.ofChange Rows.orderDilworthSpec) false w args) (Rows.orderDilworthSpec.post enc Tryd.prog Tryd.f10 false true false false) := by
  refine returnsInHanded_of_change_and (C := Tryd.checked) (X := fun w _ => laidMetH Tryd.prog Rows.orderDilworthRow.laid w) (fun _ _ _ hh h => h.of_heap hh) own started (by kernel_rfl) Tryd.func10
    (ChangeSpec.witness_shaped (enc := enc) (C := Tryd.checked) (os := os) (X := fun w _ => laidMetH Tryd.prog Rows.orderDilworthRow.laid w) false (World.doorLaid Tryd.prog 400 os) #[.agg #[.int .i64 0, .slice none 0 0], .int .u32 0] 8 rfl (World.shaped_of_RefB (by kernel_rfl) (by kernel_rfl)) (by kernel_rfl) (by kernel_rfl) (by kernel_rfl) (door_met os _)) ?_
  intro W base args ds gs before hval0 hW _ hsz0 hL _
  have hgw : GW Gs W := gw_of hL
  have hval : ∀ (j : Nat) t v, Tryd.f10.params[j]? = some t → args[j]? = some v → Value.okWide Tryd.prog W .any base t v := hval0
  have hW' := hW
  obtain ⟨p, q, hA0, hV, rfl, _, _⟩ := hW
  have hA : DataW.TrodAll enc Tryd.prog W 0 (fun _ => true) true Tryd.f10.params.toList args.toList ds p := hA0
  rw [Tryd.params10] at hA hval
  obtain ⟨v0, vs0, d0, ds0, p0, q0, hargs, rfl, rfl, h0, r0⟩ := trodAll_cons hA
  obtain ⟨v1, vs1, d1, ds1, p1, q1, rfl, rfl, rfl, h1, r1⟩ := trodAll_cons r0
  obtain ⟨rfl, rfl, rfl⟩ := trodAll_nil r1
  obtain rfl : args = #[v0, v1] := by cases args; simp_all
  obtain ⟨rfl, rfl⟩ := trodVars_none hV
  have hall := List.all_eq_true.1 hsz0
  clear hA0 hval0 hsz0
  simp only [List.append_nil] at hW'
  have hlt0 : ∀ x ∈ p0, x.block < W.heap.size := fun x hx => hW'.lt x (by simp [hx])
  have hlt1 : ∀ x ∈ p1, x.block < W.heap.size := fun x hx => hW'.lt x (by simp [hx])
  obtain ⟨x0, g0, w0⟩ := open_kd (k := .dat (.pair (.int .i64) (.sl (.int .u32)))) (by kernel_rfl) (hval 0 24 v0 rfl rfl) h0
  obtain ⟨x1, g1, w1⟩ := open_kd (k := .dat (.int .u32)) (by kernel_rfl) (hval 1 75 v1 rfl rfl) h1
  obtain ⟨N, hN⟩ := law_OrderDilworth x0 x1 w0 w1
  refine (sp_keep_OrderDilworth N (fun _ => False) W (x0, x1, ()) (true, ()) [v0, v1] (fun _ h => h.elim) hgw ⟨v0, _, rfl, g0, ⟨v1, _, rfl, g1, rfl⟩⟩ hN).mono ?_
  rintro e W' ⟨v, rfl, hg, hr⟩
  replace hg := hg.old
  have hr : v = .bool true := by simpa only [kvals, retV, Kd.val, Go.Abs.enc, RV] using hr
  subst hr
  exact ⟨_, rfl, _, _, _, [], p0 ++ (p1 ++ []), [], hW', (trodAll_cons_mk (shut_bool (show Tryd.prog.underlying 4 = some .bool by kernel_rfl) _) trodAll_mk0), (trodAll_cons_mk (Below.trod laidOut (by kernel_rfl) (of_decide_eq_true (by kernel_rfl)) h0 hg hlt0) (trodAll_cons_mk (Below.trod laidOut (by kernel_rfl) (of_decide_eq_true (by kernel_rfl)) h1 hg hlt1) trodAll_mk0)), rfl, hg.frame _, fun h => by cases h⟩

/-- The statement: whatever the arguments, the law's function returns true and leaves them as they were. -/
theorem orderDilworth_holds : Rows.OrderDilworthSaid :=
  OpenClaim.holds_of_wide 10 Tryd.f10 rfl rfl rfl rfl rfl rfl rfl ⟨rfl, rfl, rfl, rfl, rfl⟩ rfl rfl rfl rfl rfl (by kernel_rfl) Tryd.func10 (by kernel_rfl)
    (of_decide_eq_true (by kernel_rfl)) (by unfold Func.isWrapper; first | (rw [if_pos (by decide +kernel)]; kernel_rfl) | (rw [if_neg (by decide +kernel)]; exact ⟨rfl, rfl⟩))
    (fun os started H enc _ => lifted_OrderDilworth os started H enc)
/-- The statement's card: the variable that the road reads is tied to the program's text. -/
theorem orderDilworth_card : Rows.OrderDilworthCardSaid :=
  Claim7.holds_tied_plain_at .later [] [.data] true (true, "65abc2aaf7183d6748ea4ca63c5ffe01ee343b6a2ad66bd6fe5683088795bba2") true orderDilworth_holds (fun _ h => by cases h) (by kernel_rfl) (fun _ h => by cases h) orderDilworth_row_tie rfl ⟨rfl, rfl⟩ (by kernel_rfl) rfl
    (fun f fn hf hfn => by
      obtain rfl : f = 10 := Option.some.inj ((show Tryd.prog.funcNamed "watershed/watershedkeep.OrderDilworth" = some 10 by kernel_rfl).symm.trans hf) |>.symm
      obtain rfl : fn = Tryd.f10 := (Option.some.inj (Tryd.func10.symm.trans hfn)).symm
      exact ⟨by kernel_rfl, fun j t ht => by
        have h3 := List.all_eq_true.1 (show (Tryd.f10.params.toList.all fun t => !(Tryd.prog.wantsStandIn t)) = true by kernel_rfl) t (by rw [← Array.getElem?_toList] at ht; exact List.mem_of_getElem? ht)
        have h4 : Tryd.prog.wantsStandIn t = false := by simpa using h3
        exact h4⟩)
    (by kernel_rfl)
end Go.Proofs.YtgnhcmdmlcjpkaaDoor
