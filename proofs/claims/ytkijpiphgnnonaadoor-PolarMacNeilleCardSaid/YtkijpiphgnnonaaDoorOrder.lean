/- order, and what the references and laws say of orders: the functions. -/
import Derived.Test.YtkijpiphgnnonaaDoorIter
namespace Go.Proofs.YtkijpiphgnnonaaDoor
open Go.Abs
-- watershed/watershedref.Bit
abbrev Ks_ref_Bit : List Kd := [.dat (.int .u32), .dat (.int .i64)]
abbrev Rk_ref_Bit : List Kd := [.dat (.bool)]
abbrev Rt_ref_Bit : Type := Dens Rk_ref_Bit
noncomputable def C_ref_Bit (_N : Nat) : Ctx := { T := [(3, ⟨.int .i64, 1, 8, some (.int .i64), [.int .i64 (0 : Int)], false, []⟩), (34, ⟨.int .u64, 1, 8, some (.int .u64), [.int .u64 (0 : Int)], false, []⟩)], G := findE [], I := findI [], N := _N, n := 11, fx := [], fl := 0, gs := Gs }
noncomputable def ref_Bit_1 (_N : Nat) (_x1 : Int) (_x2 : Int) : Option Rt_ref_Bit :=
  (bif (decide ((IntKind.u64.wrap _x2) < 0)) then none else (some (((iand .u32 _x1 (ishl .u32 (1 : Int) (IntKind.u64.wrap _x2))) != (0 : Int)), ())))
noncomputable def D_ref_Bit (_N : Nat) (_x : Dens Ks_ref_Bit) : Option Rt_ref_Bit := ref_Bit_1 _N _x.1 _x.2.1
theorem sp_ref_Bit (_N : Nat) : SpecD Tryd.prog Gs 7 Ks_ref_Bit Rk_ref_Bit (D_ref_Bit _N) := mkSpD (fn := Tryd.f7) (c := bodyOf Tryd.f7) (C := C_ref_Bit _N)
    (a := .none)
    (by kernel_rfl) rfl (by kernel_rfl) (by kernel_rfl) ⟨rfl, by unfold TOk; kernel_rfl, gOk_of rfl rfl (List.forall_mem_nil _), iOk_of rfl rfl (List.forall_mem_nil _), rfl⟩ (fun _x => by kernel_rfl)
theorem en_ref_Bit (_N : Nat) : EntOk Tryd.prog Gs (mkP 7 Ks_ref_Bit Rk_ref_Bit (D_ref_Bit _N)) := entP ⟨Tryd.f7, bodyOf Tryd.f7, by kernel_rfl, by kernel_rfl, rfl⟩ (by kernel_rfl) (sp_ref_Bit _N)
-- watershed/watershedref.Below
abbrev Ks_ref_Below : List Kd := [.dat (.pair (.int .i64) (.sl (.int .u32))), .dat (.int .i64), .dat (.int .i64)]
abbrev Rk_ref_Below : List Kd := [.dat (.bool)]
abbrev Rt_ref_Below : Type := Dens Rk_ref_Below
noncomputable def C_ref_Below (_N : Nat) : Ctx := { T := [(22, ⟨.slice 29, 1, 24, some (.sl (.int .u32)), [.nil], false, []⟩), (29, ⟨.int .u32, 1, 4, some (.int .u32), [.int .u32 (0 : Int)], false, []⟩), (37, ⟨.struct [(0, 3), (1, 22)], 2, 32, some (.pair (.int .i64) (.sl (.int .u32))), [.int .i64 (0 : Int), .nil], false, []⟩)], G := findE [mkP 7 Ks_ref_Bit Rk_ref_Bit (D_ref_Bit _N)], I := findI [], N := _N, n := 14, fx := [], fl := 0, gs := Gs }
noncomputable def ref_Below_1 (_N : Nat) (_x1 : Int × List Int) (_x2 : Int) (_x3 : Int) : Option Rt_ref_Below :=
  (bif (decide (0 ≤ _x2) && decide (_x2 < (_x1.2.length : Int))) then ((D_ref_Bit _N ((nth (0 : Int) _x1.2 (_x2).toNat), _x3, ())).bind fun _y2 => (some (_y2.1, ()))) else none)
noncomputable def D_ref_Below (_N : Nat) (_x : Dens Ks_ref_Below) : Option Rt_ref_Below := ref_Below_1 _N _x.1 _x.2.1 _x.2.2.1
theorem sp_ref_Below (_N : Nat) : SpecD Tryd.prog Gs 37 Ks_ref_Below Rk_ref_Below (D_ref_Below _N) := mkSpD (fn := Tryd.f37) (c := bodyOf Tryd.f37) (C := C_ref_Below _N)
    (a := .none)
    (by kernel_rfl) rfl (by kernel_rfl) (by kernel_rfl) ⟨rfl, by unfold TOk; kernel_rfl, gOk_of rfl rfl (List.forall_mem_cons.2 ⟨en_ref_Bit _N, (List.forall_mem_nil _)⟩), iOk_of rfl rfl (List.forall_mem_nil _), rfl⟩ (fun _x => by kernel_rfl)
theorem en_ref_Below (_N : Nat) : EntOk Tryd.prog Gs (mkP 37 Ks_ref_Below Rk_ref_Below (D_ref_Below _N)) := entP ⟨Tryd.f37, bodyOf Tryd.f37, by kernel_rfl, by kernel_rfl, rfl⟩ (by kernel_rfl) (sp_ref_Below _N)
-- watershed/watershedref.Outside
abbrev Ks_ref_Outside : List Kd := [.dat (.int .u32), .dat (.int .i64)]
abbrev Rk_ref_Outside : List Kd := [.dat (.bool)]
abbrev Rt_ref_Outside : Type := Dens Rk_ref_Outside
noncomputable def C_ref_Outside (_N : Nat) : Ctx := { T := [], G := findE [mkP 7 Ks_ref_Bit Rk_ref_Bit (D_ref_Bit _N)], I := findI [], N := _N, n := 14, fx := [], fl := 0, gs := Gs }
noncomputable def ref_Outside_1 (_N : Nat) : Option Rt_ref_Outside :=
  (some (false, ()))
noncomputable def ref_Outside_2 (_N : Nat) (_k5 : Unit → Option Rt_ref_Outside) (_v1 : Int) (_v2 : Int) (_kn6 : Int × Int → Option Rt_ref_Outside) : Option Rt_ref_Outside :=
  (bif (decide (_v2 < (32 : Int))) then ((D_ref_Bit _N (_v1, _v2, ())).bind fun _y7 => (bif _y7.1 then (some (true, ())) else (_kn6 (_v1, (IntKind.i64.wrap (_v2 + (1 : Int))))))) else (_k5 ()))
noncomputable def ref_Outside_3 (_N : Nat) (_x1 : Int) (_x2 : Int) : Option Rt_ref_Outside :=
  (joinD (fun (_s : Unit) => ref_Outside_1 _N) fun _k5 => (loopE (fun (_c : Int) (_s : Int) _kn => ref_Outside_2 _N _k5 _c _s _kn) _N _x1 _x2))
noncomputable def D_ref_Outside (_N : Nat) (_x : Dens Ks_ref_Outside) : Option Rt_ref_Outside := ref_Outside_3 _N _x.1 _x.2.1
theorem sp_ref_Outside (_N : Nat) : SpecD Tryd.prog Gs 24 Ks_ref_Outside Rk_ref_Outside (D_ref_Outside _N) := mkSpD (fn := Tryd.f24) (c := bodyOf Tryd.f24) (C := C_ref_Outside _N)
    (a := .two .none (.join 0 ⟨[], []⟩ (.two .none (.one (.loop 0 ⟨[(0, .int .u32), (5, .int .i64)], []⟩ [1] .none))) .none))
    (by kernel_rfl) rfl (by kernel_rfl) (by kernel_rfl) ⟨rfl, by unfold TOk; kernel_rfl, gOk_of rfl rfl (List.forall_mem_cons.2 ⟨en_ref_Bit _N, (List.forall_mem_nil _)⟩), iOk_of rfl rfl (List.forall_mem_nil _), rfl⟩ (fun _x => by kernel_rfl)
theorem en_ref_Outside (_N : Nat) : EntOk Tryd.prog Gs (mkP 24 Ks_ref_Outside Rk_ref_Outside (D_ref_Outside _N)) := entP ⟨Tryd.f24, bodyOf Tryd.f24, by kernel_rfl, by kernel_rfl, rfl⟩ (by kernel_rfl) (sp_ref_Outside _N)
-- watershed/watershedref.OrderCheck
abbrev Ks_ref_OrderCheck : List Kd := [.dat (.pair (.int .i64) (.sl (.int .u32)))]
abbrev Rk_ref_OrderCheck : List Kd := [.dat (.int .i64)]
abbrev Rt_ref_OrderCheck : Type := Dens Rk_ref_OrderCheck
noncomputable def C_ref_OrderCheck (_N : Nat) : Ctx := { T := [(3, ⟨.int .i64, 1, 8, some (.int .i64), [.int .i64 (0 : Int)], false, []⟩), (22, ⟨.slice 29, 1, 24, some (.sl (.int .u32)), [.nil], false, []⟩), (29, ⟨.int .u32, 1, 4, some (.int .u32), [.int .u32 (0 : Int)], false, []⟩), (37, ⟨.struct [(0, 3), (1, 22)], 2, 32, some (.pair (.int .i64) (.sl (.int .u32))), [.int .i64 (0 : Int), .nil], false, []⟩)], G := findE [mkP 37 Ks_ref_Below Rk_ref_Below (D_ref_Below _N), mkP 24 Ks_ref_Outside Rk_ref_Outside (D_ref_Outside _N)], I := findI [], N := _N, n := 97, fx := [], fl := 0, gs := Gs }
noncomputable def ref_OrderCheck_1 (_N : Nat) : Option Rt_ref_OrderCheck :=
  (some ((0 : Int), ()))
noncomputable def ref_OrderCheck_2 (_N : Nat) (_kn84 : (Int × List Int) × Int → Option Rt_ref_OrderCheck) (_v56 : Int) (_v57 : Int) (_v58 : List Int) : Option Rt_ref_OrderCheck :=
  (_kn84 ((_v57, _v58), (IntKind.i64.wrap (_v56 + (1 : Int)))))
noncomputable def ref_OrderCheck_3 (_N : Nat) (_kn86 : (Int × Int × List Int) × Int → Option Rt_ref_OrderCheck) (_v41 : Int) (_v42 : Int) (_v43 : Int) (_v44 : List Int) : Option Rt_ref_OrderCheck :=
  (_kn86 ((_v41, _v43, _v44), (IntKind.i64.wrap (_v42 + (1 : Int)))))
noncomputable def ref_OrderCheck_4 (_N : Nat) (_kn88 : (Int × Int × Int × List Int) × Int → Option Rt_ref_OrderCheck) (_v33 : Int) (_v34 : Int) (_v35 : Int) (_v36 : Int) (_v37 : List Int) : Option Rt_ref_OrderCheck :=
  (_kn88 ((_v33, _v34, _v36, _v37), (IntKind.i64.wrap (_v35 + (1 : Int)))))
noncomputable def ref_OrderCheck_5 (_N : Nat) (_k87 : (Int × Int × Int × List Int) → Option Rt_ref_OrderCheck) (_v25 : Int) (_v26 : Int) (_v28 : Int) (_v29 : List Int) (_v27 : Int) (_kn88 : (Int × Int × Int × List Int) × Int → Option Rt_ref_OrderCheck) : Option Rt_ref_OrderCheck :=
  (bif (decide (_v27 < _v28)) then (joinD (fun (_s : Int × Int × Int × Int × List Int) => ref_OrderCheck_4 _N _kn88 _s.1 _s.2.1 _s.2.2.1 _s.2.2.2.1 _s.2.2.2.2) fun _k89 => ((D_ref_Below _N ((_v28, _v29), _v25, _v26, ())).bind fun _y90 => (bif _y90.1 then ((D_ref_Below _N ((_v28, _v29), _v26, _v27, ())).bind fun _y91 => (bif _y91.1 then ((D_ref_Below _N ((_v28, _v29), _v25, _v27, ())).bind fun _y92 => (bif (!_y92.1) then (some ((3 : Int), ())) else (_k89 (_v25, _v26, _v27, _v28, _v29)))) else (_k89 (_v25, _v26, _v27, _v28, _v29)))) else (_k89 (_v25, _v26, _v27, _v28, _v29))))) else (_k87 (_v25, _v26, _v28, _v29)))
noncomputable def ref_OrderCheck_6 (_N : Nat) (_k87 : (Int × Int × Int × List Int) → Option Rt_ref_OrderCheck) (_v20 : Int) (_v21 : Int) (_v22 : Bool) (_v23 : Int) (_v24 : List Int) : Option Rt_ref_OrderCheck :=
  (bif _v22 then (some ((3 : Int), ())) else (loopE (fun (_c : Int × Int × Int × List Int) (_s : Int) _kn => ref_OrderCheck_5 _N _k87 _c.1 _c.2.1 _c.2.2.1 _c.2.2.2 _s _kn) _N (_v20, _v21, _v23, _v24) (0 : Int)))
noncomputable def ref_OrderCheck_7 (_N : Nat) (_k85 : (Int × Int × List Int) → Option Rt_ref_OrderCheck) (_v11 : Int) (_v13 : Int) (_v14 : List Int) (_v12 : Int) (_kn86 : (Int × Int × List Int) × Int → Option Rt_ref_OrderCheck) : Option Rt_ref_OrderCheck :=
  (bif (decide (_v12 < _v13)) then (joinD (fun (_s : Int × Int × Int × List Int) => ref_OrderCheck_3 _N _kn86 _s.1 _s.2.1 _s.2.2.1 _s.2.2.2) fun _k87 => (joinD (fun (_s : Int × Int × Bool × Int × List Int) => ref_OrderCheck_6 _N _k87 _s.1 _s.2.1 _s.2.2.1 _s.2.2.2.1 _s.2.2.2.2) fun _k93 => (bif (_v11 == _v12) then ((D_ref_Below _N ((_v13, _v14), _v11, _v11, ())).bind fun _y94 => (bif (!_y94.1) then (_k93 (_v11, _v12, true, _v13, _v14)) else (bif (_v11 != _v12) then ((D_ref_Below _N ((_v13, _v14), _v11, _v12, ())).bind fun _y95 => (bif _y95.1 then ((D_ref_Below _N ((_v13, _v14), _v12, _v11, ())).bind fun _y96 => (_k93 (_v11, _v12, _y96.1, _v13, _v14))) else (_k93 (_v11, _v12, false, _v13, _v14)))) else (_k93 (_v11, _v12, false, _v13, _v14))))) else (bif (_v11 != _v12) then ((D_ref_Below _N ((_v13, _v14), _v11, _v12, ())).bind fun _y97 => (bif _y97.1 then ((D_ref_Below _N ((_v13, _v14), _v12, _v11, ())).bind fun _y98 => (_k93 (_v11, _v12, _y98.1, _v13, _v14))) else (_k93 (_v11, _v12, false, _v13, _v14)))) else (_k93 (_v11, _v12, false, _v13, _v14)))))) else (_k85 (_v11, _v13, _v14)))
noncomputable def ref_OrderCheck_8 (_N : Nat) (_k83 : (Int × List Int) → Option Rt_ref_OrderCheck) (_v9 : Int) (_v10 : List Int) (_v8 : Int) (_kn84 : (Int × List Int) × Int → Option Rt_ref_OrderCheck) : Option Rt_ref_OrderCheck :=
  (bif (decide (_v8 < _v9)) then (joinD (fun (_s : Int × Int × List Int) => ref_OrderCheck_2 _N _kn84 _s.1 _s.2.1 _s.2.2) fun _k85 => (loopE (fun (_c : Int × Int × List Int) (_s : Int) _kn => ref_OrderCheck_7 _N _k85 _c.1 _c.2.1 _c.2.2 _s _kn) _N (_v8, _v9, _v10) (0 : Int))) else (_k83 (_v9, _v10)))
noncomputable def ref_OrderCheck_9 (_N : Nat) (_v6 : Int) (_v7 : List Int) : Option Rt_ref_OrderCheck :=
  (joinD (fun (_s : Int × List Int) => ref_OrderCheck_1 _N) fun _k83 => (loopE (fun (_c : Int × List Int) (_s : Int) _kn => ref_OrderCheck_8 _N _k83 _c.1 _c.2 _s _kn) _N (_v6, _v7) (0 : Int)))
noncomputable def ref_OrderCheck_10 (_N : Nat) (_k99 : (Int × List Int) → Option Rt_ref_OrderCheck) (_v2 : Int) (_v3 : List Int) (_v1 : Int) (_kn100 : (Int × List Int) × Int → Option Rt_ref_OrderCheck) : Option Rt_ref_OrderCheck :=
  (bif (decide (_v1 < _v2)) then (bif (decide (0 ≤ _v1) && decide (_v1 < (_v3.length : Int))) then ((D_ref_Outside _N ((nth (0 : Int) _v3 (_v1).toNat), _v2, ())).bind fun _y101 => (bif _y101.1 then (some ((2 : Int), ())) else (_kn100 ((_v2, _v3), (IntKind.i64.wrap (_v1 + (1 : Int))))))) else none) else (_k99 (_v2, _v3)))
noncomputable def ref_OrderCheck_11 (_N : Nat) (_x1 : Int × List Int) : Option Rt_ref_OrderCheck :=
  (bif (decide (_x1.1 < (0 : Int))) then (some ((1 : Int), ())) else (bif (decide (_x1.1 > (16 : Int))) then (some ((1 : Int), ())) else (bif ((_x1.2.length : Int) != _x1.1) then (some ((2 : Int), ())) else (joinD (fun (_s : Int × List Int) => ref_OrderCheck_9 _N _s.1 _s.2) fun _k99 => (loopE (fun (_c : Int × List Int) (_s : Int) _kn => ref_OrderCheck_10 _N _k99 _c.1 _c.2 _s _kn) _N (_x1.1, _x1.2) (0 : Int))))))
noncomputable def D_ref_OrderCheck (_N : Nat) (_x : Dens Ks_ref_OrderCheck) : Option Rt_ref_OrderCheck := ref_OrderCheck_11 _N _x.1
theorem sp_ref_OrderCheck (_N : Nat) : SpecD Tryd.prog Gs 25 Ks_ref_OrderCheck Rk_ref_OrderCheck (D_ref_OrderCheck _N) := mkSpD (fn := Tryd.f25) (c := bodyOf Tryd.f25) (C := C_ref_OrderCheck _N)
    (a := .two .none (.two .none (.two .none (.join 1 ⟨[(1, .ptr 0 0)], [.cells [.int .i64, .sl (.int .u32)]]⟩ (.two .none (.one (.loop 1 ⟨[(1, .ptr 0 0), (3, .int .i64)], [.cells [.int .i64, .sl (.int .u32)]]⟩ [0] (.two .none (.two (.one (.two (.draw 0 [.pure, .rd [0], .pure, .pure, .pure, .pure, .rd [0], .pure]) .none)) .none))))) (.join 1 ⟨[], [.cells [.int .i64, .sl (.int .u32)]]⟩ (.two .none (.one (.loop 1 ⟨[(1, .ptr 0 0), (4, .int .i64)], [.cells [.int .i64, .sl (.int .u32)]]⟩ [0] (.two .none (.join 1 ⟨[(1, .ptr 0 0), (4, .int .i64)], [.cells [.int .i64, .sl (.int .u32)]]⟩ (.one (.two .none (.one (.loop 1 ⟨[(1, .ptr 0 0), (4, .int .i64), (5, .int .i64)], [.cells [.int .i64, .sl (.int .u32)]]⟩ [1] (.two .none (.join 1 ⟨[(1, .ptr 0 0), (4, .int .i64), (5, .int .i64)], [.cells [.int .i64, .sl (.int .u32)]]⟩ (.one (.two (.join 1 ⟨[(1, .ptr 0 0), (4, .int .i64), (5, .int .i64), (73, .bool)], [.cells [.int .i64, .sl (.int .u32)]]⟩ .none .none) (.two .none (.one (.loop 1 ⟨[(1, .ptr 0 0), (4, .int .i64), (5, .int .i64), (6, .int .i64)], [.cells [.int .i64, .sl (.int .u32)]]⟩ [2] (.two .none (.join 1 ⟨[(1, .ptr 0 0), (4, .int .i64), (5, .int .i64), (6, .int .i64)], [.cells [.int .i64, .sl (.int .u32)]]⟩ .none .none))))))) .none)))))) .none))))) .none)))))
    (by kernel_rfl) rfl (by kernel_rfl) (by kernel_rfl) ⟨rfl, by unfold TOk; kernel_rfl, gOk_of rfl rfl (List.forall_mem_cons.2 ⟨en_ref_Below _N, (List.forall_mem_cons.2 ⟨en_ref_Outside _N, (List.forall_mem_nil _)⟩)⟩), iOk_of rfl rfl (List.forall_mem_nil _), rfl⟩ (fun _x => by kernel_rfl)
theorem en_ref_OrderCheck (_N : Nat) : EntOk Tryd.prog Gs (mkP 25 Ks_ref_OrderCheck Rk_ref_OrderCheck (D_ref_OrderCheck _N)) := entP ⟨Tryd.f25, bodyOf Tryd.f25, by kernel_rfl, by kernel_rfl, rfl⟩ (by kernel_rfl) (sp_ref_OrderCheck _N)
-- watershed/order.Check$1
abbrev Ks_order_Check_c1 : List Kd := [.dat (.int .u32), .ptr (.pair (.int .i64) (.sl (.int .u32)))]
abbrev Rk_order_Check_c1 : List Kd := [.dat (.bool)]
abbrev Rt_order_Check_c1 : Type := Dens Rk_order_Check_c1
noncomputable def C_order_Check_c1 (_N : Nat) : Ctx := { T := [(3, ⟨.int .i64, 1, 8, some (.int .i64), [.int .i64 (0 : Int)], false, []⟩), (37, ⟨.struct [(0, 3), (1, 22)], 2, 32, some (.pair (.int .i64) (.sl (.int .u32))), [.int .i64 (0 : Int), .nil], false, []⟩)], G := findE [mkP 30 Ks_sets_All Rk_sets_All (D_sets_All _N)], I := findI [], N := _N, n := 10, fx := [], fl := 0, gs := Gs }
noncomputable def order_Check_c1_1 (_N : Nat) (_x1 : Int) (_x2 : Int × List Int) : Option Rt_order_Check_c1 :=
  ((D_sets_All _N (_x2.1, ())).bind fun _y2 => (some (((iandNot .u32 _x1 _y2.1) != (0 : Int)), ())))
noncomputable def D_order_Check_c1 (_N : Nat) (_x : Dens Ks_order_Check_c1) : Option Rt_order_Check_c1 := order_Check_c1_1 _N _x.1 _x.2.1
theorem sp_order_Check_c1 (_N : Nat) : SpecD Tryd.prog Gs 39 Ks_order_Check_c1 Rk_order_Check_c1 (D_order_Check_c1 _N) := mkSpD (fn := Tryd.f39) (c := bodyOf Tryd.f39) (C := C_order_Check_c1 _N)
    (a := .none)
    (by kernel_rfl) rfl (by kernel_rfl) (by kernel_rfl) ⟨rfl, by unfold TOk; kernel_rfl, gOk_of rfl rfl (List.forall_mem_cons.2 ⟨en_sets_All _N, (List.forall_mem_nil _)⟩), iOk_of rfl rfl (List.forall_mem_nil _), rfl⟩ (fun _x => by kernel_rfl)
theorem en_order_Check_c1 (_N : Nat) : EntOk Tryd.prog Gs (mkP 39 Ks_order_Check_c1 Rk_order_Check_c1 (D_order_Check_c1 _N)) := entP ⟨Tryd.f39, bodyOf Tryd.f39, by kernel_rfl, by kernel_rfl, rfl⟩ (by kernel_rfl) (sp_order_Check_c1 _N)
-- slices.IndexFunc[[]uint32,uint32]
abbrev Ks_slices_IndexFunc_Luint32_uint32_order_Check_c1 : List Kd := [.dat (.sl (.int .u32)), .clo 39 [.pair (.int .i64) (.sl (.int .u32))]]
abbrev Rk_slices_IndexFunc_Luint32_uint32_order_Check_c1 : List Kd := [.dat (.int .i64)]
abbrev Rt_slices_IndexFunc_Luint32_uint32_order_Check_c1 : Type := Dens Rk_slices_IndexFunc_Luint32_uint32_order_Check_c1
noncomputable def C_slices_IndexFunc_Luint32_uint32_order_Check_c1 (_N : Nat) : Ctx := { T := [(22, ⟨.slice 29, 1, 24, some (.sl (.int .u32)), [.nil], false, []⟩), (29, ⟨.int .u32, 1, 4, some (.int .u32), [.int .u32 (0 : Int)], false, []⟩)], G := findE [mkP 39 Ks_order_Check_c1 Rk_order_Check_c1 (D_order_Check_c1 _N)], I := findI [], N := _N, n := 19, fx := [], fl := 0, gs := Gs }
noncomputable def slices_IndexFunc_Luint32_uint32_order_Check_c1_1 (_N : Nat) : Option Rt_slices_IndexFunc_Luint32_uint32_order_Check_c1 :=
  (some ((-1 : Int), ()))
noncomputable def slices_IndexFunc_Luint32_uint32_order_Check_c1_2 (_N : Nat) (_k7 : Unit → Option Rt_slices_IndexFunc_Luint32_uint32_order_Check_c1) (_v1 : List Int) (_v2 : Int × List Int) (_v3 : Int) (_v4 : Int) (_kn8 : (List Int × (Int × List Int) × Int) × Int → Option Rt_slices_IndexFunc_Luint32_uint32_order_Check_c1) : Option Rt_slices_IndexFunc_Luint32_uint32_order_Check_c1 :=
  (bif (decide (_v4 < _v3)) then (bif (decide (0 ≤ _v4) && decide (_v4 < (_v1.length : Int))) then ((D_order_Check_c1 _N ((nth (0 : Int) _v1 (_v4).toNat), _v2, ())).bind fun _y9 => (bif _y9.1 then (some (_v4, ())) else (_kn8 ((_v1, _v2, _v3), (IntKind.i64.wrap (_v4 + (1 : Int))))))) else none) else (_k7 ()))
noncomputable def slices_IndexFunc_Luint32_uint32_order_Check_c1_3 (_N : Nat) (_x1 : List Int) (_x2 : (Int × List Int) × Unit) : Option Rt_slices_IndexFunc_Luint32_uint32_order_Check_c1 :=
  (joinD (fun (_s : Unit) => slices_IndexFunc_Luint32_uint32_order_Check_c1_1 _N) fun _k7 => (loopE (fun (_c : List Int × (Int × List Int) × Int) (_s : Int) _kn => slices_IndexFunc_Luint32_uint32_order_Check_c1_2 _N _k7 _c.1 _c.2.1 _c.2.2 _s _kn) _N (_x1, _x2.1, (_x1.length : Int)) (0 : Int)))
noncomputable def D_slices_IndexFunc_Luint32_uint32_order_Check_c1 (_N : Nat) (_x : Dens Ks_slices_IndexFunc_Luint32_uint32_order_Check_c1) : Option Rt_slices_IndexFunc_Luint32_uint32_order_Check_c1 := slices_IndexFunc_Luint32_uint32_order_Check_c1_3 _N _x.1 _x.2.1
theorem sp_slices_IndexFunc_Luint32_uint32_order_Check_c1 (_N : Nat) : SpecD Tryd.prog Gs 53 Ks_slices_IndexFunc_Luint32_uint32_order_Check_c1 Rk_slices_IndexFunc_Luint32_uint32_order_Check_c1 (D_slices_IndexFunc_Luint32_uint32_order_Check_c1 _N) := mkSpD (fn := Tryd.f53) (c := bodyOf Tryd.f53) (C := C_slices_IndexFunc_Luint32_uint32_order_Check_c1 _N)
    (a := .two .none (.join 0 ⟨[], []⟩ (.two .none (.one (.loop 0 ⟨[(0, .sl (.int .u32)), (1, .clo 39 [.fptr (.pair (.int .i64) (.sl (.int .u32)))]), (7, .int .i64), (8, .int .i64)], []⟩ [3] .none))) .none))
    (by kernel_rfl) rfl (by kernel_rfl) (by kernel_rfl) ⟨rfl, by unfold TOk; kernel_rfl, gOk_of rfl rfl (List.forall_mem_cons.2 ⟨en_order_Check_c1 _N, (List.forall_mem_nil _)⟩), iOk_of rfl rfl (List.forall_mem_nil _), rfl⟩ (fun _x => by kernel_rfl)
theorem en_slices_IndexFunc_Luint32_uint32_order_Check_c1 (_N : Nat) : EntOk Tryd.prog Gs (mkP 53 Ks_slices_IndexFunc_Luint32_uint32_order_Check_c1 Rk_slices_IndexFunc_Luint32_uint32_order_Check_c1 (D_slices_IndexFunc_Luint32_uint32_order_Check_c1 _N)) := entP ⟨Tryd.f53, bodyOf Tryd.f53, by kernel_rfl, by kernel_rfl, rfl⟩ (by kernel_rfl) (sp_slices_IndexFunc_Luint32_uint32_order_Check_c1 _N)
-- slices.ContainsFunc[[]uint32,uint32]
abbrev Ks_slices_ContainsFunc_Luint32_uint32_order_Check_c1 : List Kd := [.dat (.sl (.int .u32)), .clo 39 [.pair (.int .i64) (.sl (.int .u32))]]
abbrev Rk_slices_ContainsFunc_Luint32_uint32_order_Check_c1 : List Kd := [.dat (.bool)]
abbrev Rt_slices_ContainsFunc_Luint32_uint32_order_Check_c1 : Type := Dens Rk_slices_ContainsFunc_Luint32_uint32_order_Check_c1
noncomputable def C_slices_ContainsFunc_Luint32_uint32_order_Check_c1 (_N : Nat) : Ctx := { T := [], G := findE [mkP 53 Ks_slices_IndexFunc_Luint32_uint32_order_Check_c1 Rk_slices_IndexFunc_Luint32_uint32_order_Check_c1 (D_slices_IndexFunc_Luint32_uint32_order_Check_c1 _N)], I := findI [], N := _N, n := 9, fx := [], fl := 0, gs := Gs }
noncomputable def slices_ContainsFunc_Luint32_uint32_order_Check_c1_1 (_N : Nat) (_x1 : List Int) (_x2 : (Int × List Int) × Unit) : Option Rt_slices_ContainsFunc_Luint32_uint32_order_Check_c1 :=
  ((D_slices_IndexFunc_Luint32_uint32_order_Check_c1 _N (_x1, (_x2.1, ()), ())).bind fun _y2 => (some ((decide (_y2.1 ≥ (0 : Int))), ())))
noncomputable def D_slices_ContainsFunc_Luint32_uint32_order_Check_c1 (_N : Nat) (_x : Dens Ks_slices_ContainsFunc_Luint32_uint32_order_Check_c1) : Option Rt_slices_ContainsFunc_Luint32_uint32_order_Check_c1 := slices_ContainsFunc_Luint32_uint32_order_Check_c1_1 _N _x.1 _x.2.1
theorem sp_slices_ContainsFunc_Luint32_uint32_order_Check_c1 (_N : Nat) : SpecD Tryd.prog Gs 38 Ks_slices_ContainsFunc_Luint32_uint32_order_Check_c1 Rk_slices_ContainsFunc_Luint32_uint32_order_Check_c1 (D_slices_ContainsFunc_Luint32_uint32_order_Check_c1 _N) := mkSpD (fn := Tryd.f38) (c := bodyOf Tryd.f38) (C := C_slices_ContainsFunc_Luint32_uint32_order_Check_c1 _N)
    (a := .none)
    (by kernel_rfl) rfl (by kernel_rfl) (by kernel_rfl) ⟨rfl, by unfold TOk; kernel_rfl, gOk_of rfl rfl (List.forall_mem_cons.2 ⟨en_slices_IndexFunc_Luint32_uint32_order_Check_c1 _N, (List.forall_mem_nil _)⟩), iOk_of rfl rfl (List.forall_mem_nil _), rfl⟩ (fun _x => by kernel_rfl)
theorem en_slices_ContainsFunc_Luint32_uint32_order_Check_c1 (_N : Nat) : EntOk Tryd.prog Gs (mkP 38 Ks_slices_ContainsFunc_Luint32_uint32_order_Check_c1 Rk_slices_ContainsFunc_Luint32_uint32_order_Check_c1 (D_slices_ContainsFunc_Luint32_uint32_order_Check_c1 _N)) := entP ⟨Tryd.f38, bodyOf Tryd.f38, by kernel_rfl, by kernel_rfl, rfl⟩ (by kernel_rfl) (sp_slices_ContainsFunc_Luint32_uint32_order_Check_c1 _N)
-- watershed/order.Check
abbrev Ks_order_Check : List Kd := [.dat (.pair (.int .i64) (.sl (.int .u32)))]
abbrev Rk_order_Check : List Kd := [.dat (.int .i64)]
abbrev Rt_order_Check : Type := Dens Rk_order_Check
noncomputable def C_order_Check (_N : Nat) : Ctx := { T := [(3, ⟨.int .i64, 1, 8, some (.int .i64), [.int .i64 (0 : Int)], false, []⟩), (22, ⟨.slice 29, 1, 24, some (.sl (.int .u32)), [.nil], false, []⟩), (26, ⟨.int .i64, 1, 8, some (.int .i64), [.int .i64 (0 : Int)], false, []⟩), (29, ⟨.int .u32, 1, 4, some (.int .u32), [.int .u32 (0 : Int)], false, []⟩), (37, ⟨.struct [(0, 3), (1, 22)], 2, 32, some (.pair (.int .i64) (.sl (.int .u32))), [.int .i64 (0 : Int), .nil], false, []⟩)], G := findE [mkP 38 Ks_slices_ContainsFunc_Luint32_uint32_order_Check_c1 Rk_slices_ContainsFunc_Luint32_uint32_order_Check_c1 (D_slices_ContainsFunc_Luint32_uint32_order_Check_c1 _N), mkP 33 Ks_sets_Has_uint32 Rk_sets_Has_uint32 (D_sets_Has_uint32 _N), mkP 27 Ks_sets_One Rk_sets_One (D_sets_One _N), mkB 31 Ks_sets_Each_uint32 41 (.int .u32) (D_sets_Each_uint32 _N)], I := findI [mkI 41 Ks_each (.int .i64) eachXs], N := _N, n := 62, fx := [], fl := 0, gs := Gs }
noncomputable def order_Check_1 (_N : Nat) : Option Rt_order_Check :=
  (some ((0 : Int), ()))
noncomputable def order_Check_2 (_N : Nat) (_kn35 : (List Int × Int × Int × List Int × Int) × Int → Option Rt_order_Check) (_v18 : List Int) (_v19 : Int) (_v20 : Int) (_v21 : Int) (_v22 : List Int) (_v23 : Int) : Option Rt_order_Check :=
  (_kn35 ((_v18, _v19, _v21, _v22, _v23), (IntKind.i64.wrap (_v20 + (1 : Int)))))
noncomputable def order_Check_3 (_N : Nat) (_v12 : Int) (_v13 : List Int) (_v14 : Int) (_v15 : Int) (_v16 : Int) (_kn40 : (Int × List Int × Int × Int × Int) × Unit → Option Rt_order_Check) (_y11 : Int) : Option Rt_order_Check :=
  (bif (decide (0 ≤ _y11) && decide (_y11 < (_v13.length : Int))) then ((D_sets_Has_uint32 _N ((nth (0 : Int) _v13 (_y11).toNat), _v15, ())).bind fun _y41 => (bif _y41.1 then (some ((3 : Int), ())) else (bif (decide (0 ≤ _y11) && decide (_y11 < (_v13.length : Int))) then (bif ((iandNot .u32 (nth (0 : Int) _v13 (_y11).toNat) _v16) != (0 : Int)) then (some ((3 : Int), ())) else (_kn40 ((_v12, _v13, _v14, _v15, _v16), ()))) else none))) else none)
noncomputable def order_Check_4 (_N : Nat) (_k34 : (Int × List Int × Int) → Option Rt_order_Check) (_v2 : List Int) (_v3 : Int) (_v5 : Int) (_v6 : List Int) (_v7 : Int) (_v4 : Int) (_kn35 : (List Int × Int × Int × List Int × Int) × Int → Option Rt_order_Check) : Option Rt_order_Check :=
  (bif (decide (_v4 < _v3)) then (joinD (fun (_s : List Int × Int × Int × Int × List Int × Int × Int × Int) => order_Check_2 _N _kn35 _s.1 _s.2.1 _s.2.2.1 _s.2.2.2.1 _s.2.2.2.2.1 _s.2.2.2.2.2.1) fun _k36 => (bif (decide (0 ≤ _v4) && decide (_v4 < (_v2.length : Int))) then ((D_sets_Has_uint32 _N ((nth (0 : Int) _v2 (_v4).toNat), _v4, ())).bind fun _y37 => (bif (!_y37.1) then (some ((3 : Int), ())) else ((D_sets_One _N (_v4, ())).bind fun _y38 => ((D_sets_Each_uint32 _N ((iandNot .u32 (nth (0 : Int) _v2 (_v4).toNat) _y38.1), ())).bind fun _y39 => (forE (fun (_c : Int × List Int × Int × Int × Int) (_y : Int) (_s : Unit) _kn => order_Check_3 _N _c.1 _c.2.1 _c.2.2.1 _c.2.2.2.1 _c.2.2.2.2 _kn _y) (fun (_c : Int × List Int × Int × Int × Int) (_s : Unit) => (_k36 (_v2, _v3, _v4, _c.1, _c.2.1, _c.2.2.1, _c.2.2.2.1, _c.2.2.2.2))) (eachXs (_y39, ())) (_v5, _v6, _v7, _v4, (nth (0 : Int) _v2 (_v4).toNat)) ()))))) else none)) else (_k34 (_v5, _v6, _v7)))
noncomputable def order_Check_5 (_N : Nat) (_x1 : Int × List Int) : Option Rt_order_Check :=
  (bif (decide (_x1.1 < (0 : Int))) then (some ((1 : Int), ())) else (bif (decide (_x1.1 > (16 : Int))) then (some ((1 : Int), ())) else (bif ((_x1.2.length : Int) != _x1.1) then (some ((2 : Int), ())) else ((D_slices_ContainsFunc_Luint32_uint32_order_Check_c1 _N (_x1.2, ((_x1.1, _x1.2), ()), ())).bind fun _y33 => (bif _y33.1 then (some ((2 : Int), ())) else (joinD (fun (_s : Int × List Int × Int) => order_Check_1 _N) fun _k34 => (loopE (fun (_c : List Int × Int × Int × List Int × Int) (_s : Int) _kn => order_Check_4 _N _k34 _c.1 _c.2.1 _c.2.2.1 _c.2.2.2.1 _c.2.2.2.2 _s _kn) _N (_x1.2, (_x1.2.length : Int), _x1.1, _x1.2, (0 : Int)) (0 : Int))))))))
noncomputable def D_order_Check (_N : Nat) (_x : Dens Ks_order_Check) : Option Rt_order_Check := order_Check_5 _N _x.1
theorem sp_order_Check (_N : Nat) : SpecD Tryd.prog Gs 26 Ks_order_Check Rk_order_Check (D_order_Check _N) := mkSpD (fn := Tryd.f26) (c := bodyOf Tryd.f26) (C := C_order_Check _N)
    (a := .two .none (.two .none (.two .none (.join 2 ⟨[(2, .ptr 1 0)], [.cells [.int .i64, .sl (.int .u32)], .cells [.int .i64]]⟩ (.two .none (.one (.loop 2 ⟨[(1, .ptr 0 0), (2, .ptr 1 0), (27, .sl (.int .u32)), (28, .int .i64), (29, .int .i64)], [.cells [.int .i64, .sl (.int .u32)], .cells [.int .i64]]⟩ [2] (.two .none (.two .none (.join 4 ⟨[(1, .ptr 0 0), (2, .ptr 1 0), (27, .sl (.int .u32)), (28, .int .i64), (29, .int .i64)], [.cells [.int .i64, .sl (.int .u32)], .cells [.int .i64], .cells [.int .i64], .cells [.int .u32]]⟩ (.one (.two .none (.two .none (.two (.draw 0 [.rd [3], .rd [2], .pure, .pure, .full]) (.one (.keep [1, 2, 3, 4, 27, 28, 29, 42] 4 (.each 4 [.cells [.int .i64, .sl (.int .u32)], .cells [.int .i64], .cells [.int .i64], .cells [.int .u32]] [] .none (.one (.two (.draw 0 [.pure, .rd [0], .pure, .pure, .pure, .rd [2], .pure, .pure, .pure, .rd [0], .pure, .pure, .pure, .rd [3], .pure, .pure, .pure]) .none))))))))) .none)))))) .none))))
    (by kernel_rfl) rfl (by kernel_rfl) (by kernel_rfl) ⟨rfl, by unfold TOk; kernel_rfl, gOk_of rfl rfl (List.forall_mem_cons.2 ⟨en_slices_ContainsFunc_Luint32_uint32_order_Check_c1 _N, (List.forall_mem_cons.2 ⟨en_sets_Has_uint32 _N, (List.forall_mem_cons.2 ⟨en_sets_One _N, (List.forall_mem_cons.2 ⟨en_sets_Each_uint32 _N, (List.forall_mem_nil _)⟩)⟩)⟩)⟩), iOk_of rfl rfl (List.forall_mem_cons.2 ⟨en_each, (List.forall_mem_nil _)⟩), rfl⟩ (fun _x => by kernel_rfl)
theorem en_order_Check (_N : Nat) : EntOk Tryd.prog Gs (mkP 26 Ks_order_Check Rk_order_Check (D_order_Check _N)) := entP ⟨Tryd.f26, bodyOf Tryd.f26, by kernel_rfl, by kernel_rfl, rfl⟩ (by kernel_rfl) (sp_order_Check _N)
-- watershed/watershedkeep.sound
abbrev Ks_keep_sound : List Kd := [.dat (.pair (.int .i64) (.sl (.int .u32)))]
abbrev Rk_keep_sound : List Kd := [.dat (.bool)]
abbrev Rt_keep_sound : Type := Dens Rk_keep_sound
noncomputable def C_keep_sound (_N : Nat) : Ctx := { T := [(37, ⟨.struct [(0, 3), (1, 22)], 2, 32, some (.pair (.int .i64) (.sl (.int .u32))), [.int .i64 (0 : Int), .nil], false, []⟩)], G := findE [mkP 25 Ks_ref_OrderCheck Rk_ref_OrderCheck (D_ref_OrderCheck _N)], I := findI [], N := _N, n := 6, fx := [], fl := 0, gs := Gs }
noncomputable def keep_sound_1 (_N : Nat) (_x1 : Int × List Int) : Option Rt_keep_sound :=
  ((D_ref_OrderCheck _N ((_x1.1, _x1.2), ())).bind fun _y2 => (some ((_y2.1 == (0 : Int)), ())))
noncomputable def D_keep_sound (_N : Nat) (_x : Dens Ks_keep_sound) : Option Rt_keep_sound := keep_sound_1 _N _x.1
theorem sp_keep_sound (_N : Nat) : SpecD Tryd.prog Gs 8 Ks_keep_sound Rk_keep_sound (D_keep_sound _N) := mkSpD (fn := Tryd.f8) (c := bodyOf Tryd.f8) (C := C_keep_sound _N)
    (a := .none)
    (by kernel_rfl) rfl (by kernel_rfl) (by kernel_rfl) ⟨rfl, by unfold TOk; kernel_rfl, gOk_of rfl rfl (List.forall_mem_cons.2 ⟨en_ref_OrderCheck _N, (List.forall_mem_nil _)⟩), iOk_of rfl rfl (List.forall_mem_nil _), rfl⟩ (fun _x => by kernel_rfl)
theorem en_keep_sound (_N : Nat) : EntOk Tryd.prog Gs (mkP 8 Ks_keep_sound Rk_keep_sound (D_keep_sound _N)) := entP ⟨Tryd.f8, bodyOf Tryd.f8, by kernel_rfl, by kernel_rfl, rfl⟩ (by kernel_rfl) (sp_keep_sound _N)
-- watershed/watershedkeep.refused
abbrev Ks_keep_refused : List Kd := [.dat (.pair (.int .i64) (.sl (.int .u32)))]
abbrev Rk_keep_refused : List Kd := [.dat (.bool)]
abbrev Rt_keep_refused : Type := Dens Rk_keep_refused
noncomputable def C_keep_refused (_N : Nat) : Ctx := { T := [(37, ⟨.struct [(0, 3), (1, 22)], 2, 32, some (.pair (.int .i64) (.sl (.int .u32))), [.int .i64 (0 : Int), .nil], false, []⟩)], G := findE [mkP 26 Ks_order_Check Rk_order_Check (D_order_Check _N)], I := findI [], N := _N, n := 6, fx := [], fl := 0, gs := Gs }
noncomputable def keep_refused_1 (_N : Nat) (_x1 : Int × List Int) : Option Rt_keep_refused :=
  ((D_order_Check _N ((_x1.1, _x1.2), ())).bind fun _y2 => (some ((_y2.1 != (0 : Int)), ())))
noncomputable def D_keep_refused (_N : Nat) (_x : Dens Ks_keep_refused) : Option Rt_keep_refused := keep_refused_1 _N _x.1
theorem sp_keep_refused (_N : Nat) : SpecD Tryd.prog Gs 9 Ks_keep_refused Rk_keep_refused (D_keep_refused _N) := mkSpD (fn := Tryd.f9) (c := bodyOf Tryd.f9) (C := C_keep_refused _N)
    (a := .none)
    (by kernel_rfl) rfl (by kernel_rfl) (by kernel_rfl) ⟨rfl, by unfold TOk; kernel_rfl, gOk_of rfl rfl (List.forall_mem_cons.2 ⟨en_order_Check _N, (List.forall_mem_nil _)⟩), iOk_of rfl rfl (List.forall_mem_nil _), rfl⟩ (fun _x => by kernel_rfl)
theorem en_keep_refused (_N : Nat) : EntOk Tryd.prog Gs (mkP 9 Ks_keep_refused Rk_keep_refused (D_keep_refused _N)) := entP ⟨Tryd.f9, bodyOf Tryd.f9, by kernel_rfl, by kernel_rfl, rfl⟩ (by kernel_rfl) (sp_keep_refused _N)
-- watershed/watershedkeep.within
abbrev Ks_keep_within : List Kd := [.dat (.int .i64), .dat (.sl (.int .i64))]
abbrev Rk_keep_within : List Kd := [.dat (.bool)]
abbrev Rt_keep_within : Type := Dens Rk_keep_within
noncomputable def C_keep_within (_N : Nat) : Ctx := { T := [(3, ⟨.int .i64, 1, 8, some (.int .i64), [.int .i64 (0 : Int)], false, []⟩), (39, ⟨.slice 3, 1, 24, some (.sl (.int .i64)), [.nil], false, []⟩)], G := findE [], I := findI [], N := _N, n := 21, fx := [], fl := 0, gs := Gs }
noncomputable def keep_within_1 (_N : Nat) : Option Rt_keep_within :=
  (some (true, ()))
noncomputable def keep_within_2 (_N : Nat) (_k5 : Unit → Option Rt_keep_within) (_v1 : Int) (_v2 : List Int) (_v3 : Int) (_v4 : Int) (_kn6 : (Int × List Int × Int) × Int → Option Rt_keep_within) : Option Rt_keep_within :=
  (bif (decide (_v4 < _v3)) then (bif (decide (0 ≤ _v4) && decide (_v4 < (_v2.length : Int))) then (bif (decide ((nth (0 : Int) _v2 (_v4).toNat) < (0 : Int))) then (some (false, ())) else (bif (decide ((nth (0 : Int) _v2 (_v4).toNat) ≥ _v1)) then (some (false, ())) else (_kn6 ((_v1, _v2, _v3), (IntKind.i64.wrap (_v4 + (1 : Int))))))) else none) else (_k5 ()))
noncomputable def keep_within_3 (_N : Nat) (_x1 : Int) (_x2 : List Int) : Option Rt_keep_within :=
  (joinD (fun (_s : Unit) => keep_within_1 _N) fun _k5 => (loopE (fun (_c : Int × List Int × Int) (_s : Int) _kn => keep_within_2 _N _k5 _c.1 _c.2.1 _c.2.2 _s _kn) _N (_x1, _x2, (_x2.length : Int)) (0 : Int)))
noncomputable def D_keep_within (_N : Nat) (_x : Dens Ks_keep_within) : Option Rt_keep_within := keep_within_3 _N _x.1 _x.2.1
theorem sp_keep_within (_N : Nat) : SpecD Tryd.prog Gs 12 Ks_keep_within Rk_keep_within (D_keep_within _N) := mkSpD (fn := Tryd.f12) (c := bodyOf Tryd.f12) (C := C_keep_within _N)
    (a := .two .none (.join 0 ⟨[], []⟩ (.two .none (.one (.loop 0 ⟨[(0, .int .i64), (7, .sl (.int .i64)), (8, .int .i64), (9, .int .i64)], []⟩ [3] .none))) .none))
    (by kernel_rfl) rfl (by kernel_rfl) (by kernel_rfl) ⟨rfl, by unfold TOk; kernel_rfl, gOk_of rfl rfl (List.forall_mem_nil _), iOk_of rfl rfl (List.forall_mem_nil _), rfl⟩ (fun _x => by kernel_rfl)
theorem en_keep_within (_N : Nat) : EntOk Tryd.prog Gs (mkP 12 Ks_keep_within Rk_keep_within (D_keep_within _N)) := entP ⟨Tryd.f12, bodyOf Tryd.f12, by kernel_rfl, by kernel_rfl, rfl⟩ (by kernel_rfl) (sp_keep_within _N)
-- watershed/watershedkeep.below
abbrev Ks_keep_below : List Kd := [.dat (.pair (.int .i64) (.sl (.int .u32))), .dat (.int .i64), .dat (.int .i64)]
abbrev Rk_keep_below : List Kd := [.dat (.bool)]
abbrev Rt_keep_below : Type := Dens Rk_keep_below
noncomputable def C_keep_below (_N : Nat) : Ctx := { T := [(22, ⟨.slice 29, 1, 24, some (.sl (.int .u32)), [.nil], false, []⟩), (29, ⟨.int .u32, 1, 4, some (.int .u32), [.int .u32 (0 : Int)], false, []⟩), (37, ⟨.struct [(0, 3), (1, 22)], 2, 32, some (.pair (.int .i64) (.sl (.int .u32))), [.int .i64 (0 : Int), .nil], false, []⟩)], G := findE [mkP 7 Ks_ref_Bit Rk_ref_Bit (D_ref_Bit _N)], I := findI [], N := _N, n := 14, fx := [], fl := 0, gs := Gs }
noncomputable def keep_below_1 (_N : Nat) (_x1 : Int × List Int) (_x2 : Int) (_x3 : Int) : Option Rt_keep_below :=
  (bif (decide (0 ≤ _x2) && decide (_x2 < (_x1.2.length : Int))) then ((D_ref_Bit _N ((nth (0 : Int) _x1.2 (_x2).toNat), _x3, ())).bind fun _y2 => (some (_y2.1, ()))) else none)
noncomputable def D_keep_below (_N : Nat) (_x : Dens Ks_keep_below) : Option Rt_keep_below := keep_below_1 _N _x.1 _x.2.1 _x.2.2.1
theorem sp_keep_below (_N : Nat) : SpecD Tryd.prog Gs 13 Ks_keep_below Rk_keep_below (D_keep_below _N) := mkSpD (fn := Tryd.f13) (c := bodyOf Tryd.f13) (C := C_keep_below _N)
    (a := .none)
    (by kernel_rfl) rfl (by kernel_rfl) (by kernel_rfl) ⟨rfl, by unfold TOk; kernel_rfl, gOk_of rfl rfl (List.forall_mem_cons.2 ⟨en_ref_Bit _N, (List.forall_mem_nil _)⟩), iOk_of rfl rfl (List.forall_mem_nil _), rfl⟩ (fun _x => by kernel_rfl)
theorem en_keep_below (_N : Nat) : EntOk Tryd.prog Gs (mkP 13 Ks_keep_below Rk_keep_below (D_keep_below _N)) := entP ⟨Tryd.f13, bodyOf Tryd.f13, by kernel_rfl, by kernel_rfl, rfl⟩ (by kernel_rfl) (sp_keep_below _N)
end Go.Proofs.YtkijpiphgnnonaaDoor
