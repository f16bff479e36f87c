/- polar: the functions. -/
import Derived.Test.YtkijpiphgnnonaaDoorIter
import Derived.Test.YtkijpiphgnnonaaDoorAbsSort
import Derived.Shelf.SlGeneric
import Derived.Ground.SlsfProg
namespace Go.Proofs.YtkijpiphgnnonaaDoor
open Go.Abs
-- watershed/polar.shared
abbrev Ks_polar_shared : List Kd := [.dat (.sl (.int .u32)), .dat (.int .u32), .dat (.int .i64)]
abbrev Rk_polar_shared : List Kd := [.dat (.int .u32)]
abbrev Rt_polar_shared : Type := Dens Rk_polar_shared
noncomputable def C_polar_shared (_N : Nat) : Ctx := { T := [(22, ⟨.slice 29, 1, 24, some (.sl (.int .u32)), [.nil], false, []⟩), (29, ⟨.int .u32, 1, 4, some (.int .u32), [.int .u32 (0 : Int)], false, []⟩)], G := findE [mkP 30 Ks_sets_All Rk_sets_All (D_sets_All _N), mkB 31 Ks_sets_Each_uint32 41 (.int .u32) (D_sets_Each_uint32 _N)], I := findI [mkI 41 Ks_each (.int .i64) eachXs], N := _N, n := 21, fx := [], fl := 0, gs := Gs }
noncomputable def polar_shared_1 (_N : Nat) (_v7 : Int) : Option Rt_polar_shared :=
  (some (_v7, ()))
noncomputable def polar_shared_2 (_N : Nat) (_v4 : List Int) (_v5 : Int) (_kn11 : List Int × Int → Option Rt_polar_shared) (_y3 : Int) : Option Rt_polar_shared :=
  (bif (decide (0 ≤ _y3) && decide (_y3 < (_v4.length : Int))) then (_kn11 (_v4, (iand .u32 _v5 (nth (0 : Int) _v4 (_y3).toNat)))) else none)
noncomputable def polar_shared_3 (_N : Nat) (_x1 : List Int) (_x2 : Int) (_x3 : Int) : Option Rt_polar_shared :=
  ((D_sets_All _N (_x3, ())).bind fun _y8 => (joinD (fun (_s : List Int × Int) => polar_shared_1 _N _s.2) fun _k9 => ((D_sets_Each_uint32 _N (_x2, ())).bind fun _y10 => (forE (fun (_c : List Int) (_y : Int) (_s : Int) _kn => polar_shared_2 _N _c _s _kn _y) (fun (_c : List Int) (_s : Int) => (_k9 (_c, _s))) (eachXs (_y10, ())) _x1 _y8.1))))
noncomputable def D_polar_shared (_N : Nat) (_x : Dens Ks_polar_shared) : Option Rt_polar_shared := polar_shared_3 _N _x.1 _x.2.1 _x.2.2.1
theorem sp_polar_shared (_N : Nat) : SpecD Tryd.prog Gs 32 Ks_polar_shared Rk_polar_shared (D_polar_shared _N) := mkSpD (fn := Tryd.f32) (c := bodyOf Tryd.f32) (C := C_polar_shared _N)
    (a := .two .none (.two .none (.join 2 ⟨[(7, .ptr 1 0)], [.cells [.sl (.int .u32)], .cells [.int .u32]]⟩ (.two .none (.one (.keep [3, 7, 12] 2 (.each 2 [.cells [.sl (.int .u32)], .cells [.int .u32]] [1] .none (.one (.draw 0 [.rd [1], .rd [0], .pure, .pure, .pure, .pure, .wr [1]])))))) .none)))
    (by kernel_rfl) rfl (by kernel_rfl) (by kernel_rfl) ⟨rfl, by unfold TOk; kernel_rfl, gOk_of rfl rfl (List.forall_mem_cons.2 ⟨en_sets_All _N, (List.forall_mem_cons.2 ⟨en_sets_Each_uint32 _N, (List.forall_mem_nil _)⟩)⟩), iOk_of rfl rfl (List.forall_mem_cons.2 ⟨en_each, (List.forall_mem_nil _)⟩), rfl⟩ (fun _x => by kernel_rfl)
theorem en_polar_shared (_N : Nat) : EntOk Tryd.prog Gs (mkP 32 Ks_polar_shared Rk_polar_shared (D_polar_shared _N)) := entP ⟨Tryd.f32, bodyOf Tryd.f32, by kernel_rfl, by kernel_rfl, rfl⟩ (by kernel_rfl) (sp_polar_shared _N)
-- (watershed/polar.sides).up
abbrev Ks_polar_sides_up : List Kd := [.dat (.pair (.sl (.int .u32)) (.sl (.int .u32))), .dat (.int .u32)]
abbrev Rk_polar_sides_up : List Kd := [.dat (.int .u32)]
abbrev Rt_polar_sides_up : Type := Dens Rk_polar_sides_up
noncomputable def C_polar_sides_up (_N : Nat) : Ctx := { T := [(22, ⟨.slice 29, 1, 24, some (.sl (.int .u32)), [.nil], false, []⟩), (54, ⟨.struct [(0, 22), (1, 22)], 2, 48, some (.pair (.sl (.int .u32)) (.sl (.int .u32))), [.nil, .nil], false, []⟩)], G := findE [mkP 32 Ks_polar_shared Rk_polar_shared (D_polar_shared _N)], I := findI [], N := _N, n := 12, fx := [], fl := 0, gs := Gs }
noncomputable def polar_sides_up_1 (_N : Nat) (_x1 : List Int × List Int) (_x2 : Int) : Option Rt_polar_sides_up :=
  ((D_polar_shared _N (_x1.1, _x2, (_x1.2.length : Int), ())).bind fun _y2 => (some (_y2.1, ())))
noncomputable def D_polar_sides_up (_N : Nat) (_x : Dens Ks_polar_sides_up) : Option Rt_polar_sides_up := polar_sides_up_1 _N _x.1 _x.2.1
theorem sp_polar_sides_up (_N : Nat) : SpecD Tryd.prog Gs 19 Ks_polar_sides_up Rk_polar_sides_up (D_polar_sides_up _N) := mkSpD (fn := Tryd.f19) (c := bodyOf Tryd.f19) (C := C_polar_sides_up _N)
    (a := .none)
    (by kernel_rfl) rfl (by kernel_rfl) (by kernel_rfl) ⟨rfl, by unfold TOk; kernel_rfl, gOk_of rfl rfl (List.forall_mem_cons.2 ⟨en_polar_shared _N, (List.forall_mem_nil _)⟩), iOk_of rfl rfl (List.forall_mem_nil _), rfl⟩ (fun _x => by kernel_rfl)
theorem en_polar_sides_up (_N : Nat) : EntOk Tryd.prog Gs (mkP 19 Ks_polar_sides_up Rk_polar_sides_up (D_polar_sides_up _N)) := entP ⟨Tryd.f19, bodyOf Tryd.f19, by kernel_rfl, by kernel_rfl, rfl⟩ (by kernel_rfl) (sp_polar_sides_up _N)
-- (watershed/polar.sides).down
abbrev Ks_polar_sides_down : List Kd := [.dat (.pair (.sl (.int .u32)) (.sl (.int .u32))), .dat (.int .u32)]
abbrev Rk_polar_sides_down : List Kd := [.dat (.int .u32)]
abbrev Rt_polar_sides_down : Type := Dens Rk_polar_sides_down
noncomputable def C_polar_sides_down (_N : Nat) : Ctx := { T := [(22, ⟨.slice 29, 1, 24, some (.sl (.int .u32)), [.nil], false, []⟩), (54, ⟨.struct [(0, 22), (1, 22)], 2, 48, some (.pair (.sl (.int .u32)) (.sl (.int .u32))), [.nil, .nil], false, []⟩)], G := findE [mkP 32 Ks_polar_shared Rk_polar_shared (D_polar_shared _N)], I := findI [], N := _N, n := 12, fx := [], fl := 0, gs := Gs }
noncomputable def polar_sides_down_1 (_N : Nat) (_x1 : List Int × List Int) (_x2 : Int) : Option Rt_polar_sides_down :=
  ((D_polar_shared _N (_x1.2, _x2, (_x1.1.length : Int), ())).bind fun _y2 => (some (_y2.1, ())))
noncomputable def D_polar_sides_down (_N : Nat) (_x : Dens Ks_polar_sides_down) : Option Rt_polar_sides_down := polar_sides_down_1 _N _x.1 _x.2.1
theorem sp_polar_sides_down (_N : Nat) : SpecD Tryd.prog Gs 18 Ks_polar_sides_down Rk_polar_sides_down (D_polar_sides_down _N) := mkSpD (fn := Tryd.f18) (c := bodyOf Tryd.f18) (C := C_polar_sides_down _N)
    (a := .none)
    (by kernel_rfl) rfl (by kernel_rfl) (by kernel_rfl) ⟨rfl, by unfold TOk; kernel_rfl, gOk_of rfl rfl (List.forall_mem_cons.2 ⟨en_polar_shared _N, (List.forall_mem_nil _)⟩), iOk_of rfl rfl (List.forall_mem_nil _), rfl⟩ (fun _x => by kernel_rfl)
theorem en_polar_sides_down (_N : Nat) : EntOk Tryd.prog Gs (mkP 18 Ks_polar_sides_down Rk_polar_sides_down (D_polar_sides_down _N)) := entP ⟨Tryd.f18, bodyOf Tryd.f18, by kernel_rfl, by kernel_rfl, rfl⟩ (by kernel_rfl) (sp_polar_sides_down _N)
-- watershed/polar.open
abbrev Ks_polar_open : List Kd := [.dat (.pair (.sl (.int .u32)) (.int .i64))]
abbrev Rk_polar_open : List Kd := [.dat (.pair (.sl (.int .u32)) (.sl (.int .u32))), .dat (.int .i64)]
abbrev Rt_polar_open : Type := Dens Rk_polar_open
noncomputable def C_polar_open (_N : Nat) : Ctx := { T := [(3, ⟨.int .i64, 1, 8, some (.int .i64), [.int .i64 (0 : Int)], false, []⟩), (22, ⟨.slice 29, 1, 24, some (.sl (.int .u32)), [.nil], false, []⟩), (24, ⟨.struct [(0, 22), (1, 3)], 2, 32, some (.pair (.sl (.int .u32)) (.int .i64)), [.nil, .int .i64 (0 : Int)], false, []⟩), (29, ⟨.int .u32, 1, 4, some (.int .u32), [.int .u32 (0 : Int)], false, []⟩), (54, ⟨.struct [(0, 22), (1, 22)], 2, 48, some (.pair (.sl (.int .u32)) (.sl (.int .u32))), [.nil, .nil], false, []⟩)], G := findE [mkP 30 Ks_sets_All Rk_sets_All (D_sets_All _N), mkB 31 Ks_sets_Each_uint32 41 (.int .u32) (D_sets_Each_uint32 _N), mkP 27 Ks_sets_One Rk_sets_One (D_sets_One _N)], I := findI [mkI 41 Ks_each (.int .i64) eachXs], N := _N, n := 58, fx := [], fl := 0, gs := Gs }
noncomputable def polar_open_1 (_N : Nat) (_v32 : List Int) (_v33 : List Int) : Option Rt_polar_open :=
  (some ((_v33, _v32), (0 : Int), ()))
noncomputable def polar_open_2 (_N : Nat) (_kn35 : (List Int × Int × List Int × Int × List Int) × (Int × List Int) → Option Rt_polar_open) (_v18 : List Int) (_v19 : Int) (_v20 : Int) (_v21 : List Int) (_v22 : Int) (_v23 : List Int) (_v24 : List Int) : Option Rt_polar_open :=
  (_kn35 ((_v18, _v19, _v21, _v22, _v24), ((IntKind.i64.wrap (_v20 + (1 : Int))), _v23)))
noncomputable def polar_open_3 (_N : Nat) (_v11 : List Int) (_v12 : Int) (_v14 : List Int) (_v15 : Int) (_v13 : List Int) (_kn39 : (List Int × Int × List Int × Int) × List Int → Option Rt_polar_open) (_y10 : Int) : Option Rt_polar_open :=
  (bif (decide (0 ≤ _y10) && decide (_y10 < (_v13.length : Int))) then ((D_sets_One _N (_v15, ())).bind fun _y40 => (bif (decide (0 ≤ _y10) && decide (_y10 < (_v13.length : Int))) then (_kn39 ((_v11, _v12, _v14, _v15), (_v13.set ((_y10).toNat) (ior .u32 (nth (0 : Int) _v13 ((_y10).toNat)) _y40.1)))) else none)) else none)
noncomputable def polar_open_4 (_N : Nat) (_k34 : (List Int × Int × List Int × List Int) → Option Rt_polar_open) (_v1 : List Int) (_v2 : Int) (_v4 : List Int) (_v5 : Int) (_v7 : List Int) (_v3 : Int) (_v6 : List Int) (_kn35 : (List Int × Int × List Int × Int × List Int) × (Int × List Int) → Option Rt_polar_open) : Option Rt_polar_open :=
  (bif (decide (_v3 < _v2)) then (joinD (fun (_s : List Int × Int × Int × List Int × Int × List Int × List Int × Int) => polar_open_2 _N _kn35 _s.1 _s.2.1 _s.2.2.1 _s.2.2.2.1 _s.2.2.2.2.1 _s.2.2.2.2.2.1 _s.2.2.2.2.2.2.1) fun _k36 => (bif (decide (0 ≤ _v3) && decide (_v3 < (_v1.length : Int))) then ((D_sets_All _N (_v5, ())).bind fun _y37 => (bif ((iandNot .u32 (nth (0 : Int) _v1 (_v3).toNat) _y37.1) != (0 : Int)) then (some (([], []), (2 : Int), ())) else ((D_sets_Each_uint32 _N ((nth (0 : Int) _v1 (_v3).toNat), ())).bind fun _y38 => (forE (fun (_c : List Int × Int × List Int × Int) (_y : Int) (_s : List Int) _kn => polar_open_3 _N _c.1 _c.2.1 _c.2.2.1 _c.2.2.2 _s _kn _y) (fun (_c : List Int × Int × List Int × Int) (_s : List Int) => (_k36 (_v1, _v2, _v3, _c.1, _c.2.1, _s, _c.2.2.1, _c.2.2.2))) (eachXs (_y38, ())) (_v4, _v5, _v7, _v3) _v6)))) else none)) else (_k34 (_v4, _v5, _v6, _v7)))
noncomputable def polar_open_5 (_N : Nat) (_x1 : List Int × Int) : Option Rt_polar_open :=
  (bif (decide ((_x1.1.length : Int) > (16 : Int))) then (some (([], []), (1 : Int), ())) else (bif (decide (_x1.2 < (0 : Int))) then (some (([], []), (1 : Int), ())) else (bif (decide (_x1.2 > (16 : Int))) then (some (([], []), (1 : Int), ())) else (bif (decide (0 ≤ _x1.2) && (decide (_x1.2 ≤ _x1.2) && decide (_x1.2 * 4 ≤ 281474976710656))) then (joinD (fun (_s : List Int × Int × List Int × List Int) => polar_open_1 _N _s.2.2.1 _s.2.2.2) fun _k34 => (loopE (fun (_c : List Int × Int × List Int × Int × List Int) (_s : Int × List Int) _kn => polar_open_4 _N _k34 _c.1 _c.2.1 _c.2.2.1 _c.2.2.2.1 _c.2.2.2.2 _s.1 _s.2 _kn) _N (_x1.1, (_x1.1.length : Int), _x1.1, _x1.2, _x1.1) ((0 : Int), (List.replicate _x1.2.toNat (0 : Int))))) else none))))
noncomputable def D_polar_open (_N : Nat) (_x : Dens Ks_polar_open) : Option Rt_polar_open := polar_open_5 _N _x.1
theorem sp_polar_open (_N : Nat) : SpecD Tryd.prog Gs 17 Ks_polar_open Rk_polar_open (D_polar_open _N) := mkSpD (fn := Tryd.f17) (c := bodyOf Tryd.f17) (C := C_polar_open _N)
    (a := .two .none (.two .none (.two (.draw 2 [.pure, .rd [0], .pure, .rd [0], .new 2, .pure, .new 3, .wr [2, 3]]) (.join 4 ⟨[(2, .ptr 1 0), (4, .ptr 3 0)], [.cells [.sl (.int .u32), .int .i64], .cells [.nil, .nil], .row false 0 29 (.int .u32), .cells [.sl (.int .u32), .slc 2 0]]⟩ (.two .none (.one (.loop 4 ⟨[(1, .ptr 0 0), (2, .ptr 1 0), (4, .ptr 3 0), (30, .sl (.int .u32)), (31, .int .i64), (32, .int .i64)], [.cells [.sl (.int .u32), .int .i64], .cells [.nil, .nil], .row false 0 29 (.int .u32), .cells [.sl (.int .u32), .slc 2 0]]⟩ [2, 5] (.two .none (.two .none (.join 5 ⟨[(1, .ptr 0 0), (2, .ptr 1 0), (4, .ptr 3 0), (30, .sl (.int .u32)), (31, .int .i64), (32, .int .i64)], [.cells [.sl (.int .u32), .int .i64], .cells [.nil, .nil], .row false 0 29 (.int .u32), .cells [.sl (.int .u32), .slc 2 0], .cells [.int .i64]]⟩ (.one (.two .none (.two .none (.two .none (.one (.keep [1, 2, 4, 5, 30, 31, 32, 45] 5 (.each 5 [.cells [.sl (.int .u32), .int .i64], .cells [.nil, .nil], .row false 0 29 (.int .u32), .cells [.sl (.int .u32), .slc 2 0], .cells [.int .i64]] [2] .none (.one (.draw 0 [.pure, .rd [3], .pure, .rd [2], .rd [2], .rd [4], .pure, .pure, .rd [2], .wr [2]]))))))))) .none)))))) .none))))
    (by kernel_rfl) rfl (by kernel_rfl) (by kernel_rfl) ⟨rfl, by unfold TOk; kernel_rfl, gOk_of rfl rfl (List.forall_mem_cons.2 ⟨en_sets_All _N, (List.forall_mem_cons.2 ⟨en_sets_Each_uint32 _N, (List.forall_mem_cons.2 ⟨en_sets_One _N, (List.forall_mem_nil _)⟩)⟩)⟩), iOk_of rfl rfl (List.forall_mem_cons.2 ⟨en_each, (List.forall_mem_nil _)⟩), rfl⟩ (fun _x => by kernel_rfl)
theorem en_polar_open (_N : Nat) : EntOk Tryd.prog Gs (mkD 17 Ks_polar_open Rk_polar_open (D_polar_open _N)) := entD ⟨Tryd.f17, bodyOf Tryd.f17, by kernel_rfl, by kernel_rfl, rfl⟩ (sp_polar_open _N)
theorem qen_polar_open (_N : Nat) : EntOk Tryd.prog Gs (mkQ 17 Ks_polar_open Rk_polar_open (D_polar_open _N)) := entQ ⟨Tryd.f17, bodyOf Tryd.f17, by kernel_rfl, by kernel_rfl, rfl⟩ (sp_polar_open _N)
-- (watershed/polar.sides).step
abbrev Ks_polar_sides_step : List Kd := [.dat (.pair (.sl (.int .u32)) (.sl (.int .u32))), .dat (.int .u32)]
abbrev Rk_polar_sides_step : List Kd := [.dat (.int .u32), .dat (.bool)]
abbrev Rt_polar_sides_step : Type := Dens Rk_polar_sides_step
noncomputable def C_polar_sides_step (_N : Nat) : Ctx := { T := [(22, ⟨.slice 29, 1, 24, some (.sl (.int .u32)), [.nil], false, []⟩), (54, ⟨.struct [(0, 22), (1, 22)], 2, 48, some (.pair (.sl (.int .u32)) (.sl (.int .u32))), [.nil, .nil], false, []⟩)], G := findE [mkP 33 Ks_sets_Has_uint32 Rk_sets_Has_uint32 (D_sets_Has_uint32 _N), mkP 30 Ks_sets_All Rk_sets_All (D_sets_All _N), mkP 27 Ks_sets_One Rk_sets_One (D_sets_One _N), mkP 19 Ks_polar_sides_up Rk_polar_sides_up (D_polar_sides_up _N), mkP 18 Ks_polar_sides_down Rk_polar_sides_down (D_polar_sides_down _N)], I := findI [], N := _N, n := 45, fx := [], fl := 0, gs := Gs }
noncomputable def polar_sides_step_1 (_N : Nat) : Option Rt_polar_sides_step :=
  (some ((0 : Int), false, ()))
noncomputable def polar_sides_step_2 (_N : Nat) (_k22 : (List Int × List Int) → Option Rt_polar_sides_step) (_v1 : Int) (_v2 : Int) (_v4 : List Int) (_v5 : List Int) (_v3 : Int) (_kn23 : (Int × Int × List Int × List Int) × Int → Option Rt_polar_sides_step) : Option Rt_polar_sides_step :=
  (bif (decide (_v3 < _v2)) then ((D_sets_Has_uint32 _N (_v1, _v3, ())).bind fun _y24 => (bif _y24.1 then (_kn23 ((_v1, _v2, _v4, _v5), (IntKind.i64.wrap (_v3 + (1 : Int))))) else ((D_sets_All _N (_v3, ())).bind fun _y25 => ((D_sets_One _N (_v3, ())).bind fun _y26 => ((D_polar_sides_up _N ((_v4, _v5), (ior .u32 (iandNot .u32 _v1 _y25.1) _y26.1), ())).bind fun _y27 => ((D_polar_sides_down _N ((_v4, _v5), _y27.1, ())).bind fun _y28 => ((D_sets_All _N ((IntKind.i64.wrap (_v3 + (1 : Int))), ())).bind fun _y29 => ((D_sets_All _N ((IntKind.i64.wrap (_v3 + (1 : Int))), ())).bind fun _y30 => (bif ((iandNot .u32 _y28.1 _y29.1) == (iandNot .u32 _v1 _y30.1)) then (some (_y28.1, true, ())) else (_kn23 ((_v1, _v2, _v4, _v5), (IntKind.i64.wrap (_v3 + (1 : Int)))))))))))))) else (_k22 (_v4, _v5)))
noncomputable def polar_sides_step_3 (_N : Nat) (_x1 : List Int × List Int) (_x2 : Int) : Option Rt_polar_sides_step :=
  (joinD (fun (_s : List Int × List Int) => polar_sides_step_1 _N) fun _k22 => (loopE (fun (_c : Int × Int × List Int × List Int) (_s : Int) _kn => polar_sides_step_2 _N _k22 _c.1 _c.2.1 _c.2.2.1 _c.2.2.2 _s _kn) _N (_x2, (_x1.1.length : Int), _x1.1, _x1.2) (0 : Int)))
noncomputable def D_polar_sides_step (_N : Nat) (_x : Dens Ks_polar_sides_step) : Option Rt_polar_sides_step := polar_sides_step_3 _N _x.1 _x.2.1
theorem sp_polar_sides_step (_N : Nat) : SpecD Tryd.prog Gs 20 Ks_polar_sides_step Rk_polar_sides_step (D_polar_sides_step _N) := mkSpD (fn := Tryd.f20) (c := bodyOf Tryd.f20) (C := C_polar_sides_step _N)
    (a := .two .none (.two .none (.join 1 ⟨[], [.cells [.sl (.int .u32), .sl (.int .u32)]]⟩ (.two .none (.one (.loop 1 ⟨[(1, .int .u32), (2, .ptr 0 0), (13, .int .i64), (14, .int .i64)], [.cells [.sl (.int .u32), .sl (.int .u32)]]⟩ [2] (.two .none (.two .none (.two (.one (.two .none (.two .none (.two .none (.two (.draw 0 [.rd [0], .rd [0], .pure, .pure, .pure, .pure, .pure, .pure, .pure]) .none))))) .none)))))) .none)))
    (by kernel_rfl) rfl (by kernel_rfl) (by kernel_rfl) ⟨rfl, by unfold TOk; kernel_rfl, gOk_of rfl rfl (List.forall_mem_cons.2 ⟨en_sets_Has_uint32 _N, (List.forall_mem_cons.2 ⟨en_sets_All _N, (List.forall_mem_cons.2 ⟨en_sets_One _N, (List.forall_mem_cons.2 ⟨en_polar_sides_up _N, (List.forall_mem_cons.2 ⟨en_polar_sides_down _N, (List.forall_mem_nil _)⟩)⟩)⟩)⟩)⟩), iOk_of rfl rfl (List.forall_mem_nil _), rfl⟩ (fun _x => by kernel_rfl)
theorem en_polar_sides_step (_N : Nat) : EntOk Tryd.prog Gs (mkP 20 Ks_polar_sides_step Rk_polar_sides_step (D_polar_sides_step _N)) := entP ⟨Tryd.f20, bodyOf Tryd.f20, by kernel_rfl, by kernel_rfl, rfl⟩ (by kernel_rfl) (sp_polar_sides_step _N)
-- cmp.isNaN[uint32]
abbrev Ks_cmp_isNaN_uint32 : List Kd := [.dat (.int .u32)]
abbrev Rk_cmp_isNaN_uint32 : List Kd := [.dat (.bool)]
abbrev Rt_cmp_isNaN_uint32 : Type := Dens Rk_cmp_isNaN_uint32
noncomputable def C_cmp_isNaN_uint32 (_N : Nat) : Ctx := { T := [], G := findE [], I := findI [], N := _N, n := 6, fx := [], fl := 0, gs := Gs }
noncomputable def cmp_isNaN_uint32_1 (_N : Nat) (_x1 : Int) : Option Rt_cmp_isNaN_uint32 :=
  (some ((_x1 != _x1), ()))
noncomputable def D_cmp_isNaN_uint32 (_N : Nat) (_x : Dens Ks_cmp_isNaN_uint32) : Option Rt_cmp_isNaN_uint32 := cmp_isNaN_uint32_1 _N _x.1
theorem sp_cmp_isNaN_uint32 (_N : Nat) : SpecD Tryd.prog Gs 36 Ks_cmp_isNaN_uint32 Rk_cmp_isNaN_uint32 (D_cmp_isNaN_uint32 _N) := mkSpD (fn := Tryd.f36) (c := bodyOf Tryd.f36) (C := C_cmp_isNaN_uint32 _N)
    (a := .none)
    (by kernel_rfl) rfl (by kernel_rfl) (by kernel_rfl) ⟨rfl, by unfold TOk; kernel_rfl, gOk_of rfl rfl (List.forall_mem_nil _), iOk_of rfl rfl (List.forall_mem_nil _), rfl⟩ (fun _x => by kernel_rfl)
theorem en_cmp_isNaN_uint32 (_N : Nat) : EntOk Tryd.prog Gs (mkP 36 Ks_cmp_isNaN_uint32 Rk_cmp_isNaN_uint32 (D_cmp_isNaN_uint32 _N)) := entP ⟨Tryd.f36, bodyOf Tryd.f36, by kernel_rfl, by kernel_rfl, rfl⟩ (by kernel_rfl) (sp_cmp_isNaN_uint32 _N)
-- cmp.Compare[uint32]
abbrev Ks_cmp_Compare_uint32 : List Kd := [.dat (.int .u32), .dat (.int .u32)]
abbrev Rk_cmp_Compare_uint32 : List Kd := [.dat (.int .i64)]
abbrev Rt_cmp_Compare_uint32 : Type := Dens Rk_cmp_Compare_uint32
noncomputable def C_cmp_Compare_uint32 (_N : Nat) : Ctx := { T := [], G := findE [mkP 36 Ks_cmp_isNaN_uint32 Rk_cmp_isNaN_uint32 (D_cmp_isNaN_uint32 _N)], I := findI [], N := _N, n := 20, fx := [], fl := 0, gs := Gs }
noncomputable def cmp_Compare_uint32_1 (_N : Nat) (_x1 : Int) (_x2 : Int) : Option Rt_cmp_Compare_uint32 :=
  ((D_cmp_isNaN_uint32 _N (_x1, ())).bind fun _y3 => ((D_cmp_isNaN_uint32 _N (_x2, ())).bind fun _y4 => (bif _y3.1 then (bif _y4.1 then (some ((0 : Int), ())) else (some ((-1 : Int), ()))) else (bif _y4.1 then (some ((1 : Int), ())) else (bif (decide (_x1 < _x2)) then (some ((-1 : Int), ())) else (bif (decide (_x1 > _x2)) then (some ((1 : Int), ())) else (some ((0 : Int), ()))))))))
noncomputable def D_cmp_Compare_uint32 (_N : Nat) (_x : Dens Ks_cmp_Compare_uint32) : Option Rt_cmp_Compare_uint32 := cmp_Compare_uint32_1 _N _x.1 _x.2.1
theorem sp_cmp_Compare_uint32 (_N : Nat) : SpecD Tryd.prog Gs 23 Ks_cmp_Compare_uint32 Rk_cmp_Compare_uint32 (D_cmp_Compare_uint32 _N) := mkSpD (fn := Tryd.f23) (c := bodyOf Tryd.f23) (C := C_cmp_Compare_uint32 _N)
    (a := .none)
    (by kernel_rfl) rfl (by kernel_rfl) (by kernel_rfl) ⟨rfl, by unfold TOk; kernel_rfl, gOk_of rfl rfl (List.forall_mem_cons.2 ⟨en_cmp_isNaN_uint32 _N, (List.forall_mem_nil _)⟩), iOk_of rfl rfl (List.forall_mem_nil _), rfl⟩ (fun _x => by kernel_rfl)
theorem en_cmp_Compare_uint32 (_N : Nat) : EntOk Tryd.prog Gs (mkP 23 Ks_cmp_Compare_uint32 Rk_cmp_Compare_uint32 (D_cmp_Compare_uint32 _N)) := entP ⟨Tryd.f23, bodyOf Tryd.f23, by kernel_rfl, by kernel_rfl, rfl⟩ (by kernel_rfl) (sp_cmp_Compare_uint32 _N)
-- watershed/polar.Concepts$1
abbrev Ks_polar_Concepts_c1 : List Kd := [.dat (.pair (.int .u32) (.int .u32)), .dat (.pair (.int .u32) (.int .u32))]
abbrev Rk_polar_Concepts_c1 : List Kd := [.dat (.int .i64)]
abbrev Rt_polar_Concepts_c1 : Type := Dens Rk_polar_Concepts_c1
noncomputable def C_polar_Concepts_c1 (_N : Nat) : Ctx := { T := [(29, ⟨.int .u32, 1, 4, some (.int .u32), [.int .u32 (0 : Int)], false, []⟩), (31, ⟨.struct [(0, 29), (1, 29)], 2, 8, some (.pair (.int .u32) (.int .u32)), [.int .u32 (0 : Int), .int .u32 (0 : Int)], true, []⟩)], G := findE [mkP 23 Ks_cmp_Compare_uint32 Rk_cmp_Compare_uint32 (D_cmp_Compare_uint32 _N)], I := findI [], N := _N, n := 10, fx := [], fl := 0, gs := Gs }
noncomputable def polar_Concepts_c1_1 (_N : Nat) (_x1 : Int × Int) (_x2 : Int × Int) : Option Rt_polar_Concepts_c1 :=
  ((D_cmp_Compare_uint32 _N (_x1.1, _x2.1, ())).bind fun _y2 => (some (_y2.1, ())))
noncomputable def D_polar_Concepts_c1 (_N : Nat) (_x : Dens Ks_polar_Concepts_c1) : Option Rt_polar_Concepts_c1 := polar_Concepts_c1_1 _N _x.1 _x.2.1
theorem sp_polar_Concepts_c1 (_N : Nat) : SpecD Tryd.prog Gs 22 Ks_polar_Concepts_c1 Rk_polar_Concepts_c1 (D_polar_Concepts_c1 _N) := mkSpD (fn := Tryd.f22) (c := bodyOf Tryd.f22) (C := C_polar_Concepts_c1 _N)
    (a := .none)
    (by kernel_rfl) rfl (by kernel_rfl) (by kernel_rfl) ⟨rfl, by unfold TOk; kernel_rfl, gOk_of rfl rfl (List.forall_mem_cons.2 ⟨en_cmp_Compare_uint32 _N, (List.forall_mem_nil _)⟩), iOk_of rfl rfl (List.forall_mem_nil _), rfl⟩ (fun _x => by kernel_rfl)
theorem en_polar_Concepts_c1 (_N : Nat) : EntOk Tryd.prog Gs (mkP 22 Ks_polar_Concepts_c1 Rk_polar_Concepts_c1 (D_polar_Concepts_c1 _N)) := entP ⟨Tryd.f22, bodyOf Tryd.f22, by kernel_rfl, by kernel_rfl, rfl⟩ (by kernel_rfl) (sp_polar_Concepts_c1 _N)
shelf_lay_g SlLaysF0.n6 Slsf 6 at Tryd 21 as lay_sortC
theorem hb_sortC : HasBody Tryd.prog 21 := ⟨Tryd.f21, bodyOf Tryd.f21, by kernel_rfl, by kernel_rfl, rfl⟩
theorem hg_sortC : HasBody Tryd.prog 22 := ⟨Tryd.f22, bodyOf Tryd.f22, by kernel_rfl, by kernel_rfl, rfl⟩
theorem en_sortC (_N : Nat) : EntOk Tryd.prog Gs (mkS 21 31 (.pair (.int .u32) (.int .u32)) 22 (fun p q => (D_polar_Concepts_c1 _N (p, q, ())).map (·.1))) := entSK lay_sortC Tryd.isAgg31 Tryd.sizeOf31 hb_sortC hg_sortC (by kernel_rfl) rfl (sp_polar_Concepts_c1 _N)
-- watershed/polar.Concepts
abbrev Ks_polar_Concepts : List Kd := [.dat (.pair (.sl (.int .u32)) (.int .i64))]
abbrev Rk_polar_Concepts : List Kd := [.dat (.sl (.pair (.int .u32) (.int .u32))), .dat (.int .i64)]
abbrev Rt_polar_Concepts : Type := Dens Rk_polar_Concepts
noncomputable def C_polar_Concepts (_N : Nat) : Ctx := { T := [(24, ⟨.struct [(0, 22), (1, 3)], 2, 32, some (.pair (.sl (.int .u32)) (.int .i64)), [.nil, .int .i64 (0 : Int)], false, []⟩), (25, ⟨.slice 31, 1, 24, some (.sl (.pair (.int .u32) (.int .u32))), [.nil], false, []⟩), (29, ⟨.int .u32, 1, 4, some (.int .u32), [.int .u32 (0 : Int)], false, []⟩), (31, ⟨.struct [(0, 29), (1, 29)], 2, 8, some (.pair (.int .u32) (.int .u32)), [.int .u32 (0 : Int), .int .u32 (0 : Int)], true, []⟩), (54, ⟨.struct [(0, 22), (1, 22)], 2, 48, some (.pair (.sl (.int .u32)) (.sl (.int .u32))), [.nil, .nil], false, []⟩)], G := findE [mkQ 17 Ks_polar_open Rk_polar_open (D_polar_open _N), mkS 21 31 (.pair (.int .u32) (.int .u32)) 22 (fun p q => (D_polar_Concepts_c1 _N (p, q, ())).map (·.1)), mkP 19 Ks_polar_sides_up Rk_polar_sides_up (D_polar_sides_up _N), mkP 18 Ks_polar_sides_down Rk_polar_sides_down (D_polar_sides_down _N), mkP 20 Ks_polar_sides_step Rk_polar_sides_step (D_polar_sides_step _N)], I := findI [], N := _N, n := 42, fx := [2], fl := 0, gs := Gs }
noncomputable def polar_Concepts_1 (_N : Nat) (_v21 : List (Int × Int)) : Option Rt_polar_Concepts :=
  ((sortR (fun p q => (D_polar_Concepts_c1 _N (p, q, ())).map (·.1)) _v21).bind fun _y24 => (some (_y24, (0 : Int), ())))
noncomputable def polar_Concepts_2 (_N : Nat) (_k25 : (List Int × Int × List Int × List Int × (List (Int × Int))) → Option Rt_polar_Concepts) (_v6 : List Int) (_v7 : Int) (_v8 : List Int) (_v9 : List Int) (_v4 : Int) (_v5 : Bool) (_v12 : List (Int × Int)) (_kn28 : (List Int × Int × List Int × List Int) × (Int × Bool × (List (Int × Int))) → Option Rt_polar_Concepts) : Option Rt_polar_Concepts :=
  (bif _v5 then (bif ((_v12.length : Int) == (256 : Int)) then (some ([], (1 : Int), ())) else ((D_polar_sides_up _N ((_v8, _v9), _v4, ())).bind fun _y29 => (bif (decide ((_v12.length + ([(_v4, _y29.1)]).length) * 8 ≤ 140737488355328) && Nat.ble 1 8) then ((D_polar_sides_step _N ((_v8, _v9), _v4, ())).bind fun _y30 => (_kn28 ((_v6, _v7, _v8, _v9), (_y30.1, _y30.2.1, (_v12 ++ [(_v4, _y29.1)]))))) else none))) else (_k25 (_v6, _v7, _v8, _v9, _v12)))
noncomputable def polar_Concepts_3 (_N : Nat) (_x1 : List Int × Int) : Option Rt_polar_Concepts :=
  ((D_polar_open _N ((_x1.1, _x1.2), ())).bind fun _y23 => (bif (_y23.2.1 != (0 : Int)) then (some ([], _y23.2.1, ())) else (joinD (fun (_s : List Int × Int × List Int × List Int × (List (Int × Int))) => polar_Concepts_1 _N _s.2.2.2.2) fun _k25 => ((D_polar_sides_up _N ((_y23.1.1, _y23.1.2), (0 : Int), ())).bind fun _y26 => ((D_polar_sides_down _N ((_y23.1.1, _y23.1.2), _y26.1, ())).bind fun _y27 => (loopE (fun (_c : List Int × Int × List Int × List Int) (_s : Int × Bool × (List (Int × Int))) _kn => polar_Concepts_2 _N _k25 _c.1 _c.2.1 _c.2.2.1 _c.2.2.2 _s.1 _s.2.1 _s.2.2 _kn) _N (_x1.1, _x1.2, _y23.1.1, _y23.1.2) (_y27.1, true, [])))))))
noncomputable def D_polar_Concepts (_N : Nat) (_x : Dens Ks_polar_Concepts) : Option Rt_polar_Concepts := polar_Concepts_3 _N _x.1
theorem sp_polar_Concepts (_N : Nat) : SpecD Tryd.prog Gs 5 Ks_polar_Concepts Rk_polar_Concepts (D_polar_Concepts _N) := mkSpD (fn := Tryd.f5) (c := bodyOf Tryd.f5) (C := C_polar_Concepts _N)
    (a := .two .none (.two .none (.two .none (.two .none (.join 3 ⟨[(6, .slc 2 0)], [.cells [.sl (.int .u32), .int .i64], .cells [.sl (.int .u32), .sl (.int .u32)], .row false 0 31 (.pair (.int .u32) (.int .u32))]⟩ (.two (.draw 0 [.rd [1], .rd [1], .pure, .pure, .pure, .pure]) (.one (.obj 6 31 (.pair (.int .u32) (.int .u32)) (.loop 3 ⟨[(4, .ptr 1 0), (6, .slc 2 0), (7, .int .u32), (8, .bool)], [.cells [.sl (.int .u32), .int .i64], .cells [.sl (.int .u32), .sl (.int .u32)], .row false 0 31 (.pair (.int .u32) (.int .u32))]⟩ [0, 1, 6] .none)))) .none)))))
    (by kernel_rfl) rfl (by kernel_rfl) (by kernel_rfl) ⟨rfl, by unfold TOk; kernel_rfl, gOk_of rfl rfl (List.forall_mem_cons.2 ⟨qen_polar_open _N, (List.forall_mem_cons.2 ⟨en_sortC _N, (List.forall_mem_cons.2 ⟨en_polar_sides_up _N, (List.forall_mem_cons.2 ⟨en_polar_sides_down _N, (List.forall_mem_cons.2 ⟨en_polar_sides_step _N, (List.forall_mem_nil _)⟩)⟩)⟩)⟩)⟩), iOk_of rfl rfl (List.forall_mem_nil _), rfl⟩ (fun _x => by kernel_rfl)
theorem en_polar_Concepts (_N : Nat) : EntOk Tryd.prog Gs (mkD 5 Ks_polar_Concepts Rk_polar_Concepts (D_polar_Concepts _N)) := entD ⟨Tryd.f5, bodyOf Tryd.f5, by kernel_rfl, by kernel_rfl, rfl⟩ (sp_polar_Concepts _N)
theorem qen_polar_Concepts (_N : Nat) : EntOk Tryd.prog Gs (mkQ 5 Ks_polar_Concepts Rk_polar_Concepts (D_polar_Concepts _N)) := entQ ⟨Tryd.f5, bodyOf Tryd.f5, by kernel_rfl, by kernel_rfl, rfl⟩ (sp_polar_Concepts _N)
end Go.Proofs.YtkijpiphgnnonaaDoor
