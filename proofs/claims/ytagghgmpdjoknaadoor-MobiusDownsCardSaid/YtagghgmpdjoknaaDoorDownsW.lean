/- downs: All and Count, with their walks. -/
import Derived.Test.YtagghgmpdjoknaaDoorOrderB
import Derived.Test.YtagghgmpdjoknaaDoorAbsSubF
namespace Go.Proofs.YtagghgmpdjoknaaDoor
open Go.Abs Go.RowKit
-- (with objects) watershed/downs.Count$1
abbrev Sg_downs_Count_c1_h : Sig := ⟨[.dat false (.int .u32), .form (.ptr 0 0)], [.cells [.int .i64]],
  [.dat false .bool], [.cells [.int .i64]]⟩
abbrev Rt_downs_Count_c1_h : Type := Bool × Int
noncomputable def C_downs_Count_c1_h (_N : Nat) : Ctx := { T := [(3, ⟨.int .i64, 1, 8, some (.int .i64), [.int .i64 (0 : Int)]⟩)], G := findE [], I := findI [], N := _N, n := 6, fx := [], fl := 1, gs := Gs }
noncomputable def downs_Count_c1_h_1 (_N : Nat) (_x2 : Int) : Option Rt_downs_Count_c1_h :=
  (some (true, (IntKind.i64.wrap (_x2 + (1 : Int)))))
noncomputable def D_downs_Count_c1_h (_N : Nat) (_x : Int × Int) : Option Rt_downs_Count_c1_h := downs_Count_c1_h_1 _N _x.2
theorem sp_downs_Count_c1_h (_N : Nat) : SpecH Tryd.prog Gs 51 Sg_downs_Count_c1_h (D_downs_Count_c1_h _N) := mkSpH (fn := Tryd.f51) (c := bodyOf Tryd.f51) (C := (C_downs_Count_c1_h _N))
    (a := .none)
    (by kernel_rfl) rfl (by kernel_rfl) (by kernel_rfl) (by kernel_rfl) rfl ⟨rfl, by unfold TOk; kernel_rfl, gOk_of rfl rfl (List.forall_mem_nil _), iOk_of rfl rfl (List.forall_mem_nil _), rfl⟩ (fun _x => by kernel_rfl)
theorem en_downs_Count_c1_h (_N : Nat) : EntOk Tryd.prog Gs (mkHe 51 Sg_downs_Count_c1_h (D_downs_Count_c1_h _N)) := entH ⟨Tryd.f51, bodyOf Tryd.f51, by kernel_rfl, by kernel_rfl, rfl⟩ (sp_downs_Count_c1_h _N)
-- (with objects) watershed/downs.walk$1
abbrev Sg_downs_walk_c1_h : Sig := ⟨[.dat false (.int .i64), .dat false (.int .u32), .dat false (.int .u32), .form (.ptr 0 0), .form (.ptr 1 0), .form (.ptr 2 0), .form (.ptr 3 0)], [.cells [.clo 51 [.ptr 4 0]], .cells [.clo 92 [.ptr 0 0, .ptr 1 0, .ptr 2 0, .ptr 3 0]], .cells [.int .i64, .sl (.int .u32)], .cells [.slc 5 0], .cells [.int .i64], .row false 0 45 (.int .u32)],
  [.dat false .bool], [.cells [.clo 51 [.ptr 4 0]], .cells [.clo 92 [.ptr 0 0, .ptr 1 0, .ptr 2 0, .ptr 3 0]], .cells [.int .i64, .sl (.int .u32)], .cells [.slc 5 0], .cells [.int .i64], .row false 0 45 (.int .u32)]⟩
abbrev Rt_downs_walk_c1_h : Type := Bool × Int × List Int × Int × List Int
noncomputable def C_downs_walk_c1_h (_N : Nat) (_self : (Int × Int × Int × Int × List Int × Int × List Int) → Option Rt_downs_walk_c1_h) : Ctx := { T := [(22, ⟨.slice 45, 1, 24, some (.sl (.int .u32)), [.nil]⟩), (24, ⟨.struct [(0, 3), (1, 22)], 2, 32, some (.pair (.int .i64) (.sl (.int .u32))), [.int .i64 (0 : Int), .nil]⟩), (45, ⟨.int .u32, 1, 4, some (.int .u32), [.int .u32 (0 : Int)]⟩), (96, ⟨.other, 1, 8, none, [.bad]⟩), (141, ⟨.other, 1, 8, none, [.bad]⟩)], G := findE [mkHe 51 Sg_downs_Count_c1_h (D_downs_Count_c1_h _N), mkP 69 Ks_sets_Has_uint32 Rk_sets_Has_uint32 (D_sets_Has_uint32 _N), mkHe 92 Sg_downs_walk_c1_h _self], I := findI [], N := _N, n := 58, fx := [], fl := 6, gs := Gs }
noncomputable def downs_walk_c1_h_1 (_N : Nat) (_self : (Int × Int × Int × Int × List Int × Int × List Int) → Option Rt_downs_walk_c1_h) (_x1 : Int) (_x2 : Int) (_x3 : Int) (_x4 : Int) (_x5 : List Int) (_x6 : Int) (_x7 : List Int) : Option Rt_downs_walk_c1_h :=
  (bif (decide (_x1 < (0 : Int))) then ((D_downs_Count_c1_h _N (_x2, _x6)).bind fun _y8 => (some (_y8.1, _x4, _x5, _y8.2, _x7))) else ((D_sets_Has_uint32 _N (_x2, _x1, ())).bind fun _y9 => (bif (!_y9.1) then (bif (decide (0 ≤ _x1) && decide (_x1 < (_x5.length : Int))) then ((_self ((IntKind.i64.wrap (_x1 - (1 : Int))), _x2, (ior .u32 _x3 (nth (0 : Int) _x5 (_x1).toNat)), _x4, _x5, _x6, _x7)).bind fun _y10 => (bif (!_y10.1) then (some (false, _y10.2.1, _y10.2.2.1, _y10.2.2.2.1, _y10.2.2.2.2)) else ((D_sets_Has_uint32 _N (_x3, _x1, ())).bind fun _y11 => (bif _y11.1 then (some (true, _y10.2.1, _y10.2.2.1, _y10.2.2.2.1, _y10.2.2.2.2)) else (bif (decide (0 ≤ _x1) && decide (_x1 < (_y10.2.2.2.2.length : Int))) then (bif ((iand .u32 (nth (0 : Int) _y10.2.2.2.2 ((_x1).toNat)) _x3) != (0 : Int)) then (some (true, _y10.2.1, _y10.2.2.1, _y10.2.2.2.1, _y10.2.2.2.2)) else (bif (decide (0 ≤ _x1) && decide (_x1 < (_y10.2.2.2.2.length : Int))) then ((_self ((IntKind.i64.wrap (_x1 - (1 : Int))), (ior .u32 _x2 (nth (0 : Int) _y10.2.2.2.2 ((_x1).toNat))), _x3, _y10.2.1, _y10.2.2.1, _y10.2.2.2.1, _y10.2.2.2.2)).bind fun _y12 => (some (_y12.1, _y12.2.1, _y12.2.2.1, _y12.2.2.2.1, _y12.2.2.2.2))) else none)) else none))))) else none) else ((D_sets_Has_uint32 _N (_x3, _x1, ())).bind fun _y13 => (bif _y13.1 then (some (true, _x4, _x5, _x6, _x7)) else (bif (decide (0 ≤ _x1) && decide (_x1 < (_x7.length : Int))) then (bif ((iand .u32 (nth (0 : Int) _x7 ((_x1).toNat)) _x3) != (0 : Int)) then (some (true, _x4, _x5, _x6, _x7)) else (bif (decide (0 ≤ _x1) && decide (_x1 < (_x7.length : Int))) then ((_self ((IntKind.i64.wrap (_x1 - (1 : Int))), (ior .u32 _x2 (nth (0 : Int) _x7 ((_x1).toNat))), _x3, _x4, _x5, _x6, _x7)).bind fun _y14 => (some (_y14.1, _y14.2.1, _y14.2.2.1, _y14.2.2.2.1, _y14.2.2.2.2))) else none)) else none))))))
noncomputable def S_downs_walk_c1_h (_N : Nat) (_self : (Int × Int × Int × Int × List Int × Int × List Int) → Option Rt_downs_walk_c1_h) (_x : Int × Int × Int × Int × List Int × Int × List Int) : Option Rt_downs_walk_c1_h := downs_walk_c1_h_1 _N _self _x.1 _x.2.1 _x.2.2.1 _x.2.2.2.1 _x.2.2.2.2.1 _x.2.2.2.2.2.1 _x.2.2.2.2.2.2
noncomputable def R_downs_walk_c1_h (_N : Nat) : Nat → (Int × Int × Int × Int × List Int × Int × List Int) → Option Rt_downs_walk_c1_h
  | 0 => fun _ => none
  | n + 1 => fun _x => S_downs_walk_c1_h _N (R_downs_walk_c1_h _N n) _x
noncomputable def D_downs_walk_c1_h (_N : Nat) (_x : Int × Int × Int × Int × List Int × Int × List Int) : Option Rt_downs_walk_c1_h := R_downs_walk_c1_h _N _N _x
theorem spr_downs_walk_c1_h (_N : Nat) : ∀ n, SpecH Tryd.prog Gs 92 Sg_downs_walk_c1_h (R_downs_walk_c1_h _N n)
  | 0 => fun _ _ _ _ _ _ _ _ _ _ _ _h => nomatch _h
  | n + 1 => have ih := spr_downs_walk_c1_h _N n
    mkSpH (fn := Tryd.f92) (c := bodyOf Tryd.f92) (C := (C_downs_walk_c1_h _N (R_downs_walk_c1_h _N n)))
    (a := .two .none (.two .none (.two (.two (.draw 0 [.pure, .pure, .pure, .pure, .pure, .rd [1], .pure, .pure, .pure, .pure, .pure, .rd [2], .pure, .pure, .pure, .pure, .full, .pure, .pure]) .none) (.two .none (.two (.draw 0 [.rd [1], .pure, .pure, .pure, .rd [3], .pure, .rd [5], .rd [5], .pure, .pure, .full, .pure]) .none)))))
    (by kernel_rfl) rfl (by kernel_rfl) (by kernel_rfl) (by kernel_rfl) rfl ⟨rfl, by unfold TOk; kernel_rfl, gOk_of rfl rfl (List.forall_mem_cons.2 ⟨en_downs_Count_c1_h _N, (List.forall_mem_cons.2 ⟨en_sets_Has_uint32 _N, (List.forall_mem_cons.2 ⟨(entH ⟨Tryd.f92, bodyOf Tryd.f92, by kernel_rfl, by kernel_rfl, rfl⟩ ih), (List.forall_mem_nil _)⟩)⟩)⟩), iOk_of rfl rfl (List.forall_mem_nil _), rfl⟩ (fun _x => by kernel_rfl)
theorem sp_downs_walk_c1_h (_N : Nat) : SpecH Tryd.prog Gs 92 Sg_downs_walk_c1_h (D_downs_walk_c1_h _N) := spr_downs_walk_c1_h _N _N
theorem en_downs_walk_c1_h (_N : Nat) : EntOk Tryd.prog Gs (mkHe 92 Sg_downs_walk_c1_h (D_downs_walk_c1_h _N)) := entH ⟨Tryd.f92, bodyOf Tryd.f92, by kernel_rfl, by kernel_rfl, rfl⟩ (sp_downs_walk_c1_h _N)
-- (with objects) watershed/downs.walk
abbrev Sg_downs_walk_h : Sig := ⟨[.dat false (.pair (.int .i64) (.sl (.int .u32))), .form (.clo 51 [.ptr 0 0])], [.cells [.int .i64]],
  [], [.cells [.int .i64]]⟩
abbrev Rt_downs_walk_h : Type := Int
noncomputable def C_downs_walk_h (_N : Nat) : Ctx := { T := [(3, ⟨.int .i64, 1, 8, some (.int .i64), [.int .i64 (0 : Int)]⟩), (22, ⟨.slice 45, 1, 24, some (.sl (.int .u32)), [.nil]⟩), (24, ⟨.struct [(0, 3), (1, 22)], 2, 32, some (.pair (.int .i64) (.sl (.int .u32))), [.int .i64 (0 : Int), .nil]⟩), (141, ⟨.other, 1, 8, none, [.bad]⟩)], G := findE [mkF 53 Ks_order_Down 45 (.int .u32) (D_order_Down _N), mkHe 92 Sg_downs_walk_c1_h (D_downs_walk_c1_h _N)], I := findI [], N := _N, n := 14, fx := [], fl := 1, gs := Gs }
noncomputable def downs_walk_h_1 (_N : Nat) (_x1 : Int × List Int) (_x2 : Int) : Option Rt_downs_walk_h :=
  ((D_order_Down _N ((_x1.1, _x1.2), ())).bind fun _y3 => ((D_downs_walk_c1_h _N ((IntKind.i64.wrap (_x1.1 - (1 : Int))), (0 : Int), (0 : Int), _x1.1, _x1.2, _x2, _y3)).bind fun _y4 => (some _y4.2.2.2.1)))
noncomputable def D_downs_walk_h (_N : Nat) (_x : (Int × List Int) × Int) : Option Rt_downs_walk_h := downs_walk_h_1 _N _x.1 _x.2
theorem sp_downs_walk_h (_N : Nat) : SpecH Tryd.prog Gs 50 Sg_downs_walk_h (D_downs_walk_h _N) := mkSpH (fn := Tryd.f50) (c := bodyOf Tryd.f50) (C := (C_downs_walk_h _N))
    (a := .none)
    (by kernel_rfl) rfl (by kernel_rfl) (by kernel_rfl) (by kernel_rfl) rfl ⟨rfl, by unfold TOk; kernel_rfl, gOk_of rfl rfl (List.forall_mem_cons.2 ⟨en_order_Down _N, (List.forall_mem_cons.2 ⟨en_downs_walk_c1_h _N, (List.forall_mem_nil _)⟩)⟩), iOk_of rfl rfl (List.forall_mem_nil _), rfl⟩ (fun _x => by kernel_rfl)
theorem en_downs_walk_h (_N : Nat) : EntOk Tryd.prog Gs (mkHe 50 Sg_downs_walk_h (D_downs_walk_h _N)) := entH ⟨Tryd.f50, bodyOf Tryd.f50, by kernel_rfl, by kernel_rfl, rfl⟩ (sp_downs_walk_h _N)
-- watershed/downs.Count
abbrev Ks_downs_Count : List Kd := [.dat (.pair (.int .i64) (.sl (.int .u32)))]
abbrev Rk_downs_Count : List Kd := [.dat (.int .i64), .dat (.int .i64)]
abbrev Rt_downs_Count : Type := Dens Rk_downs_Count
noncomputable def C_downs_Count (_N : Nat) : Ctx := { T := [(3, ⟨.int .i64, 1, 8, some (.int .i64), [.int .i64 (0 : Int)]⟩), (24, ⟨.struct [(0, 3), (1, 22)], 2, 32, some (.pair (.int .i64) (.sl (.int .u32))), [.int .i64 (0 : Int), .nil]⟩)], G := findE [mkP 38 Ks_order_Check Rk_order_Check (D_order_Check _N), mkHe 50 Sg_downs_walk_h (D_downs_walk_h _N)], I := findI [], N := _N, n := 15, fx := [], fl := 0, gs := Gs }
noncomputable def downs_Count_1 (_N : Nat) (_x1 : Int × List Int) : Option Rt_downs_Count :=
  ((D_order_Check _N ((_x1.1, _x1.2), ())).bind fun _y3 => (bif (_y3.1 != (0 : Int)) then (some ((0 : Int), _y3.1, ())) else ((D_downs_walk_h _N ((_x1.1, _x1.2), (0 : Int))).bind fun _y4 => (some (_y4, (0 : Int), ())))))
noncomputable def D_downs_Count (_N : Nat) (_x : Dens Ks_downs_Count) : Option Rt_downs_Count := downs_Count_1 _N _x.1
theorem sp_downs_Count (_N : Nat) : SpecD Tryd.prog Gs 22 Ks_downs_Count Rk_downs_Count (D_downs_Count _N) := mkSpD (fn := Tryd.f22) (c := bodyOf Tryd.f22) (C := C_downs_Count _N)
    (a := .none)
    (by kernel_rfl) rfl (by kernel_rfl) (by kernel_rfl) ⟨rfl, by unfold TOk; kernel_rfl, gOk_of rfl rfl (List.forall_mem_cons.2 ⟨en_order_Check _N, (List.forall_mem_cons.2 ⟨en_downs_walk_h _N, (List.forall_mem_nil _)⟩)⟩), iOk_of rfl rfl (List.forall_mem_nil _), rfl⟩ (fun _x => by kernel_rfl)
theorem en_downs_Count (_N : Nat) : EntOk Tryd.prog Gs (mkP 22 Ks_downs_Count Rk_downs_Count (D_downs_Count _N)) := entP ⟨Tryd.f22, bodyOf Tryd.f22, by kernel_rfl, by kernel_rfl, rfl⟩ (by kernel_rfl) (sp_downs_Count _N)
-- (with objects) watershed/downs.All$1
abbrev Sg_downs_All_c1_h2 : Sig := ⟨[.dat false (.int .u32), .form (.ptr 0 0)], [.cells [.slc 1 0], .row false 0 45 (.int .u32)],
  [.dat false .bool], [.cells [.slc 1 1], .row false 1 45 (.int .u32)]⟩
abbrev Rt_downs_All_c1_h2 : Type := Bool × List Int
noncomputable def C_downs_All_c1_h2 (_N : Nat) : Ctx := { T := [(22, ⟨.slice 45, 1, 24, some (.sl (.int .u32)), [.nil]⟩), (45, ⟨.int .u32, 1, 4, some (.int .u32), [.int .u32 (0 : Int)]⟩)], G := findE [], I := findI [], N := _N, n := 11, fx := [], fl := 2, gs := Gs }
noncomputable def downs_All_c1_h2_1 (_N : Nat) (_x1 : Int) (_x2 : List Int) : Option Rt_downs_All_c1_h2 :=
  (bif (decide ((_x2.length + ([_x1]).length) * 4 ≤ 70368744177664) && Nat.ble 1 4) then (some ((decide (((_x2 ++ [_x1]).length : Int) ≤ (256 : Int))), (_x2 ++ [_x1]))) else none)
noncomputable def D_downs_All_c1_h2 (_N : Nat) (_x : Int × List Int) : Option Rt_downs_All_c1_h2 := downs_All_c1_h2_1 _N _x.1 _x.2
theorem sp_downs_All_c1_h2 (_N : Nat) : SpecH Tryd.prog Gs 54 Sg_downs_All_c1_h2 (D_downs_All_c1_h2 _N) := mkSpH (fn := Tryd.f54) (c := bodyOf Tryd.f54) (C := (C_downs_All_c1_h2 _N))
    (a := .none)
    (by kernel_rfl) rfl (by kernel_rfl) (by kernel_rfl) (by kernel_rfl) rfl ⟨rfl, by unfold TOk; kernel_rfl, gOk_of rfl rfl (List.forall_mem_nil _), iOk_of rfl rfl (List.forall_mem_nil _), rfl⟩ (fun _x => by kernel_rfl)
theorem en_downs_All_c1_h2 (_N : Nat) : EntOk Tryd.prog Gs (mkHe 54 Sg_downs_All_c1_h2 (D_downs_All_c1_h2 _N)) := entH ⟨Tryd.f54, bodyOf Tryd.f54, by kernel_rfl, by kernel_rfl, rfl⟩ (sp_downs_All_c1_h2 _N)
-- (with objects) watershed/downs.walk$1
abbrev Sg_downs_walk_c1_h2 : Sig := ⟨[.dat false (.int .i64), .dat false (.int .u32), .dat false (.int .u32), .form (.ptr 0 0), .form (.ptr 1 0), .form (.ptr 2 0), .form (.ptr 3 0)], [.cells [.clo 54 [.ptr 4 0]], .cells [.clo 92 [.ptr 0 0, .ptr 1 0, .ptr 2 0, .ptr 3 0]], .cells [.int .i64, .sl (.int .u32)], .cells [.slc 5 0], .cells [.slc 6 0], .row false 0 45 (.int .u32), .row false 0 45 (.int .u32)],
  [.dat false .bool], [.cells [.clo 54 [.ptr 4 0]], .cells [.clo 92 [.ptr 0 0, .ptr 1 0, .ptr 2 0, .ptr 3 0]], .cells [.int .i64, .sl (.int .u32)], .cells [.slc 5 0], .cells [.slc 6 1], .row false 0 45 (.int .u32), .row false 1 45 (.int .u32)]⟩
abbrev Rt_downs_walk_c1_h2 : Type := Bool × Int × List Int × List Int × List Int
noncomputable def C_downs_walk_c1_h2 (_N : Nat) (_self : (Int × Int × Int × Int × List Int × List Int × List Int) → Option Rt_downs_walk_c1_h2) : Ctx := { T := [(22, ⟨.slice 45, 1, 24, some (.sl (.int .u32)), [.nil]⟩), (24, ⟨.struct [(0, 3), (1, 22)], 2, 32, some (.pair (.int .i64) (.sl (.int .u32))), [.int .i64 (0 : Int), .nil]⟩), (45, ⟨.int .u32, 1, 4, some (.int .u32), [.int .u32 (0 : Int)]⟩), (96, ⟨.other, 1, 8, none, [.bad]⟩), (141, ⟨.other, 1, 8, none, [.bad]⟩)], G := findE [mkHe 54 Sg_downs_All_c1_h2 (D_downs_All_c1_h2 _N), mkP 69 Ks_sets_Has_uint32 Rk_sets_Has_uint32 (D_sets_Has_uint32 _N), mkHe 92 Sg_downs_walk_c1_h2 _self], I := findI [], N := _N, n := 58, fx := [6], fl := 7, gs := Gs }
noncomputable def downs_walk_c1_h2_1 (_N : Nat) (_self : (Int × Int × Int × Int × List Int × List Int × List Int) → Option Rt_downs_walk_c1_h2) (_x1 : Int) (_x2 : Int) (_x3 : Int) (_x4 : Int) (_x5 : List Int) (_x6 : List Int) (_x7 : List Int) : Option Rt_downs_walk_c1_h2 :=
  (bif (decide (_x1 < (0 : Int))) then ((D_downs_All_c1_h2 _N (_x2, _x7)).bind fun _y8 => (some (_y8.1, _x4, _x5, _x6, _y8.2))) else ((D_sets_Has_uint32 _N (_x2, _x1, ())).bind fun _y9 => (bif (!_y9.1) then (bif (decide (0 ≤ _x1) && decide (_x1 < (_x5.length : Int))) then ((_self ((IntKind.i64.wrap (_x1 - (1 : Int))), _x2, (ior .u32 _x3 (nth (0 : Int) _x5 (_x1).toNat)), _x4, _x5, _x6, _x7)).bind fun _y10 => (bif (!_y10.1) then (some (false, _y10.2.1, _y10.2.2.1, _y10.2.2.2.1, _y10.2.2.2.2)) else ((D_sets_Has_uint32 _N (_x3, _x1, ())).bind fun _y11 => (bif _y11.1 then (some (true, _y10.2.1, _y10.2.2.1, _y10.2.2.2.1, _y10.2.2.2.2)) else (bif (decide (0 ≤ _x1) && decide (_x1 < (_y10.2.2.2.1.length : Int))) then (bif ((iand .u32 (nth (0 : Int) _y10.2.2.2.1 ((_x1).toNat)) _x3) != (0 : Int)) then (some (true, _y10.2.1, _y10.2.2.1, _y10.2.2.2.1, _y10.2.2.2.2)) else (bif (decide (0 ≤ _x1) && decide (_x1 < (_y10.2.2.2.1.length : Int))) then ((_self ((IntKind.i64.wrap (_x1 - (1 : Int))), (ior .u32 _x2 (nth (0 : Int) _y10.2.2.2.1 ((_x1).toNat))), _x3, _y10.2.1, _y10.2.2.1, _y10.2.2.2.1, _y10.2.2.2.2)).bind fun _y12 => (some (_y12.1, _y12.2.1, _y12.2.2.1, _y12.2.2.2.1, _y12.2.2.2.2))) else none)) else none))))) else none) else ((D_sets_Has_uint32 _N (_x3, _x1, ())).bind fun _y13 => (bif _y13.1 then (some (true, _x4, _x5, _x6, _x7)) else (bif (decide (0 ≤ _x1) && decide (_x1 < (_x6.length : Int))) then (bif ((iand .u32 (nth (0 : Int) _x6 ((_x1).toNat)) _x3) != (0 : Int)) then (some (true, _x4, _x5, _x6, _x7)) else (bif (decide (0 ≤ _x1) && decide (_x1 < (_x6.length : Int))) then ((_self ((IntKind.i64.wrap (_x1 - (1 : Int))), (ior .u32 _x2 (nth (0 : Int) _x6 ((_x1).toNat))), _x3, _x4, _x5, _x6, _x7)).bind fun _y14 => (some (_y14.1, _y14.2.1, _y14.2.2.1, _y14.2.2.2.1, _y14.2.2.2.2))) else none)) else none))))))
noncomputable def S_downs_walk_c1_h2 (_N : Nat) (_self : (Int × Int × Int × Int × List Int × List Int × List Int) → Option Rt_downs_walk_c1_h2) (_x : Int × Int × Int × Int × List Int × List Int × List Int) : Option Rt_downs_walk_c1_h2 := downs_walk_c1_h2_1 _N _self _x.1 _x.2.1 _x.2.2.1 _x.2.2.2.1 _x.2.2.2.2.1 _x.2.2.2.2.2.1 _x.2.2.2.2.2.2
noncomputable def R_downs_walk_c1_h2 (_N : Nat) : Nat → (Int × Int × Int × Int × List Int × List Int × List Int) → Option Rt_downs_walk_c1_h2
  | 0 => fun _ => none
  | n + 1 => fun _x => S_downs_walk_c1_h2 _N (R_downs_walk_c1_h2 _N n) _x
noncomputable def D_downs_walk_c1_h2 (_N : Nat) (_x : Int × Int × Int × Int × List Int × List Int × List Int) : Option Rt_downs_walk_c1_h2 := R_downs_walk_c1_h2 _N _N _x
theorem spr_downs_walk_c1_h2 (_N : Nat) : ∀ n, SpecH Tryd.prog Gs 92 Sg_downs_walk_c1_h2 (R_downs_walk_c1_h2 _N n)
  | 0 => fun _ _ _ _ _ _ _ _ _ _ _ _h => nomatch _h
  | n + 1 => have ih := spr_downs_walk_c1_h2 _N n
    mkSpH (fn := Tryd.f92) (c := bodyOf Tryd.f92) (C := (C_downs_walk_c1_h2 _N (R_downs_walk_c1_h2 _N n)))
    (a := .two .none (.two .none (.two (.two (.draw 0 [.pure, .pure, .pure, .pure, .pure, .rd [1], .pure, .pure, .pure, .pure, .pure, .rd [2], .pure, .pure, .pure, .pure, .full, .pure, .pure]) .none) (.two .none (.two (.draw 0 [.rd [1], .pure, .pure, .pure, .rd [3], .pure, .rd [5], .rd [5], .pure, .pure, .full, .pure]) .none)))))
    (by kernel_rfl) rfl (by kernel_rfl) (by kernel_rfl) (by kernel_rfl) rfl ⟨rfl, by unfold TOk; kernel_rfl, gOk_of rfl rfl (List.forall_mem_cons.2 ⟨en_downs_All_c1_h2 _N, (List.forall_mem_cons.2 ⟨en_sets_Has_uint32 _N, (List.forall_mem_cons.2 ⟨(entH ⟨Tryd.f92, bodyOf Tryd.f92, by kernel_rfl, by kernel_rfl, rfl⟩ ih), (List.forall_mem_nil _)⟩)⟩)⟩), iOk_of rfl rfl (List.forall_mem_nil _), rfl⟩ (fun _x => by kernel_rfl)
theorem sp_downs_walk_c1_h2 (_N : Nat) : SpecH Tryd.prog Gs 92 Sg_downs_walk_c1_h2 (D_downs_walk_c1_h2 _N) := spr_downs_walk_c1_h2 _N _N
theorem en_downs_walk_c1_h2 (_N : Nat) : EntOk Tryd.prog Gs (mkHe 92 Sg_downs_walk_c1_h2 (D_downs_walk_c1_h2 _N)) := entH ⟨Tryd.f92, bodyOf Tryd.f92, by kernel_rfl, by kernel_rfl, rfl⟩ (sp_downs_walk_c1_h2 _N)
-- (with objects) watershed/downs.walk
abbrev Sg_downs_walk_h2 : Sig := ⟨[.dat false (.pair (.int .i64) (.sl (.int .u32))), .form (.clo 54 [.ptr 0 0])], [.cells [.nil]],
  [], [.cells [.slc 6 1], .cells [.int .i64, .sl (.int .u32)], .cells [.clo 54 [.ptr 0 0]], .row false 0 45 (.int .u32), .cells [.slc 3 0], .cells [.clo 92 [.ptr 2 0, .ptr 5 0, .ptr 1 0, .ptr 4 0]], .row false 1 45 (.int .u32)]⟩
abbrev Rt_downs_walk_h2 : Type := Int × List Int × List Int × List Int
noncomputable def C_downs_walk_h2 (_N : Nat) : Ctx := { T := [(3, ⟨.int .i64, 1, 8, some (.int .i64), [.int .i64 (0 : Int)]⟩), (22, ⟨.slice 45, 1, 24, some (.sl (.int .u32)), [.nil]⟩), (24, ⟨.struct [(0, 3), (1, 22)], 2, 32, some (.pair (.int .i64) (.sl (.int .u32))), [.int .i64 (0 : Int), .nil]⟩), (141, ⟨.other, 1, 8, none, [.bad]⟩)], G := findE [mkF 53 Ks_order_Down 45 (.int .u32) (D_order_Down _N), mkHe 92 Sg_downs_walk_c1_h2 (D_downs_walk_c1_h2 _N)], I := findI [], N := _N, n := 14, fx := [], fl := 1, gs := Gs }
noncomputable def downs_walk_h2_1 (_N : Nat) (_x1 : Int × List Int) : Option Rt_downs_walk_h2 :=
  ((D_order_Down _N ((_x1.1, _x1.2), ())).bind fun _y3 => ((D_downs_walk_c1_h2 _N ((IntKind.i64.wrap (_x1.1 - (1 : Int))), (0 : Int), (0 : Int), _x1.1, _x1.2, _y3, [])).bind fun _y4 => (some (_y4.2.1, _y4.2.2.1, _y4.2.2.2.1, _y4.2.2.2.2))))
noncomputable def D_downs_walk_h2 (_N : Nat) (_x : (Int × List Int)) : Option Rt_downs_walk_h2 := downs_walk_h2_1 _N _x
theorem sp_downs_walk_h2 (_N : Nat) : SpecH Tryd.prog Gs 50 Sg_downs_walk_h2 (D_downs_walk_h2 _N) := mkSpH (fn := Tryd.f50) (c := bodyOf Tryd.f50) (C := (C_downs_walk_h2 _N))
    (a := .two .none (.two .none (.two .none (.two .none (.objc 0 0 45 (.int .u32) .none)))))
    (by kernel_rfl) rfl (by kernel_rfl) (by kernel_rfl) (by kernel_rfl) rfl ⟨rfl, by unfold TOk; kernel_rfl, gOk_of rfl rfl (List.forall_mem_cons.2 ⟨en_order_Down _N, (List.forall_mem_cons.2 ⟨en_downs_walk_c1_h2 _N, (List.forall_mem_nil _)⟩)⟩), iOk_of rfl rfl (List.forall_mem_nil _), rfl⟩ (fun _x => by kernel_rfl)
theorem en_downs_walk_h2 (_N : Nat) : EntOk Tryd.prog Gs (mkHe 50 Sg_downs_walk_h2 (D_downs_walk_h2 _N)) := entH ⟨Tryd.f50, bodyOf Tryd.f50, by kernel_rfl, by kernel_rfl, rfl⟩ (sp_downs_walk_h2 _N)
-- watershed/downs.All
abbrev Ks_downs_All : List Kd := [.dat (.pair (.int .i64) (.sl (.int .u32)))]
abbrev Rk_downs_All : List Kd := [.dat (.sl (.int .u32)), .dat (.int .i64)]
abbrev Rt_downs_All : Type := Dens Rk_downs_All
noncomputable def C_downs_All (_N : Nat) : Ctx := { T := [(22, ⟨.slice 45, 1, 24, some (.sl (.int .u32)), [.nil]⟩), (24, ⟨.struct [(0, 3), (1, 22)], 2, 32, some (.pair (.int .i64) (.sl (.int .u32))), [.int .i64 (0 : Int), .nil]⟩)], G := findE [mkP 38 Ks_order_Check Rk_order_Check (D_order_Check _N), mkHe 50 Sg_downs_walk_h2 (D_downs_walk_h2 _N)], I := findI [], N := _N, n := 18, fx := [], fl := 0, gs := Gs }
noncomputable def downs_All_1 (_N : Nat) (_x1 : Int × List Int) : Option Rt_downs_All :=
  ((D_order_Check _N ((_x1.1, _x1.2), ())).bind fun _y3 => (bif (_y3.1 != (0 : Int)) then (some ([], _y3.1, ())) else ((D_downs_walk_h2 _N (_x1.1, _x1.2)).bind fun _y4 => (bif (decide ((_y4.2.2.2.length : Int) > (256 : Int))) then (some ([], (1 : Int), ())) else (some (_y4.2.2.2, (0 : Int), ()))))))
noncomputable def D_downs_All (_N : Nat) (_x : Dens Ks_downs_All) : Option Rt_downs_All := downs_All_1 _N _x.1
theorem sp_downs_All (_N : Nat) : SpecD Tryd.prog Gs 26 Ks_downs_All Rk_downs_All (D_downs_All _N) := mkSpD (fn := Tryd.f26) (c := bodyOf Tryd.f26) (C := C_downs_All _N)
    (a := .none)
    (by kernel_rfl) rfl (by kernel_rfl) (by kernel_rfl) ⟨rfl, by unfold TOk; kernel_rfl, gOk_of rfl rfl (List.forall_mem_cons.2 ⟨en_order_Check _N, (List.forall_mem_cons.2 ⟨en_downs_walk_h2 _N, (List.forall_mem_nil _)⟩)⟩), iOk_of rfl rfl (List.forall_mem_nil _), rfl⟩ (fun _x => by kernel_rfl)
theorem en_downs_All (_N : Nat) : EntOk Tryd.prog Gs (mkD 26 Ks_downs_All Rk_downs_All (D_downs_All _N)) := entD ⟨Tryd.f26, bodyOf Tryd.f26, by kernel_rfl, by kernel_rfl, rfl⟩ (sp_downs_All _N)
theorem qen_downs_All (_N : Nat) : EntOk Tryd.prog Gs (mkQ 26 Ks_downs_All Rk_downs_All (D_downs_All _N)) := entQ ⟨Tryd.f26, bodyOf Tryd.f26, by kernel_rfl, by kernel_rfl, rfl⟩ (sp_downs_All _N)
end Go.Proofs.YtagghgmpdjoknaaDoor
