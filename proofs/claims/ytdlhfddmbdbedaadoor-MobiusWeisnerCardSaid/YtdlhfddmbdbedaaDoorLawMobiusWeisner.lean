/- Mu from Bottom on, over all whose join with an element is Top, comes to 0: the law answers true for every order and every element. No condition. -/
import Derived.Test.YtdlhfddmbdbedaaDoorMobI
import Derived.Test.YtdlhfddmbdbedaaDoorKeepS
import Derived.Test.YtdlhfddmbdbedaaDoorBoardS
import Derived.Test.YtdlhfddmbdbedaaDoorFrame
namespace Go.Proofs.YtdlhfddmbdbedaaDoor
open Go Go.ChangeShapes Go.WideShapes Go.ChangeAt Go.WideMaps Go.WideElems Go.RowKit Go.Abs
-- watershed/watershedkeep.MobiusWeisner
abbrev Ks_keep_MobiusWeisner : List Kd := [.dat (.pair (.int .i64) (.sl (.int .u32))), .dat (.int .i64)]
abbrev Rk_keep_MobiusWeisner : List Kd := [.dat (.bool)]
abbrev Rt_keep_MobiusWeisner : Type := Dens Rk_keep_MobiusWeisner
def T_keep_MobiusWeisner : List (Nat × TE) := [(2, ⟨.int .i64, 1, 8, some (.int .i64), [.int .i64 (0 : Int)]⟩),
  (3, ⟨.int .i64, 1, 8, some (.int .i64), [.int .i64 (0 : Int)]⟩),
  (4, ⟨.bool, 1, 1, some .bool, [.bool false]⟩),
  (24, ⟨.struct [(0, 3), (1, 22)], 2, 32, some (.pair (.int .i64) (.sl (.int .u32))), [.int .i64 (0 : Int), .nil]⟩),
  (25, ⟨.slice 3, 1, 24, some (.sl (.int .i64)), [.nil]⟩),
  (35, ⟨.struct [(0, 25), (1, 25), (2, 3), (3, 3)], 4, 64, some (.pair (.sl (.int .i64)) (.pair (.sl (.int .i64)) (.pair (.int .i64) (.int .i64)))), [.nil, .nil, .int .i64 (0 : Int), .int .i64 (0 : Int)]⟩),
  (40, ⟨.slice 2, 1, 24, some (.sl (.int .i64)), [.nil]⟩),
  (59, ⟨.struct [(0, 24), (2, 35), (6, 4)], 7, 104, some (.pair (.pair (.int .i64) (.sl (.int .u32))) (.pair (.pair (.sl (.int .i64)) (.pair (.sl (.int .i64)) (.pair (.int .i64) (.int .i64)))) (.bool))), [.int .i64 (0 : Int), .nil, .nil, .nil, .int .i64 (0 : Int), .int .i64 (0 : Int), .bool false]⟩)]
noncomputable def C_keep_MobiusWeisner (_N : Nat) : Ctx := { T := T_keep_MobiusWeisner, G := findE [mkQ 38 Ks_keep_open Rk_keep_open (D_keep_open _N), mkP 20 Ks_keep_within Rk_keep_within (D_keep_within _N), mkQ 34 Ks_mobius_Mu Rk_mobius_Mu (D_mobius_Mu _N), mkP 39 Ks_keep_board_or Rk_keep_board_or (D_keep_board_or _N)], I := findI [], N := _N, n := 81, fx := [], fl := 0, gs := Gs }
noncomputable def keep_MobiusWeisner_1 (_N : Nat) (_k21 : Option Rt_keep_MobiusWeisner) : Option Rt_keep_MobiusWeisner :=
  _k21
theorem keep_MobiusWeisner_1e (_N : Nat) (_x1 : Int × List Int) (_x2 : Int) (_k21 : Ko Rt_keep_MobiusWeisner) :
    exec (C_keep_MobiusWeisner _N) (cAt (bodyOf Tryd.f11) [0]) .none [(0, .agg [.int .i64 _x1.1, .sl (.int .u32) _x1.2]), (1, .int .i64 _x2)] [] (canonK [] _k21 [1, 2] 1 (fun _i _t _h => none) (fun _t _h => finK (C_keep_MobiusWeisner _N) [.tmp 4] (finD Rk_keep_MobiusWeisner) .ret _t _h)) = keep_MobiusWeisner_1 _N (_k21 [(1, .int .i64 _x2), (2, .ptr 0 0)] [.cells [.int .i64 _x1.1, .sl (.int .u32) _x1.2]]) :=
  by kernel_rfl
noncomputable def keep_MobiusWeisner_2 (_N : Nat) (_x1 : Int × List Int) (_k22 : Bool → Int → (List Int) → (List Int) → (List Int) → Int → Int → Bool → Option Rt_keep_MobiusWeisner) : Option Rt_keep_MobiusWeisner :=
  ((D_keep_open _N ((_x1.1, _x1.2), ())).bind fun _y23 => (_k22 _y23.2.1 _y23.1.1.1 _y23.1.1.2 _y23.1.2.1.1 _y23.1.2.1.2.1 _y23.1.2.1.2.2.1 _y23.1.2.1.2.2.2 _y23.1.2.2))
theorem keep_MobiusWeisner_2e (_N : Nat) (_x1 : Int × List Int) (_x2 : Int) (_k22 : Ko Rt_keep_MobiusWeisner) :
    exec (C_keep_MobiusWeisner _N) (cAt (bodyOf Tryd.f11) [1, 0]) .none [(1, .int .i64 _x2), (2, .ptr 0 0)] [.cells [.int .i64 _x1.1, .sl (.int .u32) _x1.2]] (canonK [] _k22 [1, 2, 5, 6] 2 (fun _i _t _h => none) (fun _t _h => finK (C_keep_MobiusWeisner _N) [.tmp 4] (finD Rk_keep_MobiusWeisner) .ret _t _h)) = keep_MobiusWeisner_2 _N _x1 (fun _v2 _v3 _v4 _v5 _v6 _v7 _v8 _v9 => _k22 [(1, .int .i64 _x2), (2, .ptr 0 0), (5, .ptr 1 0), (6, .bool _v2)] [.cells [.int .i64 _x1.1, .sl (.int .u32) _x1.2], .cells [.int .i64 _v3, .sl (.int .u32) _v4, .sl (.int .i64) _v5, .sl (.int .i64) _v6, .int .i64 _v7, .int .i64 _v8, .bool _v9]]) :=
  by kernel_rfl
noncomputable def keep_MobiusWeisner_3 (_N : Nat) (_v9 : Bool) (_k24 : Option Rt_keep_MobiusWeisner) : Option Rt_keep_MobiusWeisner :=
  (bif _v9 then (some (false, ())) else _k24)
theorem keep_MobiusWeisner_3e (_N : Nat) (_x1 : Int × List Int) (_x2 : Int) (_v2 : Bool) (_v3 : Int) (_v4 : List Int) (_v5 : List Int) (_v6 : List Int) (_v7 : Int) (_v8 : Int) (_v9 : Bool) (_k24 : Ko Rt_keep_MobiusWeisner) :
    exec (C_keep_MobiusWeisner _N) (cAt (bodyOf Tryd.f11) [1, 1, 0]) .none [(1, .int .i64 _x2), (2, .ptr 0 0), (5, .ptr 1 0), (6, .bool _v2)] [.cells [.int .i64 _x1.1, .sl (.int .u32) _x1.2], .cells [.int .i64 _v3, .sl (.int .u32) _v4, .sl (.int .i64) _v5, .sl (.int .i64) _v6, .int .i64 _v7, .int .i64 _v8, .bool _v9]] (canonK [] _k24 [1, 2, 5, 6] 2 (fun _i _t _h => none) (fun _t _h => finK (C_keep_MobiusWeisner _N) [.tmp 4] (finD Rk_keep_MobiusWeisner) .ret _t _h)) = keep_MobiusWeisner_3 _N _v9 (_k24 [(1, .int .i64 _x2), (2, .ptr 0 0), (5, .ptr 1 0), (6, .bool _v2)] [.cells [.int .i64 _x1.1, .sl (.int .u32) _x1.2], .cells [.int .i64 _v3, .sl (.int .u32) _v4, .sl (.int .i64) _v5, .sl (.int .i64) _v6, .int .i64 _v7, .int .i64 _v8, .bool _v9]]) :=
  by kernel_rfl
noncomputable def keep_MobiusWeisner_4 (_N : Nat) (_x1 : Int × List Int) (_x2 : Int) (_v2 : Bool) (_v7 : Int) (_k25 : Option Rt_keep_MobiusWeisner) : Option Rt_keep_MobiusWeisner :=
  (bif (!_v2) then (some (true, ())) else ((D_keep_within _N (_x1.1, [_x2], ())).bind fun _y26 => (bif (!_y26.1) then (some (true, ())) else (bif (_x2 == _v7) then (some (true, ())) else _k25))))
theorem keep_MobiusWeisner_4e (_N : Nat) (_x1 : Int × List Int) (_x2 : Int) (_v2 : Bool) (_v3 : Int) (_v4 : List Int) (_v5 : List Int) (_v6 : List Int) (_v7 : Int) (_v8 : Int) (_v9 : Bool) (_k25 : Ko Rt_keep_MobiusWeisner) :
    exec (C_keep_MobiusWeisner _N) (cAt (bodyOf Tryd.f11) [1, 1, 1, 0]) .none [(1, .int .i64 _x2), (2, .ptr 0 0), (5, .ptr 1 0), (6, .bool _v2)] [.cells [.int .i64 _x1.1, .sl (.int .u32) _x1.2], .cells [.int .i64 _v3, .sl (.int .u32) _v4, .sl (.int .i64) _v5, .sl (.int .i64) _v6, .int .i64 _v7, .int .i64 _v8, .bool _v9]] (canonK [] _k25 [1, 2, 5] 3 (fun _i _t _h => none) (fun _t _h => finK (C_keep_MobiusWeisner _N) [.tmp 4] (finD Rk_keep_MobiusWeisner) .ret _t _h)) = keep_MobiusWeisner_4 _N _x1 _x2 _v2 _v7 (_k25 [(1, .int .i64 _x2), (2, .ptr 0 0), (5, .ptr 1 0)] [.cells [.int .i64 _x1.1, .sl (.int .u32) _x1.2], .cells [.int .i64 _v3, .sl (.int .u32) _v4, .sl (.int .i64) _v5, .sl (.int .i64) _v6, .int .i64 _v7, .int .i64 _v8, .bool _v9], .row false 0 3 (.int .i64) ([_x2])]) :=
  by kernel_rfl
noncomputable def keep_MobiusWeisner_5 (_N : Nat) (_x1 : Int × List Int) (_k27 : (List Int) → Int → Option Rt_keep_MobiusWeisner) : Option Rt_keep_MobiusWeisner :=
  ((D_mobius_Mu _N ((_x1.1, _x1.2), ())).bind fun _y28 => (_k27 _y28.1 _y28.2.1))
theorem keep_MobiusWeisner_5e (_N : Nat) (_x1 : Int × List Int) (_x2 : Int) (_v2 : Bool) (_v3 : Int) (_v4 : List Int) (_v5 : List Int) (_v6 : List Int) (_v7 : Int) (_v8 : Int) (_v9 : Bool) (_k27 : Ko Rt_keep_MobiusWeisner) :
    exec (C_keep_MobiusWeisner _N) (cAt (bodyOf Tryd.f11) [1, 1, 1, 1, 0]) .none [(1, .int .i64 _x2), (2, .ptr 0 0), (5, .ptr 1 0)] [.cells [.int .i64 _x1.1, .sl (.int .u32) _x1.2], .cells [.int .i64 _v3, .sl (.int .u32) _v4, .sl (.int .i64) _v5, .sl (.int .i64) _v6, .int .i64 _v7, .int .i64 _v8, .bool _v9], .row false 0 3 (.int .i64) ([_x2])] (canonK [] _k27 [1, 2, 5, 7, 8] 3 (fun _i _t _h => none) (fun _t _h => finK (C_keep_MobiusWeisner _N) [.tmp 4] (finD Rk_keep_MobiusWeisner) .ret _t _h)) = keep_MobiusWeisner_5 _N _x1 (fun _v12 _v13 => _k27 [(1, .int .i64 _x2), (2, .ptr 0 0), (5, .ptr 1 0), (7, .sl (.int .i64) _v12), (8, .int .i64 _v13)] [.cells [.int .i64 _x1.1, .sl (.int .u32) _x1.2], .cells [.int .i64 _v3, .sl (.int .u32) _v4, .sl (.int .i64) _v5, .sl (.int .i64) _v6, .int .i64 _v7, .int .i64 _v8, .bool _v9], .row false 0 3 (.int .i64) ([_x2])]) :=
  by kernel_rfl
noncomputable def keep_MobiusWeisner_6 (_N : Nat) (_x1 : Int × List Int) (_v12 : List Int) (_v13 : Int) (_k29 : Option Rt_keep_MobiusWeisner) : Option Rt_keep_MobiusWeisner :=
  (bif (_v13 != (0 : Int)) then (some (false, ())) else (bif ((_v12.length : Int) != (IntKind.i64.wrap (_x1.1 * _x1.1))) then (some (false, ())) else _k29))
theorem keep_MobiusWeisner_6e (_N : Nat) (_x1 : Int × List Int) (_x2 : Int) (_v2 : Bool) (_v3 : Int) (_v4 : List Int) (_v5 : List Int) (_v6 : List Int) (_v7 : Int) (_v8 : Int) (_v9 : Bool) (_v12 : List Int) (_v13 : Int) (_k29 : Ko Rt_keep_MobiusWeisner) :
    exec (C_keep_MobiusWeisner _N) (cAt (bodyOf Tryd.f11) [1, 1, 1, 1, 1, 0]) .none [(1, .int .i64 _x2), (2, .ptr 0 0), (5, .ptr 1 0), (7, .sl (.int .i64) _v12), (8, .int .i64 _v13)] [.cells [.int .i64 _x1.1, .sl (.int .u32) _x1.2], .cells [.int .i64 _v3, .sl (.int .u32) _v4, .sl (.int .i64) _v5, .sl (.int .i64) _v6, .int .i64 _v7, .int .i64 _v8, .bool _v9], .row false 0 3 (.int .i64) ([_x2])] (canonK [] _k29 [1, 2, 5, 7] 3 (fun _i _t _h => none) (fun _t _h => finK (C_keep_MobiusWeisner _N) [.tmp 4] (finD Rk_keep_MobiusWeisner) .ret _t _h)) = keep_MobiusWeisner_6 _N _x1 _v12 _v13 (_k29 [(1, .int .i64 _x2), (2, .ptr 0 0), (5, .ptr 1 0), (7, .sl (.int .i64) _v12)] [.cells [.int .i64 _x1.1, .sl (.int .u32) _x1.2], .cells [.int .i64 _v3, .sl (.int .u32) _v4, .sl (.int .i64) _v5, .sl (.int .i64) _v6, .int .i64 _v7, .int .i64 _v8, .bool _v9], .row false 0 3 (.int .i64) ([_x2])]) :=
  by kernel_rfl
noncomputable def keep_MobiusWeisner_7 (_N : Nat) (_k30 : Option Rt_keep_MobiusWeisner) : Option Rt_keep_MobiusWeisner :=
  _k30
theorem keep_MobiusWeisner_7e (_N : Nat) (_x1 : Int × List Int) (_x2 : Int) (_v2 : Bool) (_v3 : Int) (_v4 : List Int) (_v5 : List Int) (_v6 : List Int) (_v7 : Int) (_v8 : Int) (_v9 : Bool) (_v12 : List Int) (_v13 : Int) (_k30 : Ko Rt_keep_MobiusWeisner) :
    exec (C_keep_MobiusWeisner _N) (cAt (bodyOf Tryd.f11) [1, 1, 1, 1, 1, 1, 0]) .none [(1, .int .i64 _x2), (2, .ptr 0 0), (5, .ptr 1 0), (7, .sl (.int .i64) _v12)] [.cells [.int .i64 _x1.1, .sl (.int .u32) _x1.2], .cells [.int .i64 _v3, .sl (.int .u32) _v4, .sl (.int .i64) _v5, .sl (.int .i64) _v6, .int .i64 _v7, .int .i64 _v8, .bool _v9], .row false 0 3 (.int .i64) ([_x2])] (canonK [] _k30 [1, 2, 5, 7, 9] 3 (fun _i _t _h => none) (fun _t _h => finK (C_keep_MobiusWeisner _N) [.tmp 4] (finD Rk_keep_MobiusWeisner) .ret _t _h)) = keep_MobiusWeisner_7 _N (_k30 [(1, .int .i64 _x2), (2, .ptr 0 0), (5, .ptr 1 0), (7, .sl (.int .i64) _v12), (9, .int .i64 (0 : Int))] [.cells [.int .i64 _x1.1, .sl (.int .u32) _x1.2], .cells [.int .i64 _v3, .sl (.int .u32) _v4, .sl (.int .i64) _v5, .sl (.int .i64) _v6, .int .i64 _v7, .int .i64 _v8, .bool _v9], .row false 0 3 (.int .i64) ([_x2])]) :=
  by kernel_rfl
noncomputable def keep_MobiusWeisner_8 (_N : Nat) (_k32 : Option Rt_keep_MobiusWeisner) : Option Rt_keep_MobiusWeisner :=
  _k32
theorem keep_MobiusWeisner_8e (_N : Nat) (_x1 : Int × List Int) (_x2 : Int) (_v2 : Bool) (_v3 : Int) (_v4 : List Int) (_v5 : List Int) (_v6 : List Int) (_v7 : Int) (_v8 : Int) (_v9 : Bool) (_v12 : List Int) (_v13 : Int) (_k32 : Ko Rt_keep_MobiusWeisner) :
    exec (C_keep_MobiusWeisner _N) (cAt (bodyOf Tryd.f11) [1, 1, 1, 1, 1, 1, 1, 0, 0]) .none [(1, .int .i64 _x2), (2, .ptr 0 0), (5, .ptr 1 0), (7, .sl (.int .i64) _v12), (9, .int .i64 (0 : Int))] [.cells [.int .i64 _x1.1, .sl (.int .u32) _x1.2], .cells [.int .i64 _v3, .sl (.int .u32) _v4, .sl (.int .i64) _v5, .sl (.int .i64) _v6, .int .i64 _v7, .int .i64 _v8, .bool _v9], .row false 0 3 (.int .i64) ([_x2])] (canonK [] _k32 [1, 2, 5, 7, 9, 10] 3 (fun _i _t _h => none) (fun _t _h => finK (C_keep_MobiusWeisner _N) [.tmp 4] (finD Rk_keep_MobiusWeisner) .ret _t _h)) = keep_MobiusWeisner_8 _N (_k32 [(1, .int .i64 _x2), (2, .ptr 0 0), (5, .ptr 1 0), (7, .sl (.int .i64) _v12), (9, .int .i64 (0 : Int)), (10, .int .i64 (0 : Int))] [.cells [.int .i64 _x1.1, .sl (.int .u32) _x1.2], .cells [.int .i64 _v3, .sl (.int .u32) _v4, .sl (.int .i64) _v5, .sl (.int .i64) _v6, .int .i64 _v7, .int .i64 _v8, .bool _v9], .row false 0 3 (.int .i64) ([_x2])]) :=
  by kernel_rfl
noncomputable def keep_MobiusWeisner_9 (_N : Nat) (_x1 : Int × List Int) (_x2 : Int) (_v3 : Int) (_v4 : List Int) (_v5 : List Int) (_v6 : List Int) (_v7 : Int) (_v8 : Int) (_v9 : Bool) (_v12 : List Int) (_v15 : Int) (_v16 : Int) (_k33 : Int → Int → Option Rt_keep_MobiusWeisner) (_k31 : Int → Option Rt_keep_MobiusWeisner) : Option Rt_keep_MobiusWeisner :=
  (bif (decide (_v16 < _x1.1)) then ((D_keep_board_or _N (((_v3, _v4), ((_v5, (_v6, (_v7, _v8))), _v9)), _v16, _x2, ())).bind fun _y34 => (bif (_y34.1 == _v8) then (bif (decide (0 ≤ (IntKind.i64.wrap ((IntKind.i64.wrap (_v7 * _x1.1)) + _v16))) && decide ((IntKind.i64.wrap ((IntKind.i64.wrap (_v7 * _x1.1)) + _v16)) < (_v12.length : Int))) then (_k33 (IntKind.i64.wrap (_v15 + (nth (0 : Int) _v12 (IntKind.i64.wrap ((IntKind.i64.wrap (_v7 * _x1.1)) + _v16)).toNat))) (IntKind.i64.wrap (_v16 + (1 : Int)))) else none) else (_k33 _v15 (IntKind.i64.wrap (_v16 + (1 : Int)))))) else (_k31 _v15))
abbrev A_keep_MobiusWeisner_9 : Ann := .two .none (.two (.one (.two (.draw 0 [.rd [1], .pure, .pure, .pure, .pure, .pure, .rd [1], .pure]) .none)) .none)
theorem keep_MobiusWeisner_9e (_N : Nat) (_x1 : Int × List Int) (_x2 : Int) (_v2 : Bool) (_v3 : Int) (_v4 : List Int) (_v5 : List Int) (_v6 : List Int) (_v7 : Int) (_v8 : Int) (_v9 : Bool) (_v12 : List Int) (_v13 : Int) (_v15 : Int) (_v16 : Int) (_k33 _k31 : Ko Rt_keep_MobiusWeisner) :
    exec (C_keep_MobiusWeisner _N) (cAt (bodyOf Tryd.f11) [1, 1, 1, 1, 1, 1, 1, 0, 1, 0, 0]) A_keep_MobiusWeisner_9 [(1, .int .i64 _x2), (2, .ptr 0 0), (5, .ptr 1 0), (7, .sl (.int .i64) _v12), (9, .int .i64 _v15), (10, .int .i64 _v16)] [.cells [.int .i64 _x1.1, .sl (.int .u32) _x1.2], .cells [.int .i64 _v3, .sl (.int .u32) _v4, .sl (.int .i64) _v5, .sl (.int .i64) _v6, .int .i64 _v7, .int .i64 _v8, .bool _v9], .row false 0 3 (.int .i64) ([_x2])] (canonK [] _k33 [1, 2, 5, 7, 9, 10] 3 (fun _i _t _h => wo 0 _k31 [] [9] 3 _i _t _h none) (fun _t _h => finK (C_keep_MobiusWeisner _N) [.tmp 4] (finD Rk_keep_MobiusWeisner) .ret _t _h)) = keep_MobiusWeisner_9 _N _x1 _x2 _v3 _v4 _v5 _v6 _v7 _v8 _v9 _v12 _v15 _v16 (fun _v15 _v16 => _k33 [(1, .int .i64 _x2), (2, .ptr 0 0), (5, .ptr 1 0), (7, .sl (.int .i64) _v12), (9, .int .i64 _v15), (10, .int .i64 _v16)] [.cells [.int .i64 _x1.1, .sl (.int .u32) _x1.2], .cells [.int .i64 _v3, .sl (.int .u32) _v4, .sl (.int .i64) _v5, .sl (.int .i64) _v6, .int .i64 _v7, .int .i64 _v8, .bool _v9], .row false 0 3 (.int .i64) ([_x2])]) (fun _v20 => _k31 [(9, .int .i64 _v20)] [.cells [.int .i64 _x1.1, .sl (.int .u32) _x1.2], .cells [.int .i64 _v3, .sl (.int .u32) _v4, .sl (.int .i64) _v5, .sl (.int .i64) _v6, .int .i64 _v7, .int .i64 _v8, .bool _v9], .row false 0 3 (.int .i64) ([_x2])]) :=
  by kernel_rfl
noncomputable def keep_MobiusWeisner_10 (_N : Nat) (_x1 : Int × List Int) (_x2 : Int) (_v3 : Int) (_v4 : List Int) (_v5 : List Int) (_v6 : List Int) (_v7 : Int) (_v8 : Int) (_v9 : Bool) (_v12 : List Int) (_k31 : Int → Option Rt_keep_MobiusWeisner) : Option Rt_keep_MobiusWeisner :=
  loopD (fun (_s : Int × Int) _kn => keep_MobiusWeisner_9 _N _x1 _x2 _v3 _v4 _v5 _v6 _v7 _v8 _v9 _v12 _s.1 _s.2 (fun _v15 _v16 => _kn (_v15, _v16)) _k31) _N ((0 : Int), (0 : Int))
abbrev A_keep_MobiusWeisner_10 : Ann := .loop [1, 2, 5, 7, 9, 10] 3 A_keep_MobiusWeisner_9
theorem keep_MobiusWeisner_10e (_N : Nat) (_x1 : Int × List Int) (_x2 : Int) (_v2 : Bool) (_v3 : Int) (_v4 : List Int) (_v5 : List Int) (_v6 : List Int) (_v7 : Int) (_v8 : Int) (_v9 : Bool) (_v12 : List Int) (_v13 : Int) (_k31 : Ko Rt_keep_MobiusWeisner) :
    exec (C_keep_MobiusWeisner _N) (cAt (bodyOf Tryd.f11) [1, 1, 1, 1, 1, 1, 1, 0, 1, 0]) A_keep_MobiusWeisner_10 [(1, .int .i64 _x2), (2, .ptr 0 0), (5, .ptr 1 0), (7, .sl (.int .i64) _v12), (9, .int .i64 (0 : Int)), (10, .int .i64 (0 : Int))] [.cells [.int .i64 _x1.1, .sl (.int .u32) _x1.2], .cells [.int .i64 _v3, .sl (.int .u32) _v4, .sl (.int .i64) _v5, .sl (.int .i64) _v6, .int .i64 _v7, .int .i64 _v8, .bool _v9], .row false 0 3 (.int .i64) ([_x2])] (canonK [] _k31 [9] 3 (fun _i _t _h => wo 0 _k31 [] [9] 3 _i _t _h none) (fun _t _h => finK (C_keep_MobiusWeisner _N) [.tmp 4] (finD Rk_keep_MobiusWeisner) .ret _t _h)) = keep_MobiusWeisner_10 _N _x1 _x2 _v3 _v4 _v5 _v6 _v7 _v8 _v9 _v12 (fun _v20 => _k31 [(9, .int .i64 _v20)] [.cells [.int .i64 _x1.1, .sl (.int .u32) _x1.2], .cells [.int .i64 _v3, .sl (.int .u32) _v4, .sl (.int .i64) _v5, .sl (.int .i64) _v6, .int .i64 _v7, .int .i64 _v8, .bool _v9], .row false 0 3 (.int .i64) ([_x2])]) :=
  (loop_frag (by kernel_rfl) rfl (by kernel_rfl) (by kernel_rfl)).trans (loopN_sim (S := Int × Int) (fun _s => [(1, .int .i64 _x2), (2, .ptr 0 0), (5, .ptr 1 0), (7, .sl (.int .i64) _v12), (9, .int .i64 _s.1), (10, .int .i64 _s.2)]) (fun _s => [.cells [.int .i64 _x1.1, .sl (.int .u32) _x1.2], .cells [.int .i64 _v3, .sl (.int .u32) _v4, .sl (.int .i64) _v5, .sl (.int .i64) _v6, .int .i64 _v7, .int .i64 _v8, .bool _v9], .row false 0 3 (.int .i64) ([_x2])]) (fun _s _kn => keep_MobiusWeisner_9e _N _x1 _x2 _v2 _v3 _v4 _v5 _v6 _v7 _v8 _v9 _v12 _v13 _s.1 _s.2 _kn _k31) _N ((0 : Int), (0 : Int)))
noncomputable def keep_MobiusWeisner_11 (_N : Nat) (_x1 : Int × List Int) (_x2 : Int) (_v3 : Int) (_v4 : List Int) (_v5 : List Int) (_v6 : List Int) (_v7 : Int) (_v8 : Int) (_v9 : Bool) (_v12 : List Int) (_k31 : Int → Option Rt_keep_MobiusWeisner) : Option Rt_keep_MobiusWeisner :=
  keep_MobiusWeisner_10 _N _x1 _x2 _v3 _v4 _v5 _v6 _v7 _v8 _v9 _v12 _k31
abbrev A_keep_MobiusWeisner_11 : Ann := .one (.loop [1, 2, 5, 7, 9, 10] 3 A_keep_MobiusWeisner_9)
theorem keep_MobiusWeisner_11e (_N : Nat) (_x1 : Int × List Int) (_x2 : Int) (_v2 : Bool) (_v3 : Int) (_v4 : List Int) (_v5 : List Int) (_v6 : List Int) (_v7 : Int) (_v8 : Int) (_v9 : Bool) (_v12 : List Int) (_v13 : Int) (_k31 : Ko Rt_keep_MobiusWeisner) :
    exec (C_keep_MobiusWeisner _N) (cAt (bodyOf Tryd.f11) [1, 1, 1, 1, 1, 1, 1, 0, 1]) A_keep_MobiusWeisner_11 [(1, .int .i64 _x2), (2, .ptr 0 0), (5, .ptr 1 0), (7, .sl (.int .i64) _v12), (9, .int .i64 (0 : Int)), (10, .int .i64 (0 : Int))] [.cells [.int .i64 _x1.1, .sl (.int .u32) _x1.2], .cells [.int .i64 _v3, .sl (.int .u32) _v4, .sl (.int .i64) _v5, .sl (.int .i64) _v6, .int .i64 _v7, .int .i64 _v8, .bool _v9], .row false 0 3 (.int .i64) ([_x2])] (canonK [] _k31 [9] 3 (fun _i _t _h => none) (fun _t _h => finK (C_keep_MobiusWeisner _N) [.tmp 4] (finD Rk_keep_MobiusWeisner) .ret _t _h)) = keep_MobiusWeisner_11 _N _x1 _x2 _v3 _v4 _v5 _v6 _v7 _v8 _v9 _v12 (fun _v20 => _k31 [(9, .int .i64 _v20)] [.cells [.int .i64 _x1.1, .sl (.int .u32) _x1.2], .cells [.int .i64 _v3, .sl (.int .u32) _v4, .sl (.int .i64) _v5, .sl (.int .i64) _v6, .int .i64 _v7, .int .i64 _v8, .bool _v9], .row false 0 3 (.int .i64) ([_x2])]) :=
  (block_canon (by kernel_rfl)).trans (keep_MobiusWeisner_10e _N _x1 _x2 _v2 _v3 _v4 _v5 _v6 _v7 _v8 _v9 _v12 _v13 _k31)
noncomputable def keep_MobiusWeisner_12 (_N : Nat) (_x1 : Int × List Int) (_x2 : Int) (_v3 : Int) (_v4 : List Int) (_v5 : List Int) (_v6 : List Int) (_v7 : Int) (_v8 : Int) (_v9 : Bool) (_v12 : List Int) (_k31 : Int → Option Rt_keep_MobiusWeisner) : Option Rt_keep_MobiusWeisner :=
  keep_MobiusWeisner_8 _N (keep_MobiusWeisner_11 _N _x1 _x2 _v3 _v4 _v5 _v6 _v7 _v8 _v9 _v12 _k31)
abbrev A_keep_MobiusWeisner_12 : Ann := .two .none (.keep [1, 2, 5, 7, 9, 10] 3 (.one (.loop [1, 2, 5, 7, 9, 10] 3 A_keep_MobiusWeisner_9)))
theorem keep_MobiusWeisner_12e (_N : Nat) (_x1 : Int × List Int) (_x2 : Int) (_v2 : Bool) (_v3 : Int) (_v4 : List Int) (_v5 : List Int) (_v6 : List Int) (_v7 : Int) (_v8 : Int) (_v9 : Bool) (_v12 : List Int) (_v13 : Int) (_k31 : Ko Rt_keep_MobiusWeisner) :
    exec (C_keep_MobiusWeisner _N) (cAt (bodyOf Tryd.f11) [1, 1, 1, 1, 1, 1, 1, 0]) A_keep_MobiusWeisner_12 [(1, .int .i64 _x2), (2, .ptr 0 0), (5, .ptr 1 0), (7, .sl (.int .i64) _v12), (9, .int .i64 (0 : Int))] [.cells [.int .i64 _x1.1, .sl (.int .u32) _x1.2], .cells [.int .i64 _v3, .sl (.int .u32) _v4, .sl (.int .i64) _v5, .sl (.int .i64) _v6, .int .i64 _v7, .int .i64 _v8, .bool _v9], .row false 0 3 (.int .i64) ([_x2])] (canonK [] _k31 [9] 3 (fun _i _t _h => none) (fun _t _h => finK (C_keep_MobiusWeisner _N) [.tmp 4] (finD Rk_keep_MobiusWeisner) .ret _t _h)) = keep_MobiusWeisner_12 _N _x1 _x2 _v3 _v4 _v5 _v6 _v7 _v8 _v9 _v12 (fun _v20 => _k31 [(9, .int .i64 _v20)] [.cells [.int .i64 _x1.1, .sl (.int .u32) _x1.2], .cells [.int .i64 _v3, .sl (.int .u32) _v4, .sl (.int .i64) _v5, .sl (.int .i64) _v6, .int .i64 _v7, .int .i64 _v8, .bool _v9], .row false 0 3 (.int .i64) ([_x2])]) :=
  (seq_frag (by kernel_rfl) rfl).trans ((keep_MobiusWeisner_8e _N _x1 _x2 _v2 _v3 _v4 _v5 _v6 _v7 _v8 _v9 _v12 _v13 _).trans (congrArg (fun _z => keep_MobiusWeisner_8 _N _z) (keep_MobiusWeisner_11e _N _x1 _x2 _v2 _v3 _v4 _v5 _v6 _v7 _v8 _v9 _v12 _v13 _k31)))
noncomputable def keep_MobiusWeisner_13 (_N : Nat) (_v20 : Int) : Option Rt_keep_MobiusWeisner :=
  (some ((_v20 == (0 : Int)), ()))
theorem keep_MobiusWeisner_13e (_N : Nat) (_x1 : Int × List Int) (_x2 : Int) (_v2 : Bool) (_v3 : Int) (_v4 : List Int) (_v5 : List Int) (_v6 : List Int) (_v7 : Int) (_v8 : Int) (_v9 : Bool) (_v12 : List Int) (_v13 : Int) (_v20 : Int) :
    exec (C_keep_MobiusWeisner _N) (cAt (bodyOf Tryd.f11) [1, 1, 1, 1, 1, 1, 1, 1]) .none [(9, .int .i64 _v20)] [.cells [.int .i64 _x1.1, .sl (.int .u32) _x1.2], .cells [.int .i64 _v3, .sl (.int .u32) _v4, .sl (.int .i64) _v5, .sl (.int .i64) _v6, .int .i64 _v7, .int .i64 _v8, .bool _v9], .row false 0 3 (.int .i64) ([_x2])] (canonR (fun _i _t _h => none) (finK (C_keep_MobiusWeisner _N) [.tmp 4] (finD Rk_keep_MobiusWeisner))) = keep_MobiusWeisner_13 _N _v20 :=
  by kernel_rfl
noncomputable def keep_MobiusWeisner_14 (_N : Nat) (_x1 : Int × List Int) (_x2 : Int) (_v3 : Int) (_v4 : List Int) (_v5 : List Int) (_v6 : List Int) (_v7 : Int) (_v8 : Int) (_v9 : Bool) (_v12 : List Int) : Option Rt_keep_MobiusWeisner :=
  keep_MobiusWeisner_12 _N _x1 _x2 _v3 _v4 _v5 _v6 _v7 _v8 _v9 _v12 (fun _v20 => keep_MobiusWeisner_13 _N _v20)
abbrev A_keep_MobiusWeisner_14 : Ann := .two (.two .none (.keep [1, 2, 5, 7, 9, 10] 3 (.one (.loop [1, 2, 5, 7, 9, 10] 3 A_keep_MobiusWeisner_9)))) (.keep [9] 3 .none)
theorem keep_MobiusWeisner_14e (_N : Nat) (_x1 : Int × List Int) (_x2 : Int) (_v2 : Bool) (_v3 : Int) (_v4 : List Int) (_v5 : List Int) (_v6 : List Int) (_v7 : Int) (_v8 : Int) (_v9 : Bool) (_v12 : List Int) (_v13 : Int) :
    exec (C_keep_MobiusWeisner _N) (cAt (bodyOf Tryd.f11) [1, 1, 1, 1, 1, 1, 1]) A_keep_MobiusWeisner_14 [(1, .int .i64 _x2), (2, .ptr 0 0), (5, .ptr 1 0), (7, .sl (.int .i64) _v12), (9, .int .i64 (0 : Int))] [.cells [.int .i64 _x1.1, .sl (.int .u32) _x1.2], .cells [.int .i64 _v3, .sl (.int .u32) _v4, .sl (.int .i64) _v5, .sl (.int .i64) _v6, .int .i64 _v7, .int .i64 _v8, .bool _v9], .row false 0 3 (.int .i64) ([_x2])] (canonR (fun _i _t _h => none) (finK (C_keep_MobiusWeisner _N) [.tmp 4] (finD Rk_keep_MobiusWeisner))) = keep_MobiusWeisner_14 _N _x1 _x2 _v3 _v4 _v5 _v6 _v7 _v8 _v9 _v12 :=
  (seq_frag (by kernel_rfl) rfl).trans ((keep_MobiusWeisner_12e _N _x1 _x2 _v2 _v3 _v4 _v5 _v6 _v7 _v8 _v9 _v12 _v13 _).trans (congrArg (fun _z => keep_MobiusWeisner_12 _N _x1 _x2 _v3 _v4 _v5 _v6 _v7 _v8 _v9 _v12 _z) (funext fun _v20 => keep_MobiusWeisner_13e _N _x1 _x2 _v2 _v3 _v4 _v5 _v6 _v7 _v8 _v9 _v12 _v13 _v20)))
noncomputable def keep_MobiusWeisner_15 (_N : Nat) (_x1 : Int × List Int) (_x2 : Int) (_v3 : Int) (_v4 : List Int) (_v5 : List Int) (_v6 : List Int) (_v7 : Int) (_v8 : Int) (_v9 : Bool) (_v12 : List Int) : Option Rt_keep_MobiusWeisner :=
  keep_MobiusWeisner_7 _N (keep_MobiusWeisner_14 _N _x1 _x2 _v3 _v4 _v5 _v6 _v7 _v8 _v9 _v12)
abbrev A_keep_MobiusWeisner_15 : Ann := .two .none (.keep [1, 2, 5, 7, 9] 3 (.two (.two .none (.keep [1, 2, 5, 7, 9, 10] 3 (.one (.loop [1, 2, 5, 7, 9, 10] 3 A_keep_MobiusWeisner_9)))) (.keep [9] 3 .none)))
theorem keep_MobiusWeisner_15e (_N : Nat) (_x1 : Int × List Int) (_x2 : Int) (_v2 : Bool) (_v3 : Int) (_v4 : List Int) (_v5 : List Int) (_v6 : List Int) (_v7 : Int) (_v8 : Int) (_v9 : Bool) (_v12 : List Int) (_v13 : Int) :
    exec (C_keep_MobiusWeisner _N) (cAt (bodyOf Tryd.f11) [1, 1, 1, 1, 1, 1]) A_keep_MobiusWeisner_15 [(1, .int .i64 _x2), (2, .ptr 0 0), (5, .ptr 1 0), (7, .sl (.int .i64) _v12)] [.cells [.int .i64 _x1.1, .sl (.int .u32) _x1.2], .cells [.int .i64 _v3, .sl (.int .u32) _v4, .sl (.int .i64) _v5, .sl (.int .i64) _v6, .int .i64 _v7, .int .i64 _v8, .bool _v9], .row false 0 3 (.int .i64) ([_x2])] (canonR (fun _i _t _h => none) (finK (C_keep_MobiusWeisner _N) [.tmp 4] (finD Rk_keep_MobiusWeisner))) = keep_MobiusWeisner_15 _N _x1 _x2 _v3 _v4 _v5 _v6 _v7 _v8 _v9 _v12 :=
  (seq_frag (by kernel_rfl) rfl).trans ((keep_MobiusWeisner_7e _N _x1 _x2 _v2 _v3 _v4 _v5 _v6 _v7 _v8 _v9 _v12 _v13 _).trans (congrArg (fun _z => keep_MobiusWeisner_7 _N _z) (keep_MobiusWeisner_14e _N _x1 _x2 _v2 _v3 _v4 _v5 _v6 _v7 _v8 _v9 _v12 _v13)))
noncomputable def keep_MobiusWeisner_16 (_N : Nat) (_x1 : Int × List Int) (_x2 : Int) (_v3 : Int) (_v4 : List Int) (_v5 : List Int) (_v6 : List Int) (_v7 : Int) (_v8 : Int) (_v9 : Bool) (_v12 : List Int) (_v13 : Int) : Option Rt_keep_MobiusWeisner :=
  keep_MobiusWeisner_6 _N _x1 _v12 _v13 (keep_MobiusWeisner_15 _N _x1 _x2 _v3 _v4 _v5 _v6 _v7 _v8 _v9 _v12)
abbrev A_keep_MobiusWeisner_16 : Ann := .two .none (.keep [1, 2, 5, 7] 3 (.two .none (.keep [1, 2, 5, 7, 9] 3 (.two (.two .none (.keep [1, 2, 5, 7, 9, 10] 3 (.one (.loop [1, 2, 5, 7, 9, 10] 3 A_keep_MobiusWeisner_9)))) (.keep [9] 3 .none)))))
theorem keep_MobiusWeisner_16e (_N : Nat) (_x1 : Int × List Int) (_x2 : Int) (_v2 : Bool) (_v3 : Int) (_v4 : List Int) (_v5 : List Int) (_v6 : List Int) (_v7 : Int) (_v8 : Int) (_v9 : Bool) (_v12 : List Int) (_v13 : Int) :
    exec (C_keep_MobiusWeisner _N) (cAt (bodyOf Tryd.f11) [1, 1, 1, 1, 1]) A_keep_MobiusWeisner_16 [(1, .int .i64 _x2), (2, .ptr 0 0), (5, .ptr 1 0), (7, .sl (.int .i64) _v12), (8, .int .i64 _v13)] [.cells [.int .i64 _x1.1, .sl (.int .u32) _x1.2], .cells [.int .i64 _v3, .sl (.int .u32) _v4, .sl (.int .i64) _v5, .sl (.int .i64) _v6, .int .i64 _v7, .int .i64 _v8, .bool _v9], .row false 0 3 (.int .i64) ([_x2])] (canonR (fun _i _t _h => none) (finK (C_keep_MobiusWeisner _N) [.tmp 4] (finD Rk_keep_MobiusWeisner))) = keep_MobiusWeisner_16 _N _x1 _x2 _v3 _v4 _v5 _v6 _v7 _v8 _v9 _v12 _v13 :=
  (seq_frag (by kernel_rfl) rfl).trans ((keep_MobiusWeisner_6e _N _x1 _x2 _v2 _v3 _v4 _v5 _v6 _v7 _v8 _v9 _v12 _v13 _).trans (congrArg (fun _z => keep_MobiusWeisner_6 _N _x1 _v12 _v13 _z) (keep_MobiusWeisner_15e _N _x1 _x2 _v2 _v3 _v4 _v5 _v6 _v7 _v8 _v9 _v12 _v13)))
noncomputable def keep_MobiusWeisner_17 (_N : Nat) (_x1 : Int × List Int) (_x2 : Int) (_v3 : Int) (_v4 : List Int) (_v5 : List Int) (_v6 : List Int) (_v7 : Int) (_v8 : Int) (_v9 : Bool) : Option Rt_keep_MobiusWeisner :=
  keep_MobiusWeisner_5 _N _x1 (fun _v12 _v13 => keep_MobiusWeisner_16 _N _x1 _x2 _v3 _v4 _v5 _v6 _v7 _v8 _v9 _v12 _v13)
abbrev A_keep_MobiusWeisner_17 : Ann := .two .none (.keep [1, 2, 5, 7, 8] 3 (.two .none (.keep [1, 2, 5, 7] 3 (.two .none (.keep [1, 2, 5, 7, 9] 3 (.two (.two .none (.keep [1, 2, 5, 7, 9, 10] 3 (.one (.loop [1, 2, 5, 7, 9, 10] 3 A_keep_MobiusWeisner_9)))) (.keep [9] 3 .none)))))))
theorem keep_MobiusWeisner_17e (_N : Nat) (_x1 : Int × List Int) (_x2 : Int) (_v2 : Bool) (_v3 : Int) (_v4 : List Int) (_v5 : List Int) (_v6 : List Int) (_v7 : Int) (_v8 : Int) (_v9 : Bool) :
    exec (C_keep_MobiusWeisner _N) (cAt (bodyOf Tryd.f11) [1, 1, 1, 1]) A_keep_MobiusWeisner_17 [(1, .int .i64 _x2), (2, .ptr 0 0), (5, .ptr 1 0)] [.cells [.int .i64 _x1.1, .sl (.int .u32) _x1.2], .cells [.int .i64 _v3, .sl (.int .u32) _v4, .sl (.int .i64) _v5, .sl (.int .i64) _v6, .int .i64 _v7, .int .i64 _v8, .bool _v9], .row false 0 3 (.int .i64) ([_x2])] (canonR (fun _i _t _h => none) (finK (C_keep_MobiusWeisner _N) [.tmp 4] (finD Rk_keep_MobiusWeisner))) = keep_MobiusWeisner_17 _N _x1 _x2 _v3 _v4 _v5 _v6 _v7 _v8 _v9 :=
  (seq_frag (by kernel_rfl) rfl).trans ((keep_MobiusWeisner_5e _N _x1 _x2 _v2 _v3 _v4 _v5 _v6 _v7 _v8 _v9 _).trans (congrArg (fun _z => keep_MobiusWeisner_5 _N _x1 _z) (funext fun _v12 => funext fun _v13 => keep_MobiusWeisner_16e _N _x1 _x2 _v2 _v3 _v4 _v5 _v6 _v7 _v8 _v9 _v12 _v13)))
noncomputable def keep_MobiusWeisner_18 (_N : Nat) (_x1 : Int × List Int) (_x2 : Int) (_v2 : Bool) (_v3 : Int) (_v4 : List Int) (_v5 : List Int) (_v6 : List Int) (_v7 : Int) (_v8 : Int) (_v9 : Bool) : Option Rt_keep_MobiusWeisner :=
  keep_MobiusWeisner_4 _N _x1 _x2 _v2 _v7 (keep_MobiusWeisner_17 _N _x1 _x2 _v3 _v4 _v5 _v6 _v7 _v8 _v9)
abbrev A_keep_MobiusWeisner_18 : Ann := .two .none (.keep [1, 2, 5] 3 (.two .none (.keep [1, 2, 5, 7, 8] 3 (.two .none (.keep [1, 2, 5, 7] 3 (.two .none (.keep [1, 2, 5, 7, 9] 3 (.two (.two .none (.keep [1, 2, 5, 7, 9, 10] 3 (.one (.loop [1, 2, 5, 7, 9, 10] 3 A_keep_MobiusWeisner_9)))) (.keep [9] 3 .none)))))))))
theorem keep_MobiusWeisner_18e (_N : Nat) (_x1 : Int × List Int) (_x2 : Int) (_v2 : Bool) (_v3 : Int) (_v4 : List Int) (_v5 : List Int) (_v6 : List Int) (_v7 : Int) (_v8 : Int) (_v9 : Bool) :
    exec (C_keep_MobiusWeisner _N) (cAt (bodyOf Tryd.f11) [1, 1, 1]) A_keep_MobiusWeisner_18 [(1, .int .i64 _x2), (2, .ptr 0 0), (5, .ptr 1 0), (6, .bool _v2)] [.cells [.int .i64 _x1.1, .sl (.int .u32) _x1.2], .cells [.int .i64 _v3, .sl (.int .u32) _v4, .sl (.int .i64) _v5, .sl (.int .i64) _v6, .int .i64 _v7, .int .i64 _v8, .bool _v9]] (canonR (fun _i _t _h => none) (finK (C_keep_MobiusWeisner _N) [.tmp 4] (finD Rk_keep_MobiusWeisner))) = keep_MobiusWeisner_18 _N _x1 _x2 _v2 _v3 _v4 _v5 _v6 _v7 _v8 _v9 :=
  (seq_frag (by kernel_rfl) rfl).trans ((keep_MobiusWeisner_4e _N _x1 _x2 _v2 _v3 _v4 _v5 _v6 _v7 _v8 _v9 _).trans (congrArg (fun _z => keep_MobiusWeisner_4 _N _x1 _x2 _v2 _v7 _z) (keep_MobiusWeisner_17e _N _x1 _x2 _v2 _v3 _v4 _v5 _v6 _v7 _v8 _v9)))
noncomputable def keep_MobiusWeisner_19 (_N : Nat) (_x1 : Int × List Int) (_x2 : Int) (_v2 : Bool) (_v3 : Int) (_v4 : List Int) (_v5 : List Int) (_v6 : List Int) (_v7 : Int) (_v8 : Int) (_v9 : Bool) : Option Rt_keep_MobiusWeisner :=
  keep_MobiusWeisner_3 _N _v9 (keep_MobiusWeisner_18 _N _x1 _x2 _v2 _v3 _v4 _v5 _v6 _v7 _v8 _v9)
abbrev A_keep_MobiusWeisner_19 : Ann := .two .none (.keep [1, 2, 5, 6] 2 (.two .none (.keep [1, 2, 5] 3 (.two .none (.keep [1, 2, 5, 7, 8] 3 (.two .none (.keep [1, 2, 5, 7] 3 (.two .none (.keep [1, 2, 5, 7, 9] 3 (.two (.two .none (.keep [1, 2, 5, 7, 9, 10] 3 (.one (.loop [1, 2, 5, 7, 9, 10] 3 A_keep_MobiusWeisner_9)))) (.keep [9] 3 .none)))))))))))
theorem keep_MobiusWeisner_19e (_N : Nat) (_x1 : Int × List Int) (_x2 : Int) (_v2 : Bool) (_v3 : Int) (_v4 : List Int) (_v5 : List Int) (_v6 : List Int) (_v7 : Int) (_v8 : Int) (_v9 : Bool) :
    exec (C_keep_MobiusWeisner _N) (cAt (bodyOf Tryd.f11) [1, 1]) A_keep_MobiusWeisner_19 [(1, .int .i64 _x2), (2, .ptr 0 0), (5, .ptr 1 0), (6, .bool _v2)] [.cells [.int .i64 _x1.1, .sl (.int .u32) _x1.2], .cells [.int .i64 _v3, .sl (.int .u32) _v4, .sl (.int .i64) _v5, .sl (.int .i64) _v6, .int .i64 _v7, .int .i64 _v8, .bool _v9]] (canonR (fun _i _t _h => none) (finK (C_keep_MobiusWeisner _N) [.tmp 4] (finD Rk_keep_MobiusWeisner))) = keep_MobiusWeisner_19 _N _x1 _x2 _v2 _v3 _v4 _v5 _v6 _v7 _v8 _v9 :=
  (seq_frag (by kernel_rfl) rfl).trans ((keep_MobiusWeisner_3e _N _x1 _x2 _v2 _v3 _v4 _v5 _v6 _v7 _v8 _v9 _).trans (congrArg (fun _z => keep_MobiusWeisner_3 _N _v9 _z) (keep_MobiusWeisner_18e _N _x1 _x2 _v2 _v3 _v4 _v5 _v6 _v7 _v8 _v9)))
noncomputable def keep_MobiusWeisner_20 (_N : Nat) (_x1 : Int × List Int) (_x2 : Int) : Option Rt_keep_MobiusWeisner :=
  keep_MobiusWeisner_2 _N _x1 (fun _v2 _v3 _v4 _v5 _v6 _v7 _v8 _v9 => keep_MobiusWeisner_19 _N _x1 _x2 _v2 _v3 _v4 _v5 _v6 _v7 _v8 _v9)
abbrev A_keep_MobiusWeisner_20 : Ann := .two .none (.keep [1, 2, 5, 6] 2 (.two .none (.keep [1, 2, 5, 6] 2 (.two .none (.keep [1, 2, 5] 3 (.two .none (.keep [1, 2, 5, 7, 8] 3 (.two .none (.keep [1, 2, 5, 7] 3 (.two .none (.keep [1, 2, 5, 7, 9] 3 (.two (.two .none (.keep [1, 2, 5, 7, 9, 10] 3 (.one (.loop [1, 2, 5, 7, 9, 10] 3 A_keep_MobiusWeisner_9)))) (.keep [9] 3 .none)))))))))))))
theorem keep_MobiusWeisner_20e (_N : Nat) (_x1 : Int × List Int) (_x2 : Int) :
    exec (C_keep_MobiusWeisner _N) (cAt (bodyOf Tryd.f11) [1]) A_keep_MobiusWeisner_20 [(1, .int .i64 _x2), (2, .ptr 0 0)] [.cells [.int .i64 _x1.1, .sl (.int .u32) _x1.2]] (canonR (fun _i _t _h => none) (finK (C_keep_MobiusWeisner _N) [.tmp 4] (finD Rk_keep_MobiusWeisner))) = keep_MobiusWeisner_20 _N _x1 _x2 :=
  (seq_frag (by kernel_rfl) rfl).trans ((keep_MobiusWeisner_2e _N _x1 _x2 _).trans (congrArg (fun _z => keep_MobiusWeisner_2 _N _x1 _z) (funext fun _v2 => funext fun _v3 => funext fun _v4 => funext fun _v5 => funext fun _v6 => funext fun _v7 => funext fun _v8 => funext fun _v9 => keep_MobiusWeisner_19e _N _x1 _x2 _v2 _v3 _v4 _v5 _v6 _v7 _v8 _v9)))
noncomputable def keep_MobiusWeisner_21 (_N : Nat) (_x1 : Int × List Int) (_x2 : Int) : Option Rt_keep_MobiusWeisner :=
  keep_MobiusWeisner_1 _N (keep_MobiusWeisner_20 _N _x1 _x2)
abbrev A_keep_MobiusWeisner_21 : Ann := .two .none (.keep [1, 2] 1 (.two .none (.keep [1, 2, 5, 6] 2 (.two .none (.keep [1, 2, 5, 6] 2 (.two .none (.keep [1, 2, 5] 3 (.two .none (.keep [1, 2, 5, 7, 8] 3 (.two .none (.keep [1, 2, 5, 7] 3 (.two .none (.keep [1, 2, 5, 7, 9] 3 (.two (.two .none (.keep [1, 2, 5, 7, 9, 10] 3 (.one (.loop [1, 2, 5, 7, 9, 10] 3 A_keep_MobiusWeisner_9)))) (.keep [9] 3 .none)))))))))))))))
theorem keep_MobiusWeisner_21e (_N : Nat) (_x1 : Int × List Int) (_x2 : Int) :
    exec (C_keep_MobiusWeisner _N) (cAt (bodyOf Tryd.f11) []) A_keep_MobiusWeisner_21 [(0, .agg [.int .i64 _x1.1, .sl (.int .u32) _x1.2]), (1, .int .i64 _x2)] [] (canonR (fun _i _t _h => none) (finK (C_keep_MobiusWeisner _N) [.tmp 4] (finD Rk_keep_MobiusWeisner))) = keep_MobiusWeisner_21 _N _x1 _x2 :=
  (seq_frag (by kernel_rfl) rfl).trans ((keep_MobiusWeisner_1e _N _x1 _x2 _).trans (congrArg (fun _z => keep_MobiusWeisner_1 _N _z) (keep_MobiusWeisner_20e _N _x1 _x2)))
noncomputable def D_keep_MobiusWeisner (_N : Nat) (x : Dens Ks_keep_MobiusWeisner) : Option Rt_keep_MobiusWeisner := keep_MobiusWeisner_21 _N x.1 x.2.1
theorem E_keep_MobiusWeisner (_N : Nat) (x : Dens Ks_keep_MobiusWeisner) : exec (C_keep_MobiusWeisner _N) (bodyOf Tryd.f11) (.two .none (.keep [1, 2] 1 (.two .none (.keep [1, 2, 5, 6] 2 (.two .none (.keep [1, 2, 5, 6] 2 (.two .none (.keep [1, 2, 5] 3 (.two .none (.keep [1, 2, 5, 7, 8] 3 (.two .none (.keep [1, 2, 5, 7] 3 (.two .none (.keep [1, 2, 5, 7, 9] 3 (.two (.two .none (.keep [1, 2, 5, 7, 9, 10] 3 (.one (.loop [1, 2, 5, 7, 9, 10] 3 A_keep_MobiusWeisner_9)))) (.keep [9] 3 .none)))))))))))))))) (argS 0 (kvals Ks_keep_MobiusWeisner x)) [] (finK (C_keep_MobiusWeisner _N) [.tmp 4] (finD Rk_keep_MobiusWeisner)) = D_keep_MobiusWeisner _N x :=
  (congrArg (fun K => exec (C_keep_MobiusWeisner _N) (bodyOf Tryd.f11) (.two .none (.keep [1, 2] 1 (.two .none (.keep [1, 2, 5, 6] 2 (.two .none (.keep [1, 2, 5, 6] 2 (.two .none (.keep [1, 2, 5] 3 (.two .none (.keep [1, 2, 5, 7, 8] 3 (.two .none (.keep [1, 2, 5, 7] 3 (.two .none (.keep [1, 2, 5, 7, 9] 3 (.two (.two .none (.keep [1, 2, 5, 7, 9, 10] 3 (.one (.loop [1, 2, 5, 7, 9, 10] 3 A_keep_MobiusWeisner_9)))) (.keep [9] 3 .none)))))))))))))))) (argS 0 (kvals Ks_keep_MobiusWeisner x)) [] K) canonR_fin).trans (keep_MobiusWeisner_21e _N x.1 x.2.1)
theorem ok_keep_MobiusWeisner (_N : Nat) : CtxOk Tryd.prog Gs Tryd.f11 (C_keep_MobiusWeisner _N) := ⟨rfl, by unfold TOk; kernel_rfl, gOk_of rfl rfl (List.forall_mem_cons.2 ⟨qen_keep_open _N, (List.forall_mem_cons.2 ⟨en_keep_within _N, (List.forall_mem_cons.2 ⟨qen_mobius_Mu _N, (List.forall_mem_cons.2 ⟨en_keep_board_or _N, (List.forall_mem_nil _)⟩)⟩)⟩)⟩), iOk_of rfl rfl (List.forall_mem_nil _), rfl⟩
theorem hb_keep_MobiusWeisner : HasBody Tryd.prog 11 := ⟨Tryd.f11, bodyOf Tryd.f11, by kernel_rfl, by kernel_rfl, rfl⟩
theorem sp_keep_MobiusWeisner (_N : Nat) : SpecD Tryd.prog Gs 11 Ks_keep_MobiusWeisner Rk_keep_MobiusWeisner (D_keep_MobiusWeisner _N) := specD_of (c := bodyOf Tryd.f11) (by kernel_rfl) rfl (by kernel_rfl) (Nat.le_of_ble_eq_true (by kernel_rfl)) fun x y _h => ⟨C_keep_MobiusWeisner _N, (.two .none (.keep [1, 2] 1 (.two .none (.keep [1, 2, 5, 6] 2 (.two .none (.keep [1, 2, 5, 6] 2 (.two .none (.keep [1, 2, 5] 3 (.two .none (.keep [1, 2, 5, 7, 8] 3 (.two .none (.keep [1, 2, 5, 7] 3 (.two .none (.keep [1, 2, 5, 7, 9] 3 (.two (.two .none (.keep [1, 2, 5, 7, 9, 10] 3 (.one (.loop [1, 2, 5, 7, 9, 10] 3 A_keep_MobiusWeisner_9)))) (.keep [9] 3 .none)))))))))))))))), ok_keep_MobiusWeisner _N, (E_keep_MobiusWeisner _N x).trans _h⟩
theorem en_keep_MobiusWeisner (_N : Nat) : EntOk Tryd.prog Gs (mkP 11 Ks_keep_MobiusWeisner Rk_keep_MobiusWeisner (D_keep_MobiusWeisner _N)) := entP hb_keep_MobiusWeisner (by kernel_rfl) (sp_keep_MobiusWeisner _N)
theorem weisner {m : Nat} {up g : List Int} {J K : Nat → Nat → Nat} {b t : Nat} (l : Latt m (le up) J K b t) (hg : IsMu m up g) {a : Nat} (ha : a < m) (hne : a ≠ b) {y : Nat} (hy : y < m) :
    Sg m (fun x => if J x a = y then tv m g b x else 0) = 0 := by
  refine hg.none (v := fun y => Sg m (fun x => if J x a = y then tv m g b x else 0)) (fun z hz => ?_) hy
  have e1 : (Sg m fun y => (Sg m fun x => if J x a = y then tv m g b x else 0) * zt up y z) = Sg m fun y => Sg m fun x => (if J x a = y then tv m g b x else 0) * zt up y z := Sg_congr fun y _ => (Sg_mr m _ _).symm
  have e2 : (Sg m fun x => Sg m fun y => (if J x a = y then tv m g b x else 0) * zt up y z) = Sg m fun x => tv m g b x * zt up (J x a) z := Sg_congr fun x hx => by
    rw [Sg_one (l.jlt x a hx ha) fun y _ hne => by rw [if_neg fun e => hne e.symm]; grind, if_pos rfl]
  rw [e1, Sg_swap, e2]
  by_cases q : le up a z
  · have e3 : (Sg m fun x => tv m g b x * zt up (J x a) z) = mulT m (tv m g) (zt up) b z := Sg_congr fun x hx => by
      have : zt up (J x a) z = zt up x z := by
        unfold zt
        have := l.jle x a z hx ha hz
        by_cases q2 : le up x z
        · rw [if_pos q2, if_pos (this.2 ⟨q2, q⟩)]
        · rw [if_neg q2, if_neg fun h => q2 (this.1 h).1]
      rw [this]
    rw [e3, hg.right b z l.blt hz]
    unfold dl
    rw [if_neg]
    intro e
    subst e
    exact hne (l.anti a b ha l.blt q (l.ble a ha))
  · refine Sg_zero fun x hx => ?_
    unfold zt
    rw [if_neg fun h => q ((l.jle x a z hx ha hz).1 h).2]
    grind
theorem law_MobiusWeisner (o : Int × List Int) (a : Int) (wo : wfS (.pair (.int .i64) (.sl (.int .u32))) o) (_wa : wfS (.int .i64) a) : ∃ N, D_keep_MobiusWeisner N (o, a, ()) = some (true, ()) := by
  obtain ⟨n, up⟩ := o
  have hw : WL up := WL_of wo.2
  refine ⟨1000, ?_⟩
  simp only [D_keep_MobiusWeisner, keep_MobiusWeisner_21, keep_MobiusWeisner_20, keep_MobiusWeisner_19, keep_MobiusWeisner_18, keep_MobiusWeisner_4, keep_MobiusWeisner_3, keep_MobiusWeisner_2, keep_MobiusWeisner_1]
  rcases open_spec (N := 1000) (Nat.le_refl _) hw n with ⟨e', he', -, -, h2⟩ | ⟨m, J, M, b, t, rfl, hm, hlu, ho, hL, h0, h2⟩
  · simp only [h2, Option.bind_some, cond_false, Bool.not_false, cond_true]
  obtain ⟨wi, p1, q1⟩ := within_eq (N := 1000) (n := (m : Int)) (xs := [a]) (by simp) (by simp)
  simp only [h2, Option.bind_some, cond_false, Bool.not_true, p1]
  by_cases hin : 0 ≤ a ∧ a < (m : Int)
  case neg =>
    obtain rfl : wi = false := Bool.eq_false_iff.2 fun h => hin (by have := q1.1 h a (by simp); exact this)
    simp only [Bool.not_false, cond_true]
  obtain rfl := q1.2 (by simp; omega)
  obtain ⟨a, rfl⟩ : ∃ a' : Nat, a = (a' : Int) := ⟨a.toNat, by omega⟩
  have ha : a < m := by omega
  simp only [Bool.not_true, cond_false]
  by_cases hab : a = b
  · subst hab
    rw [beq_self_eq_true]; rfl
  rw [show ((a : Int) == (b : Int)) = false from beq_false_of_ne (by omega)]
  have hbl := hL.lat.blt
  simp only [Int.toNat_natCast] at hbl
  obtain ⟨g, g1, g2⟩ := Mu_eq (N := 1000) (Nat.le_refl _) hm hw ho
  have hlg : (g.length : Int) = ((m * m : Nat) : Int) := by rw [g2.cel.len]
  simp only [cond_false, g1, Option.bind_some, bne_self_eq_false, wrap_sq hm, hlg, keep_MobiusWeisner_17, keep_MobiusWeisner_16, keep_MobiusWeisner_15, keep_MobiusWeisner_14, keep_MobiusWeisner_13, keep_MobiusWeisner_12, keep_MobiusWeisner_11, keep_MobiusWeisner_8, keep_MobiusWeisner_7, keep_MobiusWeisner_6, keep_MobiusWeisner_5]
  unfold keep_MobiusWeisner_10
  obtain ⟨⟨s, i⟩, ⟨-, q2, q3⟩, e⟩ := loopD_inv (N := 1000) (g := fun (s : Int × Int) kn => keep_MobiusWeisner_9 1000 ((m : Int), up) (a : Int) (m : Int) up J M (b : Int) (t : Int) false g s.1 s.2 (fun v15 v16 => kn (v15, v16)) (fun v20 => some (v20 == 0, ()))) (k := fun s => some (s.1 == 0, ())) (s := ((0 : Int), (0 : Int))) m
    (fun i s => s.2 = (i : Int) ∧ I64 s.1 ∧ ph s.1 = Sg i fun x => if jo m J x a = t then tv m g b x else 0) (fun i s hi hs => by
      obtain ⟨s, i'⟩ := s
      obtain ⟨ht, hc, hv⟩ := hs
      simp only at ht hc hv
      subst ht
      have e1 := cell_lt hbl hi
      by_cases q : jo m J i a = t
      · refine ⟨(IntKind.i64.wrap (s + nth 0 g (b * m + i)), (i : Int) + 1), ⟨rfl, I64.wrap _, ?_⟩, fun kn => ?_⟩
        · simp only [ph_wrap, ph_add, hv, Sg, if_pos q]; rfl
        · simp only [keep_MobiusWeisner_9, lt_d hi, cond_true, or_eq hL hm false i a hi ha, Option.bind_some, q, beq_self_eq_true, wrap_cell hm hbl hi, hlg, ge0_d, lt_d e1, Bool.and_self, Int.toNat_natCast, w1 hm hi]
      · refine ⟨(s, (i : Int) + 1), ⟨rfl, hc, ?_⟩, fun kn => ?_⟩
        · simp only [hv, Sg, if_neg q]; grind
        · simp only [keep_MobiusWeisner_9, lt_d hi, cond_true, or_eq hL hm false i a hi ha, Option.bind_some, show (((jo m J i a : Nat) : Int) == (t : Int)) = false from beq_false_of_ne (by omega), cond_false, w1 hm hi])
    (fun s hs kn => by
      obtain ⟨s, i'⟩ := s
      obtain ⟨ht, -⟩ := hs
      simp only at ht
      subst ht
      simp only [keep_MobiusWeisner_9, lt_self, cond_false]) (by omega)
    ⟨rfl, I64.zero, rfl⟩
  have htl := hL.lat.tlt
  simp only [Int.toNat_natCast] at htl
  have hl := hL.lat
  simp only [Int.toNat_natCast] at hl
  have hz : s = 0 := ph_inj q2 I64.zero (by rw [q3, weisner hl g2 ha hab htl]; rfl)
  rw [e]
  simp only [hz, beq_self_eq_true]
set_option maxRecDepth 100000 in
theorem lifted_MobiusWeisner (os : Os) (started : os.Started) (H : Type) (enc : TypeId × Value → H) :
    ReturnsInHanded {} Tryd.checked os 11 .any (fun w args => (Rows.mobiusWeisnerSpec.pre enc Tryd.prog Tryd.f11 [] false w args ∧ laidMetH Tryd.prog Rows.mobiusWeisnerRow.laid w) ∧ sizedMet enc Tryd.prog Tryd.f11 (OpenSpec.ofChange Rows.mobiusWeisnerSpec) false w args) (Rows.mobiusWeisnerSpec.post enc Tryd.prog Tryd.f11 false true false false) := by
  refine returnsInHanded_of_change_and (C := Tryd.checked) (X := fun w _ => laidMetH Tryd.prog Rows.mobiusWeisnerRow.laid w) (fun _ _ _ hh h => h.of_heap hh) own started (by kernel_rfl) Tryd.func11
    (ChangeSpec.witness_shaped (enc := enc) (C := Tryd.checked) (os := os) (X := fun w _ => laidMetH Tryd.prog Rows.mobiusWeisnerRow.laid w) false (World.doorLaid Tryd.prog 400 os) #[.agg #[.int .i64 0, .slice none 0 0], .int .i64 0] 8 rfl (World.shaped_of_RefB (by kernel_rfl) (by kernel_rfl)) (by kernel_rfl) (by kernel_rfl) (by kernel_rfl) (door_met os _)) ?_
  intro W base args ds gs before hval0 hW _ hsz0 hL _
  have hgw : GW Gs W := gw_of hL
  have hval : ∀ (j : Nat) t v, Tryd.f11.params[j]? = some t → args[j]? = some v → Value.okWide Tryd.prog W .any base t v := hval0
  have hW' := hW
  obtain ⟨p, q, hA0, hV, rfl, _, _⟩ := hW
  have hA : DataW.TrodAll enc Tryd.prog W 0 (fun _ => true) true Tryd.f11.params.toList args.toList ds p := hA0
  rw [Tryd.params11] at hA hval
  obtain ⟨v0, vs0, d0, ds0, p0, q0, hargs, rfl, rfl, h0, r0⟩ := trodAll_cons hA
  obtain ⟨v1, vs1, d1, ds1, p1, q1, rfl, rfl, rfl, h1, r1⟩ := trodAll_cons r0
  obtain ⟨rfl, rfl, rfl⟩ := trodAll_nil r1
  obtain rfl : args = #[v0, v1] := by cases args; simp_all
  obtain ⟨rfl, rfl⟩ := trodVars_none hV
  clear hA0 hval0 hsz0
  simp only [List.append_nil] at hW'
  have hlt0 : ∀ x ∈ p0, x.block < W.heap.size := fun x hx => hW'.lt x (by simp [hx])
  have hlt1 : ∀ x ∈ p1, x.block < W.heap.size := fun x hx => hW'.lt x (by simp [hx])
  obtain ⟨x0, g0, w0⟩ := open_kd (k := .dat (.pair (.int .i64) (.sl (.int .u32)))) (by kernel_rfl) (hval 0 24 v0 rfl rfl) h0
  obtain ⟨x1, g1, w1⟩ := open_kd (k := .dat (.int .i64)) (by kernel_rfl) (hval 1 3 v1 rfl rfl) h1
  obtain ⟨N, hN⟩ := law_MobiusWeisner x0 x1 w0 w1
  refine (sp_keep_MobiusWeisner N (fun _ => False) W (x0, x1, ()) (true, ()) [v0, v1] (fun _ h => h.elim) hgw ⟨v0, _, rfl, g0, ⟨v1, _, rfl, g1, rfl⟩⟩ hN).mono ?_
  rintro e W' ⟨v, rfl, hg, hr⟩
  have hr : v = .bool true := by simpa only [kvals, retV, Kd.val, Go.Abs.enc, RV] using hr
  subst hr
  exact ⟨_, rfl, _, _, _, [], p0 ++ (p1 ++ []), [], hW', (trodAll_cons_mk (shut_bool (show Tryd.prog.underlying 4 = some .bool by kernel_rfl) _) trodAll_mk0), (trodAll_cons_mk (Below.trod laidOut (by kernel_rfl) (of_decide_eq_true (by kernel_rfl)) h0 hg hlt0) (trodAll_cons_mk (Below.trod laidOut (by kernel_rfl) (of_decide_eq_true (by kernel_rfl)) h1 hg hlt1) trodAll_mk0)), rfl, hg.frame _, fun h => by cases h⟩

/-- The statement: whatever the arguments, the law's function returns true and leaves them as they were. -/
theorem mobiusWeisner_holds : Rows.MobiusWeisnerSaid :=
  OpenClaim.holds_of_wide 11 Tryd.f11 rfl rfl rfl rfl rfl rfl rfl ⟨rfl, rfl, rfl, rfl, rfl⟩ rfl rfl rfl rfl rfl (by kernel_rfl) Tryd.func11 (by kernel_rfl)
    (of_decide_eq_true (by kernel_rfl)) (by unfold Func.isWrapper; first | (rw [if_pos (by decide +kernel)]; kernel_rfl) | (rw [if_neg (by decide +kernel)]; exact ⟨rfl, rfl⟩))
    (fun os started H enc _ => lifted_MobiusWeisner os started H enc)
/-- The statement's card: the variable that the road reads is tied to the program's text. -/
theorem mobiusWeisner_card : Rows.MobiusWeisnerCardSaid :=
  Claim7.holds_tied_plain_at .later [] [.data] true (true, "95f6ea9d403f7937751d645b60a9924f7afd7c18e9047aef24e3dc8f01e8eb85") false mobiusWeisner_holds (fun _ h => by cases h) (by kernel_rfl) (fun _ h => by cases h) mobiusWeisner_row_tie rfl ⟨rfl, rfl⟩ (by kernel_rfl) rfl
    (fun f fn hf hfn => by
      obtain rfl : f = 11 := Option.some.inj ((show Tryd.prog.funcNamed "watershed/watershedkeep.MobiusWeisner" = some 11 by kernel_rfl).symm.trans hf) |>.symm
      obtain rfl : fn = Tryd.f11 := (Option.some.inj (Tryd.func11.symm.trans hfn)).symm
      exact ⟨by kernel_rfl, fun j t ht => by
        have h3 := List.all_eq_true.1 (show (Tryd.f11.params.toList.all fun t => !(Tryd.prog.wantsStandIn t)) = true by kernel_rfl) t (by rw [← Array.getElem?_toList] at ht; exact List.mem_of_getElem? ht)
        have h4 : Tryd.prog.wantsStandIn t = false := by simpa using h3
        exact h4⟩)
    (by kernel_rfl)
end Go.Proofs.YtdlhfddmbdbedaaDoor
