/- Mu of the dual is Mu with exchanged arguments: the law answers true for every order. No condition. -/
import Derived.Test.YtdlhfddmbdbedaaDoorMobI
import Derived.Test.YtdlhfddmbdbedaaDoorKeepS
import Derived.Test.YtdlhfddmbdbedaaDoorCoversS
import Derived.Test.YtdlhfddmbdbedaaDoorFrame
namespace Go.Proofs.YtdlhfddmbdbedaaDoor
open Go Go.ChangeShapes Go.WideShapes Go.ChangeAt Go.WideMaps Go.WideElems Go.RowKit Go.Abs
-- watershed/watershedkeep.MobiusDual
abbrev Ks_keep_MobiusDual : List Kd := [.dat (.pair (.int .i64) (.sl (.int .u32)))]
abbrev Rk_keep_MobiusDual : List Kd := [.dat (.bool)]
abbrev Rt_keep_MobiusDual : Type := Dens Rk_keep_MobiusDual
def T_keep_MobiusDual : List (Nat × TE) := [(2, ⟨.int .i64, 1, 8, some (.int .i64), [.int .i64 (0 : Int)]⟩),
  (3, ⟨.int .i64, 1, 8, some (.int .i64), [.int .i64 (0 : Int)]⟩),
  (24, ⟨.struct [(0, 3), (1, 22)], 2, 32, some (.pair (.int .i64) (.sl (.int .u32))), [.int .i64 (0 : Int), .nil]⟩),
  (40, ⟨.slice 2, 1, 24, some (.sl (.int .i64)), [.nil]⟩)]
noncomputable def C_keep_MobiusDual (_N : Nat) : Ctx := { T := T_keep_MobiusDual, G := findE [mkP 24 Ks_keep_sound Rk_keep_sound (D_keep_sound _N), mkP 25 Ks_keep_refused Rk_keep_refused (D_keep_refused _N), mkQ 35 Ks_order_Dual Rk_order_Dual (D_order_Dual _N), mkQ 34 Ks_mobius_Mu Rk_mobius_Mu (D_mobius_Mu _N)], I := findI [], N := _N, n := 89, fx := [], fl := 0, gs := Gs }
noncomputable def keep_MobiusDual_1 (_N : Nat) (_k19 : Option Rt_keep_MobiusDual) : Option Rt_keep_MobiusDual :=
  _k19
theorem keep_MobiusDual_1e (_N : Nat) (_x1 : Int × List Int) (_k19 : Ko Rt_keep_MobiusDual) :
    exec (C_keep_MobiusDual _N) (cAt (bodyOf Tryd.f8) [0]) .none [(0, .agg [.int .i64 _x1.1, .sl (.int .u32) _x1.2])] [] (canonK [] _k19 [1] 1 (fun _i _t _h => none) (fun _t _h => finK (C_keep_MobiusDual _N) [.tmp 2] (finD Rk_keep_MobiusDual) .ret _t _h)) = keep_MobiusDual_1 _N (_k19 [(1, .ptr 0 0)] [.cells [.int .i64 _x1.1, .sl (.int .u32) _x1.2]]) :=
  by kernel_rfl
noncomputable def keep_MobiusDual_2 (_N : Nat) (_x1 : Int × List Int) (_k20 : Option Rt_keep_MobiusDual) : Option Rt_keep_MobiusDual :=
  ((D_keep_sound _N ((_x1.1, _x1.2), ())).bind fun _y21 => (bif (!_y21.1) then ((D_keep_refused _N ((_x1.1, _x1.2), ())).bind fun _y22 => (some (_y22.1, ()))) else _k20))
theorem keep_MobiusDual_2e (_N : Nat) (_x1 : Int × List Int) (_k20 : Ko Rt_keep_MobiusDual) :
    exec (C_keep_MobiusDual _N) (cAt (bodyOf Tryd.f8) [1, 0]) .none [(1, .ptr 0 0)] [.cells [.int .i64 _x1.1, .sl (.int .u32) _x1.2]] (canonK [] _k20 [1] 1 (fun _i _t _h => none) (fun _t _h => finK (C_keep_MobiusDual _N) [.tmp 2] (finD Rk_keep_MobiusDual) .ret _t _h)) = keep_MobiusDual_2 _N _x1 (_k20 [(1, .ptr 0 0)] [.cells [.int .i64 _x1.1, .sl (.int .u32) _x1.2]]) :=
  by kernel_rfl
noncomputable def keep_MobiusDual_3 (_N : Nat) (_x1 : Int × List Int) (_k23 : Int → Int → (List Int) → Option Rt_keep_MobiusDual) : Option Rt_keep_MobiusDual :=
  ((D_order_Dual _N ((_x1.1, _x1.2), ())).bind fun _y24 => (_k23 _y24.2.1 _y24.1.1 _y24.1.2))
theorem keep_MobiusDual_3e (_N : Nat) (_x1 : Int × List Int) (_k23 : Ko Rt_keep_MobiusDual) :
    exec (C_keep_MobiusDual _N) (cAt (bodyOf Tryd.f8) [1, 1, 0]) .none [(1, .ptr 0 0)] [.cells [.int .i64 _x1.1, .sl (.int .u32) _x1.2]] (canonK [] _k23 [1, 3, 4] 2 (fun _i _t _h => none) (fun _t _h => finK (C_keep_MobiusDual _N) [.tmp 2] (finD Rk_keep_MobiusDual) .ret _t _h)) = keep_MobiusDual_3 _N _x1 (fun _v4 _v5 _v6 => _k23 [(1, .ptr 0 0), (3, .ptr 1 0), (4, .int .i64 _v4)] [.cells [.int .i64 _x1.1, .sl (.int .u32) _x1.2], .cells [.int .i64 _v5, .sl (.int .u32) _v6]]) :=
  by kernel_rfl
noncomputable def keep_MobiusDual_4 (_N : Nat) (_v4 : Int) (_k25 : Option Rt_keep_MobiusDual) : Option Rt_keep_MobiusDual :=
  (bif (_v4 != (0 : Int)) then (some (false, ())) else _k25)
theorem keep_MobiusDual_4e (_N : Nat) (_x1 : Int × List Int) (_v4 : Int) (_v5 : Int) (_v6 : List Int) (_k25 : Ko Rt_keep_MobiusDual) :
    exec (C_keep_MobiusDual _N) (cAt (bodyOf Tryd.f8) [1, 1, 1, 0]) .none [(1, .ptr 0 0), (3, .ptr 1 0), (4, .int .i64 _v4)] [.cells [.int .i64 _x1.1, .sl (.int .u32) _x1.2], .cells [.int .i64 _v5, .sl (.int .u32) _v6]] (canonK [] _k25 [1, 3] 2 (fun _i _t _h => none) (fun _t _h => finK (C_keep_MobiusDual _N) [.tmp 2] (finD Rk_keep_MobiusDual) .ret _t _h)) = keep_MobiusDual_4 _N _v4 (_k25 [(1, .ptr 0 0), (3, .ptr 1 0)] [.cells [.int .i64 _x1.1, .sl (.int .u32) _x1.2], .cells [.int .i64 _v5, .sl (.int .u32) _v6]]) :=
  by kernel_rfl
noncomputable def keep_MobiusDual_5 (_N : Nat) (_x1 : Int × List Int) (_k26 : Int → (List Int) → Option Rt_keep_MobiusDual) : Option Rt_keep_MobiusDual :=
  ((D_mobius_Mu _N ((_x1.1, _x1.2), ())).bind fun _y27 => (_k26 _y27.2.1 _y27.1))
theorem keep_MobiusDual_5e (_N : Nat) (_x1 : Int × List Int) (_v4 : Int) (_v5 : Int) (_v6 : List Int) (_k26 : Ko Rt_keep_MobiusDual) :
    exec (C_keep_MobiusDual _N) (cAt (bodyOf Tryd.f8) [1, 1, 1, 1, 0]) .none [(1, .ptr 0 0), (3, .ptr 1 0)] [.cells [.int .i64 _x1.1, .sl (.int .u32) _x1.2], .cells [.int .i64 _v5, .sl (.int .u32) _v6]] (canonK [] _k26 [1, 3, 4, 5] 2 (fun _i _t _h => none) (fun _t _h => finK (C_keep_MobiusDual _N) [.tmp 2] (finD Rk_keep_MobiusDual) .ret _t _h)) = keep_MobiusDual_5 _N _x1 (fun _v8 _v9 => _k26 [(1, .ptr 0 0), (3, .ptr 1 0), (4, .int .i64 _v8), (5, .sl (.int .i64) _v9)] [.cells [.int .i64 _x1.1, .sl (.int .u32) _x1.2], .cells [.int .i64 _v5, .sl (.int .u32) _v6]]) :=
  by kernel_rfl
noncomputable def keep_MobiusDual_6 (_N : Nat) (_v5 : Int) (_v6 : List Int) (_k28 : (List Int) → Int → Option Rt_keep_MobiusDual) : Option Rt_keep_MobiusDual :=
  ((D_mobius_Mu _N ((_v5, _v6), ())).bind fun _y29 => (_k28 _y29.1 _y29.2.1))
theorem keep_MobiusDual_6e (_N : Nat) (_x1 : Int × List Int) (_v4 : Int) (_v5 : Int) (_v6 : List Int) (_v8 : Int) (_v9 : List Int) (_k28 : Ko Rt_keep_MobiusDual) :
    exec (C_keep_MobiusDual _N) (cAt (bodyOf Tryd.f8) [1, 1, 1, 1, 1, 0]) .none [(1, .ptr 0 0), (3, .ptr 1 0), (4, .int .i64 _v8), (5, .sl (.int .i64) _v9)] [.cells [.int .i64 _x1.1, .sl (.int .u32) _x1.2], .cells [.int .i64 _v5, .sl (.int .u32) _v6]] (canonK [] _k28 [1, 4, 5, 6, 7] 2 (fun _i _t _h => none) (fun _t _h => finK (C_keep_MobiusDual _N) [.tmp 2] (finD Rk_keep_MobiusDual) .ret _t _h)) = keep_MobiusDual_6 _N _v5 _v6 (fun _v11 _v12 => _k28 [(1, .ptr 0 0), (4, .int .i64 _v8), (5, .sl (.int .i64) _v9), (6, .sl (.int .i64) _v11), (7, .int .i64 _v12)] [.cells [.int .i64 _x1.1, .sl (.int .u32) _x1.2], .cells [.int .i64 _v5, .sl (.int .u32) _v6]]) :=
  by kernel_rfl
noncomputable def keep_MobiusDual_7 (_N : Nat) (_x1 : Int × List Int) (_v8 : Int) (_v9 : List Int) (_v11 : List Int) (_v12 : Int) (_k30 : Option Rt_keep_MobiusDual) : Option Rt_keep_MobiusDual :=
  (bif (_v8 != (0 : Int)) then (some (false, ())) else (bif (_v12 != (0 : Int)) then (some (false, ())) else (bif ((_v9.length : Int) != (IntKind.i64.wrap (_x1.1 * _x1.1))) then (some (false, ())) else (bif ((_v11.length : Int) != (IntKind.i64.wrap (_x1.1 * _x1.1))) then (some (false, ())) else _k30))))
theorem keep_MobiusDual_7e (_N : Nat) (_x1 : Int × List Int) (_v4 : Int) (_v5 : Int) (_v6 : List Int) (_v8 : Int) (_v9 : List Int) (_v11 : List Int) (_v12 : Int) (_k30 : Ko Rt_keep_MobiusDual) :
    exec (C_keep_MobiusDual _N) (cAt (bodyOf Tryd.f8) [1, 1, 1, 1, 1, 1, 0]) .none [(1, .ptr 0 0), (4, .int .i64 _v8), (5, .sl (.int .i64) _v9), (6, .sl (.int .i64) _v11), (7, .int .i64 _v12)] [.cells [.int .i64 _x1.1, .sl (.int .u32) _x1.2], .cells [.int .i64 _v5, .sl (.int .u32) _v6]] (canonK [] _k30 [1, 5, 6] 2 (fun _i _t _h => none) (fun _t _h => finK (C_keep_MobiusDual _N) [.tmp 2] (finD Rk_keep_MobiusDual) .ret _t _h)) = keep_MobiusDual_7 _N _x1 _v8 _v9 _v11 _v12 (_k30 [(1, .ptr 0 0), (5, .sl (.int .i64) _v9), (6, .sl (.int .i64) _v11)] [.cells [.int .i64 _x1.1, .sl (.int .u32) _x1.2], .cells [.int .i64 _v5, .sl (.int .u32) _v6]]) :=
  by kernel_rfl
noncomputable def keep_MobiusDual_8 (_N : Nat) (_k32 : Option Rt_keep_MobiusDual) : Option Rt_keep_MobiusDual :=
  _k32
theorem keep_MobiusDual_8e (_N : Nat) (_x1 : Int × List Int) (_v4 : Int) (_v5 : Int) (_v6 : List Int) (_v8 : Int) (_v9 : List Int) (_v11 : List Int) (_v12 : Int) (_k32 : Ko Rt_keep_MobiusDual) :
    exec (C_keep_MobiusDual _N) (cAt (bodyOf Tryd.f8) [1, 1, 1, 1, 1, 1, 1, 0, 0]) .none [(1, .ptr 0 0), (5, .sl (.int .i64) _v9), (6, .sl (.int .i64) _v11)] [.cells [.int .i64 _x1.1, .sl (.int .u32) _x1.2], .cells [.int .i64 _v5, .sl (.int .u32) _v6]] (canonK [] _k32 [1, 5, 6, 8] 2 (fun _i _t _h => none) (fun _t _h => finK (C_keep_MobiusDual _N) [.tmp 2] (finD Rk_keep_MobiusDual) .ret _t _h)) = keep_MobiusDual_8 _N (_k32 [(1, .ptr 0 0), (5, .sl (.int .i64) _v9), (6, .sl (.int .i64) _v11), (8, .int .i64 (0 : Int))] [.cells [.int .i64 _x1.1, .sl (.int .u32) _x1.2], .cells [.int .i64 _v5, .sl (.int .u32) _v6]]) :=
  by kernel_rfl
noncomputable def keep_MobiusDual_9 (_N : Nat) (_x1 : Int × List Int) (_v15 : Int) (_k34 : Option Rt_keep_MobiusDual) (_k31 : Option Rt_keep_MobiusDual) : Option Rt_keep_MobiusDual :=
  (bif (decide (_v15 < _x1.1)) then _k34 else _k31)
theorem keep_MobiusDual_9e (_N : Nat) (_x1 : Int × List Int) (_v4 : Int) (_v5 : Int) (_v6 : List Int) (_v8 : Int) (_v9 : List Int) (_v11 : List Int) (_v12 : Int) (_v15 : Int) (_k34 _k31 : Ko Rt_keep_MobiusDual) :
    exec (C_keep_MobiusDual _N) (cAt (bodyOf Tryd.f8) [1, 1, 1, 1, 1, 1, 1, 0, 1, 0, 0, 0]) .none [(1, .ptr 0 0), (5, .sl (.int .i64) _v9), (6, .sl (.int .i64) _v11), (8, .int .i64 _v15)] [.cells [.int .i64 _x1.1, .sl (.int .u32) _x1.2], .cells [.int .i64 _v5, .sl (.int .u32) _v6]] (canonK [] _k34 [1, 5, 6, 8] 2 (fun _i _t _h => wo 0 _k31 [] [] 2 _i _t _h none) (fun _t _h => finK (C_keep_MobiusDual _N) [.tmp 2] (finD Rk_keep_MobiusDual) .ret _t _h)) = keep_MobiusDual_9 _N _x1 _v15 (_k34 [(1, .ptr 0 0), (5, .sl (.int .i64) _v9), (6, .sl (.int .i64) _v11), (8, .int .i64 _v15)] [.cells [.int .i64 _x1.1, .sl (.int .u32) _x1.2], .cells [.int .i64 _v5, .sl (.int .u32) _v6]]) (_k31 [] [.cells [.int .i64 _x1.1, .sl (.int .u32) _x1.2], .cells [.int .i64 _v5, .sl (.int .u32) _v6]]) :=
  by kernel_rfl
noncomputable def keep_MobiusDual_10 (_N : Nat) (_k36 : Option Rt_keep_MobiusDual) : Option Rt_keep_MobiusDual :=
  _k36
theorem keep_MobiusDual_10e (_N : Nat) (_x1 : Int × List Int) (_v4 : Int) (_v5 : Int) (_v6 : List Int) (_v8 : Int) (_v9 : List Int) (_v11 : List Int) (_v12 : Int) (_v15 : Int) (_k36 _k35 _k31 : Ko Rt_keep_MobiusDual) :
    exec (C_keep_MobiusDual _N) (cAt (bodyOf Tryd.f8) [1, 1, 1, 1, 1, 1, 1, 0, 1, 0, 0, 1, 0, 0, 0]) .none [(1, .ptr 0 0), (5, .sl (.int .i64) _v9), (6, .sl (.int .i64) _v11), (8, .int .i64 _v15)] [.cells [.int .i64 _x1.1, .sl (.int .u32) _x1.2], .cells [.int .i64 _v5, .sl (.int .u32) _v6]] (canonK [] _k36 [1, 5, 6, 8, 9] 2 (fun _i _t _h => wo 1 _k35 [] [1, 5, 6, 8] 2 _i _t _h (wo 0 _k31 [] [] 2 _i _t _h none)) (fun _t _h => finK (C_keep_MobiusDual _N) [.tmp 2] (finD Rk_keep_MobiusDual) .ret _t _h)) = keep_MobiusDual_10 _N (_k36 [(1, .ptr 0 0), (5, .sl (.int .i64) _v9), (6, .sl (.int .i64) _v11), (8, .int .i64 _v15), (9, .int .i64 (0 : Int))] [.cells [.int .i64 _x1.1, .sl (.int .u32) _x1.2], .cells [.int .i64 _v5, .sl (.int .u32) _v6]]) :=
  by kernel_rfl
noncomputable def keep_MobiusDual_11 (_N : Nat) (_x1 : Int × List Int) (_v9 : List Int) (_v11 : List Int) (_v15 : Int) (_v16 : Int) (_k37 : Int → Option Rt_keep_MobiusDual) (_k35 : Option Rt_keep_MobiusDual) : Option Rt_keep_MobiusDual :=
  (bif (decide (_v16 < _x1.1)) then (bif (decide (0 ≤ (IntKind.i64.wrap ((IntKind.i64.wrap (_v15 * _x1.1)) + _v16))) && decide ((IntKind.i64.wrap ((IntKind.i64.wrap (_v15 * _x1.1)) + _v16)) < (_v9.length : Int))) then (bif (decide (0 ≤ (IntKind.i64.wrap ((IntKind.i64.wrap (_v16 * _x1.1)) + _v15))) && decide ((IntKind.i64.wrap ((IntKind.i64.wrap (_v16 * _x1.1)) + _v15)) < (_v11.length : Int))) then (bif ((nth (0 : Int) _v9 (IntKind.i64.wrap ((IntKind.i64.wrap (_v15 * _x1.1)) + _v16)).toNat) != (nth (0 : Int) _v11 (IntKind.i64.wrap ((IntKind.i64.wrap (_v16 * _x1.1)) + _v15)).toNat)) then (some (false, ())) else (_k37 (IntKind.i64.wrap (_v16 + (1 : Int))))) else none) else none) else _k35)
abbrev A_keep_MobiusDual_11 : Ann := .two .none (.two (.one (.two (.draw 0 [.pure, .pure, .pure, .rd [0], .pure, .pure, .pure, .pure, .pure, .pure, .pure, .pure, .rd [0], .pure, .pure, .pure, .pure, .pure, .pure]) .none)) .none)
theorem keep_MobiusDual_11e (_N : Nat) (_x1 : Int × List Int) (_v4 : Int) (_v5 : Int) (_v6 : List Int) (_v8 : Int) (_v9 : List Int) (_v11 : List Int) (_v12 : Int) (_v15 : Int) (_v16 : Int) (_k37 _k35 _k31 : Ko Rt_keep_MobiusDual) :
    exec (C_keep_MobiusDual _N) (cAt (bodyOf Tryd.f8) [1, 1, 1, 1, 1, 1, 1, 0, 1, 0, 0, 1, 0, 0, 1, 0, 0]) A_keep_MobiusDual_11 [(1, .ptr 0 0), (5, .sl (.int .i64) _v9), (6, .sl (.int .i64) _v11), (8, .int .i64 _v15), (9, .int .i64 _v16)] [.cells [.int .i64 _x1.1, .sl (.int .u32) _x1.2], .cells [.int .i64 _v5, .sl (.int .u32) _v6]] (canonK [] _k37 [1, 5, 6, 8, 9] 2 (fun _i _t _h => wo 2 _k35 [] [1, 5, 6, 8] 2 _i _t _h (wo 1 _k35 [] [1, 5, 6, 8] 2 _i _t _h (wo 0 _k31 [] [] 2 _i _t _h none))) (fun _t _h => finK (C_keep_MobiusDual _N) [.tmp 2] (finD Rk_keep_MobiusDual) .ret _t _h)) = keep_MobiusDual_11 _N _x1 _v9 _v11 _v15 _v16 (fun _v16 => _k37 [(1, .ptr 0 0), (5, .sl (.int .i64) _v9), (6, .sl (.int .i64) _v11), (8, .int .i64 _v15), (9, .int .i64 _v16)] [.cells [.int .i64 _x1.1, .sl (.int .u32) _x1.2], .cells [.int .i64 _v5, .sl (.int .u32) _v6]]) (_k35 [(1, .ptr 0 0), (5, .sl (.int .i64) _v9), (6, .sl (.int .i64) _v11), (8, .int .i64 _v15)] [.cells [.int .i64 _x1.1, .sl (.int .u32) _x1.2], .cells [.int .i64 _v5, .sl (.int .u32) _v6]]) :=
  by kernel_rfl
noncomputable def keep_MobiusDual_12 (_N : Nat) (_x1 : Int × List Int) (_v9 : List Int) (_v11 : List Int) (_v15 : Int) (_k35 : Option Rt_keep_MobiusDual) : Option Rt_keep_MobiusDual :=
  loopD (fun (_s : Int) _kn => keep_MobiusDual_11 _N _x1 _v9 _v11 _v15 _s (fun _v16 => _kn _v16) _k35) _N (0 : Int)
abbrev A_keep_MobiusDual_12 : Ann := .loop [1, 5, 6, 8, 9] 2 A_keep_MobiusDual_11
theorem keep_MobiusDual_12e (_N : Nat) (_x1 : Int × List Int) (_v4 : Int) (_v5 : Int) (_v6 : List Int) (_v8 : Int) (_v9 : List Int) (_v11 : List Int) (_v12 : Int) (_v15 : Int) (_k35 _k31 : Ko Rt_keep_MobiusDual) :
    exec (C_keep_MobiusDual _N) (cAt (bodyOf Tryd.f8) [1, 1, 1, 1, 1, 1, 1, 0, 1, 0, 0, 1, 0, 0, 1, 0]) A_keep_MobiusDual_12 [(1, .ptr 0 0), (5, .sl (.int .i64) _v9), (6, .sl (.int .i64) _v11), (8, .int .i64 _v15), (9, .int .i64 (0 : Int))] [.cells [.int .i64 _x1.1, .sl (.int .u32) _x1.2], .cells [.int .i64 _v5, .sl (.int .u32) _v6]] (canonK [] _k35 [1, 5, 6, 8] 2 (fun _i _t _h => wo 2 _k35 [] [1, 5, 6, 8] 2 _i _t _h (wo 1 _k35 [] [1, 5, 6, 8] 2 _i _t _h (wo 0 _k31 [] [] 2 _i _t _h none))) (fun _t _h => finK (C_keep_MobiusDual _N) [.tmp 2] (finD Rk_keep_MobiusDual) .ret _t _h)) = keep_MobiusDual_12 _N _x1 _v9 _v11 _v15 (_k35 [(1, .ptr 0 0), (5, .sl (.int .i64) _v9), (6, .sl (.int .i64) _v11), (8, .int .i64 _v15)] [.cells [.int .i64 _x1.1, .sl (.int .u32) _x1.2], .cells [.int .i64 _v5, .sl (.int .u32) _v6]]) :=
  (loop_frag (by kernel_rfl) rfl (by kernel_rfl) (by kernel_rfl)).trans (loopN_sim (S := Int) (fun _s => [(1, .ptr 0 0), (5, .sl (.int .i64) _v9), (6, .sl (.int .i64) _v11), (8, .int .i64 _v15), (9, .int .i64 _s)]) (fun _s => [.cells [.int .i64 _x1.1, .sl (.int .u32) _x1.2], .cells [.int .i64 _v5, .sl (.int .u32) _v6]]) (fun _s _kn => keep_MobiusDual_11e _N _x1 _v4 _v5 _v6 _v8 _v9 _v11 _v12 _v15 _s _kn _k35 _k31) _N (0 : Int))
noncomputable def keep_MobiusDual_13 (_N : Nat) (_x1 : Int × List Int) (_v9 : List Int) (_v11 : List Int) (_v15 : Int) (_k35 : Option Rt_keep_MobiusDual) : Option Rt_keep_MobiusDual :=
  keep_MobiusDual_12 _N _x1 _v9 _v11 _v15 _k35
abbrev A_keep_MobiusDual_13 : Ann := .one (.loop [1, 5, 6, 8, 9] 2 A_keep_MobiusDual_11)
theorem keep_MobiusDual_13e (_N : Nat) (_x1 : Int × List Int) (_v4 : Int) (_v5 : Int) (_v6 : List Int) (_v8 : Int) (_v9 : List Int) (_v11 : List Int) (_v12 : Int) (_v15 : Int) (_k35 _k31 : Ko Rt_keep_MobiusDual) :
    exec (C_keep_MobiusDual _N) (cAt (bodyOf Tryd.f8) [1, 1, 1, 1, 1, 1, 1, 0, 1, 0, 0, 1, 0, 0, 1]) A_keep_MobiusDual_13 [(1, .ptr 0 0), (5, .sl (.int .i64) _v9), (6, .sl (.int .i64) _v11), (8, .int .i64 _v15), (9, .int .i64 (0 : Int))] [.cells [.int .i64 _x1.1, .sl (.int .u32) _x1.2], .cells [.int .i64 _v5, .sl (.int .u32) _v6]] (canonK [] _k35 [1, 5, 6, 8] 2 (fun _i _t _h => wo 1 _k35 [] [1, 5, 6, 8] 2 _i _t _h (wo 0 _k31 [] [] 2 _i _t _h none)) (fun _t _h => finK (C_keep_MobiusDual _N) [.tmp 2] (finD Rk_keep_MobiusDual) .ret _t _h)) = keep_MobiusDual_13 _N _x1 _v9 _v11 _v15 (_k35 [(1, .ptr 0 0), (5, .sl (.int .i64) _v9), (6, .sl (.int .i64) _v11), (8, .int .i64 _v15)] [.cells [.int .i64 _x1.1, .sl (.int .u32) _x1.2], .cells [.int .i64 _v5, .sl (.int .u32) _v6]]) :=
  (block_canon (by kernel_rfl)).trans (keep_MobiusDual_12e _N _x1 _v4 _v5 _v6 _v8 _v9 _v11 _v12 _v15 _k35 _k31)
noncomputable def keep_MobiusDual_14 (_N : Nat) (_x1 : Int × List Int) (_v9 : List Int) (_v11 : List Int) (_v15 : Int) (_k35 : Option Rt_keep_MobiusDual) : Option Rt_keep_MobiusDual :=
  keep_MobiusDual_10 _N (keep_MobiusDual_13 _N _x1 _v9 _v11 _v15 _k35)
abbrev A_keep_MobiusDual_14 : Ann := .two .none (.keep [1, 5, 6, 8, 9] 2 (.one (.loop [1, 5, 6, 8, 9] 2 A_keep_MobiusDual_11)))
theorem keep_MobiusDual_14e (_N : Nat) (_x1 : Int × List Int) (_v4 : Int) (_v5 : Int) (_v6 : List Int) (_v8 : Int) (_v9 : List Int) (_v11 : List Int) (_v12 : Int) (_v15 : Int) (_k35 _k31 : Ko Rt_keep_MobiusDual) :
    exec (C_keep_MobiusDual _N) (cAt (bodyOf Tryd.f8) [1, 1, 1, 1, 1, 1, 1, 0, 1, 0, 0, 1, 0, 0]) A_keep_MobiusDual_14 [(1, .ptr 0 0), (5, .sl (.int .i64) _v9), (6, .sl (.int .i64) _v11), (8, .int .i64 _v15)] [.cells [.int .i64 _x1.1, .sl (.int .u32) _x1.2], .cells [.int .i64 _v5, .sl (.int .u32) _v6]] (canonK [] _k35 [1, 5, 6, 8] 2 (fun _i _t _h => wo 1 _k35 [] [1, 5, 6, 8] 2 _i _t _h (wo 0 _k31 [] [] 2 _i _t _h none)) (fun _t _h => finK (C_keep_MobiusDual _N) [.tmp 2] (finD Rk_keep_MobiusDual) .ret _t _h)) = keep_MobiusDual_14 _N _x1 _v9 _v11 _v15 (_k35 [(1, .ptr 0 0), (5, .sl (.int .i64) _v9), (6, .sl (.int .i64) _v11), (8, .int .i64 _v15)] [.cells [.int .i64 _x1.1, .sl (.int .u32) _x1.2], .cells [.int .i64 _v5, .sl (.int .u32) _v6]]) :=
  (seq_frag (by kernel_rfl) rfl).trans ((keep_MobiusDual_10e _N _x1 _v4 _v5 _v6 _v8 _v9 _v11 _v12 _v15 _ _k35 _k31).trans (congrArg (fun _z => keep_MobiusDual_10 _N _z) (keep_MobiusDual_13e _N _x1 _v4 _v5 _v6 _v8 _v9 _v11 _v12 _v15 _k35 _k31)))
noncomputable def keep_MobiusDual_15 (_N : Nat) (_x1 : Int × List Int) (_v9 : List Int) (_v11 : List Int) (_v15 : Int) (_k35 : Option Rt_keep_MobiusDual) : Option Rt_keep_MobiusDual :=
  keep_MobiusDual_14 _N _x1 _v9 _v11 _v15 _k35
abbrev A_keep_MobiusDual_15 : Ann := .one (.two .none (.keep [1, 5, 6, 8, 9] 2 (.one (.loop [1, 5, 6, 8, 9] 2 A_keep_MobiusDual_11))))
theorem keep_MobiusDual_15e (_N : Nat) (_x1 : Int × List Int) (_v4 : Int) (_v5 : Int) (_v6 : List Int) (_v8 : Int) (_v9 : List Int) (_v11 : List Int) (_v12 : Int) (_v15 : Int) (_k35 _k31 : Ko Rt_keep_MobiusDual) :
    exec (C_keep_MobiusDual _N) (cAt (bodyOf Tryd.f8) [1, 1, 1, 1, 1, 1, 1, 0, 1, 0, 0, 1, 0]) A_keep_MobiusDual_15 [(1, .ptr 0 0), (5, .sl (.int .i64) _v9), (6, .sl (.int .i64) _v11), (8, .int .i64 _v15)] [.cells [.int .i64 _x1.1, .sl (.int .u32) _x1.2], .cells [.int .i64 _v5, .sl (.int .u32) _v6]] (canonK [] _k35 [1, 5, 6, 8] 2 (fun _i _t _h => wo 0 _k31 [] [] 2 _i _t _h none) (fun _t _h => finK (C_keep_MobiusDual _N) [.tmp 2] (finD Rk_keep_MobiusDual) .ret _t _h)) = keep_MobiusDual_15 _N _x1 _v9 _v11 _v15 (_k35 [(1, .ptr 0 0), (5, .sl (.int .i64) _v9), (6, .sl (.int .i64) _v11), (8, .int .i64 _v15)] [.cells [.int .i64 _x1.1, .sl (.int .u32) _x1.2], .cells [.int .i64 _v5, .sl (.int .u32) _v6]]) :=
  (block_canon (by kernel_rfl)).trans (keep_MobiusDual_14e _N _x1 _v4 _v5 _v6 _v8 _v9 _v11 _v12 _v15 _k35 _k31)
noncomputable def keep_MobiusDual_16 (_N : Nat) (_v15 : Int) (_k33 : Int → Option Rt_keep_MobiusDual) : Option Rt_keep_MobiusDual :=
  (_k33 (IntKind.i64.wrap (_v15 + (1 : Int))))
theorem keep_MobiusDual_16e (_N : Nat) (_x1 : Int × List Int) (_v4 : Int) (_v5 : Int) (_v6 : List Int) (_v8 : Int) (_v9 : List Int) (_v11 : List Int) (_v12 : Int) (_v15 : Int) (_k33 _k31 : Ko Rt_keep_MobiusDual) :
    exec (C_keep_MobiusDual _N) (cAt (bodyOf Tryd.f8) [1, 1, 1, 1, 1, 1, 1, 0, 1, 0, 0, 1, 1]) .none [(1, .ptr 0 0), (5, .sl (.int .i64) _v9), (6, .sl (.int .i64) _v11), (8, .int .i64 _v15)] [.cells [.int .i64 _x1.1, .sl (.int .u32) _x1.2], .cells [.int .i64 _v5, .sl (.int .u32) _v6]] (canonK [] _k33 [1, 5, 6, 8] 2 (fun _i _t _h => wo 0 _k31 [] [] 2 _i _t _h none) (fun _t _h => finK (C_keep_MobiusDual _N) [.tmp 2] (finD Rk_keep_MobiusDual) .ret _t _h)) = keep_MobiusDual_16 _N _v15 (fun _v15 => _k33 [(1, .ptr 0 0), (5, .sl (.int .i64) _v9), (6, .sl (.int .i64) _v11), (8, .int .i64 _v15)] [.cells [.int .i64 _x1.1, .sl (.int .u32) _x1.2], .cells [.int .i64 _v5, .sl (.int .u32) _v6]]) :=
  by kernel_rfl
noncomputable def keep_MobiusDual_17 (_N : Nat) (_x1 : Int × List Int) (_v9 : List Int) (_v11 : List Int) (_v15 : Int) (_k33 : Int → Option Rt_keep_MobiusDual) : Option Rt_keep_MobiusDual :=
  keep_MobiusDual_15 _N _x1 _v9 _v11 _v15 (keep_MobiusDual_16 _N _v15 _k33)
abbrev A_keep_MobiusDual_17 : Ann := .two (.one (.two .none (.keep [1, 5, 6, 8, 9] 2 (.one (.loop [1, 5, 6, 8, 9] 2 A_keep_MobiusDual_11))))) (.keep [1, 5, 6, 8] 2 .none)
theorem keep_MobiusDual_17e (_N : Nat) (_x1 : Int × List Int) (_v4 : Int) (_v5 : Int) (_v6 : List Int) (_v8 : Int) (_v9 : List Int) (_v11 : List Int) (_v12 : Int) (_v15 : Int) (_k33 _k31 : Ko Rt_keep_MobiusDual) :
    exec (C_keep_MobiusDual _N) (cAt (bodyOf Tryd.f8) [1, 1, 1, 1, 1, 1, 1, 0, 1, 0, 0, 1]) A_keep_MobiusDual_17 [(1, .ptr 0 0), (5, .sl (.int .i64) _v9), (6, .sl (.int .i64) _v11), (8, .int .i64 _v15)] [.cells [.int .i64 _x1.1, .sl (.int .u32) _x1.2], .cells [.int .i64 _v5, .sl (.int .u32) _v6]] (canonK [] _k33 [1, 5, 6, 8] 2 (fun _i _t _h => wo 0 _k31 [] [] 2 _i _t _h none) (fun _t _h => finK (C_keep_MobiusDual _N) [.tmp 2] (finD Rk_keep_MobiusDual) .ret _t _h)) = keep_MobiusDual_17 _N _x1 _v9 _v11 _v15 (fun _v15 => _k33 [(1, .ptr 0 0), (5, .sl (.int .i64) _v9), (6, .sl (.int .i64) _v11), (8, .int .i64 _v15)] [.cells [.int .i64 _x1.1, .sl (.int .u32) _x1.2], .cells [.int .i64 _v5, .sl (.int .u32) _v6]]) :=
  (seq_frag (by kernel_rfl) rfl).trans ((keep_MobiusDual_15e _N _x1 _v4 _v5 _v6 _v8 _v9 _v11 _v12 _v15 _ _k31).trans (congrArg (fun _z => keep_MobiusDual_15 _N _x1 _v9 _v11 _v15 _z) (keep_MobiusDual_16e _N _x1 _v4 _v5 _v6 _v8 _v9 _v11 _v12 _v15 _k33 _k31)))
noncomputable def keep_MobiusDual_18 (_N : Nat) (_x1 : Int × List Int) (_v9 : List Int) (_v11 : List Int) (_v15 : Int) (_k33 : Int → Option Rt_keep_MobiusDual) (_k31 : Option Rt_keep_MobiusDual) : Option Rt_keep_MobiusDual :=
  keep_MobiusDual_9 _N _x1 _v15 (keep_MobiusDual_17 _N _x1 _v9 _v11 _v15 _k33) _k31
abbrev A_keep_MobiusDual_18 : Ann := .two .none (.keep [1, 5, 6, 8] 2 (.two (.one (.two .none (.keep [1, 5, 6, 8, 9] 2 (.one (.loop [1, 5, 6, 8, 9] 2 A_keep_MobiusDual_11))))) (.keep [1, 5, 6, 8] 2 .none)))
theorem keep_MobiusDual_18e (_N : Nat) (_x1 : Int × List Int) (_v4 : Int) (_v5 : Int) (_v6 : List Int) (_v8 : Int) (_v9 : List Int) (_v11 : List Int) (_v12 : Int) (_v15 : Int) (_k33 _k31 : Ko Rt_keep_MobiusDual) :
    exec (C_keep_MobiusDual _N) (cAt (bodyOf Tryd.f8) [1, 1, 1, 1, 1, 1, 1, 0, 1, 0, 0]) A_keep_MobiusDual_18 [(1, .ptr 0 0), (5, .sl (.int .i64) _v9), (6, .sl (.int .i64) _v11), (8, .int .i64 _v15)] [.cells [.int .i64 _x1.1, .sl (.int .u32) _x1.2], .cells [.int .i64 _v5, .sl (.int .u32) _v6]] (canonK [] _k33 [1, 5, 6, 8] 2 (fun _i _t _h => wo 0 _k31 [] [] 2 _i _t _h none) (fun _t _h => finK (C_keep_MobiusDual _N) [.tmp 2] (finD Rk_keep_MobiusDual) .ret _t _h)) = keep_MobiusDual_18 _N _x1 _v9 _v11 _v15 (fun _v15 => _k33 [(1, .ptr 0 0), (5, .sl (.int .i64) _v9), (6, .sl (.int .i64) _v11), (8, .int .i64 _v15)] [.cells [.int .i64 _x1.1, .sl (.int .u32) _x1.2], .cells [.int .i64 _v5, .sl (.int .u32) _v6]]) (_k31 [] [.cells [.int .i64 _x1.1, .sl (.int .u32) _x1.2], .cells [.int .i64 _v5, .sl (.int .u32) _v6]]) :=
  (seq_frag (by kernel_rfl) rfl).trans ((keep_MobiusDual_9e _N _x1 _v4 _v5 _v6 _v8 _v9 _v11 _v12 _v15 _ _k31).trans (congrArg (fun _z => keep_MobiusDual_9 _N _x1 _v15 _z (_k31 [] [.cells [.int .i64 _x1.1, .sl (.int .u32) _x1.2], .cells [.int .i64 _v5, .sl (.int .u32) _v6]])) (keep_MobiusDual_17e _N _x1 _v4 _v5 _v6 _v8 _v9 _v11 _v12 _v15 _k33 _k31)))
noncomputable def keep_MobiusDual_19 (_N : Nat) (_x1 : Int × List Int) (_v9 : List Int) (_v11 : List Int) (_k31 : Option Rt_keep_MobiusDual) : Option Rt_keep_MobiusDual :=
  loopD (fun (_s : Int) _kn => keep_MobiusDual_18 _N _x1 _v9 _v11 _s (fun _v15 => _kn _v15) _k31) _N (0 : Int)
abbrev A_keep_MobiusDual_19 : Ann := .loop [1, 5, 6, 8] 2 (.two .none (.keep [1, 5, 6, 8] 2 (.two (.one (.two .none (.keep [1, 5, 6, 8, 9] 2 (.one (.loop [1, 5, 6, 8, 9] 2 A_keep_MobiusDual_11))))) (.keep [1, 5, 6, 8] 2 .none))))
theorem keep_MobiusDual_19e (_N : Nat) (_x1 : Int × List Int) (_v4 : Int) (_v5 : Int) (_v6 : List Int) (_v8 : Int) (_v9 : List Int) (_v11 : List Int) (_v12 : Int) (_k31 : Ko Rt_keep_MobiusDual) :
    exec (C_keep_MobiusDual _N) (cAt (bodyOf Tryd.f8) [1, 1, 1, 1, 1, 1, 1, 0, 1, 0]) A_keep_MobiusDual_19 [(1, .ptr 0 0), (5, .sl (.int .i64) _v9), (6, .sl (.int .i64) _v11), (8, .int .i64 (0 : Int))] [.cells [.int .i64 _x1.1, .sl (.int .u32) _x1.2], .cells [.int .i64 _v5, .sl (.int .u32) _v6]] (canonK [] _k31 [] 2 (fun _i _t _h => wo 0 _k31 [] [] 2 _i _t _h none) (fun _t _h => finK (C_keep_MobiusDual _N) [.tmp 2] (finD Rk_keep_MobiusDual) .ret _t _h)) = keep_MobiusDual_19 _N _x1 _v9 _v11 (_k31 [] [.cells [.int .i64 _x1.1, .sl (.int .u32) _x1.2], .cells [.int .i64 _v5, .sl (.int .u32) _v6]]) :=
  (loop_frag (by kernel_rfl) rfl (by kernel_rfl) (by kernel_rfl)).trans (loopN_sim (S := Int) (fun _s => [(1, .ptr 0 0), (5, .sl (.int .i64) _v9), (6, .sl (.int .i64) _v11), (8, .int .i64 _s)]) (fun _s => [.cells [.int .i64 _x1.1, .sl (.int .u32) _x1.2], .cells [.int .i64 _v5, .sl (.int .u32) _v6]]) (fun _s _kn => keep_MobiusDual_18e _N _x1 _v4 _v5 _v6 _v8 _v9 _v11 _v12 _s _kn _k31) _N (0 : Int))
noncomputable def keep_MobiusDual_20 (_N : Nat) (_x1 : Int × List Int) (_v9 : List Int) (_v11 : List Int) (_k31 : Option Rt_keep_MobiusDual) : Option Rt_keep_MobiusDual :=
  keep_MobiusDual_19 _N _x1 _v9 _v11 _k31
abbrev A_keep_MobiusDual_20 : Ann := .one (.loop [1, 5, 6, 8] 2 (.two .none (.keep [1, 5, 6, 8] 2 (.two (.one (.two .none (.keep [1, 5, 6, 8, 9] 2 (.one (.loop [1, 5, 6, 8, 9] 2 A_keep_MobiusDual_11))))) (.keep [1, 5, 6, 8] 2 .none)))))
theorem keep_MobiusDual_20e (_N : Nat) (_x1 : Int × List Int) (_v4 : Int) (_v5 : Int) (_v6 : List Int) (_v8 : Int) (_v9 : List Int) (_v11 : List Int) (_v12 : Int) (_k31 : Ko Rt_keep_MobiusDual) :
    exec (C_keep_MobiusDual _N) (cAt (bodyOf Tryd.f8) [1, 1, 1, 1, 1, 1, 1, 0, 1]) A_keep_MobiusDual_20 [(1, .ptr 0 0), (5, .sl (.int .i64) _v9), (6, .sl (.int .i64) _v11), (8, .int .i64 (0 : Int))] [.cells [.int .i64 _x1.1, .sl (.int .u32) _x1.2], .cells [.int .i64 _v5, .sl (.int .u32) _v6]] (canonK [] _k31 [] 2 (fun _i _t _h => none) (fun _t _h => finK (C_keep_MobiusDual _N) [.tmp 2] (finD Rk_keep_MobiusDual) .ret _t _h)) = keep_MobiusDual_20 _N _x1 _v9 _v11 (_k31 [] [.cells [.int .i64 _x1.1, .sl (.int .u32) _x1.2], .cells [.int .i64 _v5, .sl (.int .u32) _v6]]) :=
  (block_canon (by kernel_rfl)).trans (keep_MobiusDual_19e _N _x1 _v4 _v5 _v6 _v8 _v9 _v11 _v12 _k31)
noncomputable def keep_MobiusDual_21 (_N : Nat) (_x1 : Int × List Int) (_v9 : List Int) (_v11 : List Int) (_k31 : Option Rt_keep_MobiusDual) : Option Rt_keep_MobiusDual :=
  keep_MobiusDual_8 _N (keep_MobiusDual_20 _N _x1 _v9 _v11 _k31)
abbrev A_keep_MobiusDual_21 : Ann := .two .none (.keep [1, 5, 6, 8] 2 (.one (.loop [1, 5, 6, 8] 2 (.two .none (.keep [1, 5, 6, 8] 2 (.two (.one (.two .none (.keep [1, 5, 6, 8, 9] 2 (.one (.loop [1, 5, 6, 8, 9] 2 A_keep_MobiusDual_11))))) (.keep [1, 5, 6, 8] 2 .none)))))))
theorem keep_MobiusDual_21e (_N : Nat) (_x1 : Int × List Int) (_v4 : Int) (_v5 : Int) (_v6 : List Int) (_v8 : Int) (_v9 : List Int) (_v11 : List Int) (_v12 : Int) (_k31 : Ko Rt_keep_MobiusDual) :
    exec (C_keep_MobiusDual _N) (cAt (bodyOf Tryd.f8) [1, 1, 1, 1, 1, 1, 1, 0]) A_keep_MobiusDual_21 [(1, .ptr 0 0), (5, .sl (.int .i64) _v9), (6, .sl (.int .i64) _v11)] [.cells [.int .i64 _x1.1, .sl (.int .u32) _x1.2], .cells [.int .i64 _v5, .sl (.int .u32) _v6]] (canonK [] _k31 [] 2 (fun _i _t _h => none) (fun _t _h => finK (C_keep_MobiusDual _N) [.tmp 2] (finD Rk_keep_MobiusDual) .ret _t _h)) = keep_MobiusDual_21 _N _x1 _v9 _v11 (_k31 [] [.cells [.int .i64 _x1.1, .sl (.int .u32) _x1.2], .cells [.int .i64 _v5, .sl (.int .u32) _v6]]) :=
  (seq_frag (by kernel_rfl) rfl).trans ((keep_MobiusDual_8e _N _x1 _v4 _v5 _v6 _v8 _v9 _v11 _v12 _).trans (congrArg (fun _z => keep_MobiusDual_8 _N _z) (keep_MobiusDual_20e _N _x1 _v4 _v5 _v6 _v8 _v9 _v11 _v12 _k31)))
noncomputable def keep_MobiusDual_22 (_N : Nat) : Option Rt_keep_MobiusDual :=
  (some (true, ()))
theorem keep_MobiusDual_22e (_N : Nat) (_x1 : Int × List Int) (_v4 : Int) (_v5 : Int) (_v6 : List Int) (_v8 : Int) (_v9 : List Int) (_v11 : List Int) (_v12 : Int) :
    exec (C_keep_MobiusDual _N) (cAt (bodyOf Tryd.f8) [1, 1, 1, 1, 1, 1, 1, 1]) .none [] [.cells [.int .i64 _x1.1, .sl (.int .u32) _x1.2], .cells [.int .i64 _v5, .sl (.int .u32) _v6]] (canonR (fun _i _t _h => none) (finK (C_keep_MobiusDual _N) [.tmp 2] (finD Rk_keep_MobiusDual))) = keep_MobiusDual_22 _N :=
  by kernel_rfl
noncomputable def keep_MobiusDual_23 (_N : Nat) (_x1 : Int × List Int) (_v9 : List Int) (_v11 : List Int) : Option Rt_keep_MobiusDual :=
  keep_MobiusDual_21 _N _x1 _v9 _v11 (keep_MobiusDual_22 _N)
abbrev A_keep_MobiusDual_23 : Ann := .two (.two .none (.keep [1, 5, 6, 8] 2 (.one (.loop [1, 5, 6, 8] 2 (.two .none (.keep [1, 5, 6, 8] 2 (.two (.one (.two .none (.keep [1, 5, 6, 8, 9] 2 (.one (.loop [1, 5, 6, 8, 9] 2 A_keep_MobiusDual_11))))) (.keep [1, 5, 6, 8] 2 .none)))))))) (.keep [] 2 .none)
theorem keep_MobiusDual_23e (_N : Nat) (_x1 : Int × List Int) (_v4 : Int) (_v5 : Int) (_v6 : List Int) (_v8 : Int) (_v9 : List Int) (_v11 : List Int) (_v12 : Int) :
    exec (C_keep_MobiusDual _N) (cAt (bodyOf Tryd.f8) [1, 1, 1, 1, 1, 1, 1]) A_keep_MobiusDual_23 [(1, .ptr 0 0), (5, .sl (.int .i64) _v9), (6, .sl (.int .i64) _v11)] [.cells [.int .i64 _x1.1, .sl (.int .u32) _x1.2], .cells [.int .i64 _v5, .sl (.int .u32) _v6]] (canonR (fun _i _t _h => none) (finK (C_keep_MobiusDual _N) [.tmp 2] (finD Rk_keep_MobiusDual))) = keep_MobiusDual_23 _N _x1 _v9 _v11 :=
  (seq_frag (by kernel_rfl) rfl).trans ((keep_MobiusDual_21e _N _x1 _v4 _v5 _v6 _v8 _v9 _v11 _v12 _).trans (congrArg (fun _z => keep_MobiusDual_21 _N _x1 _v9 _v11 _z) (keep_MobiusDual_22e _N _x1 _v4 _v5 _v6 _v8 _v9 _v11 _v12)))
noncomputable def keep_MobiusDual_24 (_N : Nat) (_x1 : Int × List Int) (_v8 : Int) (_v9 : List Int) (_v11 : List Int) (_v12 : Int) : Option Rt_keep_MobiusDual :=
  keep_MobiusDual_7 _N _x1 _v8 _v9 _v11 _v12 (keep_MobiusDual_23 _N _x1 _v9 _v11)
abbrev A_keep_MobiusDual_24 : Ann := .two .none (.keep [1, 5, 6] 2 (.two (.two .none (.keep [1, 5, 6, 8] 2 (.one (.loop [1, 5, 6, 8] 2 (.two .none (.keep [1, 5, 6, 8] 2 (.two (.one (.two .none (.keep [1, 5, 6, 8, 9] 2 (.one (.loop [1, 5, 6, 8, 9] 2 A_keep_MobiusDual_11))))) (.keep [1, 5, 6, 8] 2 .none)))))))) (.keep [] 2 .none)))
theorem keep_MobiusDual_24e (_N : Nat) (_x1 : Int × List Int) (_v4 : Int) (_v5 : Int) (_v6 : List Int) (_v8 : Int) (_v9 : List Int) (_v11 : List Int) (_v12 : Int) :
    exec (C_keep_MobiusDual _N) (cAt (bodyOf Tryd.f8) [1, 1, 1, 1, 1, 1]) A_keep_MobiusDual_24 [(1, .ptr 0 0), (4, .int .i64 _v8), (5, .sl (.int .i64) _v9), (6, .sl (.int .i64) _v11), (7, .int .i64 _v12)] [.cells [.int .i64 _x1.1, .sl (.int .u32) _x1.2], .cells [.int .i64 _v5, .sl (.int .u32) _v6]] (canonR (fun _i _t _h => none) (finK (C_keep_MobiusDual _N) [.tmp 2] (finD Rk_keep_MobiusDual))) = keep_MobiusDual_24 _N _x1 _v8 _v9 _v11 _v12 :=
  (seq_frag (by kernel_rfl) rfl).trans ((keep_MobiusDual_7e _N _x1 _v4 _v5 _v6 _v8 _v9 _v11 _v12 _).trans (congrArg (fun _z => keep_MobiusDual_7 _N _x1 _v8 _v9 _v11 _v12 _z) (keep_MobiusDual_23e _N _x1 _v4 _v5 _v6 _v8 _v9 _v11 _v12)))
noncomputable def keep_MobiusDual_25 (_N : Nat) (_x1 : Int × List Int) (_v5 : Int) (_v6 : List Int) (_v8 : Int) (_v9 : List Int) : Option Rt_keep_MobiusDual :=
  keep_MobiusDual_6 _N _v5 _v6 (fun _v11 _v12 => keep_MobiusDual_24 _N _x1 _v8 _v9 _v11 _v12)
abbrev A_keep_MobiusDual_25 : Ann := .two .none (.keep [1, 4, 5, 6, 7] 2 (.two .none (.keep [1, 5, 6] 2 (.two (.two .none (.keep [1, 5, 6, 8] 2 (.one (.loop [1, 5, 6, 8] 2 (.two .none (.keep [1, 5, 6, 8] 2 (.two (.one (.two .none (.keep [1, 5, 6, 8, 9] 2 (.one (.loop [1, 5, 6, 8, 9] 2 A_keep_MobiusDual_11))))) (.keep [1, 5, 6, 8] 2 .none)))))))) (.keep [] 2 .none)))))
theorem keep_MobiusDual_25e (_N : Nat) (_x1 : Int × List Int) (_v4 : Int) (_v5 : Int) (_v6 : List Int) (_v8 : Int) (_v9 : List Int) :
    exec (C_keep_MobiusDual _N) (cAt (bodyOf Tryd.f8) [1, 1, 1, 1, 1]) A_keep_MobiusDual_25 [(1, .ptr 0 0), (3, .ptr 1 0), (4, .int .i64 _v8), (5, .sl (.int .i64) _v9)] [.cells [.int .i64 _x1.1, .sl (.int .u32) _x1.2], .cells [.int .i64 _v5, .sl (.int .u32) _v6]] (canonR (fun _i _t _h => none) (finK (C_keep_MobiusDual _N) [.tmp 2] (finD Rk_keep_MobiusDual))) = keep_MobiusDual_25 _N _x1 _v5 _v6 _v8 _v9 :=
  (seq_frag (by kernel_rfl) rfl).trans ((keep_MobiusDual_6e _N _x1 _v4 _v5 _v6 _v8 _v9 _).trans (congrArg (fun _z => keep_MobiusDual_6 _N _v5 _v6 _z) (funext fun _v11 => funext fun _v12 => keep_MobiusDual_24e _N _x1 _v4 _v5 _v6 _v8 _v9 _v11 _v12)))
noncomputable def keep_MobiusDual_26 (_N : Nat) (_x1 : Int × List Int) (_v5 : Int) (_v6 : List Int) : Option Rt_keep_MobiusDual :=
  keep_MobiusDual_5 _N _x1 (fun _v8 _v9 => keep_MobiusDual_25 _N _x1 _v5 _v6 _v8 _v9)
abbrev A_keep_MobiusDual_26 : Ann := .two .none (.keep [1, 3, 4, 5] 2 (.two .none (.keep [1, 4, 5, 6, 7] 2 (.two .none (.keep [1, 5, 6] 2 (.two (.two .none (.keep [1, 5, 6, 8] 2 (.one (.loop [1, 5, 6, 8] 2 (.two .none (.keep [1, 5, 6, 8] 2 (.two (.one (.two .none (.keep [1, 5, 6, 8, 9] 2 (.one (.loop [1, 5, 6, 8, 9] 2 A_keep_MobiusDual_11))))) (.keep [1, 5, 6, 8] 2 .none)))))))) (.keep [] 2 .none)))))))
theorem keep_MobiusDual_26e (_N : Nat) (_x1 : Int × List Int) (_v4 : Int) (_v5 : Int) (_v6 : List Int) :
    exec (C_keep_MobiusDual _N) (cAt (bodyOf Tryd.f8) [1, 1, 1, 1]) A_keep_MobiusDual_26 [(1, .ptr 0 0), (3, .ptr 1 0)] [.cells [.int .i64 _x1.1, .sl (.int .u32) _x1.2], .cells [.int .i64 _v5, .sl (.int .u32) _v6]] (canonR (fun _i _t _h => none) (finK (C_keep_MobiusDual _N) [.tmp 2] (finD Rk_keep_MobiusDual))) = keep_MobiusDual_26 _N _x1 _v5 _v6 :=
  (seq_frag (by kernel_rfl) rfl).trans ((keep_MobiusDual_5e _N _x1 _v4 _v5 _v6 _).trans (congrArg (fun _z => keep_MobiusDual_5 _N _x1 _z) (funext fun _v8 => funext fun _v9 => keep_MobiusDual_25e _N _x1 _v4 _v5 _v6 _v8 _v9)))
noncomputable def keep_MobiusDual_27 (_N : Nat) (_x1 : Int × List Int) (_v4 : Int) (_v5 : Int) (_v6 : List Int) : Option Rt_keep_MobiusDual :=
  keep_MobiusDual_4 _N _v4 (keep_MobiusDual_26 _N _x1 _v5 _v6)
abbrev A_keep_MobiusDual_27 : Ann := .two .none (.keep [1, 3] 2 (.two .none (.keep [1, 3, 4, 5] 2 (.two .none (.keep [1, 4, 5, 6, 7] 2 (.two .none (.keep [1, 5, 6] 2 (.two (.two .none (.keep [1, 5, 6, 8] 2 (.one (.loop [1, 5, 6, 8] 2 (.two .none (.keep [1, 5, 6, 8] 2 (.two (.one (.two .none (.keep [1, 5, 6, 8, 9] 2 (.one (.loop [1, 5, 6, 8, 9] 2 A_keep_MobiusDual_11))))) (.keep [1, 5, 6, 8] 2 .none)))))))) (.keep [] 2 .none)))))))))
theorem keep_MobiusDual_27e (_N : Nat) (_x1 : Int × List Int) (_v4 : Int) (_v5 : Int) (_v6 : List Int) :
    exec (C_keep_MobiusDual _N) (cAt (bodyOf Tryd.f8) [1, 1, 1]) A_keep_MobiusDual_27 [(1, .ptr 0 0), (3, .ptr 1 0), (4, .int .i64 _v4)] [.cells [.int .i64 _x1.1, .sl (.int .u32) _x1.2], .cells [.int .i64 _v5, .sl (.int .u32) _v6]] (canonR (fun _i _t _h => none) (finK (C_keep_MobiusDual _N) [.tmp 2] (finD Rk_keep_MobiusDual))) = keep_MobiusDual_27 _N _x1 _v4 _v5 _v6 :=
  (seq_frag (by kernel_rfl) rfl).trans ((keep_MobiusDual_4e _N _x1 _v4 _v5 _v6 _).trans (congrArg (fun _z => keep_MobiusDual_4 _N _v4 _z) (keep_MobiusDual_26e _N _x1 _v4 _v5 _v6)))
noncomputable def keep_MobiusDual_28 (_N : Nat) (_x1 : Int × List Int) : Option Rt_keep_MobiusDual :=
  keep_MobiusDual_3 _N _x1 (fun _v4 _v5 _v6 => keep_MobiusDual_27 _N _x1 _v4 _v5 _v6)
abbrev A_keep_MobiusDual_28 : Ann := .two .none (.keep [1, 3, 4] 2 (.two .none (.keep [1, 3] 2 (.two .none (.keep [1, 3, 4, 5] 2 (.two .none (.keep [1, 4, 5, 6, 7] 2 (.two .none (.keep [1, 5, 6] 2 (.two (.two .none (.keep [1, 5, 6, 8] 2 (.one (.loop [1, 5, 6, 8] 2 (.two .none (.keep [1, 5, 6, 8] 2 (.two (.one (.two .none (.keep [1, 5, 6, 8, 9] 2 (.one (.loop [1, 5, 6, 8, 9] 2 A_keep_MobiusDual_11))))) (.keep [1, 5, 6, 8] 2 .none)))))))) (.keep [] 2 .none)))))))))))
theorem keep_MobiusDual_28e (_N : Nat) (_x1 : Int × List Int) :
    exec (C_keep_MobiusDual _N) (cAt (bodyOf Tryd.f8) [1, 1]) A_keep_MobiusDual_28 [(1, .ptr 0 0)] [.cells [.int .i64 _x1.1, .sl (.int .u32) _x1.2]] (canonR (fun _i _t _h => none) (finK (C_keep_MobiusDual _N) [.tmp 2] (finD Rk_keep_MobiusDual))) = keep_MobiusDual_28 _N _x1 :=
  (seq_frag (by kernel_rfl) rfl).trans ((keep_MobiusDual_3e _N _x1 _).trans (congrArg (fun _z => keep_MobiusDual_3 _N _x1 _z) (funext fun _v4 => funext fun _v5 => funext fun _v6 => keep_MobiusDual_27e _N _x1 _v4 _v5 _v6)))
noncomputable def keep_MobiusDual_29 (_N : Nat) (_x1 : Int × List Int) : Option Rt_keep_MobiusDual :=
  keep_MobiusDual_2 _N _x1 (keep_MobiusDual_28 _N _x1)
abbrev A_keep_MobiusDual_29 : Ann := .two .none (.keep [1] 1 (.two .none (.keep [1, 3, 4] 2 (.two .none (.keep [1, 3] 2 (.two .none (.keep [1, 3, 4, 5] 2 (.two .none (.keep [1, 4, 5, 6, 7] 2 (.two .none (.keep [1, 5, 6] 2 (.two (.two .none (.keep [1, 5, 6, 8] 2 (.one (.loop [1, 5, 6, 8] 2 (.two .none (.keep [1, 5, 6, 8] 2 (.two (.one (.two .none (.keep [1, 5, 6, 8, 9] 2 (.one (.loop [1, 5, 6, 8, 9] 2 A_keep_MobiusDual_11))))) (.keep [1, 5, 6, 8] 2 .none)))))))) (.keep [] 2 .none)))))))))))))
theorem keep_MobiusDual_29e (_N : Nat) (_x1 : Int × List Int) :
    exec (C_keep_MobiusDual _N) (cAt (bodyOf Tryd.f8) [1]) A_keep_MobiusDual_29 [(1, .ptr 0 0)] [.cells [.int .i64 _x1.1, .sl (.int .u32) _x1.2]] (canonR (fun _i _t _h => none) (finK (C_keep_MobiusDual _N) [.tmp 2] (finD Rk_keep_MobiusDual))) = keep_MobiusDual_29 _N _x1 :=
  (seq_frag (by kernel_rfl) rfl).trans ((keep_MobiusDual_2e _N _x1 _).trans (congrArg (fun _z => keep_MobiusDual_2 _N _x1 _z) (keep_MobiusDual_28e _N _x1)))
noncomputable def keep_MobiusDual_30 (_N : Nat) (_x1 : Int × List Int) : Option Rt_keep_MobiusDual :=
  keep_MobiusDual_1 _N (keep_MobiusDual_29 _N _x1)
abbrev A_keep_MobiusDual_30 : Ann := .two .none (.keep [1] 1 (.two .none (.keep [1] 1 (.two .none (.keep [1, 3, 4] 2 (.two .none (.keep [1, 3] 2 (.two .none (.keep [1, 3, 4, 5] 2 (.two .none (.keep [1, 4, 5, 6, 7] 2 (.two .none (.keep [1, 5, 6] 2 (.two (.two .none (.keep [1, 5, 6, 8] 2 (.one (.loop [1, 5, 6, 8] 2 (.two .none (.keep [1, 5, 6, 8] 2 (.two (.one (.two .none (.keep [1, 5, 6, 8, 9] 2 (.one (.loop [1, 5, 6, 8, 9] 2 A_keep_MobiusDual_11))))) (.keep [1, 5, 6, 8] 2 .none)))))))) (.keep [] 2 .none)))))))))))))))
theorem keep_MobiusDual_30e (_N : Nat) (_x1 : Int × List Int) :
    exec (C_keep_MobiusDual _N) (cAt (bodyOf Tryd.f8) []) A_keep_MobiusDual_30 [(0, .agg [.int .i64 _x1.1, .sl (.int .u32) _x1.2])] [] (canonR (fun _i _t _h => none) (finK (C_keep_MobiusDual _N) [.tmp 2] (finD Rk_keep_MobiusDual))) = keep_MobiusDual_30 _N _x1 :=
  (seq_frag (by kernel_rfl) rfl).trans ((keep_MobiusDual_1e _N _x1 _).trans (congrArg (fun _z => keep_MobiusDual_1 _N _z) (keep_MobiusDual_29e _N _x1)))
noncomputable def D_keep_MobiusDual (_N : Nat) (x : Dens Ks_keep_MobiusDual) : Option Rt_keep_MobiusDual := keep_MobiusDual_30 _N x.1
theorem E_keep_MobiusDual (_N : Nat) (x : Dens Ks_keep_MobiusDual) : exec (C_keep_MobiusDual _N) (bodyOf Tryd.f8) (.two .none (.keep [1] 1 (.two .none (.keep [1] 1 (.two .none (.keep [1, 3, 4] 2 (.two .none (.keep [1, 3] 2 (.two .none (.keep [1, 3, 4, 5] 2 (.two .none (.keep [1, 4, 5, 6, 7] 2 (.two .none (.keep [1, 5, 6] 2 (.two (.two .none (.keep [1, 5, 6, 8] 2 (.one (.loop [1, 5, 6, 8] 2 (.two .none (.keep [1, 5, 6, 8] 2 (.two (.one (.two .none (.keep [1, 5, 6, 8, 9] 2 (.one (.loop [1, 5, 6, 8, 9] 2 A_keep_MobiusDual_11))))) (.keep [1, 5, 6, 8] 2 .none)))))))) (.keep [] 2 .none)))))))))))))))) (argS 0 (kvals Ks_keep_MobiusDual x)) [] (finK (C_keep_MobiusDual _N) [.tmp 2] (finD Rk_keep_MobiusDual)) = D_keep_MobiusDual _N x :=
  (congrArg (fun K => exec (C_keep_MobiusDual _N) (bodyOf Tryd.f8) (.two .none (.keep [1] 1 (.two .none (.keep [1] 1 (.two .none (.keep [1, 3, 4] 2 (.two .none (.keep [1, 3] 2 (.two .none (.keep [1, 3, 4, 5] 2 (.two .none (.keep [1, 4, 5, 6, 7] 2 (.two .none (.keep [1, 5, 6] 2 (.two (.two .none (.keep [1, 5, 6, 8] 2 (.one (.loop [1, 5, 6, 8] 2 (.two .none (.keep [1, 5, 6, 8] 2 (.two (.one (.two .none (.keep [1, 5, 6, 8, 9] 2 (.one (.loop [1, 5, 6, 8, 9] 2 A_keep_MobiusDual_11))))) (.keep [1, 5, 6, 8] 2 .none)))))))) (.keep [] 2 .none)))))))))))))))) (argS 0 (kvals Ks_keep_MobiusDual x)) [] K) canonR_fin).trans (keep_MobiusDual_30e _N x.1)
theorem ok_keep_MobiusDual (_N : Nat) : CtxOk Tryd.prog Gs Tryd.f8 (C_keep_MobiusDual _N) := ⟨rfl, by unfold TOk; kernel_rfl, gOk_of rfl rfl (List.forall_mem_cons.2 ⟨en_keep_sound _N, (List.forall_mem_cons.2 ⟨en_keep_refused _N, (List.forall_mem_cons.2 ⟨qen_order_Dual _N, (List.forall_mem_cons.2 ⟨qen_mobius_Mu _N, (List.forall_mem_nil _)⟩)⟩)⟩)⟩), iOk_of rfl rfl (List.forall_mem_nil _), rfl⟩
theorem hb_keep_MobiusDual : HasBody Tryd.prog 8 := ⟨Tryd.f8, bodyOf Tryd.f8, by kernel_rfl, by kernel_rfl, rfl⟩
theorem sp_keep_MobiusDual (_N : Nat) : SpecD Tryd.prog Gs 8 Ks_keep_MobiusDual Rk_keep_MobiusDual (D_keep_MobiusDual _N) := specD_of (c := bodyOf Tryd.f8) (by kernel_rfl) rfl (by kernel_rfl) (Nat.le_of_ble_eq_true (by kernel_rfl)) fun x y _h => ⟨C_keep_MobiusDual _N, (.two .none (.keep [1] 1 (.two .none (.keep [1] 1 (.two .none (.keep [1, 3, 4] 2 (.two .none (.keep [1, 3] 2 (.two .none (.keep [1, 3, 4, 5] 2 (.two .none (.keep [1, 4, 5, 6, 7] 2 (.two .none (.keep [1, 5, 6] 2 (.two (.two .none (.keep [1, 5, 6, 8] 2 (.one (.loop [1, 5, 6, 8] 2 (.two .none (.keep [1, 5, 6, 8] 2 (.two (.one (.two .none (.keep [1, 5, 6, 8, 9] 2 (.one (.loop [1, 5, 6, 8, 9] 2 A_keep_MobiusDual_11))))) (.keep [1, 5, 6, 8] 2 .none)))))))) (.keep [] 2 .none)))))))))))))))), ok_keep_MobiusDual _N, (E_keep_MobiusDual _N x).trans _h⟩
theorem en_keep_MobiusDual (_N : Nat) : EntOk Tryd.prog Gs (mkP 8 Ks_keep_MobiusDual Rk_keep_MobiusDual (D_keep_MobiusDual _N)) := entP hb_keep_MobiusDual (by kernel_rfl) (sp_keep_MobiusDual _N)
theorem law_MobiusDual (o : Int × List Int) (wo : wfS (.pair (.int .i64) (.sl (.int .u32))) o) : ∃ N, D_keep_MobiusDual N (o, ()) = some (true, ()) := by
  obtain ⟨n, up⟩ := o
  have hw : WL up := WL_of wo.2
  refine ⟨1000, ?_⟩
  simp only [D_keep_MobiusDual, keep_MobiusDual_30, keep_MobiusDual_29, keep_MobiusDual_28, keep_MobiusDual_27, keep_MobiusDual_26, keep_MobiusDual_25, keep_MobiusDual_24, keep_MobiusDual_7, keep_MobiusDual_6, keep_MobiusDual_5, keep_MobiusDual_4, keep_MobiusDual_3, keep_MobiusDual_2, keep_MobiusDual_1]
  obtain ⟨s, s1, s2⟩ := sound_eq (N := 1000) (by omega) hw n
  by_cases ho : Ord n up
  case neg =>
    obtain ⟨r, r1, r2⟩ := refused_eq (N := 1000) (by omega) hw n
    obtain rfl := r2.2 ho
    obtain rfl : s = false := Bool.eq_false_iff.2 fun h => ho (s2.1 h)
    simp only [s1, r1, Option.bind_some, Bool.not_false, cond_true]
  obtain rfl := s2.2 ho
  obtain ⟨m, rfl⟩ : ∃ m : Nat, n = (m : Int) := ⟨n.toNat, by have := ho.h0; omega⟩
  have hm : m ≤ 16 := by have := ho.h1; omega
  have hwd : WL (colsS up (m : Int) up.length) := WL.colsS _ _ _
  obtain ⟨a, a1, a2⟩ := Mu_eq (N := 1000) (Nat.le_refl _) hm hw ho
  obtain ⟨b, b1, b2⟩ := Mu_eq (N := 1000) (Nat.le_refl _) hm hwd ho.dual
  have hz : ∀ x y, x < m → y < m → zt (colsS up (m : Int) up.length) x y = zt up y x := fun x y hx hy => by
    unfold zt
    have := le_dual ho (i := y) (j := x) (by omega) (by omega)
    by_cases q : le up y x
    · rw [if_pos q, if_pos (this.2 q)]
    · rw [if_neg q, if_neg fun h => q (this.1 h)]
  have key : EqT m (fun x y => tv m b y x) (tv m a) := inv_uniq a2.right (fun x y hx hy => by
    have := b2.right y x hy hx
    have e : dl x y = dl y x := by
      unfold dl
      by_cases q : x = y
      · rw [if_pos q, if_pos q.symm]
      · rw [if_neg q, if_neg fun h => q h.symm]
    rw [e, ← this]
    exact Sg_congr fun k hk => by rw [hz k x hk hx]; grind) a2.left
  have hval : ∀ x y, x < m → y < m → nth 0 a (x * m + y) = nth 0 b (y * m + x) := fun x y hx hy =>
    ph_inj (I64.nth a2.cel.i64 _) (I64.nth b2.cel.i64 _) (key x y hx hy).symm
  have hla : (a.length : Int) = ((m * m : Nat) : Int) := by rw [a2.cel.len]
  have hlb : (b.length : Int) = ((m * m : Nat) : Int) := by rw [b2.cel.len]
  simp only [s1, Dual_eq (N := 1000) (by omega) hw ho, a1, b1, Option.bind_some, Bool.not_true, cond_false, bne_self_eq_false, wrap_sq hm, hla, hlb, keep_MobiusDual_23, keep_MobiusDual_22, keep_MobiusDual_21, keep_MobiusDual_20, keep_MobiusDual_8]
  have h12 : ∀ x, x < m → ∀ k, keep_MobiusDual_12 1000 ((m : Int), up) a b (x : Int) k = k := fun x hx k => by
    unfold keep_MobiusDual_12
    refine loopD_passU (n := m) (fun y hy kn => ?_) (fun kn => ?_) (by omega)
    · have e1 := cell_lt hx hy
      have e2 := cell_lt hy hx
      simp only [keep_MobiusDual_11, lt_d hy, cond_true, wrap_cell hm hx hy, wrap_cell hm hy hx, hla, hlb, ge0_d, lt_d e1, lt_d e2, Bool.and_self, Int.toNat_natCast, hval x y hx hy, bne_self_eq_false, cond_false, w1 hm hy]
    · simp only [keep_MobiusDual_11, lt_self, cond_false]
  unfold keep_MobiusDual_19
  refine loopD_passU (n := m) (fun x hx kn => ?_) (fun kn => ?_) (by omega)
  · simp only [keep_MobiusDual_18, keep_MobiusDual_17, keep_MobiusDual_16, keep_MobiusDual_15, keep_MobiusDual_14, keep_MobiusDual_13, keep_MobiusDual_10, keep_MobiusDual_9, lt_d hx, cond_true, h12 x hx, w1 hm hx]
  · simp only [keep_MobiusDual_18, keep_MobiusDual_9, lt_self, cond_false]
set_option maxRecDepth 100000 in
theorem lifted_MobiusDual (os : Os) (started : os.Started) (H : Type) (enc : TypeId × Value → H) :
    ReturnsInHanded {} Tryd.checked os 8 .any (fun w args => (Rows.mobiusDualSpec.pre enc Tryd.prog Tryd.f8 [] false w args ∧ laidMetH Tryd.prog Rows.mobiusDualRow.laid w) ∧ sizedMet enc Tryd.prog Tryd.f8 (OpenSpec.ofChange Rows.mobiusDualSpec) false w args) (Rows.mobiusDualSpec.post enc Tryd.prog Tryd.f8 false true false false) := by
  refine returnsInHanded_of_change_and (C := Tryd.checked) (X := fun w _ => laidMetH Tryd.prog Rows.mobiusDualRow.laid w) (fun _ _ _ hh h => h.of_heap hh) own started (by kernel_rfl) Tryd.func8
    (ChangeSpec.witness_shaped (enc := enc) (C := Tryd.checked) (os := os) (X := fun w _ => laidMetH Tryd.prog Rows.mobiusDualRow.laid w) false (World.doorLaid Tryd.prog 400 os) #[.agg #[.int .i64 0, .slice none 0 0]] 8 rfl (World.shaped_of_RefB (by kernel_rfl) (by kernel_rfl)) (by kernel_rfl) (by kernel_rfl) (by kernel_rfl) (door_met os _)) ?_
  intro W base args ds gs before hval0 hW _ hsz0 hL _
  have hgw : GW Gs W := gw_of hL
  have hval : ∀ (j : Nat) t v, Tryd.f8.params[j]? = some t → args[j]? = some v → Value.okWide Tryd.prog W .any base t v := hval0
  have hW' := hW
  obtain ⟨p, q, hA0, hV, rfl, _, _⟩ := hW
  have hA : DataW.TrodAll enc Tryd.prog W 0 (fun _ => true) true Tryd.f8.params.toList args.toList ds p := hA0
  rw [Tryd.params8] at hA hval
  obtain ⟨v0, vs0, d0, ds0, p0, q0, hargs, rfl, rfl, h0, r0⟩ := trodAll_cons hA
  obtain ⟨rfl, rfl, rfl⟩ := trodAll_nil r0
  obtain rfl : args = #[v0] := by cases args; simp_all
  obtain ⟨rfl, rfl⟩ := trodVars_none hV
  clear hA0 hval0 hsz0
  simp only [List.append_nil] at hW'
  have hlt0 : ∀ x ∈ p0, x.block < W.heap.size := fun x hx => hW'.lt x (by simp [hx])
  obtain ⟨x0, g0, w0⟩ := open_kd (k := .dat (.pair (.int .i64) (.sl (.int .u32)))) (by kernel_rfl) (hval 0 24 v0 rfl rfl) h0
  obtain ⟨N, hN⟩ := law_MobiusDual x0 w0
  refine (sp_keep_MobiusDual N (fun _ => False) W (x0, ()) (true, ()) [v0] (fun _ h => h.elim) hgw ⟨v0, _, rfl, g0, rfl⟩ hN).mono ?_
  rintro e W' ⟨v, rfl, hg, hr⟩
  have hr : v = .bool true := by simpa only [kvals, retV, Kd.val, Go.Abs.enc, RV] using hr
  subst hr
  exact ⟨_, rfl, _, _, _, [], p0 ++ [], [], hW', (trodAll_cons_mk (shut_bool (show Tryd.prog.underlying 4 = some .bool by kernel_rfl) _) trodAll_mk0), (trodAll_cons_mk (Below.trod laidOut (by kernel_rfl) (of_decide_eq_true (by kernel_rfl)) h0 hg hlt0) trodAll_mk0), rfl, hg.frame _, fun h => by cases h⟩

/-- The statement: whatever the arguments, the law's function returns true and leaves them as they were. -/
theorem mobiusDual_holds : Rows.MobiusDualSaid :=
  OpenClaim.holds_of_wide 8 Tryd.f8 rfl rfl rfl rfl rfl rfl rfl ⟨rfl, rfl, rfl, rfl, rfl⟩ rfl rfl rfl rfl rfl (by kernel_rfl) Tryd.func8 (by kernel_rfl)
    (of_decide_eq_true (by kernel_rfl)) (by unfold Func.isWrapper; first | (rw [if_pos (by decide +kernel)]; kernel_rfl) | (rw [if_neg (by decide +kernel)]; exact ⟨rfl, rfl⟩))
    (fun os started H enc _ => lifted_MobiusDual os started H enc)
/-- The statement's card: the variable that the road reads is tied to the program's text. -/
theorem mobiusDual_card : Rows.MobiusDualCardSaid :=
  Claim7.holds_tied_plain_at .later [] [.data] true (true, "95f6ea9d403f7937751d645b60a9924f7afd7c18e9047aef24e3dc8f01e8eb85") false mobiusDual_holds (fun _ h => by cases h) (by kernel_rfl) (fun _ h => by cases h) mobiusDual_row_tie rfl ⟨rfl, rfl⟩ (by kernel_rfl) rfl
    (fun f fn hf hfn => by
      obtain rfl : f = 8 := Option.some.inj ((show Tryd.prog.funcNamed "watershed/watershedkeep.MobiusDual" = some 8 by kernel_rfl).symm.trans hf) |>.symm
      obtain rfl : fn = Tryd.f8 := (Option.some.inj (Tryd.func8.symm.trans hfn)).symm
      exact ⟨by kernel_rfl, fun j t ht => by
        have h3 := List.all_eq_true.1 (show (Tryd.f8.params.toList.all fun t => !(Tryd.prog.wantsStandIn t)) = true by kernel_rfl) t (by rw [← Array.getElem?_toList] at ht; exact List.mem_of_getElem? ht)
        have h4 : Tryd.prog.wantsStandIn t = false := by simpa using h3
        exact h4⟩)
    (by kernel_rfl)
end Go.Proofs.YtdlhfddmbdbedaaDoor
