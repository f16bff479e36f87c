/- What comes of Bottom stays and is below each element that becomes one below it; what comes of Top stays and is above each that becomes one above it: the law answers true for every order, map and element. No condition. -/
import Derived.Test.YtdbjfdjpmoackaaDoorFixedS
import Derived.Test.YtdbjfdjpmoackaaDoorFrame
namespace Go.Proofs.YtdbjfdjpmoackaaDoor
open Go Go.ChangeShapes Go.WideShapes Go.ChangeAt Go.WideMaps Go.WideElems Go.RowKit Go.Abs
-- watershed/watershedkeep.FixedTarski
abbrev Ks_keep_FixedTarski : List Kd := [.dat (.pair (.int .i64) (.sl (.int .u32))), .dat (.sl (.int .i64)), .dat (.int .i64)]
abbrev Rk_keep_FixedTarski : List Kd := [.dat (.bool)]
abbrev Rt_keep_FixedTarski : Type := Dens Rk_keep_FixedTarski
def T_keep_FixedTarski : List (Nat × TE) := [(3, ⟨.int .i64, 1, 8, some (.int .i64), [.int .i64 (0 : Int)]⟩),
  (24, ⟨.struct [(0, 3), (1, 22)], 2, 32, some (.pair (.int .i64) (.sl (.int .u32))), [.int .i64 (0 : Int), .nil]⟩),
  (25, ⟨.slice 3, 1, 24, some (.sl (.int .i64)), [.nil]⟩)]
noncomputable def C_keep_FixedTarski (_N : Nat) : Ctx := { T := T_keep_FixedTarski, G := findE [mkP 29 Ks_keep_mapped Rk_keep_mapped (D_keep_mapped _N), mkP 30 Ks_fixed_Check Rk_fixed_Check (D_fixed_Check _N), mkP 31 Ks_fixed_Least Rk_fixed_Least (D_fixed_Least _N), mkP 32 Ks_fixed_Greatest Rk_fixed_Greatest (D_fixed_Greatest _N), mkP 20 Ks_keep_within Rk_keep_within (D_keep_within _N), mkP 25 Ks_keep_below Rk_keep_below (D_keep_below _N)], I := findI [], N := _N, n := 110, fx := [], fl := 0, gs := Gs }
noncomputable def keep_FixedTarski_1 (_N : Nat) (_k18 : Option Rt_keep_FixedTarski) : Option Rt_keep_FixedTarski :=
  _k18
theorem keep_FixedTarski_1e (_N : Nat) (_x1 : Int × List Int) (_x2 : List Int) (_x3 : Int) (_k18 : Slots → List O → Option Rt_keep_FixedTarski) :
    exec (C_keep_FixedTarski _N) (cAt (bodyOf Tryd.f10) [0]) .none [(0, .agg [.int .i64 _x1.1, .sl (.int .u32) _x1.2]), (1, .sl (.int .i64) _x2), (2, .int .i64 _x3)] [] (canonK [] _k18 [1, 2, 3] 1 (fun _i _t _h => none) (fun _t _h => finK (C_keep_FixedTarski _N) [.tmp 6] (finD Rk_keep_FixedTarski) .ret _t _h)) = keep_FixedTarski_1 _N (_k18 [(1, .sl (.int .i64) _x2), (2, .int .i64 _x3), (3, .ptr 0 0)] [.cells [.int .i64 _x1.1, .sl (.int .u32) _x1.2]]) :=
  by kernel_rfl
noncomputable def keep_FixedTarski_2 (_N : Nat) (_x1 : Int × List Int) (_x2 : List Int) (_k19 : Option Rt_keep_FixedTarski) : Option Rt_keep_FixedTarski :=
  ((D_keep_mapped _N ((_x1.1, _x1.2), _x2, ())).bind fun _y20 => (bif (!_y20.1) then ((D_fixed_Check _N ((_x1.1, _x1.2), _x2, ())).bind fun _y21 => (some ((_y21.1 != (0 : Int)), ()))) else _k19))
theorem keep_FixedTarski_2e (_N : Nat) (_x1 : Int × List Int) (_x2 : List Int) (_x3 : Int) (_k19 : Slots → List O → Option Rt_keep_FixedTarski) :
    exec (C_keep_FixedTarski _N) (cAt (bodyOf Tryd.f10) [1, 0]) .none [(1, .sl (.int .i64) _x2), (2, .int .i64 _x3), (3, .ptr 0 0)] [.cells [.int .i64 _x1.1, .sl (.int .u32) _x1.2]] (canonK [] _k19 [1, 2, 3] 1 (fun _i _t _h => none) (fun _t _h => finK (C_keep_FixedTarski _N) [.tmp 6] (finD Rk_keep_FixedTarski) .ret _t _h)) = keep_FixedTarski_2 _N _x1 _x2 (_k19 [(1, .sl (.int .i64) _x2), (2, .int .i64 _x3), (3, .ptr 0 0)] [.cells [.int .i64 _x1.1, .sl (.int .u32) _x1.2]]) :=
  by kernel_rfl
noncomputable def keep_FixedTarski_3 (_N : Nat) (_x1 : Int × List Int) (_x2 : List Int) (_k22 : Int → Int → Option Rt_keep_FixedTarski) : Option Rt_keep_FixedTarski :=
  ((D_fixed_Least _N ((_x1.1, _x1.2), _x2, ())).bind fun _y23 => (_k22 _y23.1 _y23.2.2.1))
theorem keep_FixedTarski_3e (_N : Nat) (_x1 : Int × List Int) (_x2 : List Int) (_x3 : Int) (_k22 : Slots → List O → Option Rt_keep_FixedTarski) :
    exec (C_keep_FixedTarski _N) (cAt (bodyOf Tryd.f10) [1, 1, 0]) .none [(1, .sl (.int .i64) _x2), (2, .int .i64 _x3), (3, .ptr 0 0)] [.cells [.int .i64 _x1.1, .sl (.int .u32) _x1.2]] (canonK [] _k22 [1, 2, 3, 7, 9] 1 (fun _i _t _h => none) (fun _t _h => finK (C_keep_FixedTarski _N) [.tmp 6] (finD Rk_keep_FixedTarski) .ret _t _h)) = keep_FixedTarski_3 _N _x1 _x2 (fun _v4 _v5 => _k22 [(1, .sl (.int .i64) _x2), (2, .int .i64 _x3), (3, .ptr 0 0), (7, .int .i64 _v4), (9, .int .i64 _v5)] [.cells [.int .i64 _x1.1, .sl (.int .u32) _x1.2]]) :=
  by kernel_rfl
noncomputable def keep_FixedTarski_4 (_N : Nat) (_x1 : Int × List Int) (_x2 : List Int) (_k24 : Int → Int → Option Rt_keep_FixedTarski) : Option Rt_keep_FixedTarski :=
  ((D_fixed_Greatest _N ((_x1.1, _x1.2), _x2, ())).bind fun _y25 => (_k24 _y25.1 _y25.2.2.1))
theorem keep_FixedTarski_4e (_N : Nat) (_x1 : Int × List Int) (_x2 : List Int) (_x3 : Int) (_v4 : Int) (_v5 : Int) (_k24 : Slots → List O → Option Rt_keep_FixedTarski) :
    exec (C_keep_FixedTarski _N) (cAt (bodyOf Tryd.f10) [1, 1, 1, 0]) .none [(1, .sl (.int .i64) _x2), (2, .int .i64 _x3), (3, .ptr 0 0), (7, .int .i64 _v4), (9, .int .i64 _v5)] [.cells [.int .i64 _x1.1, .sl (.int .u32) _x1.2]] (canonK [] _k24 [1, 2, 3, 7, 9, 10, 12] 1 (fun _i _t _h => none) (fun _t _h => finK (C_keep_FixedTarski _N) [.tmp 6] (finD Rk_keep_FixedTarski) .ret _t _h)) = keep_FixedTarski_4 _N _x1 _x2 (fun _v7 _v8 => _k24 [(1, .sl (.int .i64) _x2), (2, .int .i64 _x3), (3, .ptr 0 0), (7, .int .i64 _v4), (9, .int .i64 _v5), (10, .int .i64 _v7), (12, .int .i64 _v8)] [.cells [.int .i64 _x1.1, .sl (.int .u32) _x1.2]]) :=
  by kernel_rfl
noncomputable def keep_FixedTarski_5 (_N : Nat) (_v5 : Int) (_v8 : Int) (_k26 : Option Rt_keep_FixedTarski) : Option Rt_keep_FixedTarski :=
  (bif (_v5 != (0 : Int)) then (some ((_v5 == _v8), ())) else (bif (_v8 != (0 : Int)) then (some ((_v5 == _v8), ())) else _k26))
theorem keep_FixedTarski_5e (_N : Nat) (_x1 : Int × List Int) (_x2 : List Int) (_x3 : Int) (_v4 : Int) (_v5 : Int) (_v7 : Int) (_v8 : Int) (_k26 : Slots → List O → Option Rt_keep_FixedTarski) :
    exec (C_keep_FixedTarski _N) (cAt (bodyOf Tryd.f10) [1, 1, 1, 1, 0]) .none [(1, .sl (.int .i64) _x2), (2, .int .i64 _x3), (3, .ptr 0 0), (7, .int .i64 _v4), (9, .int .i64 _v5), (10, .int .i64 _v7), (12, .int .i64 _v8)] [.cells [.int .i64 _x1.1, .sl (.int .u32) _x1.2]] (canonK [] _k26 [1, 2, 3, 7, 10] 1 (fun _i _t _h => none) (fun _t _h => finK (C_keep_FixedTarski _N) [.tmp 6] (finD Rk_keep_FixedTarski) .ret _t _h)) = keep_FixedTarski_5 _N _v5 _v8 (_k26 [(1, .sl (.int .i64) _x2), (2, .int .i64 _x3), (3, .ptr 0 0), (7, .int .i64 _v4), (10, .int .i64 _v7)] [.cells [.int .i64 _x1.1, .sl (.int .u32) _x1.2]]) :=
  by kernel_rfl
noncomputable def keep_FixedTarski_6 (_N : Nat) (_x1 : Int × List Int) (_x2 : List Int) (_x3 : Int) (_v4 : Int) (_v7 : Int) : Option Rt_keep_FixedTarski :=
  ((D_keep_within _N (_x1.1, [_v4, _v7], ())).bind fun _y27 => (bif (!_y27.1) then (some (false, ())) else (bif (decide (0 ≤ _v4) && decide (_v4 < (_x2.length : Int))) then (bif ((nth (0 : Int) _x2 (_v4).toNat) != _v4) then (some (false, ())) else (bif (decide (0 ≤ _v7) && decide (_v7 < (_x2.length : Int))) then (bif ((nth (0 : Int) _x2 (_v7).toNat) != _v7) then (some (false, ())) else ((D_keep_below _N ((_x1.1, _x1.2), _v4, _v7, ())).bind fun _y28 => (bif (!_y28.1) then (some (false, ())) else ((D_keep_within _N (_x1.1, [_x3], ())).bind fun _y29 => (bif (!_y29.1) then (some (true, ())) else (bif (decide (0 ≤ _x3) && decide (_x3 < (_x2.length : Int))) then ((D_keep_below _N ((_x1.1, _x1.2), (nth (0 : Int) _x2 (_x3).toNat), _x3, ())).bind fun _y30 => (bif (!_y30.1) then (bif (decide (0 ≤ _x3) && decide (_x3 < (_x2.length : Int))) then ((D_keep_below _N ((_x1.1, _x1.2), _x3, (nth (0 : Int) _x2 (_x3).toNat), ())).bind fun _y31 => (bif (!_y31.1) then (some (true, ())) else ((D_keep_below _N ((_x1.1, _x1.2), _x3, _v7, ())).bind fun _y32 => (some (_y32.1, ()))))) else none) else ((D_keep_below _N ((_x1.1, _x1.2), _v4, _x3, ())).bind fun _y33 => (bif _y33.1 then (bif (decide (0 ≤ _x3) && decide (_x3 < (_x2.length : Int))) then ((D_keep_below _N ((_x1.1, _x1.2), _x3, (nth (0 : Int) _x2 (_x3).toNat), ())).bind fun _y34 => (bif (!_y34.1) then (some (true, ())) else ((D_keep_below _N ((_x1.1, _x1.2), _x3, _v7, ())).bind fun _y35 => (some (_y35.1, ()))))) else none) else (some (false, ())))))) else none)))))) else none)) else none)))
theorem keep_FixedTarski_6e (_N : Nat) (_x1 : Int × List Int) (_x2 : List Int) (_x3 : Int) (_v4 : Int) (_v5 : Int) (_v7 : Int) (_v8 : Int) :
    exec (C_keep_FixedTarski _N) (cAt (bodyOf Tryd.f10) [1, 1, 1, 1, 1]) (.two .none (.two .none (.two (.draw 0 (.rd [0] :: .pure :: .pure :: .pure :: .pure :: .pure :: .pure :: .pure :: .pure :: .rd [0] :: .pure :: .pure :: .pure :: .pure :: .pure :: .rd [0] :: .pure :: .pure :: .pure :: .pure :: .pure :: .pure :: .pure :: .pure :: .rd [0] :: .pure :: .pure :: .pure :: .pure :: .pure :: .pure :: [])) .none))) [(1, .sl (.int .i64) _x2), (2, .int .i64 _x3), (3, .ptr 0 0), (7, .int .i64 _v4), (10, .int .i64 _v7)] [.cells [.int .i64 _x1.1, .sl (.int .u32) _x1.2]] (canonR (fun _i _t _h => none) (finK (C_keep_FixedTarski _N) [.tmp 6] (finD Rk_keep_FixedTarski))) = keep_FixedTarski_6 _N _x1 _x2 _x3 _v4 _v7 :=
  by kernel_rfl
noncomputable def keep_FixedTarski_7 (_N : Nat) (_x1 : Int × List Int) (_x2 : List Int) (_x3 : Int) (_v4 : Int) (_v5 : Int) (_v7 : Int) (_v8 : Int) : Option Rt_keep_FixedTarski :=
  keep_FixedTarski_5 _N _v5 _v8 (keep_FixedTarski_6 _N _x1 _x2 _x3 _v4 _v7)
theorem keep_FixedTarski_7e (_N : Nat) (_x1 : Int × List Int) (_x2 : List Int) (_x3 : Int) (_v4 : Int) (_v5 : Int) (_v7 : Int) (_v8 : Int) :
    exec (C_keep_FixedTarski _N) (cAt (bodyOf Tryd.f10) [1, 1, 1, 1]) (.two .none (.keep [1, 2, 3, 7, 10] 1 (.two .none (.two .none (.two (.draw 0 (.rd [0] :: .pure :: .pure :: .pure :: .pure :: .pure :: .pure :: .pure :: .pure :: .rd [0] :: .pure :: .pure :: .pure :: .pure :: .pure :: .rd [0] :: .pure :: .pure :: .pure :: .pure :: .pure :: .pure :: .pure :: .pure :: .rd [0] :: .pure :: .pure :: .pure :: .pure :: .pure :: .pure :: [])) .none))))) [(1, .sl (.int .i64) _x2), (2, .int .i64 _x3), (3, .ptr 0 0), (7, .int .i64 _v4), (9, .int .i64 _v5), (10, .int .i64 _v7), (12, .int .i64 _v8)] [.cells [.int .i64 _x1.1, .sl (.int .u32) _x1.2]] (canonR (fun _i _t _h => none) (finK (C_keep_FixedTarski _N) [.tmp 6] (finD Rk_keep_FixedTarski))) = keep_FixedTarski_7 _N _x1 _x2 _x3 _v4 _v5 _v7 _v8 :=
  (seq_frag (by kernel_rfl) rfl).trans ((keep_FixedTarski_5e _N _x1 _x2 _x3 _v4 _v5 _v7 _v8 (fun _t _h => exec (C_keep_FixedTarski _N) (cAt (bodyOf Tryd.f10) [1, 1, 1, 1, 1]) (.two .none (.two .none (.two (.draw 0 (.rd [0] :: .pure :: .pure :: .pure :: .pure :: .pure :: .pure :: .pure :: .pure :: .rd [0] :: .pure :: .pure :: .pure :: .pure :: .pure :: .rd [0] :: .pure :: .pure :: .pure :: .pure :: .pure :: .pure :: .pure :: .pure :: .rd [0] :: .pure :: .pure :: .pure :: .pure :: .pure :: .pure :: [])) .none))) _t _h (canonR (fun _i _t _h => none) (finK (C_keep_FixedTarski _N) [.tmp 6] (finD Rk_keep_FixedTarski))))).trans (congrArg (fun _z => keep_FixedTarski_5 _N _v5 _v8 _z) (keep_FixedTarski_6e _N _x1 _x2 _x3 _v4 _v5 _v7 _v8)))
noncomputable def keep_FixedTarski_8 (_N : Nat) (_x1 : Int × List Int) (_x2 : List Int) (_x3 : Int) (_v4 : Int) (_v5 : Int) : Option Rt_keep_FixedTarski :=
  keep_FixedTarski_4 _N _x1 _x2 (fun _v7 _v8 => keep_FixedTarski_7 _N _x1 _x2 _x3 _v4 _v5 _v7 _v8)
theorem keep_FixedTarski_8e (_N : Nat) (_x1 : Int × List Int) (_x2 : List Int) (_x3 : Int) (_v4 : Int) (_v5 : Int) :
    exec (C_keep_FixedTarski _N) (cAt (bodyOf Tryd.f10) [1, 1, 1]) (.two .none (.keep [1, 2, 3, 7, 9, 10, 12] 1 (.two .none (.keep [1, 2, 3, 7, 10] 1 (.two .none (.two .none (.two (.draw 0 (.rd [0] :: .pure :: .pure :: .pure :: .pure :: .pure :: .pure :: .pure :: .pure :: .rd [0] :: .pure :: .pure :: .pure :: .pure :: .pure :: .rd [0] :: .pure :: .pure :: .pure :: .pure :: .pure :: .pure :: .pure :: .pure :: .rd [0] :: .pure :: .pure :: .pure :: .pure :: .pure :: .pure :: [])) .none))))))) [(1, .sl (.int .i64) _x2), (2, .int .i64 _x3), (3, .ptr 0 0), (7, .int .i64 _v4), (9, .int .i64 _v5)] [.cells [.int .i64 _x1.1, .sl (.int .u32) _x1.2]] (canonR (fun _i _t _h => none) (finK (C_keep_FixedTarski _N) [.tmp 6] (finD Rk_keep_FixedTarski))) = keep_FixedTarski_8 _N _x1 _x2 _x3 _v4 _v5 :=
  (seq_frag (by kernel_rfl) rfl).trans ((keep_FixedTarski_4e _N _x1 _x2 _x3 _v4 _v5 (fun _t _h => exec (C_keep_FixedTarski _N) (cAt (bodyOf Tryd.f10) [1, 1, 1, 1]) (.two .none (.keep [1, 2, 3, 7, 10] 1 (.two .none (.two .none (.two (.draw 0 (.rd [0] :: .pure :: .pure :: .pure :: .pure :: .pure :: .pure :: .pure :: .pure :: .rd [0] :: .pure :: .pure :: .pure :: .pure :: .pure :: .rd [0] :: .pure :: .pure :: .pure :: .pure :: .pure :: .pure :: .pure :: .pure :: .rd [0] :: .pure :: .pure :: .pure :: .pure :: .pure :: .pure :: [])) .none))))) _t _h (canonR (fun _i _t _h => none) (finK (C_keep_FixedTarski _N) [.tmp 6] (finD Rk_keep_FixedTarski))))).trans (congrArg (fun _z => keep_FixedTarski_4 _N _x1 _x2 _z) (funext fun _v7 => funext fun _v8 => keep_FixedTarski_7e _N _x1 _x2 _x3 _v4 _v5 _v7 _v8)))
noncomputable def keep_FixedTarski_9 (_N : Nat) (_x1 : Int × List Int) (_x2 : List Int) (_x3 : Int) : Option Rt_keep_FixedTarski :=
  keep_FixedTarski_3 _N _x1 _x2 (fun _v4 _v5 => keep_FixedTarski_8 _N _x1 _x2 _x3 _v4 _v5)
theorem keep_FixedTarski_9e (_N : Nat) (_x1 : Int × List Int) (_x2 : List Int) (_x3 : Int) :
    exec (C_keep_FixedTarski _N) (cAt (bodyOf Tryd.f10) [1, 1]) (.two .none (.keep [1, 2, 3, 7, 9] 1 (.two .none (.keep [1, 2, 3, 7, 9, 10, 12] 1 (.two .none (.keep [1, 2, 3, 7, 10] 1 (.two .none (.two .none (.two (.draw 0 (.rd [0] :: .pure :: .pure :: .pure :: .pure :: .pure :: .pure :: .pure :: .pure :: .rd [0] :: .pure :: .pure :: .pure :: .pure :: .pure :: .rd [0] :: .pure :: .pure :: .pure :: .pure :: .pure :: .pure :: .pure :: .pure :: .rd [0] :: .pure :: .pure :: .pure :: .pure :: .pure :: .pure :: [])) .none))))))))) [(1, .sl (.int .i64) _x2), (2, .int .i64 _x3), (3, .ptr 0 0)] [.cells [.int .i64 _x1.1, .sl (.int .u32) _x1.2]] (canonR (fun _i _t _h => none) (finK (C_keep_FixedTarski _N) [.tmp 6] (finD Rk_keep_FixedTarski))) = keep_FixedTarski_9 _N _x1 _x2 _x3 :=
  (seq_frag (by kernel_rfl) rfl).trans ((keep_FixedTarski_3e _N _x1 _x2 _x3 (fun _t _h => exec (C_keep_FixedTarski _N) (cAt (bodyOf Tryd.f10) [1, 1, 1]) (.two .none (.keep [1, 2, 3, 7, 9, 10, 12] 1 (.two .none (.keep [1, 2, 3, 7, 10] 1 (.two .none (.two .none (.two (.draw 0 (.rd [0] :: .pure :: .pure :: .pure :: .pure :: .pure :: .pure :: .pure :: .pure :: .rd [0] :: .pure :: .pure :: .pure :: .pure :: .pure :: .rd [0] :: .pure :: .pure :: .pure :: .pure :: .pure :: .pure :: .pure :: .pure :: .rd [0] :: .pure :: .pure :: .pure :: .pure :: .pure :: .pure :: [])) .none))))))) _t _h (canonR (fun _i _t _h => none) (finK (C_keep_FixedTarski _N) [.tmp 6] (finD Rk_keep_FixedTarski))))).trans (congrArg (fun _z => keep_FixedTarski_3 _N _x1 _x2 _z) (funext fun _v4 => funext fun _v5 => keep_FixedTarski_8e _N _x1 _x2 _x3 _v4 _v5)))
noncomputable def keep_FixedTarski_10 (_N : Nat) (_x1 : Int × List Int) (_x2 : List Int) (_x3 : Int) : Option Rt_keep_FixedTarski :=
  keep_FixedTarski_2 _N _x1 _x2 (keep_FixedTarski_9 _N _x1 _x2 _x3)
theorem keep_FixedTarski_10e (_N : Nat) (_x1 : Int × List Int) (_x2 : List Int) (_x3 : Int) :
    exec (C_keep_FixedTarski _N) (cAt (bodyOf Tryd.f10) [1]) (.two .none (.keep [1, 2, 3] 1 (.two .none (.keep [1, 2, 3, 7, 9] 1 (.two .none (.keep [1, 2, 3, 7, 9, 10, 12] 1 (.two .none (.keep [1, 2, 3, 7, 10] 1 (.two .none (.two .none (.two (.draw 0 (.rd [0] :: .pure :: .pure :: .pure :: .pure :: .pure :: .pure :: .pure :: .pure :: .rd [0] :: .pure :: .pure :: .pure :: .pure :: .pure :: .rd [0] :: .pure :: .pure :: .pure :: .pure :: .pure :: .pure :: .pure :: .pure :: .rd [0] :: .pure :: .pure :: .pure :: .pure :: .pure :: .pure :: [])) .none))))))))))) [(1, .sl (.int .i64) _x2), (2, .int .i64 _x3), (3, .ptr 0 0)] [.cells [.int .i64 _x1.1, .sl (.int .u32) _x1.2]] (canonR (fun _i _t _h => none) (finK (C_keep_FixedTarski _N) [.tmp 6] (finD Rk_keep_FixedTarski))) = keep_FixedTarski_10 _N _x1 _x2 _x3 :=
  (seq_frag (by kernel_rfl) rfl).trans ((keep_FixedTarski_2e _N _x1 _x2 _x3 (fun _t _h => exec (C_keep_FixedTarski _N) (cAt (bodyOf Tryd.f10) [1, 1]) (.two .none (.keep [1, 2, 3, 7, 9] 1 (.two .none (.keep [1, 2, 3, 7, 9, 10, 12] 1 (.two .none (.keep [1, 2, 3, 7, 10] 1 (.two .none (.two .none (.two (.draw 0 (.rd [0] :: .pure :: .pure :: .pure :: .pure :: .pure :: .pure :: .pure :: .pure :: .rd [0] :: .pure :: .pure :: .pure :: .pure :: .pure :: .rd [0] :: .pure :: .pure :: .pure :: .pure :: .pure :: .pure :: .pure :: .pure :: .rd [0] :: .pure :: .pure :: .pure :: .pure :: .pure :: .pure :: [])) .none))))))))) _t _h (canonR (fun _i _t _h => none) (finK (C_keep_FixedTarski _N) [.tmp 6] (finD Rk_keep_FixedTarski))))).trans (congrArg (fun _z => keep_FixedTarski_2 _N _x1 _x2 _z) (keep_FixedTarski_9e _N _x1 _x2 _x3)))
noncomputable def keep_FixedTarski_11 (_N : Nat) (_x1 : Int × List Int) (_x2 : List Int) (_x3 : Int) : Option Rt_keep_FixedTarski :=
  keep_FixedTarski_1 _N (keep_FixedTarski_10 _N _x1 _x2 _x3)
theorem keep_FixedTarski_11e (_N : Nat) (_x1 : Int × List Int) (_x2 : List Int) (_x3 : Int) :
    exec (C_keep_FixedTarski _N) (cAt (bodyOf Tryd.f10) []) (.two .none (.keep [1, 2, 3] 1 (.two .none (.keep [1, 2, 3] 1 (.two .none (.keep [1, 2, 3, 7, 9] 1 (.two .none (.keep [1, 2, 3, 7, 9, 10, 12] 1 (.two .none (.keep [1, 2, 3, 7, 10] 1 (.two .none (.two .none (.two (.draw 0 (.rd [0] :: .pure :: .pure :: .pure :: .pure :: .pure :: .pure :: .pure :: .pure :: .rd [0] :: .pure :: .pure :: .pure :: .pure :: .pure :: .rd [0] :: .pure :: .pure :: .pure :: .pure :: .pure :: .pure :: .pure :: .pure :: .rd [0] :: .pure :: .pure :: .pure :: .pure :: .pure :: .pure :: [])) .none))))))))))))) [(0, .agg [.int .i64 _x1.1, .sl (.int .u32) _x1.2]), (1, .sl (.int .i64) _x2), (2, .int .i64 _x3)] [] (canonR (fun _i _t _h => none) (finK (C_keep_FixedTarski _N) [.tmp 6] (finD Rk_keep_FixedTarski))) = keep_FixedTarski_11 _N _x1 _x2 _x3 :=
  (seq_frag (by kernel_rfl) rfl).trans ((keep_FixedTarski_1e _N _x1 _x2 _x3 (fun _t _h => exec (C_keep_FixedTarski _N) (cAt (bodyOf Tryd.f10) [1]) (.two .none (.keep [1, 2, 3] 1 (.two .none (.keep [1, 2, 3, 7, 9] 1 (.two .none (.keep [1, 2, 3, 7, 9, 10, 12] 1 (.two .none (.keep [1, 2, 3, 7, 10] 1 (.two .none (.two .none (.two (.draw 0 (.rd [0] :: .pure :: .pure :: .pure :: .pure :: .pure :: .pure :: .pure :: .pure :: .rd [0] :: .pure :: .pure :: .pure :: .pure :: .pure :: .rd [0] :: .pure :: .pure :: .pure :: .pure :: .pure :: .pure :: .pure :: .pure :: .rd [0] :: .pure :: .pure :: .pure :: .pure :: .pure :: .pure :: [])) .none))))))))))) _t _h (canonR (fun _i _t _h => none) (finK (C_keep_FixedTarski _N) [.tmp 6] (finD Rk_keep_FixedTarski))))).trans (congrArg (fun _z => keep_FixedTarski_1 _N _z) (keep_FixedTarski_10e _N _x1 _x2 _x3)))
noncomputable def D_keep_FixedTarski (_N : Nat) (x : Dens Ks_keep_FixedTarski) : Option Rt_keep_FixedTarski := keep_FixedTarski_11 _N x.1 x.2.1 x.2.2.1
theorem E_keep_FixedTarski (_N : Nat) (x : Dens Ks_keep_FixedTarski) : exec (C_keep_FixedTarski _N) (bodyOf Tryd.f10) (.two .none (.keep [1, 2, 3] 1 (.two .none (.keep [1, 2, 3] 1 (.two .none (.keep [1, 2, 3, 7, 9] 1 (.two .none (.keep [1, 2, 3, 7, 9, 10, 12] 1 (.two .none (.keep [1, 2, 3, 7, 10] 1 (.two .none (.two .none (.two (.draw 0 (.rd [0] :: .pure :: .pure :: .pure :: .pure :: .pure :: .pure :: .pure :: .pure :: .rd [0] :: .pure :: .pure :: .pure :: .pure :: .pure :: .rd [0] :: .pure :: .pure :: .pure :: .pure :: .pure :: .pure :: .pure :: .pure :: .rd [0] :: .pure :: .pure :: .pure :: .pure :: .pure :: .pure :: [])) .none))))))))))))) (argS 0 (kvals Ks_keep_FixedTarski x)) [] (finK (C_keep_FixedTarski _N) [.tmp 6] (finD Rk_keep_FixedTarski)) = D_keep_FixedTarski _N x :=
  (congrArg (fun K => exec (C_keep_FixedTarski _N) (bodyOf Tryd.f10) (.two .none (.keep [1, 2, 3] 1 (.two .none (.keep [1, 2, 3] 1 (.two .none (.keep [1, 2, 3, 7, 9] 1 (.two .none (.keep [1, 2, 3, 7, 9, 10, 12] 1 (.two .none (.keep [1, 2, 3, 7, 10] 1 (.two .none (.two .none (.two (.draw 0 (.rd [0] :: .pure :: .pure :: .pure :: .pure :: .pure :: .pure :: .pure :: .pure :: .rd [0] :: .pure :: .pure :: .pure :: .pure :: .pure :: .rd [0] :: .pure :: .pure :: .pure :: .pure :: .pure :: .pure :: .pure :: .pure :: .rd [0] :: .pure :: .pure :: .pure :: .pure :: .pure :: .pure :: [])) .none))))))))))))) (argS 0 (kvals Ks_keep_FixedTarski x)) [] K) canonR_fin).trans (keep_FixedTarski_11e _N x.1 x.2.1 x.2.2.1)
theorem ok_keep_FixedTarski (_N : Nat) : CtxOk Tryd.prog Gs Tryd.f10 (C_keep_FixedTarski _N) := ⟨rfl, by unfold TOk; kernel_rfl, gOk_of rfl rfl (List.forall_mem_cons.2 ⟨en_keep_mapped _N, (List.forall_mem_cons.2 ⟨en_fixed_Check _N, (List.forall_mem_cons.2 ⟨en_fixed_Least _N, (List.forall_mem_cons.2 ⟨en_fixed_Greatest _N, (List.forall_mem_cons.2 ⟨en_keep_within _N, (List.forall_mem_cons.2 ⟨en_keep_below _N, (List.forall_mem_nil _)⟩)⟩)⟩)⟩)⟩)⟩), iOk_of rfl rfl (List.forall_mem_nil _), rfl⟩
theorem hb_keep_FixedTarski : HasBody Tryd.prog 10 := ⟨Tryd.f10, bodyOf Tryd.f10, by kernel_rfl, by kernel_rfl, rfl⟩
theorem sp_keep_FixedTarski (_N : Nat) : SpecD Tryd.prog Gs 10 Ks_keep_FixedTarski Rk_keep_FixedTarski (D_keep_FixedTarski _N) := specD_of (c := bodyOf Tryd.f10) (by kernel_rfl) rfl (by kernel_rfl) (Nat.le_of_ble_eq_true (by kernel_rfl)) fun x y _h => ⟨C_keep_FixedTarski _N, (.two .none (.keep [1, 2, 3] 1 (.two .none (.keep [1, 2, 3] 1 (.two .none (.keep [1, 2, 3, 7, 9] 1 (.two .none (.keep [1, 2, 3, 7, 9, 10, 12] 1 (.two .none (.keep [1, 2, 3, 7, 10] 1 (.two .none (.two .none (.two (.draw 0 (.rd [0] :: .pure :: .pure :: .pure :: .pure :: .pure :: .pure :: .pure :: .pure :: .rd [0] :: .pure :: .pure :: .pure :: .pure :: .pure :: .rd [0] :: .pure :: .pure :: .pure :: .pure :: .pure :: .pure :: .pure :: .pure :: .rd [0] :: .pure :: .pure :: .pure :: .pure :: .pure :: .pure :: [])) .none))))))))))))), ok_keep_FixedTarski _N, (E_keep_FixedTarski _N x).trans _h⟩
theorem en_keep_FixedTarski (_N : Nat) : EntOk Tryd.prog Gs (mkP 10 Ks_keep_FixedTarski Rk_keep_FixedTarski (D_keep_FixedTarski _N)) := entP hb_keep_FixedTarski (by kernel_rfl) (sp_keep_FixedTarski _N)
theorem law_FixedTarski (o : Int × List Int) (f : List Int) (x : Int) (ho : wfS (.pair (.int .i64) (.sl (.int .u32))) o) (hf : wfS (.sl (.int .i64)) f) (_ : wfS (.int .i64) x) : ∃ N, D_keep_FixedTarski N (o, f, x, ()) = some (true, ()) := by
  obtain ⟨n, up⟩ := o
  have hw : WL up := WL_of ho.2
  have hl : f.length ≤ 9223372036854775807 := hf.1
  refine ⟨1000 + f.length, ?_⟩
  have hN : 1000 ≤ 1000 + f.length := by omega
  have hfN : f.length < 1000 + f.length := by omega
  generalize 1000 + f.length = N at hN hfN
  obtain ⟨b1, m1, m2⟩ := mapped_eq hN hfN hl hw (n := n)
  obtain ⟨e1, c1, c2⟩ := fCheck_eq hN hfN hl hw (n := n)
  simp only [D_keep_FixedTarski, keep_FixedTarski_11, keep_FixedTarski_10, keep_FixedTarski_2, keep_FixedTarski_1, m1, Option.bind_some]
  rcases bcase m2 with ⟨-, rfl⟩ | ⟨hno, rfl⟩
  case inr =>
    have : (e1 != 0) = true := bne_iff_ne.2 fun e => hno (c2.1 e)
    simp only [Bool.not_false, cond_true, c1, Option.bind_some, this]
  simp only [Bool.not_true, cond_false, keep_FixedTarski_9, keep_FixedTarski_8, keep_FixedTarski_7, keep_FixedTarski_5, keep_FixedTarski_4, keep_FixedTarski_3]
  rcases LG_spec hN hfN hl hw (n := n) with ⟨e, he, q1, q2, -⟩ | ⟨m, J, M, b, t, p, k, y, l, rfl, hm, hlu, ho, hL, hmp, q1, q2, sp, sy⟩
  · simp only [q1, q2, Option.bind_some, show (e != 0) = true from bne_iff_ne.2 he, cond_true, beq_self_eq_true]
  have hp := sp.lt
  have hy := sy.lt
  have hlen := hmp.len
  obtain ⟨w1, p1, p2⟩ := within_eq (N := N) (n := (m : Int)) (xs := [(p : Int), (y : Int)]) (by simp; omega) (by simp)
  obtain rfl := p2.2 (by simp; omega)
  obtain ⟨w2, r1, r2⟩ := within_eq (N := N) (n := (m : Int)) (xs := [x]) (by simp; omega) (by simp)
  have hbel : ∀ i j : Nat, i < m → j < m → D_keep_below N (((m : Int), up), (i : Int), (j : Int), ()) = some (bt (nth 0 up i) j, ()) := fun i j hi hj => kbelow_eq N hw (by omega) (by omega)
  have hpy : bt (nth 0 up p) y = true := sp.least y hy (by rw [sy.stays]; exact ho.refl y (by omega))
  simp only [q1, q2, Option.bind_some, bne_self_eq_false, cond_false, keep_FixedTarski_6, p1, Bool.not_true, ge0_d, lt_d (show p < f.length by omega), lt_d (show y < f.length by omega), Bool.and_self, cond_true, Int.toNat_natCast, hmp.val p hp, hmp.val y hy, sp.stays, sy.stays, hbel p y hp hy, hpy, r1]
  cases w2 with
  | false => rfl
  | true =>
    have hx := r2.1 rfl
    simp only [List.mem_cons, List.not_mem_nil, or_false, forall_eq] at hx
    obtain ⟨x, rfl⟩ : ∃ a : Nat, x = (a : Int) := ⟨x.toNat, by omega⟩
    have hx : x < m := by omega
    have hfx := hmp.lt x hx
    simp only [ge0_d, lt_d (show x < f.length by omega), Bool.and_self, cond_true, Int.toNat_natCast, hmp.val x hx, hbel _ _ hfx hx, hbel _ _ hx hfx, hbel p x hp hx, hbel x y hx hy, Option.bind_some, Bool.not_true, cond_false]
    have g1 : bt (nth 0 up (fm f x)) x = true → bt (nth 0 up p) x = true := fun e => sp.least x hx e
    have g2 : bt (nth 0 up x) (fm f x) = true → bt (nth 0 up x) y = true := fun e => sy.least x hx e
    cases h1 : bt (nth 0 up (fm f x)) x with
    | false =>
      cases h2 : bt (nth 0 up x) (fm f x) with
      | false => rfl
      | true => rw [g2 h2]; rfl
    | true =>
      rw [g1 h1]
      cases h2 : bt (nth 0 up x) (fm f x) with
      | false => rfl
      | true => rw [g2 h2]; rfl
set_option maxRecDepth 100000 in
theorem lifted_FixedTarski (os : Os) (started : os.Started) (H : Type) (enc : TypeId × Value → H) :
    ReturnsInHanded {} Tryd.checked os 10 .any (fun w args => (Rows.fixedTarskiSpec.pre enc Tryd.prog Tryd.f10 [] false w args ∧ laidMetH Tryd.prog Rows.fixedTarskiRow.laid w) ∧ sizedMet enc Tryd.prog Tryd.f10 (OpenSpec.ofChange Rows.fixedTarskiSpec) false w args) (Rows.fixedTarskiSpec.post enc Tryd.prog Tryd.f10 false true false false) := by
  refine returnsInHanded_of_change_and (C := Tryd.checked) (X := fun w _ => laidMetH Tryd.prog Rows.fixedTarskiRow.laid w) (fun _ _ _ hh h => h.of_heap hh) own started (by kernel_rfl) Tryd.func10
    (ChangeSpec.witness_shaped (enc := enc) (C := Tryd.checked) (os := os) (X := fun w _ => laidMetH Tryd.prog Rows.fixedTarskiRow.laid w) false (World.doorLaid Tryd.prog 400 os) #[.agg #[.int .i64 0, .slice none 0 0], .slice none 0 0, .int .i64 0] 8 rfl (World.shaped_of_RefB (by kernel_rfl) (by kernel_rfl)) (by kernel_rfl) (by kernel_rfl) (by kernel_rfl) (door_met os _)) ?_
  intro W base args ds gs before hval0 hW _ hsz0 hL _
  have hgw : GW Gs W := gw_of hL
  have hval : ∀ (j : Nat) t v, Tryd.f10.params[j]? = some t → args[j]? = some v → Value.okWide Tryd.prog W .any base t v := hval0
  have hW' := hW
  obtain ⟨p, q, hA0, hV, rfl, _, _⟩ := hW
  have hA : DataW.TrodAll enc Tryd.prog W 0 (fun _ => true) true Tryd.f10.params.toList args.toList ds p := hA0
  rw [Tryd.params10] at hA hval
  obtain ⟨v0, vs0, d0, ds0, p0, q0, hargs, rfl, rfl, h0, r0⟩ := trodAll_cons hA
  obtain ⟨v1, vs1, d1, ds1, p1, q1, rfl, rfl, rfl, h1, r1⟩ := trodAll_cons r0
  obtain ⟨v2, vs2, d2, ds2, p2, q2, rfl, rfl, rfl, h2, r2⟩ := trodAll_cons r1
  obtain ⟨rfl, rfl, rfl⟩ := trodAll_nil r2
  obtain rfl : args = #[v0, v1, v2] := by cases args; simp_all
  obtain ⟨rfl, rfl⟩ := trodVars_none hV
  clear hA0 hval0 hsz0
  simp only [List.append_nil] at hW'
  have hlt0 : ∀ x ∈ p0, x.block < W.heap.size := fun x hx => hW'.lt x (by simp [hx])
  have hlt1 : ∀ x ∈ p1, x.block < W.heap.size := fun x hx => hW'.lt x (by simp [hx])
  have hlt2 : ∀ x ∈ p2, x.block < W.heap.size := fun x hx => hW'.lt x (by simp [hx])
  obtain ⟨x0, g0, w0⟩ := open_kd (k := .dat (.pair (.int .i64) (.sl (.int .u32)))) (by kernel_rfl) (hval 0 24 v0 rfl rfl) h0
  obtain ⟨x1, g1, w1⟩ := open_kd (k := .dat (.sl (.int .i64))) (by kernel_rfl) (hval 1 25 v1 rfl rfl) h1
  obtain ⟨x2, g2, w2⟩ := open_kd (k := .dat (.int .i64)) (by kernel_rfl) (hval 2 3 v2 rfl rfl) h2
  obtain ⟨N, hN⟩ := law_FixedTarski x0 x1 x2 w0 w1 w2
  refine (sp_keep_FixedTarski N (fun _ => False) W (x0, x1, x2, ()) (true, ()) [v0, v1, v2] (fun _ h => h.elim) hgw ⟨v0, _, rfl, g0, ⟨v1, _, rfl, g1, ⟨v2, _, rfl, g2, rfl⟩⟩⟩ hN).mono ?_
  rintro e W' ⟨v, rfl, hg, hr⟩
  have hr : v = .bool true := by simpa only [kvals, retV, Kd.val, Go.Abs.enc, RV] using hr
  subst hr
  exact ⟨_, rfl, _, _, _, [], p0 ++ (p1 ++ (p2 ++ [])), [], hW', (trodAll_cons_mk (shut_bool (show Tryd.prog.underlying 4 = some .bool by kernel_rfl) _) trodAll_mk0), (trodAll_cons_mk (Below.trod laidOut (by kernel_rfl) (of_decide_eq_true (by kernel_rfl)) h0 hg hlt0) (trodAll_cons_mk (Below.trod laidOut (by kernel_rfl) (of_decide_eq_true (by kernel_rfl)) h1 hg hlt1) (trodAll_cons_mk (Below.trod laidOut (by kernel_rfl) (of_decide_eq_true (by kernel_rfl)) h2 hg hlt2) trodAll_mk0))), rfl, hg.frame _, fun h => by cases h⟩

/-- The statement: whatever the arguments, the law's function returns true and leaves them as they were. -/
theorem fixedTarski_holds : Rows.FixedTarskiSaid :=
  OpenClaim.holds_of_wide 10 Tryd.f10 rfl rfl rfl rfl rfl rfl rfl ⟨rfl, rfl, rfl, rfl, rfl⟩ rfl rfl rfl rfl rfl (by kernel_rfl) Tryd.func10 (by kernel_rfl)
    (of_decide_eq_true (by kernel_rfl)) (by unfold Func.isWrapper; first | (rw [if_pos (by decide +kernel)]; kernel_rfl) | (rw [if_neg (by decide +kernel)]; exact ⟨rfl, rfl⟩))
    (fun os started H enc _ => lifted_FixedTarski os started H enc)
/-- The statement's card: the variable that the road reads is tied to the program's text. -/
theorem fixedTarski_card : Rows.FixedTarskiCardSaid :=
  Claim7.holds_tied_plain_at .later [] [.data] true (true, "f7a6d2b8554754a98a473bd2733a624cf4bb6698be02ac50fe61eaa0509daf44") false fixedTarski_holds (fun _ h => by cases h) (by kernel_rfl) (fun _ h => by cases h) fixedTarski_row_tie rfl ⟨rfl, rfl⟩ (by kernel_rfl) rfl
    (fun f fn hf hfn => by
      obtain rfl : f = 10 := Option.some.inj ((show Tryd.prog.funcNamed "watershed/watershedkeep.FixedTarski" = some 10 by kernel_rfl).symm.trans hf) |>.symm
      obtain rfl : fn = Tryd.f10 := (Option.some.inj (Tryd.func10.symm.trans hfn)).symm
      exact ⟨by kernel_rfl, fun j t ht => by
        have h3 := List.all_eq_true.1 (show (Tryd.f10.params.toList.all fun t => !(Tryd.prog.wantsStandIn t)) = true by kernel_rfl) t (by rw [← Array.getElem?_toList] at ht; exact List.mem_of_getElem? ht)
        have h4 : Tryd.prog.wantsStandIn t = false := by simpa using h3
        exact h4⟩)
    (by kernel_rfl)
end Go.Proofs.YtdbjfdjpmoackaaDoor
