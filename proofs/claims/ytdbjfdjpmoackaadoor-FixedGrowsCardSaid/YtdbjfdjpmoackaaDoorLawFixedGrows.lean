/- If one map makes of no element what is not below what another makes of it, what comes of Bottom by the one is below what comes of it by the other: the law answers true for every order and any two maps. No condition. -/
import Derived.Test.YtdbjfdjpmoackaaDoorFixedS
import Derived.Test.YtdbjfdjpmoackaaDoorFrame
namespace Go.Proofs.YtdbjfdjpmoackaaDoor
open Go Go.ChangeShapes Go.WideShapes Go.ChangeAt Go.WideMaps Go.WideElems Go.RowKit Go.Abs
-- watershed/watershedkeep.FixedGrows
abbrev Ks_keep_FixedGrows : List Kd := [.dat (.pair (.int .i64) (.sl (.int .u32))), .dat (.sl (.int .i64)), .dat (.sl (.int .i64))]
abbrev Rk_keep_FixedGrows : List Kd := [.dat (.bool)]
abbrev Rt_keep_FixedGrows : Type := Dens Rk_keep_FixedGrows
def T_keep_FixedGrows : List (Nat × TE) := [(3, ⟨.int .i64, 1, 8, some (.int .i64), [.int .i64 (0 : Int)]⟩),
  (24, ⟨.struct [(0, 3), (1, 22)], 2, 32, some (.pair (.int .i64) (.sl (.int .u32))), [.int .i64 (0 : Int), .nil]⟩),
  (25, ⟨.slice 3, 1, 24, some (.sl (.int .i64)), [.nil]⟩)]
noncomputable def C_keep_FixedGrows (_N : Nat) : Ctx := { T := T_keep_FixedGrows, G := findE [mkP 29 Ks_keep_mapped Rk_keep_mapped (D_keep_mapped _N), mkP 30 Ks_fixed_Check Rk_fixed_Check (D_fixed_Check _N), mkP 31 Ks_fixed_Least Rk_fixed_Least (D_fixed_Least _N), mkP 25 Ks_keep_below Rk_keep_below (D_keep_below _N), mkP 20 Ks_keep_within Rk_keep_within (D_keep_within _N)], I := findI [], N := _N, n := 104, fx := [], fl := 0, gs := Gs }
noncomputable def keep_FixedGrows_1 (_N : Nat) (_k22 : Option Rt_keep_FixedGrows) : Option Rt_keep_FixedGrows :=
  _k22
theorem keep_FixedGrows_1e (_N : Nat) (_x1 : Int × List Int) (_x2 : List Int) (_x3 : List Int) (_k22 : Slots → List O → Option Rt_keep_FixedGrows) :
    exec (C_keep_FixedGrows _N) (cAt (bodyOf Tryd.f12) [0]) .none [(0, .agg [.int .i64 _x1.1, .sl (.int .u32) _x1.2]), (1, .sl (.int .i64) _x2), (2, .sl (.int .i64) _x3)] [] (canonK [] _k22 [1, 2, 3] 1 (fun _i _t _h => none) (fun _t _h => finK (C_keep_FixedGrows _N) [.tmp 6] (finD Rk_keep_FixedGrows) .ret _t _h)) = keep_FixedGrows_1 _N (_k22 [(1, .sl (.int .i64) _x2), (2, .sl (.int .i64) _x3), (3, .ptr 0 0)] [.cells [.int .i64 _x1.1, .sl (.int .u32) _x1.2]]) :=
  by kernel_rfl
noncomputable def keep_FixedGrows_2 (_N : Nat) (_x1 : Int × List Int) (_x2 : List Int) (_x3 : List Int) (_k23 : Option Rt_keep_FixedGrows) : Option Rt_keep_FixedGrows :=
  ((D_keep_mapped _N ((_x1.1, _x1.2), _x2, ())).bind fun _y24 => (bif (!_y24.1) then ((D_fixed_Check _N ((_x1.1, _x1.2), _x2, ())).bind fun _y25 => (bif (_y25.1 != (0 : Int)) then (some (true, ())) else ((D_fixed_Check _N ((_x1.1, _x1.2), _x3, ())).bind fun _y26 => (some ((_y26.1 != (0 : Int)), ()))))) else ((D_keep_mapped _N ((_x1.1, _x1.2), _x3, ())).bind fun _y27 => (bif (!_y27.1) then ((D_fixed_Check _N ((_x1.1, _x1.2), _x2, ())).bind fun _y28 => (bif (_y28.1 != (0 : Int)) then (some (true, ())) else ((D_fixed_Check _N ((_x1.1, _x1.2), _x3, ())).bind fun _y29 => (some ((_y29.1 != (0 : Int)), ()))))) else _k23))))
theorem keep_FixedGrows_2e (_N : Nat) (_x1 : Int × List Int) (_x2 : List Int) (_x3 : List Int) (_k23 : Slots → List O → Option Rt_keep_FixedGrows) :
    exec (C_keep_FixedGrows _N) (cAt (bodyOf Tryd.f12) [1, 0]) .none [(1, .sl (.int .i64) _x2), (2, .sl (.int .i64) _x3), (3, .ptr 0 0)] [.cells [.int .i64 _x1.1, .sl (.int .u32) _x1.2]] (canonK [] _k23 [1, 2, 3] 1 (fun _i _t _h => none) (fun _t _h => finK (C_keep_FixedGrows _N) [.tmp 6] (finD Rk_keep_FixedGrows) .ret _t _h)) = keep_FixedGrows_2 _N _x1 _x2 _x3 (_k23 [(1, .sl (.int .i64) _x2), (2, .sl (.int .i64) _x3), (3, .ptr 0 0)] [.cells [.int .i64 _x1.1, .sl (.int .u32) _x1.2]]) :=
  by kernel_rfl
noncomputable def keep_FixedGrows_3 (_N : Nat) (_x1 : Int × List Int) (_x2 : List Int) (_k30 : Int → Int → Option Rt_keep_FixedGrows) : Option Rt_keep_FixedGrows :=
  ((D_fixed_Least _N ((_x1.1, _x1.2), _x2, ())).bind fun _y31 => (_k30 _y31.1 _y31.2.2.1))
theorem keep_FixedGrows_3e (_N : Nat) (_x1 : Int × List Int) (_x2 : List Int) (_x3 : List Int) (_k30 : Slots → List O → Option Rt_keep_FixedGrows) :
    exec (C_keep_FixedGrows _N) (cAt (bodyOf Tryd.f12) [1, 1, 0]) .none [(1, .sl (.int .i64) _x2), (2, .sl (.int .i64) _x3), (3, .ptr 0 0)] [.cells [.int .i64 _x1.1, .sl (.int .u32) _x1.2]] (canonK [] _k30 [1, 2, 3, 7, 9] 1 (fun _i _t _h => none) (fun _t _h => finK (C_keep_FixedGrows _N) [.tmp 6] (finD Rk_keep_FixedGrows) .ret _t _h)) = keep_FixedGrows_3 _N _x1 _x2 (fun _v8 _v9 => _k30 [(1, .sl (.int .i64) _x2), (2, .sl (.int .i64) _x3), (3, .ptr 0 0), (7, .int .i64 _v8), (9, .int .i64 _v9)] [.cells [.int .i64 _x1.1, .sl (.int .u32) _x1.2]]) :=
  by kernel_rfl
noncomputable def keep_FixedGrows_4 (_N : Nat) (_x1 : Int × List Int) (_x3 : List Int) (_k32 : Int → Int → Option Rt_keep_FixedGrows) : Option Rt_keep_FixedGrows :=
  ((D_fixed_Least _N ((_x1.1, _x1.2), _x3, ())).bind fun _y33 => (_k32 _y33.1 _y33.2.2.1))
theorem keep_FixedGrows_4e (_N : Nat) (_x1 : Int × List Int) (_x2 : List Int) (_x3 : List Int) (_v8 : Int) (_v9 : Int) (_k32 : Slots → List O → Option Rt_keep_FixedGrows) :
    exec (C_keep_FixedGrows _N) (cAt (bodyOf Tryd.f12) [1, 1, 1, 0]) .none [(1, .sl (.int .i64) _x2), (2, .sl (.int .i64) _x3), (3, .ptr 0 0), (7, .int .i64 _v8), (9, .int .i64 _v9)] [.cells [.int .i64 _x1.1, .sl (.int .u32) _x1.2]] (canonK [] _k32 [1, 2, 3, 7, 9, 10, 12] 1 (fun _i _t _h => none) (fun _t _h => finK (C_keep_FixedGrows _N) [.tmp 6] (finD Rk_keep_FixedGrows) .ret _t _h)) = keep_FixedGrows_4 _N _x1 _x3 (fun _v11 _v12 => _k32 [(1, .sl (.int .i64) _x2), (2, .sl (.int .i64) _x3), (3, .ptr 0 0), (7, .int .i64 _v8), (9, .int .i64 _v9), (10, .int .i64 _v11), (12, .int .i64 _v12)] [.cells [.int .i64 _x1.1, .sl (.int .u32) _x1.2]]) :=
  by kernel_rfl
noncomputable def keep_FixedGrows_5 (_N : Nat) (_v9 : Int) (_v12 : Int) (_k34 : Option Rt_keep_FixedGrows) : Option Rt_keep_FixedGrows :=
  (bif (_v9 != (0 : Int)) then (some (true, ())) else (bif (_v12 != (0 : Int)) then (some (true, ())) else _k34))
theorem keep_FixedGrows_5e (_N : Nat) (_x1 : Int × List Int) (_x2 : List Int) (_x3 : List Int) (_v8 : Int) (_v9 : Int) (_v11 : Int) (_v12 : Int) (_k34 : Slots → List O → Option Rt_keep_FixedGrows) :
    exec (C_keep_FixedGrows _N) (cAt (bodyOf Tryd.f12) [1, 1, 1, 1, 0]) .none [(1, .sl (.int .i64) _x2), (2, .sl (.int .i64) _x3), (3, .ptr 0 0), (7, .int .i64 _v8), (9, .int .i64 _v9), (10, .int .i64 _v11), (12, .int .i64 _v12)] [.cells [.int .i64 _x1.1, .sl (.int .u32) _x1.2]] (canonK [] _k34 [1, 2, 3, 7, 10] 1 (fun _i _t _h => none) (fun _t _h => finK (C_keep_FixedGrows _N) [.tmp 6] (finD Rk_keep_FixedGrows) .ret _t _h)) = keep_FixedGrows_5 _N _v9 _v12 (_k34 [(1, .sl (.int .i64) _x2), (2, .sl (.int .i64) _x3), (3, .ptr 0 0), (7, .int .i64 _v8), (10, .int .i64 _v11)] [.cells [.int .i64 _x1.1, .sl (.int .u32) _x1.2]]) :=
  by kernel_rfl
noncomputable def keep_FixedGrows_6 (_N : Nat) (_k35 : Option Rt_keep_FixedGrows) : Option Rt_keep_FixedGrows :=
  _k35
theorem keep_FixedGrows_6e (_N : Nat) (_x1 : Int × List Int) (_x2 : List Int) (_x3 : List Int) (_v8 : Int) (_v9 : Int) (_v11 : Int) (_v12 : Int) (_k35 : Slots → List O → Option Rt_keep_FixedGrows) :
    exec (C_keep_FixedGrows _N) (cAt (bodyOf Tryd.f12) [1, 1, 1, 1, 1, 0]) .none [(1, .sl (.int .i64) _x2), (2, .sl (.int .i64) _x3), (3, .ptr 0 0), (7, .int .i64 _v8), (10, .int .i64 _v11)] [.cells [.int .i64 _x1.1, .sl (.int .u32) _x1.2]] (canonK [] _k35 [1, 2, 3, 7, 10, 13] 1 (fun _i _t _h => none) (fun _t _h => finK (C_keep_FixedGrows _N) [.tmp 6] (finD Rk_keep_FixedGrows) .ret _t _h)) = keep_FixedGrows_6 _N (_k35 [(1, .sl (.int .i64) _x2), (2, .sl (.int .i64) _x3), (3, .ptr 0 0), (7, .int .i64 _v8), (10, .int .i64 _v11), (13, .bool true)] [.cells [.int .i64 _x1.1, .sl (.int .u32) _x1.2]]) :=
  by kernel_rfl
noncomputable def keep_FixedGrows_7 (_N : Nat) (_k37 : Option Rt_keep_FixedGrows) : Option Rt_keep_FixedGrows :=
  _k37
theorem keep_FixedGrows_7e (_N : Nat) (_x1 : Int × List Int) (_x2 : List Int) (_x3 : List Int) (_v8 : Int) (_v9 : Int) (_v11 : Int) (_v12 : Int) (_k37 : Slots → List O → Option Rt_keep_FixedGrows) :
    exec (C_keep_FixedGrows _N) (cAt (bodyOf Tryd.f12) [1, 1, 1, 1, 1, 1, 0, 0]) .none [(1, .sl (.int .i64) _x2), (2, .sl (.int .i64) _x3), (3, .ptr 0 0), (7, .int .i64 _v8), (10, .int .i64 _v11), (13, .bool true)] [.cells [.int .i64 _x1.1, .sl (.int .u32) _x1.2]] (canonK [] _k37 [1, 2, 3, 7, 10, 13, 14] 1 (fun _i _t _h => none) (fun _t _h => finK (C_keep_FixedGrows _N) [.tmp 6] (finD Rk_keep_FixedGrows) .ret _t _h)) = keep_FixedGrows_7 _N (_k37 [(1, .sl (.int .i64) _x2), (2, .sl (.int .i64) _x3), (3, .ptr 0 0), (7, .int .i64 _v8), (10, .int .i64 _v11), (13, .bool true), (14, .int .i64 (0 : Int))] [.cells [.int .i64 _x1.1, .sl (.int .u32) _x1.2]]) :=
  by kernel_rfl
noncomputable def keep_FixedGrows_8 (_N : Nat) (_x1 : Int × List Int) (_x2 : List Int) (_x3 : List Int) (_v14 : Bool) (_v15 : Int) (_k38 : Bool → Int → Option Rt_keep_FixedGrows) (_k36 : Bool → Option Rt_keep_FixedGrows) : Option Rt_keep_FixedGrows :=
  (bif (decide (_v15 < _x1.1)) then (bif (decide (0 ≤ _v15) && decide (_v15 < (_x2.length : Int))) then (bif (decide (0 ≤ _v15) && decide (_v15 < (_x3.length : Int))) then ((D_keep_below _N ((_x1.1, _x1.2), (nth (0 : Int) _x2 (_v15).toNat), (nth (0 : Int) _x3 (_v15).toNat), ())).bind fun _y39 => (bif (!_y39.1) then (_k38 false (IntKind.i64.wrap (_v15 + (1 : Int)))) else (_k38 _v14 (IntKind.i64.wrap (_v15 + (1 : Int)))))) else none) else none) else (_k36 _v14))
theorem keep_FixedGrows_8e (_N : Nat) (_x1 : Int × List Int) (_x2 : List Int) (_x3 : List Int) (_v8 : Int) (_v9 : Int) (_v11 : Int) (_v12 : Int) (_v14 : Bool) (_v15 : Int) (_k38 _k36 : Slots → List O → Option Rt_keep_FixedGrows) :
    exec (C_keep_FixedGrows _N) (cAt (bodyOf Tryd.f12) [1, 1, 1, 1, 1, 1, 0, 1, 0, 0]) (.two .none (.two (.one (.two (.draw 0 [.rd [0], .pure, .pure, .pure, .pure, .pure, .pure, .pure, .pure, .pure, .pure]) .none)) .none)) [(1, .sl (.int .i64) _x2), (2, .sl (.int .i64) _x3), (3, .ptr 0 0), (7, .int .i64 _v8), (10, .int .i64 _v11), (13, .bool _v14), (14, .int .i64 _v15)] [.cells [.int .i64 _x1.1, .sl (.int .u32) _x1.2]] (canonK [] _k38 [1, 2, 3, 7, 10, 13, 14] 1 (fun _i _t _h => bif Nat.beq _i 0 then _k36 (cvT [] [1, 2, 3, 7, 10, 13] 1 _t _h) (cvH [] 1 _h) else none) (fun _t _h => finK (C_keep_FixedGrows _N) [.tmp 6] (finD Rk_keep_FixedGrows) .ret _t _h)) = keep_FixedGrows_8 _N _x1 _x2 _x3 _v14 _v15 (fun _v14 _v15 => _k38 [(1, .sl (.int .i64) _x2), (2, .sl (.int .i64) _x3), (3, .ptr 0 0), (7, .int .i64 _v8), (10, .int .i64 _v11), (13, .bool _v14), (14, .int .i64 _v15)] [.cells [.int .i64 _x1.1, .sl (.int .u32) _x1.2]]) (fun _v19 => _k36 [(1, .sl (.int .i64) _x2), (2, .sl (.int .i64) _x3), (3, .ptr 0 0), (7, .int .i64 _v8), (10, .int .i64 _v11), (13, .bool _v19)] [.cells [.int .i64 _x1.1, .sl (.int .u32) _x1.2]]) :=
  by kernel_rfl
noncomputable def keep_FixedGrows_9 (_N : Nat) (_x1 : Int × List Int) (_x2 : List Int) (_x3 : List Int) (_k36 : Bool → Option Rt_keep_FixedGrows) : Option Rt_keep_FixedGrows :=
  loopD (fun (_s : Bool × Int) _kn => keep_FixedGrows_8 _N _x1 _x2 _x3 _s.1 _s.2 (fun _v14 _v15 => _kn (_v14, _v15)) _k36) _N (true, (0 : Int))
theorem keep_FixedGrows_9e (_N : Nat) (_x1 : Int × List Int) (_x2 : List Int) (_x3 : List Int) (_v8 : Int) (_v9 : Int) (_v11 : Int) (_v12 : Int) (_k36 : Slots → List O → Option Rt_keep_FixedGrows) :
    exec (C_keep_FixedGrows _N) (cAt (bodyOf Tryd.f12) [1, 1, 1, 1, 1, 1, 0, 1, 0]) (.loop [1, 2, 3, 7, 10, 13, 14] 1 (.two .none (.two (.one (.two (.draw 0 [.rd [0], .pure, .pure, .pure, .pure, .pure, .pure, .pure, .pure, .pure, .pure]) .none)) .none))) [(1, .sl (.int .i64) _x2), (2, .sl (.int .i64) _x3), (3, .ptr 0 0), (7, .int .i64 _v8), (10, .int .i64 _v11), (13, .bool true), (14, .int .i64 (0 : Int))] [.cells [.int .i64 _x1.1, .sl (.int .u32) _x1.2]] (canonK [] _k36 [1, 2, 3, 7, 10, 13] 1 (fun _i _t _h => bif Nat.beq _i 0 then _k36 (cvT [] [1, 2, 3, 7, 10, 13] 1 _t _h) (cvH [] 1 _h) else none) (fun _t _h => finK (C_keep_FixedGrows _N) [.tmp 6] (finD Rk_keep_FixedGrows) .ret _t _h)) = keep_FixedGrows_9 _N _x1 _x2 _x3 (fun _v19 => _k36 [(1, .sl (.int .i64) _x2), (2, .sl (.int .i64) _x3), (3, .ptr 0 0), (7, .int .i64 _v8), (10, .int .i64 _v11), (13, .bool _v19)] [.cells [.int .i64 _x1.1, .sl (.int .u32) _x1.2]]) :=
  (loop_frag (by kernel_rfl) rfl (by kernel_rfl) (by kernel_rfl)).trans (loopN_sim (S := Bool × Int) (fun _s => [(1, .sl (.int .i64) _x2), (2, .sl (.int .i64) _x3), (3, .ptr 0 0), (7, .int .i64 _v8), (10, .int .i64 _v11), (13, .bool _s.1), (14, .int .i64 _s.2)]) (fun _s => [.cells [.int .i64 _x1.1, .sl (.int .u32) _x1.2]]) (fun _s _kn => keep_FixedGrows_8e _N _x1 _x2 _x3 _v8 _v9 _v11 _v12 _s.1 _s.2 _kn _k36) _N (true, (0 : Int)))
noncomputable def keep_FixedGrows_10 (_N : Nat) (_x1 : Int × List Int) (_x2 : List Int) (_x3 : List Int) (_k36 : Bool → Option Rt_keep_FixedGrows) : Option Rt_keep_FixedGrows :=
  keep_FixedGrows_9 _N _x1 _x2 _x3 _k36
theorem keep_FixedGrows_10e (_N : Nat) (_x1 : Int × List Int) (_x2 : List Int) (_x3 : List Int) (_v8 : Int) (_v9 : Int) (_v11 : Int) (_v12 : Int) (_k36 : Slots → List O → Option Rt_keep_FixedGrows) :
    exec (C_keep_FixedGrows _N) (cAt (bodyOf Tryd.f12) [1, 1, 1, 1, 1, 1, 0, 1]) (.one (.loop [1, 2, 3, 7, 10, 13, 14] 1 (.two .none (.two (.one (.two (.draw 0 [.rd [0], .pure, .pure, .pure, .pure, .pure, .pure, .pure, .pure, .pure, .pure]) .none)) .none)))) [(1, .sl (.int .i64) _x2), (2, .sl (.int .i64) _x3), (3, .ptr 0 0), (7, .int .i64 _v8), (10, .int .i64 _v11), (13, .bool true), (14, .int .i64 (0 : Int))] [.cells [.int .i64 _x1.1, .sl (.int .u32) _x1.2]] (canonK [] _k36 [1, 2, 3, 7, 10, 13] 1 (fun _i _t _h => none) (fun _t _h => finK (C_keep_FixedGrows _N) [.tmp 6] (finD Rk_keep_FixedGrows) .ret _t _h)) = keep_FixedGrows_10 _N _x1 _x2 _x3 (fun _v19 => _k36 [(1, .sl (.int .i64) _x2), (2, .sl (.int .i64) _x3), (3, .ptr 0 0), (7, .int .i64 _v8), (10, .int .i64 _v11), (13, .bool _v19)] [.cells [.int .i64 _x1.1, .sl (.int .u32) _x1.2]]) :=
  (block_canon (by kernel_rfl)).trans (keep_FixedGrows_9e _N _x1 _x2 _x3 _v8 _v9 _v11 _v12 _k36)
noncomputable def keep_FixedGrows_11 (_N : Nat) (_x1 : Int × List Int) (_x2 : List Int) (_x3 : List Int) (_k36 : Bool → Option Rt_keep_FixedGrows) : Option Rt_keep_FixedGrows :=
  keep_FixedGrows_7 _N (keep_FixedGrows_10 _N _x1 _x2 _x3 _k36)
theorem keep_FixedGrows_11e (_N : Nat) (_x1 : Int × List Int) (_x2 : List Int) (_x3 : List Int) (_v8 : Int) (_v9 : Int) (_v11 : Int) (_v12 : Int) (_k36 : Slots → List O → Option Rt_keep_FixedGrows) :
    exec (C_keep_FixedGrows _N) (cAt (bodyOf Tryd.f12) [1, 1, 1, 1, 1, 1, 0]) (.two .none (.keep [1, 2, 3, 7, 10, 13, 14] 1 (.one (.loop [1, 2, 3, 7, 10, 13, 14] 1 (.two .none (.two (.one (.two (.draw 0 [.rd [0], .pure, .pure, .pure, .pure, .pure, .pure, .pure, .pure, .pure, .pure]) .none)) .none)))))) [(1, .sl (.int .i64) _x2), (2, .sl (.int .i64) _x3), (3, .ptr 0 0), (7, .int .i64 _v8), (10, .int .i64 _v11), (13, .bool true)] [.cells [.int .i64 _x1.1, .sl (.int .u32) _x1.2]] (canonK [] _k36 [1, 2, 3, 7, 10, 13] 1 (fun _i _t _h => none) (fun _t _h => finK (C_keep_FixedGrows _N) [.tmp 6] (finD Rk_keep_FixedGrows) .ret _t _h)) = keep_FixedGrows_11 _N _x1 _x2 _x3 (fun _v19 => _k36 [(1, .sl (.int .i64) _x2), (2, .sl (.int .i64) _x3), (3, .ptr 0 0), (7, .int .i64 _v8), (10, .int .i64 _v11), (13, .bool _v19)] [.cells [.int .i64 _x1.1, .sl (.int .u32) _x1.2]]) :=
  (seq_frag (by kernel_rfl) rfl).trans ((keep_FixedGrows_7e _N _x1 _x2 _x3 _v8 _v9 _v11 _v12 (fun _t _h => exec (C_keep_FixedGrows _N) (cAt (bodyOf Tryd.f12) [1, 1, 1, 1, 1, 1, 0, 1]) (.one (.loop [1, 2, 3, 7, 10, 13, 14] 1 (.two .none (.two (.one (.two (.draw 0 [.rd [0], .pure, .pure, .pure, .pure, .pure, .pure, .pure, .pure, .pure, .pure]) .none)) .none)))) _t _h (canonK [] _k36 [1, 2, 3, 7, 10, 13] 1 (fun _i _t _h => none) (fun _t _h => finK (C_keep_FixedGrows _N) [.tmp 6] (finD Rk_keep_FixedGrows) .ret _t _h)))).trans (congrArg (fun _z => keep_FixedGrows_7 _N _z) (keep_FixedGrows_10e _N _x1 _x2 _x3 _v8 _v9 _v11 _v12 _k36)))
noncomputable def keep_FixedGrows_12 (_N : Nat) (_x1 : Int × List Int) (_x2 : List Int) (_x3 : List Int) (_v8 : Int) (_v11 : Int) (_v19 : Bool) : Option Rt_keep_FixedGrows :=
  ((D_keep_within _N (_x1.1, [_v8, _v11], ())).bind fun _y40 => (bif _y40.1 then (bif (decide (0 ≤ _v8) && decide (_v8 < (_x2.length : Int))) then (bif ((nth (0 : Int) _x2 (_v8).toNat) == _v8) then (bif (decide (0 ≤ _v11) && decide (_v11 < (_x3.length : Int))) then (bif ((nth (0 : Int) _x3 (_v11).toNat) == _v11) then (bif (!_v19) then (some (true, ())) else ((D_keep_below _N ((_x1.1, _x1.2), _v8, _v11, ())).bind fun _y41 => (some (_y41.1, ())))) else (some (false, ()))) else none) else (some (false, ()))) else none) else (some (false, ()))))
theorem keep_FixedGrows_12e (_N : Nat) (_x1 : Int × List Int) (_x2 : List Int) (_x3 : List Int) (_v8 : Int) (_v9 : Int) (_v11 : Int) (_v12 : Int) (_v19 : Bool) :
    exec (C_keep_FixedGrows _N) (cAt (bodyOf Tryd.f12) [1, 1, 1, 1, 1, 1, 1]) .none [(1, .sl (.int .i64) _x2), (2, .sl (.int .i64) _x3), (3, .ptr 0 0), (7, .int .i64 _v8), (10, .int .i64 _v11), (13, .bool _v19)] [.cells [.int .i64 _x1.1, .sl (.int .u32) _x1.2]] (canonR (fun _i _t _h => none) (finK (C_keep_FixedGrows _N) [.tmp 6] (finD Rk_keep_FixedGrows))) = keep_FixedGrows_12 _N _x1 _x2 _x3 _v8 _v11 _v19 :=
  by kernel_rfl
noncomputable def keep_FixedGrows_13 (_N : Nat) (_x1 : Int × List Int) (_x2 : List Int) (_x3 : List Int) (_v8 : Int) (_v11 : Int) : Option Rt_keep_FixedGrows :=
  keep_FixedGrows_11 _N _x1 _x2 _x3 (fun _v19 => keep_FixedGrows_12 _N _x1 _x2 _x3 _v8 _v11 _v19)
theorem keep_FixedGrows_13e (_N : Nat) (_x1 : Int × List Int) (_x2 : List Int) (_x3 : List Int) (_v8 : Int) (_v9 : Int) (_v11 : Int) (_v12 : Int) :
    exec (C_keep_FixedGrows _N) (cAt (bodyOf Tryd.f12) [1, 1, 1, 1, 1, 1]) (.two (.two .none (.keep [1, 2, 3, 7, 10, 13, 14] 1 (.one (.loop [1, 2, 3, 7, 10, 13, 14] 1 (.two .none (.two (.one (.two (.draw 0 [.rd [0], .pure, .pure, .pure, .pure, .pure, .pure, .pure, .pure, .pure, .pure]) .none)) .none)))))) (.keep [1, 2, 3, 7, 10, 13] 1 .none)) [(1, .sl (.int .i64) _x2), (2, .sl (.int .i64) _x3), (3, .ptr 0 0), (7, .int .i64 _v8), (10, .int .i64 _v11), (13, .bool true)] [.cells [.int .i64 _x1.1, .sl (.int .u32) _x1.2]] (canonR (fun _i _t _h => none) (finK (C_keep_FixedGrows _N) [.tmp 6] (finD Rk_keep_FixedGrows))) = keep_FixedGrows_13 _N _x1 _x2 _x3 _v8 _v11 :=
  (seq_frag (by kernel_rfl) rfl).trans ((keep_FixedGrows_11e _N _x1 _x2 _x3 _v8 _v9 _v11 _v12 (fun _t _h => exec (C_keep_FixedGrows _N) (cAt (bodyOf Tryd.f12) [1, 1, 1, 1, 1, 1, 1]) .none _t _h (canonR (fun _i _t _h => none) (finK (C_keep_FixedGrows _N) [.tmp 6] (finD Rk_keep_FixedGrows))))).trans (congrArg (fun _z => keep_FixedGrows_11 _N _x1 _x2 _x3 _z) (funext fun _v19 => keep_FixedGrows_12e _N _x1 _x2 _x3 _v8 _v9 _v11 _v12 _v19)))
noncomputable def keep_FixedGrows_14 (_N : Nat) (_x1 : Int × List Int) (_x2 : List Int) (_x3 : List Int) (_v8 : Int) (_v11 : Int) : Option Rt_keep_FixedGrows :=
  keep_FixedGrows_6 _N (keep_FixedGrows_13 _N _x1 _x2 _x3 _v8 _v11)
theorem keep_FixedGrows_14e (_N : Nat) (_x1 : Int × List Int) (_x2 : List Int) (_x3 : List Int) (_v8 : Int) (_v9 : Int) (_v11 : Int) (_v12 : Int) :
    exec (C_keep_FixedGrows _N) (cAt (bodyOf Tryd.f12) [1, 1, 1, 1, 1]) (.two .none (.keep [1, 2, 3, 7, 10, 13] 1 (.two (.two .none (.keep [1, 2, 3, 7, 10, 13, 14] 1 (.one (.loop [1, 2, 3, 7, 10, 13, 14] 1 (.two .none (.two (.one (.two (.draw 0 [.rd [0], .pure, .pure, .pure, .pure, .pure, .pure, .pure, .pure, .pure, .pure]) .none)) .none)))))) (.keep [1, 2, 3, 7, 10, 13] 1 .none)))) [(1, .sl (.int .i64) _x2), (2, .sl (.int .i64) _x3), (3, .ptr 0 0), (7, .int .i64 _v8), (10, .int .i64 _v11)] [.cells [.int .i64 _x1.1, .sl (.int .u32) _x1.2]] (canonR (fun _i _t _h => none) (finK (C_keep_FixedGrows _N) [.tmp 6] (finD Rk_keep_FixedGrows))) = keep_FixedGrows_14 _N _x1 _x2 _x3 _v8 _v11 :=
  (seq_frag (by kernel_rfl) rfl).trans ((keep_FixedGrows_6e _N _x1 _x2 _x3 _v8 _v9 _v11 _v12 (fun _t _h => exec (C_keep_FixedGrows _N) (cAt (bodyOf Tryd.f12) [1, 1, 1, 1, 1, 1]) (.two (.two .none (.keep [1, 2, 3, 7, 10, 13, 14] 1 (.one (.loop [1, 2, 3, 7, 10, 13, 14] 1 (.two .none (.two (.one (.two (.draw 0 [.rd [0], .pure, .pure, .pure, .pure, .pure, .pure, .pure, .pure, .pure, .pure]) .none)) .none)))))) (.keep [1, 2, 3, 7, 10, 13] 1 .none)) _t _h (canonR (fun _i _t _h => none) (finK (C_keep_FixedGrows _N) [.tmp 6] (finD Rk_keep_FixedGrows))))).trans (congrArg (fun _z => keep_FixedGrows_6 _N _z) (keep_FixedGrows_13e _N _x1 _x2 _x3 _v8 _v9 _v11 _v12)))
noncomputable def keep_FixedGrows_15 (_N : Nat) (_x1 : Int × List Int) (_x2 : List Int) (_x3 : List Int) (_v8 : Int) (_v9 : Int) (_v11 : Int) (_v12 : Int) : Option Rt_keep_FixedGrows :=
  keep_FixedGrows_5 _N _v9 _v12 (keep_FixedGrows_14 _N _x1 _x2 _x3 _v8 _v11)
theorem keep_FixedGrows_15e (_N : Nat) (_x1 : Int × List Int) (_x2 : List Int) (_x3 : List Int) (_v8 : Int) (_v9 : Int) (_v11 : Int) (_v12 : Int) :
    exec (C_keep_FixedGrows _N) (cAt (bodyOf Tryd.f12) [1, 1, 1, 1]) (.two .none (.keep [1, 2, 3, 7, 10] 1 (.two .none (.keep [1, 2, 3, 7, 10, 13] 1 (.two (.two .none (.keep [1, 2, 3, 7, 10, 13, 14] 1 (.one (.loop [1, 2, 3, 7, 10, 13, 14] 1 (.two .none (.two (.one (.two (.draw 0 [.rd [0], .pure, .pure, .pure, .pure, .pure, .pure, .pure, .pure, .pure, .pure]) .none)) .none)))))) (.keep [1, 2, 3, 7, 10, 13] 1 .none)))))) [(1, .sl (.int .i64) _x2), (2, .sl (.int .i64) _x3), (3, .ptr 0 0), (7, .int .i64 _v8), (9, .int .i64 _v9), (10, .int .i64 _v11), (12, .int .i64 _v12)] [.cells [.int .i64 _x1.1, .sl (.int .u32) _x1.2]] (canonR (fun _i _t _h => none) (finK (C_keep_FixedGrows _N) [.tmp 6] (finD Rk_keep_FixedGrows))) = keep_FixedGrows_15 _N _x1 _x2 _x3 _v8 _v9 _v11 _v12 :=
  (seq_frag (by kernel_rfl) rfl).trans ((keep_FixedGrows_5e _N _x1 _x2 _x3 _v8 _v9 _v11 _v12 (fun _t _h => exec (C_keep_FixedGrows _N) (cAt (bodyOf Tryd.f12) [1, 1, 1, 1, 1]) (.two .none (.keep [1, 2, 3, 7, 10, 13] 1 (.two (.two .none (.keep [1, 2, 3, 7, 10, 13, 14] 1 (.one (.loop [1, 2, 3, 7, 10, 13, 14] 1 (.two .none (.two (.one (.two (.draw 0 [.rd [0], .pure, .pure, .pure, .pure, .pure, .pure, .pure, .pure, .pure, .pure]) .none)) .none)))))) (.keep [1, 2, 3, 7, 10, 13] 1 .none)))) _t _h (canonR (fun _i _t _h => none) (finK (C_keep_FixedGrows _N) [.tmp 6] (finD Rk_keep_FixedGrows))))).trans (congrArg (fun _z => keep_FixedGrows_5 _N _v9 _v12 _z) (keep_FixedGrows_14e _N _x1 _x2 _x3 _v8 _v9 _v11 _v12)))
noncomputable def keep_FixedGrows_16 (_N : Nat) (_x1 : Int × List Int) (_x2 : List Int) (_x3 : List Int) (_v8 : Int) (_v9 : Int) : Option Rt_keep_FixedGrows :=
  keep_FixedGrows_4 _N _x1 _x3 (fun _v11 _v12 => keep_FixedGrows_15 _N _x1 _x2 _x3 _v8 _v9 _v11 _v12)
theorem keep_FixedGrows_16e (_N : Nat) (_x1 : Int × List Int) (_x2 : List Int) (_x3 : List Int) (_v8 : Int) (_v9 : Int) :
    exec (C_keep_FixedGrows _N) (cAt (bodyOf Tryd.f12) [1, 1, 1]) (.two .none (.keep [1, 2, 3, 7, 9, 10, 12] 1 (.two .none (.keep [1, 2, 3, 7, 10] 1 (.two .none (.keep [1, 2, 3, 7, 10, 13] 1 (.two (.two .none (.keep [1, 2, 3, 7, 10, 13, 14] 1 (.one (.loop [1, 2, 3, 7, 10, 13, 14] 1 (.two .none (.two (.one (.two (.draw 0 [.rd [0], .pure, .pure, .pure, .pure, .pure, .pure, .pure, .pure, .pure, .pure]) .none)) .none)))))) (.keep [1, 2, 3, 7, 10, 13] 1 .none)))))))) [(1, .sl (.int .i64) _x2), (2, .sl (.int .i64) _x3), (3, .ptr 0 0), (7, .int .i64 _v8), (9, .int .i64 _v9)] [.cells [.int .i64 _x1.1, .sl (.int .u32) _x1.2]] (canonR (fun _i _t _h => none) (finK (C_keep_FixedGrows _N) [.tmp 6] (finD Rk_keep_FixedGrows))) = keep_FixedGrows_16 _N _x1 _x2 _x3 _v8 _v9 :=
  (seq_frag (by kernel_rfl) rfl).trans ((keep_FixedGrows_4e _N _x1 _x2 _x3 _v8 _v9 (fun _t _h => exec (C_keep_FixedGrows _N) (cAt (bodyOf Tryd.f12) [1, 1, 1, 1]) (.two .none (.keep [1, 2, 3, 7, 10] 1 (.two .none (.keep [1, 2, 3, 7, 10, 13] 1 (.two (.two .none (.keep [1, 2, 3, 7, 10, 13, 14] 1 (.one (.loop [1, 2, 3, 7, 10, 13, 14] 1 (.two .none (.two (.one (.two (.draw 0 [.rd [0], .pure, .pure, .pure, .pure, .pure, .pure, .pure, .pure, .pure, .pure]) .none)) .none)))))) (.keep [1, 2, 3, 7, 10, 13] 1 .none)))))) _t _h (canonR (fun _i _t _h => none) (finK (C_keep_FixedGrows _N) [.tmp 6] (finD Rk_keep_FixedGrows))))).trans (congrArg (fun _z => keep_FixedGrows_4 _N _x1 _x3 _z) (funext fun _v11 => funext fun _v12 => keep_FixedGrows_15e _N _x1 _x2 _x3 _v8 _v9 _v11 _v12)))
noncomputable def keep_FixedGrows_17 (_N : Nat) (_x1 : Int × List Int) (_x2 : List Int) (_x3 : List Int) : Option Rt_keep_FixedGrows :=
  keep_FixedGrows_3 _N _x1 _x2 (fun _v8 _v9 => keep_FixedGrows_16 _N _x1 _x2 _x3 _v8 _v9)
theorem keep_FixedGrows_17e (_N : Nat) (_x1 : Int × List Int) (_x2 : List Int) (_x3 : List Int) :
    exec (C_keep_FixedGrows _N) (cAt (bodyOf Tryd.f12) [1, 1]) (.two .none (.keep [1, 2, 3, 7, 9] 1 (.two .none (.keep [1, 2, 3, 7, 9, 10, 12] 1 (.two .none (.keep [1, 2, 3, 7, 10] 1 (.two .none (.keep [1, 2, 3, 7, 10, 13] 1 (.two (.two .none (.keep [1, 2, 3, 7, 10, 13, 14] 1 (.one (.loop [1, 2, 3, 7, 10, 13, 14] 1 (.two .none (.two (.one (.two (.draw 0 [.rd [0], .pure, .pure, .pure, .pure, .pure, .pure, .pure, .pure, .pure, .pure]) .none)) .none)))))) (.keep [1, 2, 3, 7, 10, 13] 1 .none)))))))))) [(1, .sl (.int .i64) _x2), (2, .sl (.int .i64) _x3), (3, .ptr 0 0)] [.cells [.int .i64 _x1.1, .sl (.int .u32) _x1.2]] (canonR (fun _i _t _h => none) (finK (C_keep_FixedGrows _N) [.tmp 6] (finD Rk_keep_FixedGrows))) = keep_FixedGrows_17 _N _x1 _x2 _x3 :=
  (seq_frag (by kernel_rfl) rfl).trans ((keep_FixedGrows_3e _N _x1 _x2 _x3 (fun _t _h => exec (C_keep_FixedGrows _N) (cAt (bodyOf Tryd.f12) [1, 1, 1]) (.two .none (.keep [1, 2, 3, 7, 9, 10, 12] 1 (.two .none (.keep [1, 2, 3, 7, 10] 1 (.two .none (.keep [1, 2, 3, 7, 10, 13] 1 (.two (.two .none (.keep [1, 2, 3, 7, 10, 13, 14] 1 (.one (.loop [1, 2, 3, 7, 10, 13, 14] 1 (.two .none (.two (.one (.two (.draw 0 [.rd [0], .pure, .pure, .pure, .pure, .pure, .pure, .pure, .pure, .pure, .pure]) .none)) .none)))))) (.keep [1, 2, 3, 7, 10, 13] 1 .none)))))))) _t _h (canonR (fun _i _t _h => none) (finK (C_keep_FixedGrows _N) [.tmp 6] (finD Rk_keep_FixedGrows))))).trans (congrArg (fun _z => keep_FixedGrows_3 _N _x1 _x2 _z) (funext fun _v8 => funext fun _v9 => keep_FixedGrows_16e _N _x1 _x2 _x3 _v8 _v9)))
noncomputable def keep_FixedGrows_18 (_N : Nat) (_x1 : Int × List Int) (_x2 : List Int) (_x3 : List Int) : Option Rt_keep_FixedGrows :=
  keep_FixedGrows_2 _N _x1 _x2 _x3 (keep_FixedGrows_17 _N _x1 _x2 _x3)
theorem keep_FixedGrows_18e (_N : Nat) (_x1 : Int × List Int) (_x2 : List Int) (_x3 : List Int) :
    exec (C_keep_FixedGrows _N) (cAt (bodyOf Tryd.f12) [1]) (.two .none (.keep [1, 2, 3] 1 (.two .none (.keep [1, 2, 3, 7, 9] 1 (.two .none (.keep [1, 2, 3, 7, 9, 10, 12] 1 (.two .none (.keep [1, 2, 3, 7, 10] 1 (.two .none (.keep [1, 2, 3, 7, 10, 13] 1 (.two (.two .none (.keep [1, 2, 3, 7, 10, 13, 14] 1 (.one (.loop [1, 2, 3, 7, 10, 13, 14] 1 (.two .none (.two (.one (.two (.draw 0 [.rd [0], .pure, .pure, .pure, .pure, .pure, .pure, .pure, .pure, .pure, .pure]) .none)) .none)))))) (.keep [1, 2, 3, 7, 10, 13] 1 .none)))))))))))) [(1, .sl (.int .i64) _x2), (2, .sl (.int .i64) _x3), (3, .ptr 0 0)] [.cells [.int .i64 _x1.1, .sl (.int .u32) _x1.2]] (canonR (fun _i _t _h => none) (finK (C_keep_FixedGrows _N) [.tmp 6] (finD Rk_keep_FixedGrows))) = keep_FixedGrows_18 _N _x1 _x2 _x3 :=
  (seq_frag (by kernel_rfl) rfl).trans ((keep_FixedGrows_2e _N _x1 _x2 _x3 (fun _t _h => exec (C_keep_FixedGrows _N) (cAt (bodyOf Tryd.f12) [1, 1]) (.two .none (.keep [1, 2, 3, 7, 9] 1 (.two .none (.keep [1, 2, 3, 7, 9, 10, 12] 1 (.two .none (.keep [1, 2, 3, 7, 10] 1 (.two .none (.keep [1, 2, 3, 7, 10, 13] 1 (.two (.two .none (.keep [1, 2, 3, 7, 10, 13, 14] 1 (.one (.loop [1, 2, 3, 7, 10, 13, 14] 1 (.two .none (.two (.one (.two (.draw 0 [.rd [0], .pure, .pure, .pure, .pure, .pure, .pure, .pure, .pure, .pure, .pure]) .none)) .none)))))) (.keep [1, 2, 3, 7, 10, 13] 1 .none)))))))))) _t _h (canonR (fun _i _t _h => none) (finK (C_keep_FixedGrows _N) [.tmp 6] (finD Rk_keep_FixedGrows))))).trans (congrArg (fun _z => keep_FixedGrows_2 _N _x1 _x2 _x3 _z) (keep_FixedGrows_17e _N _x1 _x2 _x3)))
noncomputable def keep_FixedGrows_19 (_N : Nat) (_x1 : Int × List Int) (_x2 : List Int) (_x3 : List Int) : Option Rt_keep_FixedGrows :=
  keep_FixedGrows_1 _N (keep_FixedGrows_18 _N _x1 _x2 _x3)
theorem keep_FixedGrows_19e (_N : Nat) (_x1 : Int × List Int) (_x2 : List Int) (_x3 : List Int) :
    exec (C_keep_FixedGrows _N) (cAt (bodyOf Tryd.f12) []) (.two .none (.keep [1, 2, 3] 1 (.two .none (.keep [1, 2, 3] 1 (.two .none (.keep [1, 2, 3, 7, 9] 1 (.two .none (.keep [1, 2, 3, 7, 9, 10, 12] 1 (.two .none (.keep [1, 2, 3, 7, 10] 1 (.two .none (.keep [1, 2, 3, 7, 10, 13] 1 (.two (.two .none (.keep [1, 2, 3, 7, 10, 13, 14] 1 (.one (.loop [1, 2, 3, 7, 10, 13, 14] 1 (.two .none (.two (.one (.two (.draw 0 [.rd [0], .pure, .pure, .pure, .pure, .pure, .pure, .pure, .pure, .pure, .pure]) .none)) .none)))))) (.keep [1, 2, 3, 7, 10, 13] 1 .none)))))))))))))) [(0, .agg [.int .i64 _x1.1, .sl (.int .u32) _x1.2]), (1, .sl (.int .i64) _x2), (2, .sl (.int .i64) _x3)] [] (canonR (fun _i _t _h => none) (finK (C_keep_FixedGrows _N) [.tmp 6] (finD Rk_keep_FixedGrows))) = keep_FixedGrows_19 _N _x1 _x2 _x3 :=
  (seq_frag (by kernel_rfl) rfl).trans ((keep_FixedGrows_1e _N _x1 _x2 _x3 (fun _t _h => exec (C_keep_FixedGrows _N) (cAt (bodyOf Tryd.f12) [1]) (.two .none (.keep [1, 2, 3] 1 (.two .none (.keep [1, 2, 3, 7, 9] 1 (.two .none (.keep [1, 2, 3, 7, 9, 10, 12] 1 (.two .none (.keep [1, 2, 3, 7, 10] 1 (.two .none (.keep [1, 2, 3, 7, 10, 13] 1 (.two (.two .none (.keep [1, 2, 3, 7, 10, 13, 14] 1 (.one (.loop [1, 2, 3, 7, 10, 13, 14] 1 (.two .none (.two (.one (.two (.draw 0 [.rd [0], .pure, .pure, .pure, .pure, .pure, .pure, .pure, .pure, .pure, .pure]) .none)) .none)))))) (.keep [1, 2, 3, 7, 10, 13] 1 .none)))))))))))) _t _h (canonR (fun _i _t _h => none) (finK (C_keep_FixedGrows _N) [.tmp 6] (finD Rk_keep_FixedGrows))))).trans (congrArg (fun _z => keep_FixedGrows_1 _N _z) (keep_FixedGrows_18e _N _x1 _x2 _x3)))
noncomputable def D_keep_FixedGrows (_N : Nat) (x : Dens Ks_keep_FixedGrows) : Option Rt_keep_FixedGrows := keep_FixedGrows_19 _N x.1 x.2.1 x.2.2.1
theorem E_keep_FixedGrows (_N : Nat) (x : Dens Ks_keep_FixedGrows) : exec (C_keep_FixedGrows _N) (bodyOf Tryd.f12) (.two .none (.keep [1, 2, 3] 1 (.two .none (.keep [1, 2, 3] 1 (.two .none (.keep [1, 2, 3, 7, 9] 1 (.two .none (.keep [1, 2, 3, 7, 9, 10, 12] 1 (.two .none (.keep [1, 2, 3, 7, 10] 1 (.two .none (.keep [1, 2, 3, 7, 10, 13] 1 (.two (.two .none (.keep [1, 2, 3, 7, 10, 13, 14] 1 (.one (.loop [1, 2, 3, 7, 10, 13, 14] 1 (.two .none (.two (.one (.two (.draw 0 [.rd [0], .pure, .pure, .pure, .pure, .pure, .pure, .pure, .pure, .pure, .pure]) .none)) .none)))))) (.keep [1, 2, 3, 7, 10, 13] 1 .none)))))))))))))) (argS 0 (kvals Ks_keep_FixedGrows x)) [] (finK (C_keep_FixedGrows _N) [.tmp 6] (finD Rk_keep_FixedGrows)) = D_keep_FixedGrows _N x :=
  (congrArg (fun K => exec (C_keep_FixedGrows _N) (bodyOf Tryd.f12) (.two .none (.keep [1, 2, 3] 1 (.two .none (.keep [1, 2, 3] 1 (.two .none (.keep [1, 2, 3, 7, 9] 1 (.two .none (.keep [1, 2, 3, 7, 9, 10, 12] 1 (.two .none (.keep [1, 2, 3, 7, 10] 1 (.two .none (.keep [1, 2, 3, 7, 10, 13] 1 (.two (.two .none (.keep [1, 2, 3, 7, 10, 13, 14] 1 (.one (.loop [1, 2, 3, 7, 10, 13, 14] 1 (.two .none (.two (.one (.two (.draw 0 [.rd [0], .pure, .pure, .pure, .pure, .pure, .pure, .pure, .pure, .pure, .pure]) .none)) .none)))))) (.keep [1, 2, 3, 7, 10, 13] 1 .none)))))))))))))) (argS 0 (kvals Ks_keep_FixedGrows x)) [] K) canonR_fin).trans (keep_FixedGrows_19e _N x.1 x.2.1 x.2.2.1)
theorem ok_keep_FixedGrows (_N : Nat) : CtxOk Tryd.prog Gs Tryd.f12 (C_keep_FixedGrows _N) := ⟨rfl, by unfold TOk; kernel_rfl, gOk_of rfl rfl (List.forall_mem_cons.2 ⟨en_keep_mapped _N, (List.forall_mem_cons.2 ⟨en_fixed_Check _N, (List.forall_mem_cons.2 ⟨en_fixed_Least _N, (List.forall_mem_cons.2 ⟨en_keep_below _N, (List.forall_mem_cons.2 ⟨en_keep_within _N, (List.forall_mem_nil _)⟩)⟩)⟩)⟩)⟩), iOk_of rfl rfl (List.forall_mem_nil _), rfl⟩
theorem hb_keep_FixedGrows : HasBody Tryd.prog 12 := ⟨Tryd.f12, bodyOf Tryd.f12, by kernel_rfl, by kernel_rfl, rfl⟩
theorem sp_keep_FixedGrows (_N : Nat) : SpecD Tryd.prog Gs 12 Ks_keep_FixedGrows Rk_keep_FixedGrows (D_keep_FixedGrows _N) := specD_of (c := bodyOf Tryd.f12) (by kernel_rfl) rfl (by kernel_rfl) (Nat.le_of_ble_eq_true (by kernel_rfl)) fun x y _h => ⟨C_keep_FixedGrows _N, (.two .none (.keep [1, 2, 3] 1 (.two .none (.keep [1, 2, 3] 1 (.two .none (.keep [1, 2, 3, 7, 9] 1 (.two .none (.keep [1, 2, 3, 7, 9, 10, 12] 1 (.two .none (.keep [1, 2, 3, 7, 10] 1 (.two .none (.keep [1, 2, 3, 7, 10, 13] 1 (.two (.two .none (.keep [1, 2, 3, 7, 10, 13, 14] 1 (.one (.loop [1, 2, 3, 7, 10, 13, 14] 1 (.two .none (.two (.one (.two (.draw 0 [.rd [0], .pure, .pure, .pure, .pure, .pure, .pure, .pure, .pure, .pure, .pure]) .none)) .none)))))) (.keep [1, 2, 3, 7, 10, 13] 1 .none)))))))))))))), ok_keep_FixedGrows _N, (E_keep_FixedGrows _N x).trans _h⟩
theorem en_keep_FixedGrows (_N : Nat) : EntOk Tryd.prog Gs (mkP 12 Ks_keep_FixedGrows Rk_keep_FixedGrows (D_keep_FixedGrows _N)) := entP hb_keep_FixedGrows (by kernel_rfl) (sp_keep_FixedGrows _N)
theorem fg9 {N m : Nat} {up f g : List Int} (hN : 1000 ≤ N) (hm : m ≤ 16) (hw : WL up) (hlu : up.length = m) (hf : Mapd m up f) (hg : Mapd m up g) :
    ∃ all : Bool, (all = true ↔ ∀ i, i < m → le up (fm f i) (fm g i)) ∧ ∀ k, keep_FixedGrows_9 N ((m : Int), up) f g k = k all := by
  unfold keep_FixedGrows_9
  have hlf := hf.len
  have hlg := hg.len
  have key := loopD_invk (N := N) (fun (k : Bool → Option Rt_keep_FixedGrows) (s : Bool × Int) kn => keep_FixedGrows_8 N ((m : Int), up) f g s.1 s.2 (fun v14 v15 => kn (v14, v15)) k) (fun k s => k s.1) (s := (true, 0)) m
    (fun i s => s.2 = (i : Int) ∧ (s.1 = true ↔ ∀ j, j < i → le up (fm f j) (fm g j))) ?_ ?_ (by omega) ⟨rfl, fun _ t' h => absurd h (Nat.not_lt_zero _), fun _ => rfl⟩
  · obtain ⟨⟨all, s⟩, ⟨-, h1⟩, h2⟩ := key
    exact ⟨all, h1, h2⟩
  · rintro i ⟨a, s⟩ hi ⟨hs, hI⟩
    simp only at hs hI
    subst hs
    refine ⟨(a && bt (nth 0 up (fm f i)) (fm g i), (i : Int) + 1), ⟨rfl, ?_⟩, fun k kn => ?_⟩
    · rw [Bool.and_eq_true, hI]
      constructor
      · rintro ⟨h1, h2⟩ j hj
        by_cases e : j = i
        · subst e; exact h2
        · exact h1 j (by omega)
      · exact fun h => ⟨fun j h' => h j (by omega), h i (by omega)⟩
    · have h1 := hf.lt i hi
      have h2 := hg.lt i hi
      simp only [keep_FixedGrows_8, lt_d hi, cond_true, ge0_d, lt_d (show i < f.length by omega), lt_d (show i < g.length by omega), Bool.and_self, Int.toNat_natCast, hf.val i hi, hg.val i hi, kbelow_eq N hw (show fm f i < up.length by omega) (show fm g i < 4611686018427387904 by omega), Option.bind_some, w1 hm hi]
      cases bt (nth 0 up (fm f i)) (fm g i) <;> simp
  · rintro ⟨a, s⟩ ⟨hs, hI⟩ k kn
    simp only at hs
    subst hs
    simp only [keep_FixedGrows_8, lt_self, cond_false]
theorem law_FixedGrows (o : Int × List Int) (f g : List Int) (ho : wfS (.pair (.int .i64) (.sl (.int .u32))) o) (hf : wfS (.sl (.int .i64)) f) (hg : wfS (.sl (.int .i64)) g) : ∃ N, D_keep_FixedGrows N (o, f, g, ()) = some (true, ()) := by
  obtain ⟨n, up⟩ := o
  have hw : WL up := WL_of ho.2
  have hl : f.length ≤ 9223372036854775807 := hf.1
  have hl2 : g.length ≤ 9223372036854775807 := hg.1
  refine ⟨1000 + f.length + g.length, ?_⟩
  have hN : 1000 ≤ 1000 + f.length + g.length := by omega
  have hfN : f.length < 1000 + f.length + g.length := by omega
  have hgN : g.length < 1000 + f.length + g.length := by omega
  generalize 1000 + f.length + g.length = N at hN hfN hgN
  obtain ⟨b1, m1, m2⟩ := mapped_eq hN hfN hl hw (n := n)
  obtain ⟨b2, m3, m4⟩ := mapped_eq hN hgN hl2 hw (n := n)
  obtain ⟨e1, c1, c2⟩ := fCheck_eq hN hfN hl hw (n := n)
  obtain ⟨e2, c3, c4⟩ := fCheck_eq hN hgN hl2 hw (n := n)
  simp only [D_keep_FixedGrows, keep_FixedGrows_19, keep_FixedGrows_18, keep_FixedGrows_2, keep_FixedGrows_1, m1, m3, c1, c3, Option.bind_some]
  rcases bcase m2 with ⟨h1, rfl⟩ | ⟨hno, rfl⟩
  case inr =>
    have : (e1 != 0) = true := bne_iff_ne.2 fun e => hno (c2.1 e)
    simp only [Bool.not_false, cond_true, this]
  rcases bcase m4 with ⟨h2, rfl⟩ | ⟨hno, rfl⟩
  case inr =>
    have : (e2 != 0) = true := bne_iff_ne.2 fun e => hno (c4.1 e)
    simp only [Bool.not_false, Bool.not_true, cond_true, cond_false, this]
    cases (e1 != 0) <;> rfl
  simp only [Bool.not_true, cond_false, keep_FixedGrows_17, keep_FixedGrows_16, keep_FixedGrows_15, keep_FixedGrows_14, keep_FixedGrows_13, keep_FixedGrows_11, keep_FixedGrows_10, keep_FixedGrows_7, keep_FixedGrows_6, keep_FixedGrows_5, keep_FixedGrows_4, keep_FixedGrows_3]
  rcases LG_spec hN hfN hl hw (n := n) with ⟨e, he, q1, q2, -⟩ | ⟨m, J, M, b, t, p, k, y, l, rfl, hm, hlu, ho, hL, hmf, q1, q2, sp, sy⟩
  · obtain ⟨r, hr⟩ : ∃ r, D_fixed_Least N ((n, up), g, ()) = some r := by
      rcases LG_spec hN hgN hl2 hw (n := n) with ⟨e, he, q1, q2, -⟩ | ⟨m, J, M, b, t, p, k, y, l, -, hm, hlu, ho, hL, hmf, q1, q2, sp, sy⟩
      · exact ⟨_, q1⟩
      · exact ⟨_, q1⟩
    simp only [q1, hr, Option.bind_some, show (e != 0) = true from bne_iff_ne.2 he, cond_true]
  rcases LG_spec hN hgN hl2 hw (n := (m : Int)) with ⟨e, he, r1, r2, -⟩ | ⟨m', J', M', b', t', p', k', y', l', hmm, hm', hlu', ho2, hL', hmg, r1, r2, sp', sy'⟩
  · simp only [q1, r1, Option.bind_some, bne_self_eq_false, cond_false, show (e != 0) = true from bne_iff_ne.2 he, cond_true]
  obtain rfl : m = m' := by omega
  have hp := sp.lt
  have hp' := sp'.lt
  have hlf := hmf.len
  have hlg := hmg.len
  obtain ⟨w1, p1, p2⟩ := within_eq (N := N) (n := (m : Int)) (xs := [(p : Int), (p' : Int)]) (by simp; omega) (by simp)
  obtain rfl := p2.2 (by simp; omega)
  obtain ⟨all, a1, a2⟩ := fg9 hN hm hw hlu hmf hmg
  simp only [q1, r1, Option.bind_some, bne_self_eq_false, cond_false, a2, keep_FixedGrows_12, p1, cond_true, ge0_d, lt_d (show p < f.length by omega), lt_d (show p' < g.length by omega), Bool.and_self, Int.toNat_natCast, hmf.val p hp, hmg.val p' hp', sp.stays, sp'.stays, beq_self_eq_true, kbelow_eq N hw (show p < up.length by omega) (show p' < 4611686018427387904 by omega)]
  cases all with
  | false => rfl
  | true =>
    have : bt (nth 0 up p) p' = true := sp.least p' hp' (by have := a1.1 rfl p' hp'; rwa [sp'.stays] at this)
    rw [this]; rfl
set_option maxRecDepth 100000 in
theorem lifted_FixedGrows (os : Os) (started : os.Started) (H : Type) (enc : TypeId × Value → H) :
    ReturnsInHanded {} Tryd.checked os 12 .any (fun w args => (Rows.fixedGrowsSpec.pre enc Tryd.prog Tryd.f12 [] false w args ∧ laidMetH Tryd.prog Rows.fixedGrowsRow.laid w) ∧ sizedMet enc Tryd.prog Tryd.f12 (OpenSpec.ofChange Rows.fixedGrowsSpec) false w args) (Rows.fixedGrowsSpec.post enc Tryd.prog Tryd.f12 false true false false) := by
  refine returnsInHanded_of_change_and (C := Tryd.checked) (X := fun w _ => laidMetH Tryd.prog Rows.fixedGrowsRow.laid w) (fun _ _ _ hh h => h.of_heap hh) own started (by kernel_rfl) Tryd.func12
    (ChangeSpec.witness_shaped (enc := enc) (C := Tryd.checked) (os := os) (X := fun w _ => laidMetH Tryd.prog Rows.fixedGrowsRow.laid w) false (World.doorLaid Tryd.prog 400 os) #[.agg #[.int .i64 0, .slice none 0 0], .slice none 0 0, .slice none 0 0] 8 rfl (World.shaped_of_RefB (by kernel_rfl) (by kernel_rfl)) (by kernel_rfl) (by kernel_rfl) (by kernel_rfl) (door_met os _)) ?_
  intro W base args ds gs before hval0 hW _ hsz0 hL _
  have hgw : GW Gs W := gw_of hL
  have hval : ∀ (j : Nat) t v, Tryd.f12.params[j]? = some t → args[j]? = some v → Value.okWide Tryd.prog W .any base t v := hval0
  have hW' := hW
  obtain ⟨p, q, hA0, hV, rfl, _, _⟩ := hW
  have hA : DataW.TrodAll enc Tryd.prog W 0 (fun _ => true) true Tryd.f12.params.toList args.toList ds p := hA0
  rw [Tryd.params12] at hA hval
  obtain ⟨v0, vs0, d0, ds0, p0, q0, hargs, rfl, rfl, h0, r0⟩ := trodAll_cons hA
  obtain ⟨v1, vs1, d1, ds1, p1, q1, rfl, rfl, rfl, h1, r1⟩ := trodAll_cons r0
  obtain ⟨v2, vs2, d2, ds2, p2, q2, rfl, rfl, rfl, h2, r2⟩ := trodAll_cons r1
  obtain ⟨rfl, rfl, rfl⟩ := trodAll_nil r2
  obtain rfl : args = #[v0, v1, v2] := by cases args; simp_all
  obtain ⟨rfl, rfl⟩ := trodVars_none hV
  clear hA0 hval0 hsz0
  simp only [List.append_nil] at hW'
  have hlt0 : ∀ x ∈ p0, x.block < W.heap.size := fun x hx => hW'.lt x (by simp [hx])
  have hlt1 : ∀ x ∈ p1, x.block < W.heap.size := fun x hx => hW'.lt x (by simp [hx])
  have hlt2 : ∀ x ∈ p2, x.block < W.heap.size := fun x hx => hW'.lt x (by simp [hx])
  obtain ⟨x0, g0, w0⟩ := open_kd (k := .dat (.pair (.int .i64) (.sl (.int .u32)))) (by kernel_rfl) (hval 0 24 v0 rfl rfl) h0
  obtain ⟨x1, g1, w1⟩ := open_kd (k := .dat (.sl (.int .i64))) (by kernel_rfl) (hval 1 25 v1 rfl rfl) h1
  obtain ⟨x2, g2, w2⟩ := open_kd (k := .dat (.sl (.int .i64))) (by kernel_rfl) (hval 2 25 v2 rfl rfl) h2
  obtain ⟨N, hN⟩ := law_FixedGrows x0 x1 x2 w0 w1 w2
  refine (sp_keep_FixedGrows N (fun _ => False) W (x0, x1, x2, ()) (true, ()) [v0, v1, v2] (fun _ h => h.elim) hgw ⟨v0, _, rfl, g0, ⟨v1, _, rfl, g1, ⟨v2, _, rfl, g2, rfl⟩⟩⟩ hN).mono ?_
  rintro e W' ⟨v, rfl, hg, hr⟩
  have hr : v = .bool true := by simpa only [kvals, retV, Kd.val, Go.Abs.enc, RV] using hr
  subst hr
  exact ⟨_, rfl, _, _, _, [], p0 ++ (p1 ++ (p2 ++ [])), [], hW', (trodAll_cons_mk (shut_bool (show Tryd.prog.underlying 4 = some .bool by kernel_rfl) _) trodAll_mk0), (trodAll_cons_mk (Below.trod laidOut (by kernel_rfl) (of_decide_eq_true (by kernel_rfl)) h0 hg hlt0) (trodAll_cons_mk (Below.trod laidOut (by kernel_rfl) (of_decide_eq_true (by kernel_rfl)) h1 hg hlt1) (trodAll_cons_mk (Below.trod laidOut (by kernel_rfl) (of_decide_eq_true (by kernel_rfl)) h2 hg hlt2) trodAll_mk0))), rfl, hg.frame _, fun h => by cases h⟩

/-- The statement: whatever the arguments, the law's function returns true and leaves them as they were. -/
theorem fixedGrows_holds : Rows.FixedGrowsSaid :=
  OpenClaim.holds_of_wide 12 Tryd.f12 rfl rfl rfl rfl rfl rfl rfl ⟨rfl, rfl, rfl, rfl, rfl⟩ rfl rfl rfl rfl rfl (by kernel_rfl) Tryd.func12 (by kernel_rfl)
    (of_decide_eq_true (by kernel_rfl)) (by unfold Func.isWrapper; first | (rw [if_pos (by decide +kernel)]; kernel_rfl) | (rw [if_neg (by decide +kernel)]; exact ⟨rfl, rfl⟩))
    (fun os started H enc _ => lifted_FixedGrows os started H enc)
/-- The statement's card: the variable that the road reads is tied to the program's text. -/
theorem fixedGrows_card : Rows.FixedGrowsCardSaid :=
  Claim7.holds_tied_plain_at .later [] [.data] true (true, "f7a6d2b8554754a98a473bd2733a624cf4bb6698be02ac50fe61eaa0509daf44") false fixedGrows_holds (fun _ h => by cases h) (by kernel_rfl) (fun _ h => by cases h) fixedGrows_row_tie rfl ⟨rfl, rfl⟩ (by kernel_rfl) rfl
    (fun f fn hf hfn => by
      obtain rfl : f = 12 := Option.some.inj ((show Tryd.prog.funcNamed "watershed/watershedkeep.FixedGrows" = some 12 by kernel_rfl).symm.trans hf) |>.symm
      obtain rfl : fn = Tryd.f12 := (Option.some.inj (Tryd.func12.symm.trans hfn)).symm
      exact ⟨by kernel_rfl, fun j t ht => by
        have h3 := List.all_eq_true.1 (show (Tryd.f12.params.toList.all fun t => !(Tryd.prog.wantsStandIn t)) = true by kernel_rfl) t (by rw [← Array.getElem?_toList] at ht; exact List.mem_of_getElem? ht)
        have h4 : Tryd.prog.wantsStandIn t = false := by simpa using h3
        exact h4⟩)
    (by kernel_rfl)
end Go.Proofs.YtdbjfdjpmoackaaDoor
