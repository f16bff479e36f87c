/- What the laws on tables use: the functions. -/
import Derived.Test.YtdlhfddmbdbedaaDoorOrder
namespace Go.Proofs.YtdlhfddmbdbedaaDoor
open Go.Abs Go.RowKit
-- watershed/watershedref.Table
abbrev Ks_ref_Table : List Kd := [.dat (.pair (.int .i64) (.sl (.int .u32))), .dat (.sl (.int .i64))]
abbrev Rk_ref_Table : List Kd := [.dat (.bool)]
abbrev Rt_ref_Table : Type := Dens Rk_ref_Table
def T_ref_Table : List (Nat × TE) := [(2, ⟨.int .i64, 1, 8, some (.int .i64), [.int .i64 (0 : Int)]⟩),
  (3, ⟨.int .i64, 1, 8, some (.int .i64), [.int .i64 (0 : Int)]⟩),
  (24, ⟨.struct [(0, 3), (1, 22)], 2, 32, some (.pair (.int .i64) (.sl (.int .u32))), [.int .i64 (0 : Int), .nil]⟩),
  (40, ⟨.slice 2, 1, 24, some (.sl (.int .i64)), [.nil]⟩)]
noncomputable def C_ref_Table (_N : Nat) : Ctx := { T := T_ref_Table, G := findE [mkP 60 Ks_ref_Below Rk_ref_Below (D_ref_Below _N)], I := findI [], N := _N, n := 44, fx := [], fl := 0, gs := Gs }
noncomputable def ref_Table_1 (_N : Nat) (_k11 : Option Rt_ref_Table) : Option Rt_ref_Table :=
  _k11
theorem ref_Table_1e (_N : Nat) (_x1 : Int × List Int) (_x2 : List Int) (_k11 : Slots → List O → Option Rt_ref_Table) :
    exec (C_ref_Table _N) (cAt (bodyOf Tryd.f27) [0]) .none [(0, .agg [.int .i64 _x1.1, .sl (.int .u32) _x1.2]), (1, .sl (.int .i64) _x2)] [] (canonK [] _k11 [1, 2] 1 (fun _i _t _h => none) (fun _t _h => finK (C_ref_Table _N) [.tmp 4] (finD Rk_ref_Table) .ret _t _h)) = ref_Table_1 _N (_k11 [(1, .sl (.int .i64) _x2), (2, .ptr 0 0)] [.cells [.int .i64 _x1.1, .sl (.int .u32) _x1.2]]) :=
  by kernel_rfl
noncomputable def ref_Table_2 (_N : Nat) (_x1 : Int × List Int) (_x2 : List Int) (_k12 : Option Rt_ref_Table) : Option Rt_ref_Table :=
  (bif ((_x2.length : Int) != (IntKind.i64.wrap (_x1.1 * _x1.1))) then (some (false, ())) else _k12)
theorem ref_Table_2e (_N : Nat) (_x1 : Int × List Int) (_x2 : List Int) (_k12 : Slots → List O → Option Rt_ref_Table) :
    exec (C_ref_Table _N) (cAt (bodyOf Tryd.f27) [1, 0]) .none [(1, .sl (.int .i64) _x2), (2, .ptr 0 0)] [.cells [.int .i64 _x1.1, .sl (.int .u32) _x1.2]] (canonK [] _k12 [1, 2] 1 (fun _i _t _h => none) (fun _t _h => finK (C_ref_Table _N) [.tmp 4] (finD Rk_ref_Table) .ret _t _h)) = ref_Table_2 _N _x1 _x2 (_k12 [(1, .sl (.int .i64) _x2), (2, .ptr 0 0)] [.cells [.int .i64 _x1.1, .sl (.int .u32) _x1.2]]) :=
  by kernel_rfl
noncomputable def ref_Table_3 (_N : Nat) (_k14 : Option Rt_ref_Table) : Option Rt_ref_Table :=
  _k14
theorem ref_Table_3e (_N : Nat) (_x1 : Int × List Int) (_x2 : List Int) (_k14 : Slots → List O → Option Rt_ref_Table) :
    exec (C_ref_Table _N) (cAt (bodyOf Tryd.f27) [1, 1, 0, 0]) .none [(1, .sl (.int .i64) _x2), (2, .ptr 0 0)] [.cells [.int .i64 _x1.1, .sl (.int .u32) _x1.2]] (canonK [] _k14 [1, 2, 5] 1 (fun _i _t _h => none) (fun _t _h => finK (C_ref_Table _N) [.tmp 4] (finD Rk_ref_Table) .ret _t _h)) = ref_Table_3 _N (_k14 [(1, .sl (.int .i64) _x2), (2, .ptr 0 0), (5, .int .i64 (0 : Int))] [.cells [.int .i64 _x1.1, .sl (.int .u32) _x1.2]]) :=
  by kernel_rfl
noncomputable def ref_Table_4 (_N : Nat) (_x1 : Int × List Int) (_v5 : Int) (_k16 : Option Rt_ref_Table) (_k13 : Option Rt_ref_Table) : Option Rt_ref_Table :=
  (bif (decide (_v5 < _x1.1)) then _k16 else _k13)
theorem ref_Table_4e (_N : Nat) (_x1 : Int × List Int) (_x2 : List Int) (_v5 : Int) (_k16 _k13 : Slots → List O → Option Rt_ref_Table) :
    exec (C_ref_Table _N) (cAt (bodyOf Tryd.f27) [1, 1, 0, 1, 0, 0, 0]) .none [(1, .sl (.int .i64) _x2), (2, .ptr 0 0), (5, .int .i64 _v5)] [.cells [.int .i64 _x1.1, .sl (.int .u32) _x1.2]] (canonK [] _k16 [1, 2, 5] 1 (fun _i _t _h => bif Nat.beq _i 0 then _k13 (cvT [] [] 1 _t _h) (cvH [] 1 _h) else none) (fun _t _h => finK (C_ref_Table _N) [.tmp 4] (finD Rk_ref_Table) .ret _t _h)) = ref_Table_4 _N _x1 _v5 (_k16 [(1, .sl (.int .i64) _x2), (2, .ptr 0 0), (5, .int .i64 _v5)] [.cells [.int .i64 _x1.1, .sl (.int .u32) _x1.2]]) (_k13 [] [.cells [.int .i64 _x1.1, .sl (.int .u32) _x1.2]]) :=
  by kernel_rfl
noncomputable def ref_Table_5 (_N : Nat) (_k18 : Option Rt_ref_Table) : Option Rt_ref_Table :=
  _k18
theorem ref_Table_5e (_N : Nat) (_x1 : Int × List Int) (_x2 : List Int) (_v5 : Int) (_k18 _k17 _k13 : Slots → List O → Option Rt_ref_Table) :
    exec (C_ref_Table _N) (cAt (bodyOf Tryd.f27) [1, 1, 0, 1, 0, 0, 1, 0, 0, 0]) .none [(1, .sl (.int .i64) _x2), (2, .ptr 0 0), (5, .int .i64 _v5)] [.cells [.int .i64 _x1.1, .sl (.int .u32) _x1.2]] (canonK [] _k18 [1, 2, 5, 6] 1 (fun _i _t _h => bif Nat.beq _i 1 then _k17 (cvT [] [1, 2, 5] 1 _t _h) (cvH [] 1 _h) else bif Nat.beq _i 0 then _k13 (cvT [] [] 1 _t _h) (cvH [] 1 _h) else none) (fun _t _h => finK (C_ref_Table _N) [.tmp 4] (finD Rk_ref_Table) .ret _t _h)) = ref_Table_5 _N (_k18 [(1, .sl (.int .i64) _x2), (2, .ptr 0 0), (5, .int .i64 _v5), (6, .int .i64 (0 : Int))] [.cells [.int .i64 _x1.1, .sl (.int .u32) _x1.2]]) :=
  by kernel_rfl
noncomputable def ref_Table_6 (_N : Nat) (_x1 : Int × List Int) (_x2 : List Int) (_v5 : Int) (_v7 : Int) (_k19 : Int → Option Rt_ref_Table) (_k17 : Option Rt_ref_Table) : Option Rt_ref_Table :=
  (bif (decide (_v7 < _x1.1)) then ((D_ref_Below _N ((_x1.1, _x1.2), _v5, _v7, ())).bind fun _y20 => (bif (!_y20.1) then (bif (decide (0 ≤ (IntKind.i64.wrap ((IntKind.i64.wrap (_v5 * _x1.1)) + _v7))) && decide ((IntKind.i64.wrap ((IntKind.i64.wrap (_v5 * _x1.1)) + _v7)) < (_x2.length : Int))) then (bif ((nth (0 : Int) _x2 (IntKind.i64.wrap ((IntKind.i64.wrap (_v5 * _x1.1)) + _v7)).toNat) != (0 : Int)) then (some (false, ())) else (_k19 (IntKind.i64.wrap (_v7 + (1 : Int))))) else none) else (_k19 (IntKind.i64.wrap (_v7 + (1 : Int)))))) else _k17)
theorem ref_Table_6e (_N : Nat) (_x1 : Int × List Int) (_x2 : List Int) (_v5 : Int) (_v7 : Int) (_k19 _k17 _k13 : Slots → List O → Option Rt_ref_Table) :
    exec (C_ref_Table _N) (cAt (bodyOf Tryd.f27) [1, 1, 0, 1, 0, 0, 1, 0, 0, 1, 0, 0]) .none [(1, .sl (.int .i64) _x2), (2, .ptr 0 0), (5, .int .i64 _v5), (6, .int .i64 _v7)] [.cells [.int .i64 _x1.1, .sl (.int .u32) _x1.2]] (canonK [] _k19 [1, 2, 5, 6] 1 (fun _i _t _h => bif Nat.beq _i 2 then _k17 (cvT [] [1, 2, 5] 1 _t _h) (cvH [] 1 _h) else bif Nat.beq _i 1 then _k17 (cvT [] [1, 2, 5] 1 _t _h) (cvH [] 1 _h) else bif Nat.beq _i 0 then _k13 (cvT [] [] 1 _t _h) (cvH [] 1 _h) else none) (fun _t _h => finK (C_ref_Table _N) [.tmp 4] (finD Rk_ref_Table) .ret _t _h)) = ref_Table_6 _N _x1 _x2 _v5 _v7 (fun _v7 => _k19 [(1, .sl (.int .i64) _x2), (2, .ptr 0 0), (5, .int .i64 _v5), (6, .int .i64 _v7)] [.cells [.int .i64 _x1.1, .sl (.int .u32) _x1.2]]) (_k17 [(1, .sl (.int .i64) _x2), (2, .ptr 0 0), (5, .int .i64 _v5)] [.cells [.int .i64 _x1.1, .sl (.int .u32) _x1.2]]) :=
  by kernel_rfl
noncomputable def ref_Table_7 (_N : Nat) (_x1 : Int × List Int) (_x2 : List Int) (_v5 : Int) (_k17 : Option Rt_ref_Table) : Option Rt_ref_Table :=
  loopD (fun (_s : Int) _kn => ref_Table_6 _N _x1 _x2 _v5 _s (fun _v7 => _kn _v7) _k17) _N (0 : Int)
theorem ref_Table_7e (_N : Nat) (_x1 : Int × List Int) (_x2 : List Int) (_v5 : Int) (_k17 _k13 : Slots → List O → Option Rt_ref_Table) :
    exec (C_ref_Table _N) (cAt (bodyOf Tryd.f27) [1, 1, 0, 1, 0, 0, 1, 0, 0, 1, 0]) (.loop [1, 2, 5, 6] 1 .none) [(1, .sl (.int .i64) _x2), (2, .ptr 0 0), (5, .int .i64 _v5), (6, .int .i64 (0 : Int))] [.cells [.int .i64 _x1.1, .sl (.int .u32) _x1.2]] (canonK [] _k17 [1, 2, 5] 1 (fun _i _t _h => bif Nat.beq _i 2 then _k17 (cvT [] [1, 2, 5] 1 _t _h) (cvH [] 1 _h) else bif Nat.beq _i 1 then _k17 (cvT [] [1, 2, 5] 1 _t _h) (cvH [] 1 _h) else bif Nat.beq _i 0 then _k13 (cvT [] [] 1 _t _h) (cvH [] 1 _h) else none) (fun _t _h => finK (C_ref_Table _N) [.tmp 4] (finD Rk_ref_Table) .ret _t _h)) = ref_Table_7 _N _x1 _x2 _v5 (_k17 [(1, .sl (.int .i64) _x2), (2, .ptr 0 0), (5, .int .i64 _v5)] [.cells [.int .i64 _x1.1, .sl (.int .u32) _x1.2]]) :=
  (loop_frag (by kernel_rfl) rfl (by kernel_rfl) (by kernel_rfl)).trans (loopN_sim (S := Int) (fun _s => [(1, .sl (.int .i64) _x2), (2, .ptr 0 0), (5, .int .i64 _v5), (6, .int .i64 _s)]) (fun _s => [.cells [.int .i64 _x1.1, .sl (.int .u32) _x1.2]]) (fun _s _kn => ref_Table_6e _N _x1 _x2 _v5 _s _kn _k17 _k13) _N (0 : Int))
noncomputable def ref_Table_8 (_N : Nat) (_x1 : Int × List Int) (_x2 : List Int) (_v5 : Int) (_k17 : Option Rt_ref_Table) : Option Rt_ref_Table :=
  ref_Table_7 _N _x1 _x2 _v5 _k17
theorem ref_Table_8e (_N : Nat) (_x1 : Int × List Int) (_x2 : List Int) (_v5 : Int) (_k17 _k13 : Slots → List O → Option Rt_ref_Table) :
    exec (C_ref_Table _N) (cAt (bodyOf Tryd.f27) [1, 1, 0, 1, 0, 0, 1, 0, 0, 1]) (.one (.loop [1, 2, 5, 6] 1 .none)) [(1, .sl (.int .i64) _x2), (2, .ptr 0 0), (5, .int .i64 _v5), (6, .int .i64 (0 : Int))] [.cells [.int .i64 _x1.1, .sl (.int .u32) _x1.2]] (canonK [] _k17 [1, 2, 5] 1 (fun _i _t _h => bif Nat.beq _i 1 then _k17 (cvT [] [1, 2, 5] 1 _t _h) (cvH [] 1 _h) else bif Nat.beq _i 0 then _k13 (cvT [] [] 1 _t _h) (cvH [] 1 _h) else none) (fun _t _h => finK (C_ref_Table _N) [.tmp 4] (finD Rk_ref_Table) .ret _t _h)) = ref_Table_8 _N _x1 _x2 _v5 (_k17 [(1, .sl (.int .i64) _x2), (2, .ptr 0 0), (5, .int .i64 _v5)] [.cells [.int .i64 _x1.1, .sl (.int .u32) _x1.2]]) :=
  (block_canon (by kernel_rfl)).trans (ref_Table_7e _N _x1 _x2 _v5 _k17 _k13)
noncomputable def ref_Table_9 (_N : Nat) (_x1 : Int × List Int) (_x2 : List Int) (_v5 : Int) (_k17 : Option Rt_ref_Table) : Option Rt_ref_Table :=
  ref_Table_5 _N (ref_Table_8 _N _x1 _x2 _v5 _k17)
theorem ref_Table_9e (_N : Nat) (_x1 : Int × List Int) (_x2 : List Int) (_v5 : Int) (_k17 _k13 : Slots → List O → Option Rt_ref_Table) :
    exec (C_ref_Table _N) (cAt (bodyOf Tryd.f27) [1, 1, 0, 1, 0, 0, 1, 0, 0]) (.two .none (.keep [1, 2, 5, 6] 1 (.one (.loop [1, 2, 5, 6] 1 .none)))) [(1, .sl (.int .i64) _x2), (2, .ptr 0 0), (5, .int .i64 _v5)] [.cells [.int .i64 _x1.1, .sl (.int .u32) _x1.2]] (canonK [] _k17 [1, 2, 5] 1 (fun _i _t _h => bif Nat.beq _i 1 then _k17 (cvT [] [1, 2, 5] 1 _t _h) (cvH [] 1 _h) else bif Nat.beq _i 0 then _k13 (cvT [] [] 1 _t _h) (cvH [] 1 _h) else none) (fun _t _h => finK (C_ref_Table _N) [.tmp 4] (finD Rk_ref_Table) .ret _t _h)) = ref_Table_9 _N _x1 _x2 _v5 (_k17 [(1, .sl (.int .i64) _x2), (2, .ptr 0 0), (5, .int .i64 _v5)] [.cells [.int .i64 _x1.1, .sl (.int .u32) _x1.2]]) :=
  (seq_frag (by kernel_rfl) rfl).trans ((ref_Table_5e _N _x1 _x2 _v5 (fun _t _h => exec (C_ref_Table _N) (cAt (bodyOf Tryd.f27) [1, 1, 0, 1, 0, 0, 1, 0, 0, 1]) (.one (.loop [1, 2, 5, 6] 1 .none)) _t _h (canonK [] _k17 [1, 2, 5] 1 (fun _i _t _h => bif Nat.beq _i 1 then _k17 (cvT [] [1, 2, 5] 1 _t _h) (cvH [] 1 _h) else bif Nat.beq _i 0 then _k13 (cvT [] [] 1 _t _h) (cvH [] 1 _h) else none) (fun _t _h => finK (C_ref_Table _N) [.tmp 4] (finD Rk_ref_Table) .ret _t _h))) _k17 _k13).trans (congrArg (fun _z => ref_Table_5 _N _z) (ref_Table_8e _N _x1 _x2 _v5 _k17 _k13)))
noncomputable def ref_Table_10 (_N : Nat) (_x1 : Int × List Int) (_x2 : List Int) (_v5 : Int) (_k17 : Option Rt_ref_Table) : Option Rt_ref_Table :=
  ref_Table_9 _N _x1 _x2 _v5 _k17
theorem ref_Table_10e (_N : Nat) (_x1 : Int × List Int) (_x2 : List Int) (_v5 : Int) (_k17 _k13 : Slots → List O → Option Rt_ref_Table) :
    exec (C_ref_Table _N) (cAt (bodyOf Tryd.f27) [1, 1, 0, 1, 0, 0, 1, 0]) (.one (.two .none (.keep [1, 2, 5, 6] 1 (.one (.loop [1, 2, 5, 6] 1 .none))))) [(1, .sl (.int .i64) _x2), (2, .ptr 0 0), (5, .int .i64 _v5)] [.cells [.int .i64 _x1.1, .sl (.int .u32) _x1.2]] (canonK [] _k17 [1, 2, 5] 1 (fun _i _t _h => bif Nat.beq _i 0 then _k13 (cvT [] [] 1 _t _h) (cvH [] 1 _h) else none) (fun _t _h => finK (C_ref_Table _N) [.tmp 4] (finD Rk_ref_Table) .ret _t _h)) = ref_Table_10 _N _x1 _x2 _v5 (_k17 [(1, .sl (.int .i64) _x2), (2, .ptr 0 0), (5, .int .i64 _v5)] [.cells [.int .i64 _x1.1, .sl (.int .u32) _x1.2]]) :=
  (block_canon (by kernel_rfl)).trans (ref_Table_9e _N _x1 _x2 _v5 _k17 _k13)
noncomputable def ref_Table_11 (_N : Nat) (_v5 : Int) (_k15 : Int → Option Rt_ref_Table) : Option Rt_ref_Table :=
  (_k15 (IntKind.i64.wrap (_v5 + (1 : Int))))
theorem ref_Table_11e (_N : Nat) (_x1 : Int × List Int) (_x2 : List Int) (_v5 : Int) (_k15 _k13 : Slots → List O → Option Rt_ref_Table) :
    exec (C_ref_Table _N) (cAt (bodyOf Tryd.f27) [1, 1, 0, 1, 0, 0, 1, 1]) .none [(1, .sl (.int .i64) _x2), (2, .ptr 0 0), (5, .int .i64 _v5)] [.cells [.int .i64 _x1.1, .sl (.int .u32) _x1.2]] (canonK [] _k15 [1, 2, 5] 1 (fun _i _t _h => bif Nat.beq _i 0 then _k13 (cvT [] [] 1 _t _h) (cvH [] 1 _h) else none) (fun _t _h => finK (C_ref_Table _N) [.tmp 4] (finD Rk_ref_Table) .ret _t _h)) = ref_Table_11 _N _v5 (fun _v5 => _k15 [(1, .sl (.int .i64) _x2), (2, .ptr 0 0), (5, .int .i64 _v5)] [.cells [.int .i64 _x1.1, .sl (.int .u32) _x1.2]]) :=
  by kernel_rfl
noncomputable def ref_Table_12 (_N : Nat) (_x1 : Int × List Int) (_x2 : List Int) (_v5 : Int) (_k15 : Int → Option Rt_ref_Table) : Option Rt_ref_Table :=
  ref_Table_10 _N _x1 _x2 _v5 (ref_Table_11 _N _v5 _k15)
theorem ref_Table_12e (_N : Nat) (_x1 : Int × List Int) (_x2 : List Int) (_v5 : Int) (_k15 _k13 : Slots → List O → Option Rt_ref_Table) :
    exec (C_ref_Table _N) (cAt (bodyOf Tryd.f27) [1, 1, 0, 1, 0, 0, 1]) (.two (.one (.two .none (.keep [1, 2, 5, 6] 1 (.one (.loop [1, 2, 5, 6] 1 .none))))) (.keep [1, 2, 5] 1 .none)) [(1, .sl (.int .i64) _x2), (2, .ptr 0 0), (5, .int .i64 _v5)] [.cells [.int .i64 _x1.1, .sl (.int .u32) _x1.2]] (canonK [] _k15 [1, 2, 5] 1 (fun _i _t _h => bif Nat.beq _i 0 then _k13 (cvT [] [] 1 _t _h) (cvH [] 1 _h) else none) (fun _t _h => finK (C_ref_Table _N) [.tmp 4] (finD Rk_ref_Table) .ret _t _h)) = ref_Table_12 _N _x1 _x2 _v5 (fun _v5 => _k15 [(1, .sl (.int .i64) _x2), (2, .ptr 0 0), (5, .int .i64 _v5)] [.cells [.int .i64 _x1.1, .sl (.int .u32) _x1.2]]) :=
  (seq_frag (by kernel_rfl) rfl).trans ((ref_Table_10e _N _x1 _x2 _v5 (fun _t _h => exec (C_ref_Table _N) (cAt (bodyOf Tryd.f27) [1, 1, 0, 1, 0, 0, 1, 1]) .none _t _h (canonK [] _k15 [1, 2, 5] 1 (fun _i _t _h => bif Nat.beq _i 0 then _k13 (cvT [] [] 1 _t _h) (cvH [] 1 _h) else none) (fun _t _h => finK (C_ref_Table _N) [.tmp 4] (finD Rk_ref_Table) .ret _t _h))) _k13).trans (congrArg (fun _z => ref_Table_10 _N _x1 _x2 _v5 _z) (ref_Table_11e _N _x1 _x2 _v5 _k15 _k13)))
noncomputable def ref_Table_13 (_N : Nat) (_x1 : Int × List Int) (_x2 : List Int) (_v5 : Int) (_k15 : Int → Option Rt_ref_Table) (_k13 : Option Rt_ref_Table) : Option Rt_ref_Table :=
  ref_Table_4 _N _x1 _v5 (ref_Table_12 _N _x1 _x2 _v5 _k15) _k13
theorem ref_Table_13e (_N : Nat) (_x1 : Int × List Int) (_x2 : List Int) (_v5 : Int) (_k15 _k13 : Slots → List O → Option Rt_ref_Table) :
    exec (C_ref_Table _N) (cAt (bodyOf Tryd.f27) [1, 1, 0, 1, 0, 0]) (.two .none (.keep [1, 2, 5] 1 (.two (.one (.two .none (.keep [1, 2, 5, 6] 1 (.one (.loop [1, 2, 5, 6] 1 .none))))) (.keep [1, 2, 5] 1 .none)))) [(1, .sl (.int .i64) _x2), (2, .ptr 0 0), (5, .int .i64 _v5)] [.cells [.int .i64 _x1.1, .sl (.int .u32) _x1.2]] (canonK [] _k15 [1, 2, 5] 1 (fun _i _t _h => bif Nat.beq _i 0 then _k13 (cvT [] [] 1 _t _h) (cvH [] 1 _h) else none) (fun _t _h => finK (C_ref_Table _N) [.tmp 4] (finD Rk_ref_Table) .ret _t _h)) = ref_Table_13 _N _x1 _x2 _v5 (fun _v5 => _k15 [(1, .sl (.int .i64) _x2), (2, .ptr 0 0), (5, .int .i64 _v5)] [.cells [.int .i64 _x1.1, .sl (.int .u32) _x1.2]]) (_k13 [] [.cells [.int .i64 _x1.1, .sl (.int .u32) _x1.2]]) :=
  (seq_frag (by kernel_rfl) rfl).trans ((ref_Table_4e _N _x1 _x2 _v5 (fun _t _h => exec (C_ref_Table _N) (cAt (bodyOf Tryd.f27) [1, 1, 0, 1, 0, 0, 1]) (.two (.one (.two .none (.keep [1, 2, 5, 6] 1 (.one (.loop [1, 2, 5, 6] 1 .none))))) (.keep [1, 2, 5] 1 .none)) _t _h (canonK [] _k15 [1, 2, 5] 1 (fun _i _t _h => bif Nat.beq _i 0 then _k13 (cvT [] [] 1 _t _h) (cvH [] 1 _h) else none) (fun _t _h => finK (C_ref_Table _N) [.tmp 4] (finD Rk_ref_Table) .ret _t _h))) _k13).trans (congrArg (fun _z => ref_Table_4 _N _x1 _v5 _z (_k13 [] [.cells [.int .i64 _x1.1, .sl (.int .u32) _x1.2]])) (ref_Table_12e _N _x1 _x2 _v5 _k15 _k13)))
noncomputable def ref_Table_14 (_N : Nat) (_x1 : Int × List Int) (_x2 : List Int) (_k13 : Option Rt_ref_Table) : Option Rt_ref_Table :=
  loopD (fun (_s : Int) _kn => ref_Table_13 _N _x1 _x2 _s (fun _v5 => _kn _v5) _k13) _N (0 : Int)
theorem ref_Table_14e (_N : Nat) (_x1 : Int × List Int) (_x2 : List Int) (_k13 : Slots → List O → Option Rt_ref_Table) :
    exec (C_ref_Table _N) (cAt (bodyOf Tryd.f27) [1, 1, 0, 1, 0]) (.loop [1, 2, 5] 1 (.two .none (.keep [1, 2, 5] 1 (.two (.one (.two .none (.keep [1, 2, 5, 6] 1 (.one (.loop [1, 2, 5, 6] 1 .none))))) (.keep [1, 2, 5] 1 .none))))) [(1, .sl (.int .i64) _x2), (2, .ptr 0 0), (5, .int .i64 (0 : Int))] [.cells [.int .i64 _x1.1, .sl (.int .u32) _x1.2]] (canonK [] _k13 [] 1 (fun _i _t _h => bif Nat.beq _i 0 then _k13 (cvT [] [] 1 _t _h) (cvH [] 1 _h) else none) (fun _t _h => finK (C_ref_Table _N) [.tmp 4] (finD Rk_ref_Table) .ret _t _h)) = ref_Table_14 _N _x1 _x2 (_k13 [] [.cells [.int .i64 _x1.1, .sl (.int .u32) _x1.2]]) :=
  (loop_frag (by kernel_rfl) rfl (by kernel_rfl) (by kernel_rfl)).trans (loopN_sim (S := Int) (fun _s => [(1, .sl (.int .i64) _x2), (2, .ptr 0 0), (5, .int .i64 _s)]) (fun _s => [.cells [.int .i64 _x1.1, .sl (.int .u32) _x1.2]]) (fun _s _kn => ref_Table_13e _N _x1 _x2 _s _kn _k13) _N (0 : Int))
noncomputable def ref_Table_15 (_N : Nat) (_x1 : Int × List Int) (_x2 : List Int) (_k13 : Option Rt_ref_Table) : Option Rt_ref_Table :=
  ref_Table_14 _N _x1 _x2 _k13
theorem ref_Table_15e (_N : Nat) (_x1 : Int × List Int) (_x2 : List Int) (_k13 : Slots → List O → Option Rt_ref_Table) :
    exec (C_ref_Table _N) (cAt (bodyOf Tryd.f27) [1, 1, 0, 1]) (.one (.loop [1, 2, 5] 1 (.two .none (.keep [1, 2, 5] 1 (.two (.one (.two .none (.keep [1, 2, 5, 6] 1 (.one (.loop [1, 2, 5, 6] 1 .none))))) (.keep [1, 2, 5] 1 .none)))))) [(1, .sl (.int .i64) _x2), (2, .ptr 0 0), (5, .int .i64 (0 : Int))] [.cells [.int .i64 _x1.1, .sl (.int .u32) _x1.2]] (canonK [] _k13 [] 1 (fun _i _t _h => none) (fun _t _h => finK (C_ref_Table _N) [.tmp 4] (finD Rk_ref_Table) .ret _t _h)) = ref_Table_15 _N _x1 _x2 (_k13 [] [.cells [.int .i64 _x1.1, .sl (.int .u32) _x1.2]]) :=
  (block_canon (by kernel_rfl)).trans (ref_Table_14e _N _x1 _x2 _k13)
noncomputable def ref_Table_16 (_N : Nat) (_x1 : Int × List Int) (_x2 : List Int) (_k13 : Option Rt_ref_Table) : Option Rt_ref_Table :=
  ref_Table_3 _N (ref_Table_15 _N _x1 _x2 _k13)
theorem ref_Table_16e (_N : Nat) (_x1 : Int × List Int) (_x2 : List Int) (_k13 : Slots → List O → Option Rt_ref_Table) :
    exec (C_ref_Table _N) (cAt (bodyOf Tryd.f27) [1, 1, 0]) (.two .none (.keep [1, 2, 5] 1 (.one (.loop [1, 2, 5] 1 (.two .none (.keep [1, 2, 5] 1 (.two (.one (.two .none (.keep [1, 2, 5, 6] 1 (.one (.loop [1, 2, 5, 6] 1 .none))))) (.keep [1, 2, 5] 1 .none)))))))) [(1, .sl (.int .i64) _x2), (2, .ptr 0 0)] [.cells [.int .i64 _x1.1, .sl (.int .u32) _x1.2]] (canonK [] _k13 [] 1 (fun _i _t _h => none) (fun _t _h => finK (C_ref_Table _N) [.tmp 4] (finD Rk_ref_Table) .ret _t _h)) = ref_Table_16 _N _x1 _x2 (_k13 [] [.cells [.int .i64 _x1.1, .sl (.int .u32) _x1.2]]) :=
  (seq_frag (by kernel_rfl) rfl).trans ((ref_Table_3e _N _x1 _x2 (fun _t _h => exec (C_ref_Table _N) (cAt (bodyOf Tryd.f27) [1, 1, 0, 1]) (.one (.loop [1, 2, 5] 1 (.two .none (.keep [1, 2, 5] 1 (.two (.one (.two .none (.keep [1, 2, 5, 6] 1 (.one (.loop [1, 2, 5, 6] 1 .none))))) (.keep [1, 2, 5] 1 .none)))))) _t _h (canonK [] _k13 [] 1 (fun _i _t _h => none) (fun _t _h => finK (C_ref_Table _N) [.tmp 4] (finD Rk_ref_Table) .ret _t _h)))).trans (congrArg (fun _z => ref_Table_3 _N _z) (ref_Table_15e _N _x1 _x2 _k13)))
noncomputable def ref_Table_17 (_N : Nat) : Option Rt_ref_Table :=
  (some (true, ()))
theorem ref_Table_17e (_N : Nat) (_x1 : Int × List Int) (_x2 : List Int) :
    exec (C_ref_Table _N) (cAt (bodyOf Tryd.f27) [1, 1, 1]) .none [] [.cells [.int .i64 _x1.1, .sl (.int .u32) _x1.2]] (canonR (fun _i _t _h => none) (finK (C_ref_Table _N) [.tmp 4] (finD Rk_ref_Table))) = ref_Table_17 _N :=
  by kernel_rfl
noncomputable def ref_Table_18 (_N : Nat) (_x1 : Int × List Int) (_x2 : List Int) : Option Rt_ref_Table :=
  ref_Table_16 _N _x1 _x2 (ref_Table_17 _N)
theorem ref_Table_18e (_N : Nat) (_x1 : Int × List Int) (_x2 : List Int) :
    exec (C_ref_Table _N) (cAt (bodyOf Tryd.f27) [1, 1]) (.two (.two .none (.keep [1, 2, 5] 1 (.one (.loop [1, 2, 5] 1 (.two .none (.keep [1, 2, 5] 1 (.two (.one (.two .none (.keep [1, 2, 5, 6] 1 (.one (.loop [1, 2, 5, 6] 1 .none))))) (.keep [1, 2, 5] 1 .none)))))))) (.keep [] 1 .none)) [(1, .sl (.int .i64) _x2), (2, .ptr 0 0)] [.cells [.int .i64 _x1.1, .sl (.int .u32) _x1.2]] (canonR (fun _i _t _h => none) (finK (C_ref_Table _N) [.tmp 4] (finD Rk_ref_Table))) = ref_Table_18 _N _x1 _x2 :=
  (seq_frag (by kernel_rfl) rfl).trans ((ref_Table_16e _N _x1 _x2 (fun _t _h => exec (C_ref_Table _N) (cAt (bodyOf Tryd.f27) [1, 1, 1]) .none _t _h (canonR (fun _i _t _h => none) (finK (C_ref_Table _N) [.tmp 4] (finD Rk_ref_Table))))).trans (congrArg (fun _z => ref_Table_16 _N _x1 _x2 _z) (ref_Table_17e _N _x1 _x2)))
noncomputable def ref_Table_19 (_N : Nat) (_x1 : Int × List Int) (_x2 : List Int) : Option Rt_ref_Table :=
  ref_Table_2 _N _x1 _x2 (ref_Table_18 _N _x1 _x2)
theorem ref_Table_19e (_N : Nat) (_x1 : Int × List Int) (_x2 : List Int) :
    exec (C_ref_Table _N) (cAt (bodyOf Tryd.f27) [1]) (.two .none (.keep [1, 2] 1 (.two (.two .none (.keep [1, 2, 5] 1 (.one (.loop [1, 2, 5] 1 (.two .none (.keep [1, 2, 5] 1 (.two (.one (.two .none (.keep [1, 2, 5, 6] 1 (.one (.loop [1, 2, 5, 6] 1 .none))))) (.keep [1, 2, 5] 1 .none)))))))) (.keep [] 1 .none)))) [(1, .sl (.int .i64) _x2), (2, .ptr 0 0)] [.cells [.int .i64 _x1.1, .sl (.int .u32) _x1.2]] (canonR (fun _i _t _h => none) (finK (C_ref_Table _N) [.tmp 4] (finD Rk_ref_Table))) = ref_Table_19 _N _x1 _x2 :=
  (seq_frag (by kernel_rfl) rfl).trans ((ref_Table_2e _N _x1 _x2 (fun _t _h => exec (C_ref_Table _N) (cAt (bodyOf Tryd.f27) [1, 1]) (.two (.two .none (.keep [1, 2, 5] 1 (.one (.loop [1, 2, 5] 1 (.two .none (.keep [1, 2, 5] 1 (.two (.one (.two .none (.keep [1, 2, 5, 6] 1 (.one (.loop [1, 2, 5, 6] 1 .none))))) (.keep [1, 2, 5] 1 .none)))))))) (.keep [] 1 .none)) _t _h (canonR (fun _i _t _h => none) (finK (C_ref_Table _N) [.tmp 4] (finD Rk_ref_Table))))).trans (congrArg (fun _z => ref_Table_2 _N _x1 _x2 _z) (ref_Table_18e _N _x1 _x2)))
noncomputable def ref_Table_20 (_N : Nat) (_x1 : Int × List Int) (_x2 : List Int) : Option Rt_ref_Table :=
  ref_Table_1 _N (ref_Table_19 _N _x1 _x2)
theorem ref_Table_20e (_N : Nat) (_x1 : Int × List Int) (_x2 : List Int) :
    exec (C_ref_Table _N) (cAt (bodyOf Tryd.f27) []) (.two .none (.keep [1, 2] 1 (.two .none (.keep [1, 2] 1 (.two (.two .none (.keep [1, 2, 5] 1 (.one (.loop [1, 2, 5] 1 (.two .none (.keep [1, 2, 5] 1 (.two (.one (.two .none (.keep [1, 2, 5, 6] 1 (.one (.loop [1, 2, 5, 6] 1 .none))))) (.keep [1, 2, 5] 1 .none)))))))) (.keep [] 1 .none)))))) [(0, .agg [.int .i64 _x1.1, .sl (.int .u32) _x1.2]), (1, .sl (.int .i64) _x2)] [] (canonR (fun _i _t _h => none) (finK (C_ref_Table _N) [.tmp 4] (finD Rk_ref_Table))) = ref_Table_20 _N _x1 _x2 :=
  (seq_frag (by kernel_rfl) rfl).trans ((ref_Table_1e _N _x1 _x2 (fun _t _h => exec (C_ref_Table _N) (cAt (bodyOf Tryd.f27) [1]) (.two .none (.keep [1, 2] 1 (.two (.two .none (.keep [1, 2, 5] 1 (.one (.loop [1, 2, 5] 1 (.two .none (.keep [1, 2, 5] 1 (.two (.one (.two .none (.keep [1, 2, 5, 6] 1 (.one (.loop [1, 2, 5, 6] 1 .none))))) (.keep [1, 2, 5] 1 .none)))))))) (.keep [] 1 .none)))) _t _h (canonR (fun _i _t _h => none) (finK (C_ref_Table _N) [.tmp 4] (finD Rk_ref_Table))))).trans (congrArg (fun _z => ref_Table_1 _N _z) (ref_Table_19e _N _x1 _x2)))
noncomputable def D_ref_Table (_N : Nat) (x : Dens Ks_ref_Table) : Option Rt_ref_Table := ref_Table_20 _N x.1 x.2.1
theorem E_ref_Table (_N : Nat) (x : Dens Ks_ref_Table) : exec (C_ref_Table _N) (bodyOf Tryd.f27) (.two .none (.keep [1, 2] 1 (.two .none (.keep [1, 2] 1 (.two (.two .none (.keep [1, 2, 5] 1 (.one (.loop [1, 2, 5] 1 (.two .none (.keep [1, 2, 5] 1 (.two (.one (.two .none (.keep [1, 2, 5, 6] 1 (.one (.loop [1, 2, 5, 6] 1 .none))))) (.keep [1, 2, 5] 1 .none)))))))) (.keep [] 1 .none)))))) (argS 0 (kvals Ks_ref_Table x)) [] (finK (C_ref_Table _N) [.tmp 4] (finD Rk_ref_Table)) = D_ref_Table _N x :=
  (congrArg (fun K => exec (C_ref_Table _N) (bodyOf Tryd.f27) (.two .none (.keep [1, 2] 1 (.two .none (.keep [1, 2] 1 (.two (.two .none (.keep [1, 2, 5] 1 (.one (.loop [1, 2, 5] 1 (.two .none (.keep [1, 2, 5] 1 (.two (.one (.two .none (.keep [1, 2, 5, 6] 1 (.one (.loop [1, 2, 5, 6] 1 .none))))) (.keep [1, 2, 5] 1 .none)))))))) (.keep [] 1 .none)))))) (argS 0 (kvals Ks_ref_Table x)) [] K) canonR_fin).trans (ref_Table_20e _N x.1 x.2.1)
theorem ok_ref_Table (_N : Nat) : CtxOk Tryd.prog Gs Tryd.f27 (C_ref_Table _N) := ⟨rfl, by unfold TOk; kernel_rfl, gOk_of rfl rfl (List.forall_mem_cons.2 ⟨en_ref_Below _N, (List.forall_mem_nil _)⟩), iOk_of rfl rfl (List.forall_mem_nil _), rfl⟩
theorem hb_ref_Table : HasBody Tryd.prog 27 := ⟨Tryd.f27, bodyOf Tryd.f27, by kernel_rfl, by kernel_rfl, rfl⟩
theorem sp_ref_Table (_N : Nat) : SpecD Tryd.prog Gs 27 Ks_ref_Table Rk_ref_Table (D_ref_Table _N) := specD_of (c := bodyOf Tryd.f27) (by kernel_rfl) rfl (by kernel_rfl) (Nat.le_of_ble_eq_true (by kernel_rfl)) fun x y _h => ⟨C_ref_Table _N, (.two .none (.keep [1, 2] 1 (.two .none (.keep [1, 2] 1 (.two (.two .none (.keep [1, 2, 5] 1 (.one (.loop [1, 2, 5] 1 (.two .none (.keep [1, 2, 5] 1 (.two (.one (.two .none (.keep [1, 2, 5, 6] 1 (.one (.loop [1, 2, 5, 6] 1 .none))))) (.keep [1, 2, 5] 1 .none)))))))) (.keep [] 1 .none)))))), ok_ref_Table _N, (E_ref_Table _N x).trans _h⟩
theorem en_ref_Table (_N : Nat) : EntOk Tryd.prog Gs (mkP 27 Ks_ref_Table Rk_ref_Table (D_ref_Table _N)) := entP hb_ref_Table (by kernel_rfl) (sp_ref_Table _N)
-- watershed/watershedkeep.added
abbrev Ks_keep_added : List Kd := [.dat (.sl (.int .i64)), .dat (.sl (.int .i64))]
abbrev Rt_keep_added : Type := List Int
def T_keep_added : List (Nat × TE) := [(2, ⟨.int .i64, 1, 8, some (.int .i64), [.int .i64 (0 : Int)]⟩),
  (40, ⟨.slice 2, 1, 24, some (.sl (.int .i64)), [.nil]⟩)]
noncomputable def C_keep_added (_N : Nat) : Ctx := { T := T_keep_added, G := findE [], I := findI [], N := _N, n := 32, fx := [0], fl := 0, gs := Gs }
noncomputable def keep_added_1 (_N : Nat) (_k6 : Option Rt_keep_added) : Option Rt_keep_added :=
  _k6
theorem keep_added_1e (_N : Nat) (_x1 : List Int) (_x2 : List Int) (_k6 : Slots → List O → Option Rt_keep_added) :
    exec (C_keep_added _N) (cAt (bodyOf Tryd.f28) [0]) .none [(0, .sl (.int .i64) _x1), (1, .sl (.int .i64) _x2)] [] (canonK [0] _k6 [0, 1] 0 (fun _i _t _h => none) (fun _t _h => finK (C_keep_added _N) [.tmp 4] (finF 2 (.int .i64)) .ret _t _h)) = keep_added_1 _N (_k6 [(0, .sl (.int .i64) _x1), (1, .sl (.int .i64) _x2)] []) :=
  by kernel_rfl
noncomputable def keep_added_2 (_N : Nat) (_k7 : Option Rt_keep_added) : Option Rt_keep_added :=
  _k7
theorem keep_added_2e (_N : Nat) (_x1 : List Int) (_x2 : List Int) (_k7 : Slots → List O → Option Rt_keep_added) :
    exec (C_keep_added _N) (cAt (bodyOf Tryd.f28) [1, 0]) .none [(0, .sl (.int .i64) _x1), (1, .sl (.int .i64) _x2)] [] (canonK [0] _k7 [0, 1, 5] 0 (fun _i _t _h => none) (fun _t _h => finK (C_keep_added _N) [.tmp 4] (finF 2 (.int .i64)) .ret _t _h)) = keep_added_2 _N (_k7 [(0, .sl (.int .i64) _x1), (1, .sl (.int .i64) _x2), (5, .nil)] []) :=
  by kernel_rfl
noncomputable def keep_added_3 (_N : Nat) (_k9 : Option Rt_keep_added) : Option Rt_keep_added :=
  _k9
theorem keep_added_3e (_N : Nat) (_x1 : List Int) (_x2 : List Int) (_k9 : Slots → List O → Option Rt_keep_added) :
    exec (C_keep_added _N) (cAt (bodyOf Tryd.f28) [1, 1, 0, 0]) .none [(0, .sl (.int .i64) _x1), (1, .sl (.int .i64) _x2), (5, .nil)] [] (canonK [0] _k9 [0, 1, 5, 6] 0 (fun _i _t _h => none) (fun _t _h => finK (C_keep_added _N) [.tmp 4] (finF 2 (.int .i64)) .ret _t _h)) = keep_added_3 _N (_k9 [(0, .sl (.int .i64) _x1), (1, .sl (.int .i64) _x2), (5, .nil), (6, .int .i64 (0 : Int))] []) :=
  by kernel_rfl
noncomputable def keep_added_4 (_N : Nat) (_x1 : List Int) (_x2 : List Int) (_v1 : Int) (_v2 : List Int) (_k10 : Int → (List Int) → Option Rt_keep_added) (_k8 : (List Int) → Option Rt_keep_added) : Option Rt_keep_added :=
  (bif (decide (_v1 < (_x1.length : Int))) then (bif (decide (_v1 < (_x2.length : Int))) then (bif (decide (0 ≤ _v1) && decide (_v1 < (_x1.length : Int))) then (bif (decide (0 ≤ _v1) && decide (_v1 < (_x2.length : Int))) then (bif (decide ((_v2.length + ([(IntKind.i64.wrap ((nth (0 : Int) _x1 (_v1).toNat) + (nth (0 : Int) _x2 (_v1).toNat)))]).length) * 8 ≤ 70368744177664) && Nat.ble 1 8) then (_k10 (IntKind.i64.wrap (_v1 + (1 : Int))) (_v2 ++ [(IntKind.i64.wrap ((nth (0 : Int) _x1 (_v1).toNat) + (nth (0 : Int) _x2 (_v1).toNat)))])) else none) else none) else none) else (_k8 _v2)) else (_k8 _v2))
theorem keep_added_4e (_N : Nat) (_x1 : List Int) (_x2 : List Int) (_v1 : Int) (_v2 : List Int) (_k10 _k8 : Slots → List O → Option Rt_keep_added) :
    exec (C_keep_added _N) (cAt (bodyOf Tryd.f28) [1, 1, 0, 1, 0, 0]) (.two .none (.two (.one (.draw 1 [.pure, .pure, .pure, .pure, .pure, .pure, .pure, .pure, .pure, .pure, .new 1, .wr [0, 1], .pure])) .none)) [(0, .sl (.int .i64) _x1), (1, .sl (.int .i64) _x2), (5, .slc 0 0), (6, .int .i64 _v1)] [.row false 0 2 (.int .i64) _v2] (canonK [0] _k10 [0, 1, 5, 6] 1 (fun _i _t _h => bif Nat.beq _i 0 then _k8 (cvT [0] [5] 1 _t _h) (cvH [0] 1 _h) else none) (fun _t _h => finK (C_keep_added _N) [.tmp 4] (finF 2 (.int .i64)) .ret _t _h)) = keep_added_4 _N _x1 _x2 _v1 _v2 (fun _v1 _v2 => _k10 [(0, .sl (.int .i64) _x1), (1, .sl (.int .i64) _x2), (5, .slc 0 0), (6, .int .i64 _v1)] [.row false 0 2 (.int .i64) _v2]) (fun _v5 => _k8 [(5, .slc 0 0)] [.row false 0 2 (.int .i64) _v5]) :=
  by kernel_rfl
noncomputable def keep_added_5 (_N : Nat) (_x1 : List Int) (_x2 : List Int) (_k8 : (List Int) → Option Rt_keep_added) : Option Rt_keep_added :=
  loopD (fun (_s : Int × List Int) _kn => keep_added_4 _N _x1 _x2 _s.1 _s.2 (fun _v1 _v2 => _kn (_v1, _v2)) _k8) _N ((0 : Int), [])
theorem keep_added_5e (_N : Nat) (_x1 : List Int) (_x2 : List Int) (_k8 : Slots → List O → Option Rt_keep_added) :
    exec (C_keep_added _N) (cAt (bodyOf Tryd.f28) [1, 1, 0, 1, 0]) (.obj 5 2 (.int .i64) (.loop [0, 1, 5, 6] 1 (.two .none (.two (.one (.draw 1 [.pure, .pure, .pure, .pure, .pure, .pure, .pure, .pure, .pure, .pure, .new 1, .wr [0, 1], .pure])) .none)))) [(0, .sl (.int .i64) _x1), (1, .sl (.int .i64) _x2), (5, .nil), (6, .int .i64 (0 : Int))] [] (canonK [0] _k8 [5] 1 (fun _i _t _h => bif Nat.beq _i 0 then _k8 (cvT [0] [5] 1 _t _h) (cvH [0] 1 _h) else none) (fun _t _h => finK (C_keep_added _N) [.tmp 4] (finF 2 (.int .i64)) .ret _t _h)) = keep_added_5 _N _x1 _x2 (fun _v5 => _k8 [(5, .slc 0 0)] [.row false 0 2 (.int .i64) _v5]) :=
  (exec_obj _ (by kernel_rfl) rfl (t' := (5, .slc 0 0) :: [(0, .sl (.int .i64) _x1), (1, .sl (.int .i64) _x2), (5, .nil), (6, .int .i64 (0 : Int))]) (h' := [.row false 0 2 (.int .i64) ([])]) (by kernel_rfl) (by kernel_rfl)).trans ((loop_frag (by kernel_rfl) rfl (by kernel_rfl) (by kernel_rfl)).trans (loopN_sim (S := Int × List Int) (fun _s => [(0, .sl (.int .i64) _x1), (1, .sl (.int .i64) _x2), (5, .slc 0 0), (6, .int .i64 _s.1)]) (fun _s => [.row false 0 2 (.int .i64) _s.2]) (fun _s _kn => keep_added_4e _N _x1 _x2 _s.1 _s.2 _kn _k8) _N ((0 : Int), [])))
noncomputable def keep_added_6 (_N : Nat) (_x1 : List Int) (_x2 : List Int) (_k8 : (List Int) → Option Rt_keep_added) : Option Rt_keep_added :=
  keep_added_5 _N _x1 _x2 _k8
theorem keep_added_6e (_N : Nat) (_x1 : List Int) (_x2 : List Int) (_k8 : Slots → List O → Option Rt_keep_added) :
    exec (C_keep_added _N) (cAt (bodyOf Tryd.f28) [1, 1, 0, 1]) (.one (.obj 5 2 (.int .i64) (.loop [0, 1, 5, 6] 1 (.two .none (.two (.one (.draw 1 [.pure, .pure, .pure, .pure, .pure, .pure, .pure, .pure, .pure, .pure, .new 1, .wr [0, 1], .pure])) .none))))) [(0, .sl (.int .i64) _x1), (1, .sl (.int .i64) _x2), (5, .nil), (6, .int .i64 (0 : Int))] [] (canonK [0] _k8 [5] 1 (fun _i _t _h => none) (fun _t _h => finK (C_keep_added _N) [.tmp 4] (finF 2 (.int .i64)) .ret _t _h)) = keep_added_6 _N _x1 _x2 (fun _v5 => _k8 [(5, .slc 0 0)] [.row false 0 2 (.int .i64) _v5]) :=
  (block_canon (by kernel_rfl)).trans (keep_added_5e _N _x1 _x2 _k8)
noncomputable def keep_added_7 (_N : Nat) (_x1 : List Int) (_x2 : List Int) (_k8 : (List Int) → Option Rt_keep_added) : Option Rt_keep_added :=
  keep_added_3 _N (keep_added_6 _N _x1 _x2 _k8)
theorem keep_added_7e (_N : Nat) (_x1 : List Int) (_x2 : List Int) (_k8 : Slots → List O → Option Rt_keep_added) :
    exec (C_keep_added _N) (cAt (bodyOf Tryd.f28) [1, 1, 0]) (.two .none (.keep [0, 1, 5, 6] 0 (.one (.obj 5 2 (.int .i64) (.loop [0, 1, 5, 6] 1 (.two .none (.two (.one (.draw 1 [.pure, .pure, .pure, .pure, .pure, .pure, .pure, .pure, .pure, .pure, .new 1, .wr [0, 1], .pure])) .none))))))) [(0, .sl (.int .i64) _x1), (1, .sl (.int .i64) _x2), (5, .nil)] [] (canonK [0] _k8 [5] 1 (fun _i _t _h => none) (fun _t _h => finK (C_keep_added _N) [.tmp 4] (finF 2 (.int .i64)) .ret _t _h)) = keep_added_7 _N _x1 _x2 (fun _v5 => _k8 [(5, .slc 0 0)] [.row false 0 2 (.int .i64) _v5]) :=
  (seq_frag (by kernel_rfl) rfl).trans ((keep_added_3e _N _x1 _x2 (fun _t _h => exec (C_keep_added _N) (cAt (bodyOf Tryd.f28) [1, 1, 0, 1]) (.one (.obj 5 2 (.int .i64) (.loop [0, 1, 5, 6] 1 (.two .none (.two (.one (.draw 1 [.pure, .pure, .pure, .pure, .pure, .pure, .pure, .pure, .pure, .pure, .new 1, .wr [0, 1], .pure])) .none))))) _t _h (canonK [0] _k8 [5] 1 (fun _i _t _h => none) (fun _t _h => finK (C_keep_added _N) [.tmp 4] (finF 2 (.int .i64)) .ret _t _h)))).trans (congrArg (fun _z => keep_added_3 _N _z) (keep_added_6e _N _x1 _x2 _k8)))
noncomputable def keep_added_8 (_N : Nat) (_v5 : List Int) : Option Rt_keep_added :=
  (some _v5)
theorem keep_added_8e (_N : Nat) (_x1 : List Int) (_x2 : List Int) (_v5 : List Int) :
    exec (C_keep_added _N) (cAt (bodyOf Tryd.f28) [1, 1, 1]) .none [(5, .slc 0 0)] [.row false 0 2 (.int .i64) _v5] (canonR (fun _i _t _h => none) (finK (C_keep_added _N) [.tmp 4] (finF 2 (.int .i64)))) = keep_added_8 _N _v5 :=
  by kernel_rfl
noncomputable def keep_added_9 (_N : Nat) (_x1 : List Int) (_x2 : List Int) : Option Rt_keep_added :=
  keep_added_7 _N _x1 _x2 (fun _v5 => keep_added_8 _N _v5)
theorem keep_added_9e (_N : Nat) (_x1 : List Int) (_x2 : List Int) :
    exec (C_keep_added _N) (cAt (bodyOf Tryd.f28) [1, 1]) (.two (.two .none (.keep [0, 1, 5, 6] 0 (.one (.obj 5 2 (.int .i64) (.loop [0, 1, 5, 6] 1 (.two .none (.two (.one (.draw 1 [.pure, .pure, .pure, .pure, .pure, .pure, .pure, .pure, .pure, .pure, .new 1, .wr [0, 1], .pure])) .none))))))) (.keep [5] 1 .none)) [(0, .sl (.int .i64) _x1), (1, .sl (.int .i64) _x2), (5, .nil)] [] (canonR (fun _i _t _h => none) (finK (C_keep_added _N) [.tmp 4] (finF 2 (.int .i64)))) = keep_added_9 _N _x1 _x2 :=
  (seq_frag (by kernel_rfl) rfl).trans ((keep_added_7e _N _x1 _x2 (fun _t _h => exec (C_keep_added _N) (cAt (bodyOf Tryd.f28) [1, 1, 1]) .none _t _h (canonR (fun _i _t _h => none) (finK (C_keep_added _N) [.tmp 4] (finF 2 (.int .i64)))))).trans (congrArg (fun _z => keep_added_7 _N _x1 _x2 _z) (funext fun _v5 => keep_added_8e _N _x1 _x2 _v5)))
noncomputable def keep_added_10 (_N : Nat) (_x1 : List Int) (_x2 : List Int) : Option Rt_keep_added :=
  keep_added_2 _N (keep_added_9 _N _x1 _x2)
theorem keep_added_10e (_N : Nat) (_x1 : List Int) (_x2 : List Int) :
    exec (C_keep_added _N) (cAt (bodyOf Tryd.f28) [1]) (.two .none (.keep [0, 1, 5] 0 (.two (.two .none (.keep [0, 1, 5, 6] 0 (.one (.obj 5 2 (.int .i64) (.loop [0, 1, 5, 6] 1 (.two .none (.two (.one (.draw 1 [.pure, .pure, .pure, .pure, .pure, .pure, .pure, .pure, .pure, .pure, .new 1, .wr [0, 1], .pure])) .none))))))) (.keep [5] 1 .none)))) [(0, .sl (.int .i64) _x1), (1, .sl (.int .i64) _x2)] [] (canonR (fun _i _t _h => none) (finK (C_keep_added _N) [.tmp 4] (finF 2 (.int .i64)))) = keep_added_10 _N _x1 _x2 :=
  (seq_frag (by kernel_rfl) rfl).trans ((keep_added_2e _N _x1 _x2 (fun _t _h => exec (C_keep_added _N) (cAt (bodyOf Tryd.f28) [1, 1]) (.two (.two .none (.keep [0, 1, 5, 6] 0 (.one (.obj 5 2 (.int .i64) (.loop [0, 1, 5, 6] 1 (.two .none (.two (.one (.draw 1 [.pure, .pure, .pure, .pure, .pure, .pure, .pure, .pure, .pure, .pure, .new 1, .wr [0, 1], .pure])) .none))))))) (.keep [5] 1 .none)) _t _h (canonR (fun _i _t _h => none) (finK (C_keep_added _N) [.tmp 4] (finF 2 (.int .i64)))))).trans (congrArg (fun _z => keep_added_2 _N _z) (keep_added_9e _N _x1 _x2)))
noncomputable def keep_added_11 (_N : Nat) (_x1 : List Int) (_x2 : List Int) : Option Rt_keep_added :=
  keep_added_1 _N (keep_added_10 _N _x1 _x2)
theorem keep_added_11e (_N : Nat) (_x1 : List Int) (_x2 : List Int) :
    exec (C_keep_added _N) (cAt (bodyOf Tryd.f28) []) (.two .none (.keep [0, 1] 0 (.two .none (.keep [0, 1, 5] 0 (.two (.two .none (.keep [0, 1, 5, 6] 0 (.one (.obj 5 2 (.int .i64) (.loop [0, 1, 5, 6] 1 (.two .none (.two (.one (.draw 1 [.pure, .pure, .pure, .pure, .pure, .pure, .pure, .pure, .pure, .pure, .new 1, .wr [0, 1], .pure])) .none))))))) (.keep [5] 1 .none)))))) [(0, .sl (.int .i64) _x1), (1, .sl (.int .i64) _x2)] [] (canonR (fun _i _t _h => none) (finK (C_keep_added _N) [.tmp 4] (finF 2 (.int .i64)))) = keep_added_11 _N _x1 _x2 :=
  (seq_frag (by kernel_rfl) rfl).trans ((keep_added_1e _N _x1 _x2 (fun _t _h => exec (C_keep_added _N) (cAt (bodyOf Tryd.f28) [1]) (.two .none (.keep [0, 1, 5] 0 (.two (.two .none (.keep [0, 1, 5, 6] 0 (.one (.obj 5 2 (.int .i64) (.loop [0, 1, 5, 6] 1 (.two .none (.two (.one (.draw 1 [.pure, .pure, .pure, .pure, .pure, .pure, .pure, .pure, .pure, .pure, .new 1, .wr [0, 1], .pure])) .none))))))) (.keep [5] 1 .none)))) _t _h (canonR (fun _i _t _h => none) (finK (C_keep_added _N) [.tmp 4] (finF 2 (.int .i64)))))).trans (congrArg (fun _z => keep_added_1 _N _z) (keep_added_10e _N _x1 _x2)))
noncomputable def D_keep_added (_N : Nat) (x : Dens Ks_keep_added) : Option Rt_keep_added := keep_added_11 _N x.1 x.2.1
theorem E_keep_added (_N : Nat) (x : Dens Ks_keep_added) : exec (C_keep_added _N) (bodyOf Tryd.f28) (.two .none (.keep [0, 1] 0 (.two .none (.keep [0, 1, 5] 0 (.two (.two .none (.keep [0, 1, 5, 6] 0 (.one (.obj 5 2 (.int .i64) (.loop [0, 1, 5, 6] 1 (.two .none (.two (.one (.draw 1 [.pure, .pure, .pure, .pure, .pure, .pure, .pure, .pure, .pure, .pure, .new 1, .wr [0, 1], .pure])) .none))))))) (.keep [5] 1 .none)))))) (argS 0 (kvals Ks_keep_added x)) [] (finK (C_keep_added _N) [.tmp 4] (finF 2 (.int .i64))) = D_keep_added _N x :=
  (congrArg (fun K => exec (C_keep_added _N) (bodyOf Tryd.f28) (.two .none (.keep [0, 1] 0 (.two .none (.keep [0, 1, 5] 0 (.two (.two .none (.keep [0, 1, 5, 6] 0 (.one (.obj 5 2 (.int .i64) (.loop [0, 1, 5, 6] 1 (.two .none (.two (.one (.draw 1 [.pure, .pure, .pure, .pure, .pure, .pure, .pure, .pure, .pure, .pure, .new 1, .wr [0, 1], .pure])) .none))))))) (.keep [5] 1 .none)))))) (argS 0 (kvals Ks_keep_added x)) [] K) canonR_fin).trans (keep_added_11e _N x.1 x.2.1)
theorem ok_keep_added (_N : Nat) : CtxOk Tryd.prog Gs Tryd.f28 (C_keep_added _N) := ⟨rfl, by unfold TOk; kernel_rfl, gOk_of rfl rfl (List.forall_mem_nil _), iOk_of rfl rfl (List.forall_mem_nil _), rfl⟩
theorem hb_keep_added : HasBody Tryd.prog 28 := ⟨Tryd.f28, bodyOf Tryd.f28, by kernel_rfl, by kernel_rfl, rfl⟩
theorem sp_keep_added (_N : Nat) : SpecF Tryd.prog Gs 28 Ks_keep_added 2 (.int .i64) (D_keep_added _N) := specF_of (c := bodyOf Tryd.f28) (by kernel_rfl) rfl (by kernel_rfl) (Nat.le_of_ble_eq_true (by kernel_rfl)) fun x y _h => ⟨C_keep_added _N, (.two .none (.keep [0, 1] 0 (.two .none (.keep [0, 1, 5] 0 (.two (.two .none (.keep [0, 1, 5, 6] 0 (.one (.obj 5 2 (.int .i64) (.loop [0, 1, 5, 6] 1 (.two .none (.two (.one (.draw 1 [.pure, .pure, .pure, .pure, .pure, .pure, .pure, .pure, .pure, .pure, .new 1, .wr [0, 1], .pure])) .none))))))) (.keep [5] 1 .none)))))), ok_keep_added _N, (E_keep_added _N x).trans _h⟩
theorem en_keep_added (_N : Nat) : EntOk Tryd.prog Gs (mkF 28 Ks_keep_added 2 (.int .i64) (D_keep_added _N)) := entF hb_keep_added (by kernel_rfl) (Nat.le_of_ble_eq_true (by kernel_rfl)) (sp_keep_added _N)
theorem qen_keep_added (_N : Nat) : EntOk Tryd.prog Gs (mkQ 28 Ks_keep_added [.dat (.sl (.int .i64))] (fun x => (D_keep_added _N x).map fun y => (y, ()))) := entQ hb_keep_added (specD_of_F (sp_keep_added _N))
-- watershed/watershedkeep.ones
abbrev Ks_keep_ones : List Kd := [.dat (.int .i64)]
abbrev Rt_keep_ones : Type := List Int
def T_keep_ones : List (Nat × TE) := [(2, ⟨.int .i64, 1, 8, some (.int .i64), [.int .i64 (0 : Int)]⟩),
  (40, ⟨.slice 2, 1, 24, some (.sl (.int .i64)), [.nil]⟩)]
noncomputable def C_keep_ones (_N : Nat) : Ctx := { T := T_keep_ones, G := findE [], I := findI [], N := _N, n := 22, fx := [], fl := 0, gs := Gs }
noncomputable def keep_ones_1 (_N : Nat) (_k6 : Option Rt_keep_ones) : Option Rt_keep_ones :=
  _k6
theorem keep_ones_1e (_N : Nat) (_x1 : Int) (_k6 : Slots → List O → Option Rt_keep_ones) :
    exec (C_keep_ones _N) (cAt (bodyOf Tryd.f29) [0]) .none [(0, .int .i64 _x1)] [] (canonK [] _k6 [0] 0 (fun _i _t _h => none) (fun _t _h => finK (C_keep_ones _N) [.tmp 2] (finF 2 (.int .i64)) .ret _t _h)) = keep_ones_1 _N (_k6 [(0, .int .i64 _x1)] []) :=
  by kernel_rfl
noncomputable def keep_ones_2 (_N : Nat) (_x1 : Int) (_k7 : Option Rt_keep_ones) : Option Rt_keep_ones :=
  (bif (decide (0 ≤ (IntKind.i64.wrap (_x1 * _x1))) && (decide ((IntKind.i64.wrap (_x1 * _x1)) ≤ (IntKind.i64.wrap (_x1 * _x1))) && decide ((IntKind.i64.wrap (_x1 * _x1)) * 8 ≤ 281474976710656))) then _k7 else none)
theorem keep_ones_2e (_N : Nat) (_x1 : Int) (_k7 : Slots → List O → Option Rt_keep_ones) :
    exec (C_keep_ones _N) (cAt (bodyOf Tryd.f29) [1, 0]) .none [(0, .int .i64 _x1)] [] (canonK [] _k7 [0, 3] 1 (fun _i _t _h => none) (fun _t _h => finK (C_keep_ones _N) [.tmp 2] (finF 2 (.int .i64)) .ret _t _h)) = keep_ones_2 _N _x1 (_k7 [(0, .int .i64 _x1), (3, .slc 0 0)] [.row false 0 2 (.int .i64) (List.replicate (IntKind.i64.wrap (_x1 * _x1)).toNat (0 : Int))]) :=
  by kernel_rfl
noncomputable def keep_ones_3 (_N : Nat) (_k9 : Option Rt_keep_ones) : Option Rt_keep_ones :=
  _k9
theorem keep_ones_3e (_N : Nat) (_x1 : Int) (_k9 : Slots → List O → Option Rt_keep_ones) :
    exec (C_keep_ones _N) (cAt (bodyOf Tryd.f29) [1, 1, 0, 0]) .none [(0, .int .i64 _x1), (3, .slc 0 0)] [.row false 0 2 (.int .i64) (List.replicate (IntKind.i64.wrap (_x1 * _x1)).toNat (0 : Int))] (canonK [] _k9 [0, 3, 4] 1 (fun _i _t _h => none) (fun _t _h => finK (C_keep_ones _N) [.tmp 2] (finF 2 (.int .i64)) .ret _t _h)) = keep_ones_3 _N (_k9 [(0, .int .i64 _x1), (3, .slc 0 0), (4, .int .i64 (0 : Int))] [.row false 0 2 (.int .i64) (List.replicate (IntKind.i64.wrap (_x1 * _x1)).toNat (0 : Int))]) :=
  by kernel_rfl
noncomputable def keep_ones_4 (_N : Nat) (_x1 : Int) (_v1 : Int) (_v2 : List Int) (_k10 : Int → (List Int) → Option Rt_keep_ones) (_k8 : (List Int) → Option Rt_keep_ones) : Option Rt_keep_ones :=
  (bif (decide (_v1 < _x1)) then (bif (decide (0 ≤ (IntKind.i64.wrap ((IntKind.i64.wrap (_v1 * _x1)) + _v1))) && decide ((IntKind.i64.wrap ((IntKind.i64.wrap (_v1 * _x1)) + _v1)) < (_v2.length : Int))) then (_k10 (IntKind.i64.wrap (_v1 + (1 : Int))) (_v2.set ((IntKind.i64.wrap ((IntKind.i64.wrap (_v1 * _x1)) + _v1)).toNat) (1 : Int))) else none) else (_k8 _v2))
theorem keep_ones_4e (_N : Nat) (_x1 : Int) (_v1 : Int) (_v2 : List Int) (_k10 _k8 : Slots → List O → Option Rt_keep_ones) :
    exec (C_keep_ones _N) (cAt (bodyOf Tryd.f29) [1, 1, 0, 1, 0, 0]) .none [(0, .int .i64 _x1), (3, .slc 0 0), (4, .int .i64 _v1)] [.row false 0 2 (.int .i64) _v2] (canonK [] _k10 [0, 3, 4] 1 (fun _i _t _h => bif Nat.beq _i 0 then _k8 (cvT [] [3] 1 _t _h) (cvH [] 1 _h) else none) (fun _t _h => finK (C_keep_ones _N) [.tmp 2] (finF 2 (.int .i64)) .ret _t _h)) = keep_ones_4 _N _x1 _v1 _v2 (fun _v1 _v2 => _k10 [(0, .int .i64 _x1), (3, .slc 0 0), (4, .int .i64 _v1)] [.row false 0 2 (.int .i64) _v2]) (fun _v5 => _k8 [(3, .slc 0 0)] [.row false 0 2 (.int .i64) _v5]) :=
  by kernel_rfl
noncomputable def keep_ones_5 (_N : Nat) (_x1 : Int) (_k8 : (List Int) → Option Rt_keep_ones) : Option Rt_keep_ones :=
  loopD (fun (_s : Int × List Int) _kn => keep_ones_4 _N _x1 _s.1 _s.2 (fun _v1 _v2 => _kn (_v1, _v2)) _k8) _N ((0 : Int), (List.replicate (IntKind.i64.wrap (_x1 * _x1)).toNat (0 : Int)))
theorem keep_ones_5e (_N : Nat) (_x1 : Int) (_k8 : Slots → List O → Option Rt_keep_ones) :
    exec (C_keep_ones _N) (cAt (bodyOf Tryd.f29) [1, 1, 0, 1, 0]) (.loop [0, 3, 4] 1 .none) [(0, .int .i64 _x1), (3, .slc 0 0), (4, .int .i64 (0 : Int))] [.row false 0 2 (.int .i64) (List.replicate (IntKind.i64.wrap (_x1 * _x1)).toNat (0 : Int))] (canonK [] _k8 [3] 1 (fun _i _t _h => bif Nat.beq _i 0 then _k8 (cvT [] [3] 1 _t _h) (cvH [] 1 _h) else none) (fun _t _h => finK (C_keep_ones _N) [.tmp 2] (finF 2 (.int .i64)) .ret _t _h)) = keep_ones_5 _N _x1 (fun _v5 => _k8 [(3, .slc 0 0)] [.row false 0 2 (.int .i64) _v5]) :=
  (loop_frag (by kernel_rfl) rfl (by kernel_rfl) (by kernel_rfl)).trans (loopN_sim (S := Int × List Int) (fun _s => [(0, .int .i64 _x1), (3, .slc 0 0), (4, .int .i64 _s.1)]) (fun _s => [.row false 0 2 (.int .i64) _s.2]) (fun _s _kn => keep_ones_4e _N _x1 _s.1 _s.2 _kn _k8) _N ((0 : Int), (List.replicate (IntKind.i64.wrap (_x1 * _x1)).toNat (0 : Int))))
noncomputable def keep_ones_6 (_N : Nat) (_x1 : Int) (_k8 : (List Int) → Option Rt_keep_ones) : Option Rt_keep_ones :=
  keep_ones_5 _N _x1 _k8
theorem keep_ones_6e (_N : Nat) (_x1 : Int) (_k8 : Slots → List O → Option Rt_keep_ones) :
    exec (C_keep_ones _N) (cAt (bodyOf Tryd.f29) [1, 1, 0, 1]) (.one (.loop [0, 3, 4] 1 .none)) [(0, .int .i64 _x1), (3, .slc 0 0), (4, .int .i64 (0 : Int))] [.row false 0 2 (.int .i64) (List.replicate (IntKind.i64.wrap (_x1 * _x1)).toNat (0 : Int))] (canonK [] _k8 [3] 1 (fun _i _t _h => none) (fun _t _h => finK (C_keep_ones _N) [.tmp 2] (finF 2 (.int .i64)) .ret _t _h)) = keep_ones_6 _N _x1 (fun _v5 => _k8 [(3, .slc 0 0)] [.row false 0 2 (.int .i64) _v5]) :=
  (block_canon (by kernel_rfl)).trans (keep_ones_5e _N _x1 _k8)
noncomputable def keep_ones_7 (_N : Nat) (_x1 : Int) (_k8 : (List Int) → Option Rt_keep_ones) : Option Rt_keep_ones :=
  keep_ones_3 _N (keep_ones_6 _N _x1 _k8)
theorem keep_ones_7e (_N : Nat) (_x1 : Int) (_k8 : Slots → List O → Option Rt_keep_ones) :
    exec (C_keep_ones _N) (cAt (bodyOf Tryd.f29) [1, 1, 0]) (.two .none (.keep [0, 3, 4] 1 (.one (.loop [0, 3, 4] 1 .none)))) [(0, .int .i64 _x1), (3, .slc 0 0)] [.row false 0 2 (.int .i64) (List.replicate (IntKind.i64.wrap (_x1 * _x1)).toNat (0 : Int))] (canonK [] _k8 [3] 1 (fun _i _t _h => none) (fun _t _h => finK (C_keep_ones _N) [.tmp 2] (finF 2 (.int .i64)) .ret _t _h)) = keep_ones_7 _N _x1 (fun _v5 => _k8 [(3, .slc 0 0)] [.row false 0 2 (.int .i64) _v5]) :=
  (seq_frag (by kernel_rfl) rfl).trans ((keep_ones_3e _N _x1 (fun _t _h => exec (C_keep_ones _N) (cAt (bodyOf Tryd.f29) [1, 1, 0, 1]) (.one (.loop [0, 3, 4] 1 .none)) _t _h (canonK [] _k8 [3] 1 (fun _i _t _h => none) (fun _t _h => finK (C_keep_ones _N) [.tmp 2] (finF 2 (.int .i64)) .ret _t _h)))).trans (congrArg (fun _z => keep_ones_3 _N _z) (keep_ones_6e _N _x1 _k8)))
noncomputable def keep_ones_8 (_N : Nat) (_v5 : List Int) : Option Rt_keep_ones :=
  (some _v5)
theorem keep_ones_8e (_N : Nat) (_x1 : Int) (_v5 : List Int) :
    exec (C_keep_ones _N) (cAt (bodyOf Tryd.f29) [1, 1, 1]) .none [(3, .slc 0 0)] [.row false 0 2 (.int .i64) _v5] (canonR (fun _i _t _h => none) (finK (C_keep_ones _N) [.tmp 2] (finF 2 (.int .i64)))) = keep_ones_8 _N _v5 :=
  by kernel_rfl
noncomputable def keep_ones_9 (_N : Nat) (_x1 : Int) : Option Rt_keep_ones :=
  keep_ones_7 _N _x1 (fun _v5 => keep_ones_8 _N _v5)
theorem keep_ones_9e (_N : Nat) (_x1 : Int) :
    exec (C_keep_ones _N) (cAt (bodyOf Tryd.f29) [1, 1]) (.two (.two .none (.keep [0, 3, 4] 1 (.one (.loop [0, 3, 4] 1 .none)))) (.keep [3] 1 .none)) [(0, .int .i64 _x1), (3, .slc 0 0)] [.row false 0 2 (.int .i64) (List.replicate (IntKind.i64.wrap (_x1 * _x1)).toNat (0 : Int))] (canonR (fun _i _t _h => none) (finK (C_keep_ones _N) [.tmp 2] (finF 2 (.int .i64)))) = keep_ones_9 _N _x1 :=
  (seq_frag (by kernel_rfl) rfl).trans ((keep_ones_7e _N _x1 (fun _t _h => exec (C_keep_ones _N) (cAt (bodyOf Tryd.f29) [1, 1, 1]) .none _t _h (canonR (fun _i _t _h => none) (finK (C_keep_ones _N) [.tmp 2] (finF 2 (.int .i64)))))).trans (congrArg (fun _z => keep_ones_7 _N _x1 _z) (funext fun _v5 => keep_ones_8e _N _x1 _v5)))
noncomputable def keep_ones_10 (_N : Nat) (_x1 : Int) : Option Rt_keep_ones :=
  keep_ones_2 _N _x1 (keep_ones_9 _N _x1)
theorem keep_ones_10e (_N : Nat) (_x1 : Int) :
    exec (C_keep_ones _N) (cAt (bodyOf Tryd.f29) [1]) (.two .none (.keep [0, 3] 1 (.two (.two .none (.keep [0, 3, 4] 1 (.one (.loop [0, 3, 4] 1 .none)))) (.keep [3] 1 .none)))) [(0, .int .i64 _x1)] [] (canonR (fun _i _t _h => none) (finK (C_keep_ones _N) [.tmp 2] (finF 2 (.int .i64)))) = keep_ones_10 _N _x1 :=
  (seq_frag (by kernel_rfl) rfl).trans ((keep_ones_2e _N _x1 (fun _t _h => exec (C_keep_ones _N) (cAt (bodyOf Tryd.f29) [1, 1]) (.two (.two .none (.keep [0, 3, 4] 1 (.one (.loop [0, 3, 4] 1 .none)))) (.keep [3] 1 .none)) _t _h (canonR (fun _i _t _h => none) (finK (C_keep_ones _N) [.tmp 2] (finF 2 (.int .i64)))))).trans (congrArg (fun _z => keep_ones_2 _N _x1 _z) (keep_ones_9e _N _x1)))
noncomputable def keep_ones_11 (_N : Nat) (_x1 : Int) : Option Rt_keep_ones :=
  keep_ones_1 _N (keep_ones_10 _N _x1)
theorem keep_ones_11e (_N : Nat) (_x1 : Int) :
    exec (C_keep_ones _N) (cAt (bodyOf Tryd.f29) []) (.two .none (.keep [0] 0 (.two .none (.keep [0, 3] 1 (.two (.two .none (.keep [0, 3, 4] 1 (.one (.loop [0, 3, 4] 1 .none)))) (.keep [3] 1 .none)))))) [(0, .int .i64 _x1)] [] (canonR (fun _i _t _h => none) (finK (C_keep_ones _N) [.tmp 2] (finF 2 (.int .i64)))) = keep_ones_11 _N _x1 :=
  (seq_frag (by kernel_rfl) rfl).trans ((keep_ones_1e _N _x1 (fun _t _h => exec (C_keep_ones _N) (cAt (bodyOf Tryd.f29) [1]) (.two .none (.keep [0, 3] 1 (.two (.two .none (.keep [0, 3, 4] 1 (.one (.loop [0, 3, 4] 1 .none)))) (.keep [3] 1 .none)))) _t _h (canonR (fun _i _t _h => none) (finK (C_keep_ones _N) [.tmp 2] (finF 2 (.int .i64)))))).trans (congrArg (fun _z => keep_ones_1 _N _z) (keep_ones_10e _N _x1)))
noncomputable def D_keep_ones (_N : Nat) (x : Dens Ks_keep_ones) : Option Rt_keep_ones := keep_ones_11 _N x.1
theorem E_keep_ones (_N : Nat) (x : Dens Ks_keep_ones) : exec (C_keep_ones _N) (bodyOf Tryd.f29) (.two .none (.keep [0] 0 (.two .none (.keep [0, 3] 1 (.two (.two .none (.keep [0, 3, 4] 1 (.one (.loop [0, 3, 4] 1 .none)))) (.keep [3] 1 .none)))))) (argS 0 (kvals Ks_keep_ones x)) [] (finK (C_keep_ones _N) [.tmp 2] (finF 2 (.int .i64))) = D_keep_ones _N x :=
  (congrArg (fun K => exec (C_keep_ones _N) (bodyOf Tryd.f29) (.two .none (.keep [0] 0 (.two .none (.keep [0, 3] 1 (.two (.two .none (.keep [0, 3, 4] 1 (.one (.loop [0, 3, 4] 1 .none)))) (.keep [3] 1 .none)))))) (argS 0 (kvals Ks_keep_ones x)) [] K) canonR_fin).trans (keep_ones_11e _N x.1)
theorem ok_keep_ones (_N : Nat) : CtxOk Tryd.prog Gs Tryd.f29 (C_keep_ones _N) := ⟨rfl, by unfold TOk; kernel_rfl, gOk_of rfl rfl (List.forall_mem_nil _), iOk_of rfl rfl (List.forall_mem_nil _), rfl⟩
theorem hb_keep_ones : HasBody Tryd.prog 29 := ⟨Tryd.f29, bodyOf Tryd.f29, by kernel_rfl, by kernel_rfl, rfl⟩
theorem sp_keep_ones (_N : Nat) : SpecF Tryd.prog Gs 29 Ks_keep_ones 2 (.int .i64) (D_keep_ones _N) := specF_of (c := bodyOf Tryd.f29) (by kernel_rfl) rfl (by kernel_rfl) (Nat.le_of_ble_eq_true (by kernel_rfl)) fun x y _h => ⟨C_keep_ones _N, (.two .none (.keep [0] 0 (.two .none (.keep [0, 3] 1 (.two (.two .none (.keep [0, 3, 4] 1 (.one (.loop [0, 3, 4] 1 .none)))) (.keep [3] 1 .none)))))), ok_keep_ones _N, (E_keep_ones _N x).trans _h⟩
theorem en_keep_ones (_N : Nat) : EntOk Tryd.prog Gs (mkF 29 Ks_keep_ones 2 (.int .i64) (D_keep_ones _N)) := entF hb_keep_ones (by kernel_rfl) (Nat.le_of_ble_eq_true (by kernel_rfl)) (sp_keep_ones _N)
theorem qen_keep_ones (_N : Nat) : EntOk Tryd.prog Gs (mkQ 29 Ks_keep_ones [.dat (.sl (.int .i64))] (fun x => (D_keep_ones _N x).map fun y => (y, ()))) := entQ hb_keep_ones (specD_of_F (sp_keep_ones _N))
-- watershed/watershedref.Longs
abbrev Ks_ref_Longs : List Kd := [.dat (.sl (.int .i64)), .dat (.sl (.int .i64))]
abbrev Rk_ref_Longs : List Kd := [.dat (.bool)]
abbrev Rt_ref_Longs : Type := Dens Rk_ref_Longs
def T_ref_Longs : List (Nat × TE) := [(2, ⟨.int .i64, 1, 8, some (.int .i64), [.int .i64 (0 : Int)]⟩),
  (40, ⟨.slice 2, 1, 24, some (.sl (.int .i64)), [.nil]⟩)]
noncomputable def C_ref_Longs (_N : Nat) : Ctx := { T := T_ref_Longs, G := findE [], I := findI [], N := _N, n := 26, fx := [], fl := 0, gs := Gs }
noncomputable def ref_Longs_1 (_N : Nat) (_k3 : Option Rt_ref_Longs) : Option Rt_ref_Longs :=
  _k3
theorem ref_Longs_1e (_N : Nat) (_x1 : List Int) (_x2 : List Int) (_k3 : Slots → List O → Option Rt_ref_Longs) :
    exec (C_ref_Longs _N) (cAt (bodyOf Tryd.f30) [0]) .none [(0, .sl (.int .i64) _x1), (1, .sl (.int .i64) _x2)] [] (canonK [] _k3 [0, 1] 0 (fun _i _t _h => none) (fun _t _h => finK (C_ref_Longs _N) [.tmp 4] (finD Rk_ref_Longs) .ret _t _h)) = ref_Longs_1 _N (_k3 [(0, .sl (.int .i64) _x1), (1, .sl (.int .i64) _x2)] []) :=
  by kernel_rfl
noncomputable def ref_Longs_2 (_N : Nat) (_x1 : List Int) (_x2 : List Int) (_k4 : Option Rt_ref_Longs) : Option Rt_ref_Longs :=
  (bif ((_x1.length : Int) != (_x2.length : Int)) then (some (false, ())) else _k4)
theorem ref_Longs_2e (_N : Nat) (_x1 : List Int) (_x2 : List Int) (_k4 : Slots → List O → Option Rt_ref_Longs) :
    exec (C_ref_Longs _N) (cAt (bodyOf Tryd.f30) [1, 0]) .none [(0, .sl (.int .i64) _x1), (1, .sl (.int .i64) _x2)] [] (canonK [] _k4 [0, 1] 0 (fun _i _t _h => none) (fun _t _h => finK (C_ref_Longs _N) [.tmp 4] (finD Rk_ref_Longs) .ret _t _h)) = ref_Longs_2 _N _x1 _x2 (_k4 [(0, .sl (.int .i64) _x1), (1, .sl (.int .i64) _x2)] []) :=
  by kernel_rfl
noncomputable def ref_Longs_3 (_N : Nat) (_k6 : Option Rt_ref_Longs) : Option Rt_ref_Longs :=
  _k6
theorem ref_Longs_3e (_N : Nat) (_x1 : List Int) (_x2 : List Int) (_k6 : Slots → List O → Option Rt_ref_Longs) :
    exec (C_ref_Longs _N) (cAt (bodyOf Tryd.f30) [1, 1, 0, 0]) .none [(0, .sl (.int .i64) _x1), (1, .sl (.int .i64) _x2)] [] (canonK [] _k6 [0, 1, 5] 0 (fun _i _t _h => none) (fun _t _h => finK (C_ref_Longs _N) [.tmp 4] (finD Rk_ref_Longs) .ret _t _h)) = ref_Longs_3 _N (_k6 [(0, .sl (.int .i64) _x1), (1, .sl (.int .i64) _x2), (5, .int .i64 (0 : Int))] []) :=
  by kernel_rfl
noncomputable def ref_Longs_4 (_N : Nat) (_x1 : List Int) (_x2 : List Int) (_v1 : Int) (_k7 : Int → Option Rt_ref_Longs) (_k5 : Option Rt_ref_Longs) : Option Rt_ref_Longs :=
  (bif (decide (_v1 < (_x1.length : Int))) then (bif (decide (0 ≤ _v1) && decide (_v1 < (_x1.length : Int))) then (bif (decide (0 ≤ _v1) && decide (_v1 < (_x2.length : Int))) then (bif ((nth (0 : Int) _x1 (_v1).toNat) != (nth (0 : Int) _x2 (_v1).toNat)) then (some (false, ())) else (_k7 (IntKind.i64.wrap (_v1 + (1 : Int))))) else none) else none) else _k5)
theorem ref_Longs_4e (_N : Nat) (_x1 : List Int) (_x2 : List Int) (_v1 : Int) (_k7 _k5 : Slots → List O → Option Rt_ref_Longs) :
    exec (C_ref_Longs _N) (cAt (bodyOf Tryd.f30) [1, 1, 0, 1, 0, 0]) (.two .none (.two (.one (.two (.draw 0 [.pure, .pure, .pure, .pure, .pure, .pure, .pure, .pure, .pure]) .none)) .none)) [(0, .sl (.int .i64) _x1), (1, .sl (.int .i64) _x2), (5, .int .i64 _v1)] [] (canonK [] _k7 [0, 1, 5] 0 (fun _i _t _h => bif Nat.beq _i 0 then _k5 (cvT [] [] 0 _t _h) (cvH [] 0 _h) else none) (fun _t _h => finK (C_ref_Longs _N) [.tmp 4] (finD Rk_ref_Longs) .ret _t _h)) = ref_Longs_4 _N _x1 _x2 _v1 (fun _v1 => _k7 [(0, .sl (.int .i64) _x1), (1, .sl (.int .i64) _x2), (5, .int .i64 _v1)] []) (_k5 [] []) :=
  by kernel_rfl
noncomputable def ref_Longs_5 (_N : Nat) (_x1 : List Int) (_x2 : List Int) (_k5 : Option Rt_ref_Longs) : Option Rt_ref_Longs :=
  loopD (fun (_s : Int) _kn => ref_Longs_4 _N _x1 _x2 _s (fun _v1 => _kn _v1) _k5) _N (0 : Int)
theorem ref_Longs_5e (_N : Nat) (_x1 : List Int) (_x2 : List Int) (_k5 : Slots → List O → Option Rt_ref_Longs) :
    exec (C_ref_Longs _N) (cAt (bodyOf Tryd.f30) [1, 1, 0, 1, 0]) (.loop [0, 1, 5] 0 (.two .none (.two (.one (.two (.draw 0 [.pure, .pure, .pure, .pure, .pure, .pure, .pure, .pure, .pure]) .none)) .none))) [(0, .sl (.int .i64) _x1), (1, .sl (.int .i64) _x2), (5, .int .i64 (0 : Int))] [] (canonK [] _k5 [] 0 (fun _i _t _h => bif Nat.beq _i 0 then _k5 (cvT [] [] 0 _t _h) (cvH [] 0 _h) else none) (fun _t _h => finK (C_ref_Longs _N) [.tmp 4] (finD Rk_ref_Longs) .ret _t _h)) = ref_Longs_5 _N _x1 _x2 (_k5 [] []) :=
  (loop_frag (by kernel_rfl) rfl (by kernel_rfl) (by kernel_rfl)).trans (loopN_sim (S := Int) (fun _s => [(0, .sl (.int .i64) _x1), (1, .sl (.int .i64) _x2), (5, .int .i64 _s)]) (fun _s => []) (fun _s _kn => ref_Longs_4e _N _x1 _x2 _s _kn _k5) _N (0 : Int))
noncomputable def ref_Longs_6 (_N : Nat) (_x1 : List Int) (_x2 : List Int) (_k5 : Option Rt_ref_Longs) : Option Rt_ref_Longs :=
  ref_Longs_5 _N _x1 _x2 _k5
theorem ref_Longs_6e (_N : Nat) (_x1 : List Int) (_x2 : List Int) (_k5 : Slots → List O → Option Rt_ref_Longs) :
    exec (C_ref_Longs _N) (cAt (bodyOf Tryd.f30) [1, 1, 0, 1]) (.one (.loop [0, 1, 5] 0 (.two .none (.two (.one (.two (.draw 0 [.pure, .pure, .pure, .pure, .pure, .pure, .pure, .pure, .pure]) .none)) .none)))) [(0, .sl (.int .i64) _x1), (1, .sl (.int .i64) _x2), (5, .int .i64 (0 : Int))] [] (canonK [] _k5 [] 0 (fun _i _t _h => none) (fun _t _h => finK (C_ref_Longs _N) [.tmp 4] (finD Rk_ref_Longs) .ret _t _h)) = ref_Longs_6 _N _x1 _x2 (_k5 [] []) :=
  (block_canon (by kernel_rfl)).trans (ref_Longs_5e _N _x1 _x2 _k5)
noncomputable def ref_Longs_7 (_N : Nat) (_x1 : List Int) (_x2 : List Int) (_k5 : Option Rt_ref_Longs) : Option Rt_ref_Longs :=
  ref_Longs_3 _N (ref_Longs_6 _N _x1 _x2 _k5)
theorem ref_Longs_7e (_N : Nat) (_x1 : List Int) (_x2 : List Int) (_k5 : Slots → List O → Option Rt_ref_Longs) :
    exec (C_ref_Longs _N) (cAt (bodyOf Tryd.f30) [1, 1, 0]) (.two .none (.keep [0, 1, 5] 0 (.one (.loop [0, 1, 5] 0 (.two .none (.two (.one (.two (.draw 0 [.pure, .pure, .pure, .pure, .pure, .pure, .pure, .pure, .pure]) .none)) .none)))))) [(0, .sl (.int .i64) _x1), (1, .sl (.int .i64) _x2)] [] (canonK [] _k5 [] 0 (fun _i _t _h => none) (fun _t _h => finK (C_ref_Longs _N) [.tmp 4] (finD Rk_ref_Longs) .ret _t _h)) = ref_Longs_7 _N _x1 _x2 (_k5 [] []) :=
  (seq_frag (by kernel_rfl) rfl).trans ((ref_Longs_3e _N _x1 _x2 (fun _t _h => exec (C_ref_Longs _N) (cAt (bodyOf Tryd.f30) [1, 1, 0, 1]) (.one (.loop [0, 1, 5] 0 (.two .none (.two (.one (.two (.draw 0 [.pure, .pure, .pure, .pure, .pure, .pure, .pure, .pure, .pure]) .none)) .none)))) _t _h (canonK [] _k5 [] 0 (fun _i _t _h => none) (fun _t _h => finK (C_ref_Longs _N) [.tmp 4] (finD Rk_ref_Longs) .ret _t _h)))).trans (congrArg (fun _z => ref_Longs_3 _N _z) (ref_Longs_6e _N _x1 _x2 _k5)))
noncomputable def ref_Longs_8 (_N : Nat) : Option Rt_ref_Longs :=
  (some (true, ()))
theorem ref_Longs_8e (_N : Nat) (_x1 : List Int) (_x2 : List Int) :
    exec (C_ref_Longs _N) (cAt (bodyOf Tryd.f30) [1, 1, 1]) .none [] [] (canonR (fun _i _t _h => none) (finK (C_ref_Longs _N) [.tmp 4] (finD Rk_ref_Longs))) = ref_Longs_8 _N :=
  by kernel_rfl
noncomputable def ref_Longs_9 (_N : Nat) (_x1 : List Int) (_x2 : List Int) : Option Rt_ref_Longs :=
  ref_Longs_7 _N _x1 _x2 (ref_Longs_8 _N)
theorem ref_Longs_9e (_N : Nat) (_x1 : List Int) (_x2 : List Int) :
    exec (C_ref_Longs _N) (cAt (bodyOf Tryd.f30) [1, 1]) (.two (.two .none (.keep [0, 1, 5] 0 (.one (.loop [0, 1, 5] 0 (.two .none (.two (.one (.two (.draw 0 [.pure, .pure, .pure, .pure, .pure, .pure, .pure, .pure, .pure]) .none)) .none)))))) (.keep [] 0 .none)) [(0, .sl (.int .i64) _x1), (1, .sl (.int .i64) _x2)] [] (canonR (fun _i _t _h => none) (finK (C_ref_Longs _N) [.tmp 4] (finD Rk_ref_Longs))) = ref_Longs_9 _N _x1 _x2 :=
  (seq_frag (by kernel_rfl) rfl).trans ((ref_Longs_7e _N _x1 _x2 (fun _t _h => exec (C_ref_Longs _N) (cAt (bodyOf Tryd.f30) [1, 1, 1]) .none _t _h (canonR (fun _i _t _h => none) (finK (C_ref_Longs _N) [.tmp 4] (finD Rk_ref_Longs))))).trans (congrArg (fun _z => ref_Longs_7 _N _x1 _x2 _z) (ref_Longs_8e _N _x1 _x2)))
noncomputable def ref_Longs_10 (_N : Nat) (_x1 : List Int) (_x2 : List Int) : Option Rt_ref_Longs :=
  ref_Longs_2 _N _x1 _x2 (ref_Longs_9 _N _x1 _x2)
theorem ref_Longs_10e (_N : Nat) (_x1 : List Int) (_x2 : List Int) :
    exec (C_ref_Longs _N) (cAt (bodyOf Tryd.f30) [1]) (.two .none (.keep [0, 1] 0 (.two (.two .none (.keep [0, 1, 5] 0 (.one (.loop [0, 1, 5] 0 (.two .none (.two (.one (.two (.draw 0 [.pure, .pure, .pure, .pure, .pure, .pure, .pure, .pure, .pure]) .none)) .none)))))) (.keep [] 0 .none)))) [(0, .sl (.int .i64) _x1), (1, .sl (.int .i64) _x2)] [] (canonR (fun _i _t _h => none) (finK (C_ref_Longs _N) [.tmp 4] (finD Rk_ref_Longs))) = ref_Longs_10 _N _x1 _x2 :=
  (seq_frag (by kernel_rfl) rfl).trans ((ref_Longs_2e _N _x1 _x2 (fun _t _h => exec (C_ref_Longs _N) (cAt (bodyOf Tryd.f30) [1, 1]) (.two (.two .none (.keep [0, 1, 5] 0 (.one (.loop [0, 1, 5] 0 (.two .none (.two (.one (.two (.draw 0 [.pure, .pure, .pure, .pure, .pure, .pure, .pure, .pure, .pure]) .none)) .none)))))) (.keep [] 0 .none)) _t _h (canonR (fun _i _t _h => none) (finK (C_ref_Longs _N) [.tmp 4] (finD Rk_ref_Longs))))).trans (congrArg (fun _z => ref_Longs_2 _N _x1 _x2 _z) (ref_Longs_9e _N _x1 _x2)))
noncomputable def ref_Longs_11 (_N : Nat) (_x1 : List Int) (_x2 : List Int) : Option Rt_ref_Longs :=
  ref_Longs_1 _N (ref_Longs_10 _N _x1 _x2)
theorem ref_Longs_11e (_N : Nat) (_x1 : List Int) (_x2 : List Int) :
    exec (C_ref_Longs _N) (cAt (bodyOf Tryd.f30) []) (.two .none (.keep [0, 1] 0 (.two .none (.keep [0, 1] 0 (.two (.two .none (.keep [0, 1, 5] 0 (.one (.loop [0, 1, 5] 0 (.two .none (.two (.one (.two (.draw 0 [.pure, .pure, .pure, .pure, .pure, .pure, .pure, .pure, .pure]) .none)) .none)))))) (.keep [] 0 .none)))))) [(0, .sl (.int .i64) _x1), (1, .sl (.int .i64) _x2)] [] (canonR (fun _i _t _h => none) (finK (C_ref_Longs _N) [.tmp 4] (finD Rk_ref_Longs))) = ref_Longs_11 _N _x1 _x2 :=
  (seq_frag (by kernel_rfl) rfl).trans ((ref_Longs_1e _N _x1 _x2 (fun _t _h => exec (C_ref_Longs _N) (cAt (bodyOf Tryd.f30) [1]) (.two .none (.keep [0, 1] 0 (.two (.two .none (.keep [0, 1, 5] 0 (.one (.loop [0, 1, 5] 0 (.two .none (.two (.one (.two (.draw 0 [.pure, .pure, .pure, .pure, .pure, .pure, .pure, .pure, .pure]) .none)) .none)))))) (.keep [] 0 .none)))) _t _h (canonR (fun _i _t _h => none) (finK (C_ref_Longs _N) [.tmp 4] (finD Rk_ref_Longs))))).trans (congrArg (fun _z => ref_Longs_1 _N _z) (ref_Longs_10e _N _x1 _x2)))
noncomputable def D_ref_Longs (_N : Nat) (x : Dens Ks_ref_Longs) : Option Rt_ref_Longs := ref_Longs_11 _N x.1 x.2.1
theorem E_ref_Longs (_N : Nat) (x : Dens Ks_ref_Longs) : exec (C_ref_Longs _N) (bodyOf Tryd.f30) (.two .none (.keep [0, 1] 0 (.two .none (.keep [0, 1] 0 (.two (.two .none (.keep [0, 1, 5] 0 (.one (.loop [0, 1, 5] 0 (.two .none (.two (.one (.two (.draw 0 [.pure, .pure, .pure, .pure, .pure, .pure, .pure, .pure, .pure]) .none)) .none)))))) (.keep [] 0 .none)))))) (argS 0 (kvals Ks_ref_Longs x)) [] (finK (C_ref_Longs _N) [.tmp 4] (finD Rk_ref_Longs)) = D_ref_Longs _N x :=
  (congrArg (fun K => exec (C_ref_Longs _N) (bodyOf Tryd.f30) (.two .none (.keep [0, 1] 0 (.two .none (.keep [0, 1] 0 (.two (.two .none (.keep [0, 1, 5] 0 (.one (.loop [0, 1, 5] 0 (.two .none (.two (.one (.two (.draw 0 [.pure, .pure, .pure, .pure, .pure, .pure, .pure, .pure, .pure]) .none)) .none)))))) (.keep [] 0 .none)))))) (argS 0 (kvals Ks_ref_Longs x)) [] K) canonR_fin).trans (ref_Longs_11e _N x.1 x.2.1)
theorem ok_ref_Longs (_N : Nat) : CtxOk Tryd.prog Gs Tryd.f30 (C_ref_Longs _N) := ⟨rfl, by unfold TOk; kernel_rfl, gOk_of rfl rfl (List.forall_mem_nil _), iOk_of rfl rfl (List.forall_mem_nil _), rfl⟩
theorem hb_ref_Longs : HasBody Tryd.prog 30 := ⟨Tryd.f30, bodyOf Tryd.f30, by kernel_rfl, by kernel_rfl, rfl⟩
theorem sp_ref_Longs (_N : Nat) : SpecD Tryd.prog Gs 30 Ks_ref_Longs Rk_ref_Longs (D_ref_Longs _N) := specD_of (c := bodyOf Tryd.f30) (by kernel_rfl) rfl (by kernel_rfl) (Nat.le_of_ble_eq_true (by kernel_rfl)) fun x y _h => ⟨C_ref_Longs _N, (.two .none (.keep [0, 1] 0 (.two .none (.keep [0, 1] 0 (.two (.two .none (.keep [0, 1, 5] 0 (.one (.loop [0, 1, 5] 0 (.two .none (.two (.one (.two (.draw 0 [.pure, .pure, .pure, .pure, .pure, .pure, .pure, .pure, .pure]) .none)) .none)))))) (.keep [] 0 .none)))))), ok_ref_Longs _N, (E_ref_Longs _N x).trans _h⟩
theorem en_ref_Longs (_N : Nat) : EntOk Tryd.prog Gs (mkP 30 Ks_ref_Longs Rk_ref_Longs (D_ref_Longs _N)) := entP hb_ref_Longs (by kernel_rfl) (sp_ref_Longs _N)
end Go.Proofs.YtdlhfddmbdbedaaDoor
