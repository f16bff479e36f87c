/- Products of tables don't hang on brackets, go over sums, and have a unit: the law answers true for every order and any three tables. No condition. -/
import Derived.Test.YtdlhfddmbdbedaaDoorMobT
import Derived.Test.YtdlhfddmbdbedaaDoorKeepS
import Derived.Test.YtdlhfddmbdbedaaDoorFrame
namespace Go.Proofs.YtdlhfddmbdbedaaDoor
open Go Go.ChangeShapes Go.WideShapes Go.ChangeAt Go.WideMaps Go.WideElems Go.RowKit Go.Abs
-- watershed/watershedkeep.MobiusAlgebra
abbrev Ks_keep_MobiusAlgebra : List Kd := [.dat (.pair (.int .i64) (.sl (.int .u32))), .dat (.sl (.int .i64)), .dat (.sl (.int .i64)), .dat (.sl (.int .i64))]
abbrev Rk_keep_MobiusAlgebra : List Kd := [.dat (.bool)]
abbrev Rt_keep_MobiusAlgebra : Type := Dens Rk_keep_MobiusAlgebra
def T_keep_MobiusAlgebra : List (Nat × TE) := [(3, ⟨.int .i64, 1, 8, some (.int .i64), [.int .i64 (0 : Int)]⟩),
  (24, ⟨.struct [(0, 3), (1, 22)], 2, 32, some (.pair (.int .i64) (.sl (.int .u32))), [.int .i64 (0 : Int), .nil]⟩)]
noncomputable def C_keep_MobiusAlgebra (_N : Nat) : Ctx := { T := T_keep_MobiusAlgebra, G := findE [mkP 24 Ks_keep_sound Rk_keep_sound (D_keep_sound _N), mkP 25 Ks_keep_refused Rk_keep_refused (D_keep_refused _N), mkQ 26 Ks_mobius_Times Rk_mobius_Times (D_mobius_Times _N), mkP 27 Ks_ref_Table Rk_ref_Table (D_ref_Table _N), mkQ 28 Ks_keep_added [.dat (.sl (.int .i64))] (fun x => (D_keep_added _N x).map fun y => (y, ())), mkQ 29 Ks_keep_ones [.dat (.sl (.int .i64))] (fun x => (D_keep_ones _N x).map fun y => (y, ())), mkP 30 Ks_ref_Longs Rk_ref_Longs (D_ref_Longs _N)], I := findI [], N := _N, n := 153, fx := [], fl := 0, gs := Gs }
noncomputable def keep_MobiusAlgebra_1 (_N : Nat) (_k28 : Option Rt_keep_MobiusAlgebra) : Option Rt_keep_MobiusAlgebra :=
  _k28
theorem keep_MobiusAlgebra_1e (_N : Nat) (_x1 : Int × List Int) (_x2 : List Int) (_x3 : List Int) (_x4 : List Int) (_k28 : Slots → List O → Option Rt_keep_MobiusAlgebra) :
    exec (C_keep_MobiusAlgebra _N) (cAt (bodyOf Tryd.f5) [0]) .none [(0, .agg [.int .i64 _x1.1, .sl (.int .u32) _x1.2]), (1, .sl (.int .i64) _x2), (2, .sl (.int .i64) _x3), (3, .sl (.int .i64) _x4)] [] (canonK [] _k28 [1, 2, 3, 4] 1 (fun _i _t _h => none) (fun _t _h => finK (C_keep_MobiusAlgebra _N) [.tmp 8] (finD Rk_keep_MobiusAlgebra) .ret _t _h)) = keep_MobiusAlgebra_1 _N (_k28 [(1, .sl (.int .i64) _x2), (2, .sl (.int .i64) _x3), (3, .sl (.int .i64) _x4), (4, .ptr 0 0)] [.cells [.int .i64 _x1.1, .sl (.int .u32) _x1.2]]) :=
  by kernel_rfl
noncomputable def keep_MobiusAlgebra_2 (_N : Nat) (_x1 : Int × List Int) (_k29 : Option Rt_keep_MobiusAlgebra) : Option Rt_keep_MobiusAlgebra :=
  ((D_keep_sound _N ((_x1.1, _x1.2), ())).bind fun _y30 => (bif (!_y30.1) then ((D_keep_refused _N ((_x1.1, _x1.2), ())).bind fun _y31 => (some (_y31.1, ()))) else _k29))
theorem keep_MobiusAlgebra_2e (_N : Nat) (_x1 : Int × List Int) (_x2 : List Int) (_x3 : List Int) (_x4 : List Int) (_k29 : Slots → List O → Option Rt_keep_MobiusAlgebra) :
    exec (C_keep_MobiusAlgebra _N) (cAt (bodyOf Tryd.f5) [1, 0]) .none [(1, .sl (.int .i64) _x2), (2, .sl (.int .i64) _x3), (3, .sl (.int .i64) _x4), (4, .ptr 0 0)] [.cells [.int .i64 _x1.1, .sl (.int .u32) _x1.2]] (canonK [] _k29 [1, 2, 3, 4] 1 (fun _i _t _h => none) (fun _t _h => finK (C_keep_MobiusAlgebra _N) [.tmp 8] (finD Rk_keep_MobiusAlgebra) .ret _t _h)) = keep_MobiusAlgebra_2 _N _x1 (_k29 [(1, .sl (.int .i64) _x2), (2, .sl (.int .i64) _x3), (3, .sl (.int .i64) _x4), (4, .ptr 0 0)] [.cells [.int .i64 _x1.1, .sl (.int .u32) _x1.2]]) :=
  by kernel_rfl
noncomputable def keep_MobiusAlgebra_3 (_N : Nat) (_x1 : Int × List Int) (_x2 : List Int) (_x3 : List Int) (_k32 : (List Int) → Int → Option Rt_keep_MobiusAlgebra) : Option Rt_keep_MobiusAlgebra :=
  ((D_mobius_Times _N ((_x1.1, _x1.2), _x2, _x3, ())).bind fun _y33 => (_k32 _y33.1 _y33.2.1))
theorem keep_MobiusAlgebra_3e (_N : Nat) (_x1 : Int × List Int) (_x2 : List Int) (_x3 : List Int) (_x4 : List Int) (_k32 : Slots → List O → Option Rt_keep_MobiusAlgebra) :
    exec (C_keep_MobiusAlgebra _N) (cAt (bodyOf Tryd.f5) [1, 1, 0]) .none [(1, .sl (.int .i64) _x2), (2, .sl (.int .i64) _x3), (3, .sl (.int .i64) _x4), (4, .ptr 0 0)] [.cells [.int .i64 _x1.1, .sl (.int .u32) _x1.2]] (canonK [] _k32 [1, 2, 3, 4, 9, 10] 1 (fun _i _t _h => none) (fun _t _h => finK (C_keep_MobiusAlgebra _N) [.tmp 8] (finD Rk_keep_MobiusAlgebra) .ret _t _h)) = keep_MobiusAlgebra_3 _N _x1 _x2 _x3 (fun _v4 _v5 => _k32 [(1, .sl (.int .i64) _x2), (2, .sl (.int .i64) _x3), (3, .sl (.int .i64) _x4), (4, .ptr 0 0), (9, .sl (.int .i64) _v4), (10, .int .i64 _v5)] [.cells [.int .i64 _x1.1, .sl (.int .u32) _x1.2]]) :=
  by kernel_rfl
noncomputable def keep_MobiusAlgebra_4 (_N : Nat) (_x1 : Int × List Int) (_x3 : List Int) (_x4 : List Int) (_k34 : (List Int) → Int → Option Rt_keep_MobiusAlgebra) : Option Rt_keep_MobiusAlgebra :=
  ((D_mobius_Times _N ((_x1.1, _x1.2), _x3, _x4, ())).bind fun _y35 => (_k34 _y35.1 _y35.2.1))
theorem keep_MobiusAlgebra_4e (_N : Nat) (_x1 : Int × List Int) (_x2 : List Int) (_x3 : List Int) (_x4 : List Int) (_v4 : List Int) (_v5 : Int) (_k34 : Slots → List O → Option Rt_keep_MobiusAlgebra) :
    exec (C_keep_MobiusAlgebra _N) (cAt (bodyOf Tryd.f5) [1, 1, 1, 0]) .none [(1, .sl (.int .i64) _x2), (2, .sl (.int .i64) _x3), (3, .sl (.int .i64) _x4), (4, .ptr 0 0), (9, .sl (.int .i64) _v4), (10, .int .i64 _v5)] [.cells [.int .i64 _x1.1, .sl (.int .u32) _x1.2]] (canonK [] _k34 [1, 2, 3, 4, 9, 10, 11, 12] 1 (fun _i _t _h => none) (fun _t _h => finK (C_keep_MobiusAlgebra _N) [.tmp 8] (finD Rk_keep_MobiusAlgebra) .ret _t _h)) = keep_MobiusAlgebra_4 _N _x1 _x3 _x4 (fun _v7 _v8 => _k34 [(1, .sl (.int .i64) _x2), (2, .sl (.int .i64) _x3), (3, .sl (.int .i64) _x4), (4, .ptr 0 0), (9, .sl (.int .i64) _v4), (10, .int .i64 _v5), (11, .sl (.int .i64) _v7), (12, .int .i64 _v8)] [.cells [.int .i64 _x1.1, .sl (.int .u32) _x1.2]]) :=
  by kernel_rfl
noncomputable def keep_MobiusAlgebra_5 (_N : Nat) (_x1 : Int × List Int) (_x2 : List Int) (_x4 : List Int) (_k36 : (List Int) → Int → Option Rt_keep_MobiusAlgebra) : Option Rt_keep_MobiusAlgebra :=
  ((D_mobius_Times _N ((_x1.1, _x1.2), _x2, _x4, ())).bind fun _y37 => (_k36 _y37.1 _y37.2.1))
theorem keep_MobiusAlgebra_5e (_N : Nat) (_x1 : Int × List Int) (_x2 : List Int) (_x3 : List Int) (_x4 : List Int) (_v4 : List Int) (_v5 : Int) (_v7 : List Int) (_v8 : Int) (_k36 : Slots → List O → Option Rt_keep_MobiusAlgebra) :
    exec (C_keep_MobiusAlgebra _N) (cAt (bodyOf Tryd.f5) [1, 1, 1, 1, 0]) .none [(1, .sl (.int .i64) _x2), (2, .sl (.int .i64) _x3), (3, .sl (.int .i64) _x4), (4, .ptr 0 0), (9, .sl (.int .i64) _v4), (10, .int .i64 _v5), (11, .sl (.int .i64) _v7), (12, .int .i64 _v8)] [.cells [.int .i64 _x1.1, .sl (.int .u32) _x1.2]] (canonK [] _k36 [1, 2, 3, 4, 9, 10, 11, 12, 13, 14] 1 (fun _i _t _h => none) (fun _t _h => finK (C_keep_MobiusAlgebra _N) [.tmp 8] (finD Rk_keep_MobiusAlgebra) .ret _t _h)) = keep_MobiusAlgebra_5 _N _x1 _x2 _x4 (fun _v10 _v11 => _k36 [(1, .sl (.int .i64) _x2), (2, .sl (.int .i64) _x3), (3, .sl (.int .i64) _x4), (4, .ptr 0 0), (9, .sl (.int .i64) _v4), (10, .int .i64 _v5), (11, .sl (.int .i64) _v7), (12, .int .i64 _v8), (13, .sl (.int .i64) _v10), (14, .int .i64 _v11)] [.cells [.int .i64 _x1.1, .sl (.int .u32) _x1.2]]) :=
  by kernel_rfl
noncomputable def keep_MobiusAlgebra_6 (_N : Nat) (_x1 : Int × List Int) (_x2 : List Int) (_x3 : List Int) (_x4 : List Int) (_v5 : Int) (_v8 : Int) (_v11 : Int) (_k38 : Option Rt_keep_MobiusAlgebra) : Option Rt_keep_MobiusAlgebra :=
  ((D_ref_Table _N ((_x1.1, _x1.2), _x2, ())).bind fun _y39 => (bif (!_y39.1) then (bif (_v5 != (0 : Int)) then (some (true, ())) else (bif (_v8 != (0 : Int)) then (some (true, ())) else (some ((_v11 != (0 : Int)), ())))) else ((D_ref_Table _N ((_x1.1, _x1.2), _x3, ())).bind fun _y40 => (bif (!_y40.1) then (bif (_v5 != (0 : Int)) then (some (true, ())) else (bif (_v8 != (0 : Int)) then (some (true, ())) else (some ((_v11 != (0 : Int)), ())))) else ((D_ref_Table _N ((_x1.1, _x1.2), _x4, ())).bind fun _y41 => (bif (!_y41.1) then (bif (_v5 != (0 : Int)) then (some (true, ())) else (bif (_v8 != (0 : Int)) then (some (true, ())) else (some ((_v11 != (0 : Int)), ())))) else _k38))))))
theorem keep_MobiusAlgebra_6e (_N : Nat) (_x1 : Int × List Int) (_x2 : List Int) (_x3 : List Int) (_x4 : List Int) (_v4 : List Int) (_v5 : Int) (_v7 : List Int) (_v8 : Int) (_v10 : List Int) (_v11 : Int) (_k38 : Slots → List O → Option Rt_keep_MobiusAlgebra) :
    exec (C_keep_MobiusAlgebra _N) (cAt (bodyOf Tryd.f5) [1, 1, 1, 1, 1, 0]) .none [(1, .sl (.int .i64) _x2), (2, .sl (.int .i64) _x3), (3, .sl (.int .i64) _x4), (4, .ptr 0 0), (9, .sl (.int .i64) _v4), (10, .int .i64 _v5), (11, .sl (.int .i64) _v7), (12, .int .i64 _v8), (13, .sl (.int .i64) _v10), (14, .int .i64 _v11)] [.cells [.int .i64 _x1.1, .sl (.int .u32) _x1.2]] (canonK [] _k38 [1, 2, 3, 4, 9, 11, 13] 1 (fun _i _t _h => none) (fun _t _h => finK (C_keep_MobiusAlgebra _N) [.tmp 8] (finD Rk_keep_MobiusAlgebra) .ret _t _h)) = keep_MobiusAlgebra_6 _N _x1 _x2 _x3 _x4 _v5 _v8 _v11 (_k38 [(1, .sl (.int .i64) _x2), (2, .sl (.int .i64) _x3), (3, .sl (.int .i64) _x4), (4, .ptr 0 0), (9, .sl (.int .i64) _v4), (11, .sl (.int .i64) _v7), (13, .sl (.int .i64) _v10)] [.cells [.int .i64 _x1.1, .sl (.int .u32) _x1.2]]) :=
  by kernel_rfl
noncomputable def keep_MobiusAlgebra_7 (_N : Nat) (_x1 : Int × List Int) (_x2 : List Int) (_x3 : List Int) (_x4 : List Int) (_v4 : List Int) (_v7 : List Int) (_v10 : List Int) : Option Rt_keep_MobiusAlgebra :=
  ((D_mobius_Times _N ((_x1.1, _x1.2), _v4, _x4, ())).bind fun _y42 => ((D_mobius_Times _N ((_x1.1, _x1.2), _x2, _v7, ())).bind fun _y43 => (((fun x => (D_keep_added _N x).map fun y => (y, ())) (_x3, _x4, ())).bind fun _y44 => ((D_mobius_Times _N ((_x1.1, _x1.2), _x2, _y44.1, ())).bind fun _y45 => (((fun x => (D_keep_ones _N x).map fun y => (y, ())) (_x1.1, ())).bind fun _y46 => ((D_mobius_Times _N ((_x1.1, _x1.2), _x2, _y46.1, ())).bind fun _y47 => (((fun x => (D_keep_ones _N x).map fun y => (y, ())) (_x1.1, ())).bind fun _y48 => ((D_mobius_Times _N ((_x1.1, _x1.2), _y48.1, _x2, ())).bind fun _y49 => (bif (_y42.2.1 != (0 : Int)) then (some (false, ())) else (bif (_y43.2.1 != (0 : Int)) then (some (false, ())) else (bif (_y45.2.1 != (0 : Int)) then (some (false, ())) else (bif (_y47.2.1 != (0 : Int)) then (some (false, ())) else (bif (_y49.2.1 != (0 : Int)) then (some (false, ())) else ((D_ref_Longs _N (_y42.1, _y43.1, ())).bind fun _y50 => (bif _y50.1 then (((fun x => (D_keep_added _N x).map fun y => (y, ())) (_v4, _v10, ())).bind fun _y51 => ((D_ref_Longs _N (_y45.1, _y51.1, ())).bind fun _y52 => (bif _y52.1 then ((D_ref_Longs _N (_y47.1, _x2, ())).bind fun _y53 => (bif _y53.1 then ((D_ref_Longs _N (_y49.1, _x2, ())).bind fun _y54 => (some (_y54.1, ()))) else (some (false, ())))) else (some (false, ()))))) else (some (false, ())))))))))))))))))
theorem keep_MobiusAlgebra_7e (_N : Nat) (_x1 : Int × List Int) (_x2 : List Int) (_x3 : List Int) (_x4 : List Int) (_v4 : List Int) (_v5 : Int) (_v7 : List Int) (_v8 : Int) (_v10 : List Int) (_v11 : Int) :
    exec (C_keep_MobiusAlgebra _N) (cAt (bodyOf Tryd.f5) [1, 1, 1, 1, 1, 1]) (.two .none (.two .none (.two (.draw 0 [.rd [0], .pure, .pure, .pure, .pure, .pure, .pure, .pure, .pure, .pure, .pure]) (.two (.draw 0 [.rd [0], .pure, .pure, .rd [0], .pure, .pure, .pure, .pure, .pure, .pure, .pure]) (.two (.draw 0 [.rd [0], .pure, .rd [0], .pure, .pure, .pure, .pure, .pure, .pure, .pure, .pure]) .none))))) [(1, .sl (.int .i64) _x2), (2, .sl (.int .i64) _x3), (3, .sl (.int .i64) _x4), (4, .ptr 0 0), (9, .sl (.int .i64) _v4), (11, .sl (.int .i64) _v7), (13, .sl (.int .i64) _v10)] [.cells [.int .i64 _x1.1, .sl (.int .u32) _x1.2]] (canonR (fun _i _t _h => none) (finK (C_keep_MobiusAlgebra _N) [.tmp 8] (finD Rk_keep_MobiusAlgebra))) = keep_MobiusAlgebra_7 _N _x1 _x2 _x3 _x4 _v4 _v7 _v10 :=
  by kernel_rfl
noncomputable def keep_MobiusAlgebra_8 (_N : Nat) (_x1 : Int × List Int) (_x2 : List Int) (_x3 : List Int) (_x4 : List Int) (_v4 : List Int) (_v5 : Int) (_v7 : List Int) (_v8 : Int) (_v10 : List Int) (_v11 : Int) : Option Rt_keep_MobiusAlgebra :=
  keep_MobiusAlgebra_6 _N _x1 _x2 _x3 _x4 _v5 _v8 _v11 (keep_MobiusAlgebra_7 _N _x1 _x2 _x3 _x4 _v4 _v7 _v10)
theorem keep_MobiusAlgebra_8e (_N : Nat) (_x1 : Int × List Int) (_x2 : List Int) (_x3 : List Int) (_x4 : List Int) (_v4 : List Int) (_v5 : Int) (_v7 : List Int) (_v8 : Int) (_v10 : List Int) (_v11 : Int) :
    exec (C_keep_MobiusAlgebra _N) (cAt (bodyOf Tryd.f5) [1, 1, 1, 1, 1]) (.two .none (.keep [1, 2, 3, 4, 9, 11, 13] 1 (.two .none (.two .none (.two (.draw 0 [.rd [0], .pure, .pure, .pure, .pure, .pure, .pure, .pure, .pure, .pure, .pure]) (.two (.draw 0 [.rd [0], .pure, .pure, .rd [0], .pure, .pure, .pure, .pure, .pure, .pure, .pure]) (.two (.draw 0 [.rd [0], .pure, .rd [0], .pure, .pure, .pure, .pure, .pure, .pure, .pure, .pure]) .none))))))) [(1, .sl (.int .i64) _x2), (2, .sl (.int .i64) _x3), (3, .sl (.int .i64) _x4), (4, .ptr 0 0), (9, .sl (.int .i64) _v4), (10, .int .i64 _v5), (11, .sl (.int .i64) _v7), (12, .int .i64 _v8), (13, .sl (.int .i64) _v10), (14, .int .i64 _v11)] [.cells [.int .i64 _x1.1, .sl (.int .u32) _x1.2]] (canonR (fun _i _t _h => none) (finK (C_keep_MobiusAlgebra _N) [.tmp 8] (finD Rk_keep_MobiusAlgebra))) = keep_MobiusAlgebra_8 _N _x1 _x2 _x3 _x4 _v4 _v5 _v7 _v8 _v10 _v11 :=
  (seq_frag (by kernel_rfl) rfl).trans ((keep_MobiusAlgebra_6e _N _x1 _x2 _x3 _x4 _v4 _v5 _v7 _v8 _v10 _v11 (fun _t _h => exec (C_keep_MobiusAlgebra _N) (cAt (bodyOf Tryd.f5) [1, 1, 1, 1, 1, 1]) (.two .none (.two .none (.two (.draw 0 [.rd [0], .pure, .pure, .pure, .pure, .pure, .pure, .pure, .pure, .pure, .pure]) (.two (.draw 0 [.rd [0], .pure, .pure, .rd [0], .pure, .pure, .pure, .pure, .pure, .pure, .pure]) (.two (.draw 0 [.rd [0], .pure, .rd [0], .pure, .pure, .pure, .pure, .pure, .pure, .pure, .pure]) .none))))) _t _h (canonR (fun _i _t _h => none) (finK (C_keep_MobiusAlgebra _N) [.tmp 8] (finD Rk_keep_MobiusAlgebra))))).trans (congrArg (fun _z => keep_MobiusAlgebra_6 _N _x1 _x2 _x3 _x4 _v5 _v8 _v11 _z) (keep_MobiusAlgebra_7e _N _x1 _x2 _x3 _x4 _v4 _v5 _v7 _v8 _v10 _v11)))
noncomputable def keep_MobiusAlgebra_9 (_N : Nat) (_x1 : Int × List Int) (_x2 : List Int) (_x3 : List Int) (_x4 : List Int) (_v4 : List Int) (_v5 : Int) (_v7 : List Int) (_v8 : Int) : Option Rt_keep_MobiusAlgebra :=
  keep_MobiusAlgebra_5 _N _x1 _x2 _x4 (fun _v10 _v11 => keep_MobiusAlgebra_8 _N _x1 _x2 _x3 _x4 _v4 _v5 _v7 _v8 _v10 _v11)
theorem keep_MobiusAlgebra_9e (_N : Nat) (_x1 : Int × List Int) (_x2 : List Int) (_x3 : List Int) (_x4 : List Int) (_v4 : List Int) (_v5 : Int) (_v7 : List Int) (_v8 : Int) :
    exec (C_keep_MobiusAlgebra _N) (cAt (bodyOf Tryd.f5) [1, 1, 1, 1]) (.two .none (.keep [1, 2, 3, 4, 9, 10, 11, 12, 13, 14] 1 (.two .none (.keep [1, 2, 3, 4, 9, 11, 13] 1 (.two .none (.two .none (.two (.draw 0 [.rd [0], .pure, .pure, .pure, .pure, .pure, .pure, .pure, .pure, .pure, .pure]) (.two (.draw 0 [.rd [0], .pure, .pure, .rd [0], .pure, .pure, .pure, .pure, .pure, .pure, .pure]) (.two (.draw 0 [.rd [0], .pure, .rd [0], .pure, .pure, .pure, .pure, .pure, .pure, .pure, .pure]) .none))))))))) [(1, .sl (.int .i64) _x2), (2, .sl (.int .i64) _x3), (3, .sl (.int .i64) _x4), (4, .ptr 0 0), (9, .sl (.int .i64) _v4), (10, .int .i64 _v5), (11, .sl (.int .i64) _v7), (12, .int .i64 _v8)] [.cells [.int .i64 _x1.1, .sl (.int .u32) _x1.2]] (canonR (fun _i _t _h => none) (finK (C_keep_MobiusAlgebra _N) [.tmp 8] (finD Rk_keep_MobiusAlgebra))) = keep_MobiusAlgebra_9 _N _x1 _x2 _x3 _x4 _v4 _v5 _v7 _v8 :=
  (seq_frag (by kernel_rfl) rfl).trans ((keep_MobiusAlgebra_5e _N _x1 _x2 _x3 _x4 _v4 _v5 _v7 _v8 (fun _t _h => exec (C_keep_MobiusAlgebra _N) (cAt (bodyOf Tryd.f5) [1, 1, 1, 1, 1]) (.two .none (.keep [1, 2, 3, 4, 9, 11, 13] 1 (.two .none (.two .none (.two (.draw 0 [.rd [0], .pure, .pure, .pure, .pure, .pure, .pure, .pure, .pure, .pure, .pure]) (.two (.draw 0 [.rd [0], .pure, .pure, .rd [0], .pure, .pure, .pure, .pure, .pure, .pure, .pure]) (.two (.draw 0 [.rd [0], .pure, .rd [0], .pure, .pure, .pure, .pure, .pure, .pure, .pure, .pure]) .none))))))) _t _h (canonR (fun _i _t _h => none) (finK (C_keep_MobiusAlgebra _N) [.tmp 8] (finD Rk_keep_MobiusAlgebra))))).trans (congrArg (fun _z => keep_MobiusAlgebra_5 _N _x1 _x2 _x4 _z) (funext fun _v10 => funext fun _v11 => keep_MobiusAlgebra_8e _N _x1 _x2 _x3 _x4 _v4 _v5 _v7 _v8 _v10 _v11)))
noncomputable def keep_MobiusAlgebra_10 (_N : Nat) (_x1 : Int × List Int) (_x2 : List Int) (_x3 : List Int) (_x4 : List Int) (_v4 : List Int) (_v5 : Int) : Option Rt_keep_MobiusAlgebra :=
  keep_MobiusAlgebra_4 _N _x1 _x3 _x4 (fun _v7 _v8 => keep_MobiusAlgebra_9 _N _x1 _x2 _x3 _x4 _v4 _v5 _v7 _v8)
theorem keep_MobiusAlgebra_10e (_N : Nat) (_x1 : Int × List Int) (_x2 : List Int) (_x3 : List Int) (_x4 : List Int) (_v4 : List Int) (_v5 : Int) :
    exec (C_keep_MobiusAlgebra _N) (cAt (bodyOf Tryd.f5) [1, 1, 1]) (.two .none (.keep [1, 2, 3, 4, 9, 10, 11, 12] 1 (.two .none (.keep [1, 2, 3, 4, 9, 10, 11, 12, 13, 14] 1 (.two .none (.keep [1, 2, 3, 4, 9, 11, 13] 1 (.two .none (.two .none (.two (.draw 0 [.rd [0], .pure, .pure, .pure, .pure, .pure, .pure, .pure, .pure, .pure, .pure]) (.two (.draw 0 [.rd [0], .pure, .pure, .rd [0], .pure, .pure, .pure, .pure, .pure, .pure, .pure]) (.two (.draw 0 [.rd [0], .pure, .rd [0], .pure, .pure, .pure, .pure, .pure, .pure, .pure, .pure]) .none))))))))))) [(1, .sl (.int .i64) _x2), (2, .sl (.int .i64) _x3), (3, .sl (.int .i64) _x4), (4, .ptr 0 0), (9, .sl (.int .i64) _v4), (10, .int .i64 _v5)] [.cells [.int .i64 _x1.1, .sl (.int .u32) _x1.2]] (canonR (fun _i _t _h => none) (finK (C_keep_MobiusAlgebra _N) [.tmp 8] (finD Rk_keep_MobiusAlgebra))) = keep_MobiusAlgebra_10 _N _x1 _x2 _x3 _x4 _v4 _v5 :=
  (seq_frag (by kernel_rfl) rfl).trans ((keep_MobiusAlgebra_4e _N _x1 _x2 _x3 _x4 _v4 _v5 (fun _t _h => exec (C_keep_MobiusAlgebra _N) (cAt (bodyOf Tryd.f5) [1, 1, 1, 1]) (.two .none (.keep [1, 2, 3, 4, 9, 10, 11, 12, 13, 14] 1 (.two .none (.keep [1, 2, 3, 4, 9, 11, 13] 1 (.two .none (.two .none (.two (.draw 0 [.rd [0], .pure, .pure, .pure, .pure, .pure, .pure, .pure, .pure, .pure, .pure]) (.two (.draw 0 [.rd [0], .pure, .pure, .rd [0], .pure, .pure, .pure, .pure, .pure, .pure, .pure]) (.two (.draw 0 [.rd [0], .pure, .rd [0], .pure, .pure, .pure, .pure, .pure, .pure, .pure, .pure]) .none))))))))) _t _h (canonR (fun _i _t _h => none) (finK (C_keep_MobiusAlgebra _N) [.tmp 8] (finD Rk_keep_MobiusAlgebra))))).trans (congrArg (fun _z => keep_MobiusAlgebra_4 _N _x1 _x3 _x4 _z) (funext fun _v7 => funext fun _v8 => keep_MobiusAlgebra_9e _N _x1 _x2 _x3 _x4 _v4 _v5 _v7 _v8)))
noncomputable def keep_MobiusAlgebra_11 (_N : Nat) (_x1 : Int × List Int) (_x2 : List Int) (_x3 : List Int) (_x4 : List Int) : Option Rt_keep_MobiusAlgebra :=
  keep_MobiusAlgebra_3 _N _x1 _x2 _x3 (fun _v4 _v5 => keep_MobiusAlgebra_10 _N _x1 _x2 _x3 _x4 _v4 _v5)
theorem keep_MobiusAlgebra_11e (_N : Nat) (_x1 : Int × List Int) (_x2 : List Int) (_x3 : List Int) (_x4 : List Int) :
    exec (C_keep_MobiusAlgebra _N) (cAt (bodyOf Tryd.f5) [1, 1]) (.two .none (.keep [1, 2, 3, 4, 9, 10] 1 (.two .none (.keep [1, 2, 3, 4, 9, 10, 11, 12] 1 (.two .none (.keep [1, 2, 3, 4, 9, 10, 11, 12, 13, 14] 1 (.two .none (.keep [1, 2, 3, 4, 9, 11, 13] 1 (.two .none (.two .none (.two (.draw 0 [.rd [0], .pure, .pure, .pure, .pure, .pure, .pure, .pure, .pure, .pure, .pure]) (.two (.draw 0 [.rd [0], .pure, .pure, .rd [0], .pure, .pure, .pure, .pure, .pure, .pure, .pure]) (.two (.draw 0 [.rd [0], .pure, .rd [0], .pure, .pure, .pure, .pure, .pure, .pure, .pure, .pure]) .none))))))))))))) [(1, .sl (.int .i64) _x2), (2, .sl (.int .i64) _x3), (3, .sl (.int .i64) _x4), (4, .ptr 0 0)] [.cells [.int .i64 _x1.1, .sl (.int .u32) _x1.2]] (canonR (fun _i _t _h => none) (finK (C_keep_MobiusAlgebra _N) [.tmp 8] (finD Rk_keep_MobiusAlgebra))) = keep_MobiusAlgebra_11 _N _x1 _x2 _x3 _x4 :=
  (seq_frag (by kernel_rfl) rfl).trans ((keep_MobiusAlgebra_3e _N _x1 _x2 _x3 _x4 (fun _t _h => exec (C_keep_MobiusAlgebra _N) (cAt (bodyOf Tryd.f5) [1, 1, 1]) (.two .none (.keep [1, 2, 3, 4, 9, 10, 11, 12] 1 (.two .none (.keep [1, 2, 3, 4, 9, 10, 11, 12, 13, 14] 1 (.two .none (.keep [1, 2, 3, 4, 9, 11, 13] 1 (.two .none (.two .none (.two (.draw 0 [.rd [0], .pure, .pure, .pure, .pure, .pure, .pure, .pure, .pure, .pure, .pure]) (.two (.draw 0 [.rd [0], .pure, .pure, .rd [0], .pure, .pure, .pure, .pure, .pure, .pure, .pure]) (.two (.draw 0 [.rd [0], .pure, .rd [0], .pure, .pure, .pure, .pure, .pure, .pure, .pure, .pure]) .none))))))))))) _t _h (canonR (fun _i _t _h => none) (finK (C_keep_MobiusAlgebra _N) [.tmp 8] (finD Rk_keep_MobiusAlgebra))))).trans (congrArg (fun _z => keep_MobiusAlgebra_3 _N _x1 _x2 _x3 _z) (funext fun _v4 => funext fun _v5 => keep_MobiusAlgebra_10e _N _x1 _x2 _x3 _x4 _v4 _v5)))
noncomputable def keep_MobiusAlgebra_12 (_N : Nat) (_x1 : Int × List Int) (_x2 : List Int) (_x3 : List Int) (_x4 : List Int) : Option Rt_keep_MobiusAlgebra :=
  keep_MobiusAlgebra_2 _N _x1 (keep_MobiusAlgebra_11 _N _x1 _x2 _x3 _x4)
theorem keep_MobiusAlgebra_12e (_N : Nat) (_x1 : Int × List Int) (_x2 : List Int) (_x3 : List Int) (_x4 : List Int) :
    exec (C_keep_MobiusAlgebra _N) (cAt (bodyOf Tryd.f5) [1]) (.two .none (.keep [1, 2, 3, 4] 1 (.two .none (.keep [1, 2, 3, 4, 9, 10] 1 (.two .none (.keep [1, 2, 3, 4, 9, 10, 11, 12] 1 (.two .none (.keep [1, 2, 3, 4, 9, 10, 11, 12, 13, 14] 1 (.two .none (.keep [1, 2, 3, 4, 9, 11, 13] 1 (.two .none (.two .none (.two (.draw 0 [.rd [0], .pure, .pure, .pure, .pure, .pure, .pure, .pure, .pure, .pure, .pure]) (.two (.draw 0 [.rd [0], .pure, .pure, .rd [0], .pure, .pure, .pure, .pure, .pure, .pure, .pure]) (.two (.draw 0 [.rd [0], .pure, .rd [0], .pure, .pure, .pure, .pure, .pure, .pure, .pure, .pure]) .none))))))))))))))) [(1, .sl (.int .i64) _x2), (2, .sl (.int .i64) _x3), (3, .sl (.int .i64) _x4), (4, .ptr 0 0)] [.cells [.int .i64 _x1.1, .sl (.int .u32) _x1.2]] (canonR (fun _i _t _h => none) (finK (C_keep_MobiusAlgebra _N) [.tmp 8] (finD Rk_keep_MobiusAlgebra))) = keep_MobiusAlgebra_12 _N _x1 _x2 _x3 _x4 :=
  (seq_frag (by kernel_rfl) rfl).trans ((keep_MobiusAlgebra_2e _N _x1 _x2 _x3 _x4 (fun _t _h => exec (C_keep_MobiusAlgebra _N) (cAt (bodyOf Tryd.f5) [1, 1]) (.two .none (.keep [1, 2, 3, 4, 9, 10] 1 (.two .none (.keep [1, 2, 3, 4, 9, 10, 11, 12] 1 (.two .none (.keep [1, 2, 3, 4, 9, 10, 11, 12, 13, 14] 1 (.two .none (.keep [1, 2, 3, 4, 9, 11, 13] 1 (.two .none (.two .none (.two (.draw 0 [.rd [0], .pure, .pure, .pure, .pure, .pure, .pure, .pure, .pure, .pure, .pure]) (.two (.draw 0 [.rd [0], .pure, .pure, .rd [0], .pure, .pure, .pure, .pure, .pure, .pure, .pure]) (.two (.draw 0 [.rd [0], .pure, .rd [0], .pure, .pure, .pure, .pure, .pure, .pure, .pure, .pure]) .none))))))))))))) _t _h (canonR (fun _i _t _h => none) (finK (C_keep_MobiusAlgebra _N) [.tmp 8] (finD Rk_keep_MobiusAlgebra))))).trans (congrArg (fun _z => keep_MobiusAlgebra_2 _N _x1 _z) (keep_MobiusAlgebra_11e _N _x1 _x2 _x3 _x4)))
noncomputable def keep_MobiusAlgebra_13 (_N : Nat) (_x1 : Int × List Int) (_x2 : List Int) (_x3 : List Int) (_x4 : List Int) : Option Rt_keep_MobiusAlgebra :=
  keep_MobiusAlgebra_1 _N (keep_MobiusAlgebra_12 _N _x1 _x2 _x3 _x4)
theorem keep_MobiusAlgebra_13e (_N : Nat) (_x1 : Int × List Int) (_x2 : List Int) (_x3 : List Int) (_x4 : List Int) :
    exec (C_keep_MobiusAlgebra _N) (cAt (bodyOf Tryd.f5) []) (.two .none (.keep [1, 2, 3, 4] 1 (.two .none (.keep [1, 2, 3, 4] 1 (.two .none (.keep [1, 2, 3, 4, 9, 10] 1 (.two .none (.keep [1, 2, 3, 4, 9, 10, 11, 12] 1 (.two .none (.keep [1, 2, 3, 4, 9, 10, 11, 12, 13, 14] 1 (.two .none (.keep [1, 2, 3, 4, 9, 11, 13] 1 (.two .none (.two .none (.two (.draw 0 [.rd [0], .pure, .pure, .pure, .pure, .pure, .pure, .pure, .pure, .pure, .pure]) (.two (.draw 0 [.rd [0], .pure, .pure, .rd [0], .pure, .pure, .pure, .pure, .pure, .pure, .pure]) (.two (.draw 0 [.rd [0], .pure, .rd [0], .pure, .pure, .pure, .pure, .pure, .pure, .pure, .pure]) .none))))))))))))))))) [(0, .agg [.int .i64 _x1.1, .sl (.int .u32) _x1.2]), (1, .sl (.int .i64) _x2), (2, .sl (.int .i64) _x3), (3, .sl (.int .i64) _x4)] [] (canonR (fun _i _t _h => none) (finK (C_keep_MobiusAlgebra _N) [.tmp 8] (finD Rk_keep_MobiusAlgebra))) = keep_MobiusAlgebra_13 _N _x1 _x2 _x3 _x4 :=
  (seq_frag (by kernel_rfl) rfl).trans ((keep_MobiusAlgebra_1e _N _x1 _x2 _x3 _x4 (fun _t _h => exec (C_keep_MobiusAlgebra _N) (cAt (bodyOf Tryd.f5) [1]) (.two .none (.keep [1, 2, 3, 4] 1 (.two .none (.keep [1, 2, 3, 4, 9, 10] 1 (.two .none (.keep [1, 2, 3, 4, 9, 10, 11, 12] 1 (.two .none (.keep [1, 2, 3, 4, 9, 10, 11, 12, 13, 14] 1 (.two .none (.keep [1, 2, 3, 4, 9, 11, 13] 1 (.two .none (.two .none (.two (.draw 0 [.rd [0], .pure, .pure, .pure, .pure, .pure, .pure, .pure, .pure, .pure, .pure]) (.two (.draw 0 [.rd [0], .pure, .pure, .rd [0], .pure, .pure, .pure, .pure, .pure, .pure, .pure]) (.two (.draw 0 [.rd [0], .pure, .rd [0], .pure, .pure, .pure, .pure, .pure, .pure, .pure, .pure]) .none))))))))))))))) _t _h (canonR (fun _i _t _h => none) (finK (C_keep_MobiusAlgebra _N) [.tmp 8] (finD Rk_keep_MobiusAlgebra))))).trans (congrArg (fun _z => keep_MobiusAlgebra_1 _N _z) (keep_MobiusAlgebra_12e _N _x1 _x2 _x3 _x4)))
noncomputable def D_keep_MobiusAlgebra (_N : Nat) (x : Dens Ks_keep_MobiusAlgebra) : Option Rt_keep_MobiusAlgebra := keep_MobiusAlgebra_13 _N x.1 x.2.1 x.2.2.1 x.2.2.2.1
theorem E_keep_MobiusAlgebra (_N : Nat) (x : Dens Ks_keep_MobiusAlgebra) : exec (C_keep_MobiusAlgebra _N) (bodyOf Tryd.f5) (.two .none (.keep [1, 2, 3, 4] 1 (.two .none (.keep [1, 2, 3, 4] 1 (.two .none (.keep [1, 2, 3, 4, 9, 10] 1 (.two .none (.keep [1, 2, 3, 4, 9, 10, 11, 12] 1 (.two .none (.keep [1, 2, 3, 4, 9, 10, 11, 12, 13, 14] 1 (.two .none (.keep [1, 2, 3, 4, 9, 11, 13] 1 (.two .none (.two .none (.two (.draw 0 [.rd [0], .pure, .pure, .pure, .pure, .pure, .pure, .pure, .pure, .pure, .pure]) (.two (.draw 0 [.rd [0], .pure, .pure, .rd [0], .pure, .pure, .pure, .pure, .pure, .pure, .pure]) (.two (.draw 0 [.rd [0], .pure, .rd [0], .pure, .pure, .pure, .pure, .pure, .pure, .pure, .pure]) .none))))))))))))))))) (argS 0 (kvals Ks_keep_MobiusAlgebra x)) [] (finK (C_keep_MobiusAlgebra _N) [.tmp 8] (finD Rk_keep_MobiusAlgebra)) = D_keep_MobiusAlgebra _N x :=
  (congrArg (fun K => exec (C_keep_MobiusAlgebra _N) (bodyOf Tryd.f5) (.two .none (.keep [1, 2, 3, 4] 1 (.two .none (.keep [1, 2, 3, 4] 1 (.two .none (.keep [1, 2, 3, 4, 9, 10] 1 (.two .none (.keep [1, 2, 3, 4, 9, 10, 11, 12] 1 (.two .none (.keep [1, 2, 3, 4, 9, 10, 11, 12, 13, 14] 1 (.two .none (.keep [1, 2, 3, 4, 9, 11, 13] 1 (.two .none (.two .none (.two (.draw 0 [.rd [0], .pure, .pure, .pure, .pure, .pure, .pure, .pure, .pure, .pure, .pure]) (.two (.draw 0 [.rd [0], .pure, .pure, .rd [0], .pure, .pure, .pure, .pure, .pure, .pure, .pure]) (.two (.draw 0 [.rd [0], .pure, .rd [0], .pure, .pure, .pure, .pure, .pure, .pure, .pure, .pure]) .none))))))))))))))))) (argS 0 (kvals Ks_keep_MobiusAlgebra x)) [] K) canonR_fin).trans (keep_MobiusAlgebra_13e _N x.1 x.2.1 x.2.2.1 x.2.2.2.1)
theorem ok_keep_MobiusAlgebra (_N : Nat) : CtxOk Tryd.prog Gs Tryd.f5 (C_keep_MobiusAlgebra _N) := ⟨rfl, by unfold TOk; kernel_rfl, gOk_of rfl rfl (List.forall_mem_cons.2 ⟨en_keep_sound _N, (List.forall_mem_cons.2 ⟨en_keep_refused _N, (List.forall_mem_cons.2 ⟨qen_mobius_Times _N, (List.forall_mem_cons.2 ⟨en_ref_Table _N, (List.forall_mem_cons.2 ⟨qen_keep_added _N, (List.forall_mem_cons.2 ⟨qen_keep_ones _N, (List.forall_mem_cons.2 ⟨en_ref_Longs _N, (List.forall_mem_nil _)⟩)⟩)⟩)⟩)⟩)⟩)⟩), iOk_of rfl rfl (List.forall_mem_nil _), rfl⟩
theorem hb_keep_MobiusAlgebra : HasBody Tryd.prog 5 := ⟨Tryd.f5, bodyOf Tryd.f5, by kernel_rfl, by kernel_rfl, rfl⟩
theorem sp_keep_MobiusAlgebra (_N : Nat) : SpecD Tryd.prog Gs 5 Ks_keep_MobiusAlgebra Rk_keep_MobiusAlgebra (D_keep_MobiusAlgebra _N) := specD_of (c := bodyOf Tryd.f5) (by kernel_rfl) rfl (by kernel_rfl) (Nat.le_of_ble_eq_true (by kernel_rfl)) fun x y _h => ⟨C_keep_MobiusAlgebra _N, (.two .none (.keep [1, 2, 3, 4] 1 (.two .none (.keep [1, 2, 3, 4] 1 (.two .none (.keep [1, 2, 3, 4, 9, 10] 1 (.two .none (.keep [1, 2, 3, 4, 9, 10, 11, 12] 1 (.two .none (.keep [1, 2, 3, 4, 9, 10, 11, 12, 13, 14] 1 (.two .none (.keep [1, 2, 3, 4, 9, 11, 13] 1 (.two .none (.two .none (.two (.draw 0 [.rd [0], .pure, .pure, .pure, .pure, .pure, .pure, .pure, .pure, .pure, .pure]) (.two (.draw 0 [.rd [0], .pure, .pure, .rd [0], .pure, .pure, .pure, .pure, .pure, .pure, .pure]) (.two (.draw 0 [.rd [0], .pure, .rd [0], .pure, .pure, .pure, .pure, .pure, .pure, .pure, .pure]) .none))))))))))))))))), ok_keep_MobiusAlgebra _N, (E_keep_MobiusAlgebra _N x).trans _h⟩
theorem en_keep_MobiusAlgebra (_N : Nat) : EntOk Tryd.prog Gs (mkP 5 Ks_keep_MobiusAlgebra Rk_keep_MobiusAlgebra (D_keep_MobiusAlgebra _N)) := entP hb_keep_MobiusAlgebra (by kernel_rfl) (sp_keep_MobiusAlgebra _N)
theorem law_MobiusAlgebra (o : Int × List Int) (f g h : List Int) (wo : wfS (.pair (.int .i64) (.sl (.int .u32))) o) (wf : wfS (.sl (.int .i64)) f) (wg : wfS (.sl (.int .i64)) g) (wh : wfS (.sl (.int .i64)) h) : ∃ N, D_keep_MobiusAlgebra N (o, f, g, h, ()) = some (true, ()) := by
  obtain ⟨n, up⟩ := o
  have hw : WL up := WL_of wo.2
  refine ⟨1000, ?_⟩
  simp only [D_keep_MobiusAlgebra, keep_MobiusAlgebra_13, keep_MobiusAlgebra_12, keep_MobiusAlgebra_11, keep_MobiusAlgebra_10, keep_MobiusAlgebra_9, keep_MobiusAlgebra_8, keep_MobiusAlgebra_5, keep_MobiusAlgebra_4, keep_MobiusAlgebra_3, keep_MobiusAlgebra_2, keep_MobiusAlgebra_1]
  obtain ⟨s, s1, s2⟩ := sound_eq (N := 1000) (by omega) hw n
  by_cases ho : Ord n up
  case neg =>
    obtain ⟨r, r1, r2⟩ := refused_eq (N := 1000) (by omega) hw n
    obtain rfl := r2.2 ho
    obtain rfl : s = false := Bool.eq_false_iff.2 fun h => ho (s2.1 h)
    simp only [s1, r1, Option.bind_some, Bool.not_false, cond_true]
  obtain rfl := s2.2 ho
  obtain ⟨m, rfl⟩ : ∃ m : Nat, n = (m : Int) := ⟨n.toNat, by have := ho.h0; omega⟩
  have hm : m ≤ 16 := by have := ho.h1; omega
  have hmm : m * m ≤ 16 * 16 := Nat.mul_le_mul hm hm
  have hlu : up.length = m := by have := ho.len; omega
  obtain ⟨tf, f1, f2⟩ := RTable_eq (N := 1000) (Nat.le_refl _) hm hw hlu f
  obtain ⟨tg, g1, g2⟩ := RTable_eq (N := 1000) (Nat.le_refl _) hm hw hlu g
  obtain ⟨th, h1, h2⟩ := RTable_eq (N := 1000) (Nat.le_refl _) hm hw hlu h
  have hbad : ∀ x y : List Int, ¬ (Tab m up x ∧ Tab m up y) → D_mobius_Times 1000 (((m : Int), up), x, y, ()) = some ([], 2, ()) := fun x y q => Times_bad hm hw ho (Nat.le_refl _) q
  have hany : ∀ x y : List Int, ∃ l e, D_mobius_Times 1000 (((m : Int), up), x, y, ()) = some (l, e, ()) := fun x y => by
    by_cases q : Tab m up x ∧ Tab m up y
    · obtain ⟨l, e, -⟩ := Times_eq (N := 1000) hm hw ho q.1 q.2 (Nat.le_refl _)
      exact ⟨l, _, e⟩
    · exact ⟨_, _, hbad x y q⟩
  simp only [s1, Option.bind_some, Bool.not_true, cond_false, keep_MobiusAlgebra_6, f1, g1, h1]
  by_cases qf : Tab m up f
  case neg =>
    obtain rfl : tf = false := Bool.eq_false_iff.2 fun h => qf (f2.1 h)
    obtain ⟨l, e, q⟩ := hany g h
    simp only [hbad f g (fun h => qf h.1), hbad f h (fun h => qf h.1), q, Option.bind_some, Bool.not_false, cond_true]
    rfl
  by_cases qg : Tab m up g
  case neg =>
    obtain rfl := f2.2 qf
    obtain rfl : tg = false := Bool.eq_false_iff.2 fun h => qg (g2.1 h)
    obtain ⟨l, e, q⟩ := hany f h
    simp only [hbad f g (fun h => qg h.2), hbad g h (fun h => qg h.1), q, Option.bind_some, Bool.not_false, Bool.not_true, cond_true, cond_false]
    rfl
  by_cases qh : Tab m up h
  case neg =>
    obtain rfl := f2.2 qf
    obtain rfl := g2.2 qg
    obtain rfl : th = false := Bool.eq_false_iff.2 fun h => qh (h2.1 h)
    obtain ⟨l, e, q⟩ := hany f g
    simp only [hbad g h (fun h => qh h.2), hbad f h (fun h => qh h.2), q, Option.bind_some, Bool.not_false, Bool.not_true, cond_true, cond_false]
    cases (e != 0) <;> rfl
  obtain rfl := f2.2 qf
  obtain rfl := g2.2 qg
  obtain rfl := h2.2 qh
  have cf : Cel m f := ⟨qf.len, fun x hx => wfS_i64.1 (wf.2 x hx)⟩
  have times : ∀ {x y : List Int}, Tab m up x → Tab m up y → ∃ l, D_mobius_Times 1000 (((m : Int), up), x, y, ()) = some (l, 0, ()) ∧ Cel m l ∧ EqT m (tv m l) (mulT m (tv m x) (tv m y)) ∧ Tab m up l := fun hx hy => by
    obtain ⟨l, q1, q2, q3⟩ := Times_eq (N := 1000) hm hw ho hx hy (Nat.le_refl _)
    exact ⟨l, q1, q2, q3, times_tab hm ho hx hy q2 q3⟩
  obtain ⟨fg, a1, a2, a3, a4⟩ := times qf qg
  obtain ⟨gh, b1, b2, b3, b4⟩ := times qg qh
  obtain ⟨fh, c1, c2, c3, c4⟩ := times qf qh
  obtain ⟨ab, d1, d2, d3, -⟩ := times a4 qh
  obtain ⟨ba, e1, e2, e3, -⟩ := times qf b4
  have hadd : ∀ {x y : List Int}, Tab m up x → Tab m up y → ∃ l, D_keep_added 1000 (x, y, ()) = some l ∧ Cel m l ∧ Tab m up l ∧ ∀ a b, a < m → b < m → tv m l a b = tv m x a b + tv m y a b := fun {x y} hx hy => by
    obtain ⟨l, q1, q2, q3, q4⟩ := added_eq (N := 1000) (x := x) (y := y) (Nat.le_refl _) (by rw [hx.len, hy.len]) (by rw [hx.len]; omega)
    have q5 : ∀ a b, a < m → b < m → nth 0 l (a * m + b) = IntKind.i64.wrap (nth 0 x (a * m + b) + nth 0 y (a * m + b)) := fun a b ha hb => q4 _ (by rw [hx.len]; exact cell_lt ha hb)
    refine ⟨l, q1, ⟨by rw [q2, hx.len], q3⟩, ⟨by rw [q2, hx.len], fun a b ha hb hle => ?_⟩, fun a b ha hb => ?_⟩
    · rw [q5 a b ha hb, hx.off a b ha hb hle, hy.off a b ha hb hle]; rfl
    · unfold tv
      rw [q5 a b ha hb, ph_wrap, ph_add]
  obtain ⟨sgh, i1, i2, i3, i4⟩ := hadd qg qh
  obtain ⟨sum, j1, j2, -, j4⟩ := hadd a4 c4
  obtain ⟨fs, k1, k2, k3, -⟩ := times qf i3
  obtain ⟨u, u1, u2, u3⟩ := ones_eq (N := 1000) (Nat.le_refl _) hm
  have ut : Tab m up u := ⟨u2.len, fun a b ha hb hle => by rw [u3 a b ha hb, if_neg (show ¬ a = b from fun e => hle (by subst e; exact ho.refl a (by omega)))]⟩
  have ud : EqT m (tv m u) dl := fun a b ha hb => by
    unfold tv dl
    rw [u3 a b ha hb]
    split <;> rfl
  obtain ⟨fu, l1, l2, l3, -⟩ := times qf ut
  obtain ⟨uf, m1, m2, m3, -⟩ := times ut qf
  have x1 : ab = ba := d2.ext e2 fun a b ha hb => by
    rw [d3 a b ha hb, e3 a b ha hb, mulT_congr a3 (fun _ _ _ _ => rfl : EqT m (tv m h) (tv m h)) a b ha hb, mulT_congr (fun _ _ _ _ => rfl : EqT m (tv m f) (tv m f)) b3 a b ha hb, mulT_assoc]
  have x2 : fs = sum := k2.ext j2 fun a b ha hb => by
    rw [k3 a b ha hb, j4 a b ha hb, a3 a b ha hb, c3 a b ha hb, ← mulT_add]
    exact mulT_congr (fun _ _ _ _ => rfl : EqT m (tv m f) (tv m f)) i4 a b ha hb
  have x3 : fu = f := l2.ext cf fun a b ha hb => by
    rw [l3 a b ha hb, mulT_congr (fun _ _ _ _ => rfl : EqT m (tv m f) (tv m f)) ud a b ha hb, mulT_dl _ hb]
  have x4 : uf = f := m2.ext cf fun a b ha hb => by
    rw [m3 a b ha hb, mulT_congr ud (fun _ _ _ _ => rfl : EqT m (tv m f) (tv m f)) a b ha hb, dl_mulT _ ha]
  subst x1; subst x2; subst x3; subst x4
  have hlong : ∀ x : List Int, Cel m x → D_ref_Longs 1000 (x, x, ()) = some (true, ()) := fun x hx => by
    obtain ⟨b, q1, q2⟩ := Longs_eq (N := 1000) (Nat.le_refl _) x x (by rw [hx.len]; omega)
    rw [q1, q2.2 rfl]
  simp only [keep_MobiusAlgebra_7, a1, b1, c1, d1, e1, i1, j1, k1, u1, l1, m1, Option.bind_some, Option.map_some, Bool.not_true, cond_false, bne_self_eq_false, hlong _ d2, hlong _ k2, hlong _ l2, cond_true]
set_option maxRecDepth 100000 in
theorem lifted_MobiusAlgebra (os : Os) (started : os.Started) (H : Type) (enc : TypeId × Value → H) :
    ReturnsInHanded {} Tryd.checked os 5 .any (fun w args => (Rows.mobiusAlgebraSpec.pre enc Tryd.prog Tryd.f5 [] false w args ∧ laidMetH Tryd.prog Rows.mobiusAlgebraRow.laid w) ∧ sizedMet enc Tryd.prog Tryd.f5 (OpenSpec.ofChange Rows.mobiusAlgebraSpec) false w args) (Rows.mobiusAlgebraSpec.post enc Tryd.prog Tryd.f5 false true false false) := by
  refine returnsInHanded_of_change_and (C := Tryd.checked) (X := fun w _ => laidMetH Tryd.prog Rows.mobiusAlgebraRow.laid w) (fun _ _ _ hh h => h.of_heap hh) own started (by kernel_rfl) Tryd.func5
    (ChangeSpec.witness_shaped (enc := enc) (C := Tryd.checked) (os := os) (X := fun w _ => laidMetH Tryd.prog Rows.mobiusAlgebraRow.laid w) false (World.doorLaid Tryd.prog 400 os) #[.agg #[.int .i64 0, .slice none 0 0], .slice none 0 0, .slice none 0 0, .slice none 0 0] 8 rfl (World.shaped_of_RefB (by kernel_rfl) (by kernel_rfl)) (by kernel_rfl) (by kernel_rfl) (by kernel_rfl) (door_met os _)) ?_
  intro W base args ds gs before hval0 hW _ hsz0 hL _
  have hgw : GW Gs W := gw_of hL
  have hval : ∀ (j : Nat) t v, Tryd.f5.params[j]? = some t → args[j]? = some v → Value.okWide Tryd.prog W .any base t v := hval0
  have hW' := hW
  obtain ⟨p, q, hA0, hV, rfl, _, _⟩ := hW
  have hA : DataW.TrodAll enc Tryd.prog W 0 (fun _ => true) true Tryd.f5.params.toList args.toList ds p := hA0
  rw [Tryd.params5] at hA hval
  obtain ⟨v0, vs0, d0, ds0, p0, q0, hargs, rfl, rfl, h0, r0⟩ := trodAll_cons hA
  obtain ⟨v1, vs1, d1, ds1, p1, q1, rfl, rfl, rfl, h1, r1⟩ := trodAll_cons r0
  obtain ⟨v2, vs2, d2, ds2, p2, q2, rfl, rfl, rfl, h2, r2⟩ := trodAll_cons r1
  obtain ⟨v3, vs3, d3, ds3, p3, q3, rfl, rfl, rfl, h3, r3⟩ := trodAll_cons r2
  obtain ⟨rfl, rfl, rfl⟩ := trodAll_nil r3
  obtain rfl : args = #[v0, v1, v2, v3] := by cases args; simp_all
  obtain ⟨rfl, rfl⟩ := trodVars_none hV
  clear hA0 hval0 hsz0
  simp only [List.append_nil] at hW'
  have hlt0 : ∀ x ∈ p0, x.block < W.heap.size := fun x hx => hW'.lt x (by simp [hx])
  have hlt1 : ∀ x ∈ p1, x.block < W.heap.size := fun x hx => hW'.lt x (by simp [hx])
  have hlt2 : ∀ x ∈ p2, x.block < W.heap.size := fun x hx => hW'.lt x (by simp [hx])
  have hlt3 : ∀ x ∈ p3, x.block < W.heap.size := fun x hx => hW'.lt x (by simp [hx])
  obtain ⟨x0, g0, w0⟩ := open_kd (k := .dat (.pair (.int .i64) (.sl (.int .u32)))) (by kernel_rfl) (hval 0 24 v0 rfl rfl) h0
  obtain ⟨x1, g1, w1⟩ := open_kd (k := .dat (.sl (.int .i64))) (by kernel_rfl) (hval 1 40 v1 rfl rfl) h1
  obtain ⟨x2, g2, w2⟩ := open_kd (k := .dat (.sl (.int .i64))) (by kernel_rfl) (hval 2 40 v2 rfl rfl) h2
  obtain ⟨x3, g3, w3⟩ := open_kd (k := .dat (.sl (.int .i64))) (by kernel_rfl) (hval 3 40 v3 rfl rfl) h3
  obtain ⟨N, hN⟩ := law_MobiusAlgebra x0 x1 x2 x3 w0 w1 w2 w3
  refine (sp_keep_MobiusAlgebra N (fun _ => False) W (x0, x1, x2, x3, ()) (true, ()) [v0, v1, v2, v3] (fun _ h => h.elim) hgw ⟨v0, _, rfl, g0, ⟨v1, _, rfl, g1, ⟨v2, _, rfl, g2, ⟨v3, _, rfl, g3, rfl⟩⟩⟩⟩ hN).mono ?_
  rintro e W' ⟨v, rfl, hg, hr⟩
  have hr : v = .bool true := by simpa only [kvals, retV, Kd.val, Go.Abs.enc, RV] using hr
  subst hr
  exact ⟨_, rfl, _, _, _, [], p0 ++ (p1 ++ (p2 ++ (p3 ++ []))), [], hW', (trodAll_cons_mk (shut_bool (show Tryd.prog.underlying 4 = some .bool by kernel_rfl) _) trodAll_mk0), (trodAll_cons_mk (Below.trod laidOut (by kernel_rfl) (of_decide_eq_true (by kernel_rfl)) h0 hg hlt0) (trodAll_cons_mk (Below.trod laidOut (by kernel_rfl) (of_decide_eq_true (by kernel_rfl)) h1 hg hlt1) (trodAll_cons_mk (Below.trod laidOut (by kernel_rfl) (of_decide_eq_true (by kernel_rfl)) h2 hg hlt2) (trodAll_cons_mk (Below.trod laidOut (by kernel_rfl) (of_decide_eq_true (by kernel_rfl)) h3 hg hlt3) trodAll_mk0)))), rfl, hg.frame _, fun h => by cases h⟩

/-- The statement: whatever the arguments, the law's function returns true and leaves them as they were. -/
theorem mobiusAlgebra_holds : Rows.MobiusAlgebraSaid :=
  OpenClaim.holds_of_wide 5 Tryd.f5 rfl rfl rfl rfl rfl rfl rfl ⟨rfl, rfl, rfl, rfl, rfl⟩ rfl rfl rfl rfl rfl (by kernel_rfl) Tryd.func5 (by kernel_rfl)
    (of_decide_eq_true (by kernel_rfl)) (by unfold Func.isWrapper; first | (rw [if_pos (by decide +kernel)]; kernel_rfl) | (rw [if_neg (by decide +kernel)]; exact ⟨rfl, rfl⟩))
    (fun os started H enc _ => lifted_MobiusAlgebra os started H enc)
/-- The statement's card: the variable that the road reads is tied to the program's text. -/
theorem mobiusAlgebra_card : Rows.MobiusAlgebraCardSaid :=
  Claim7.holds_tied_plain_at .later [] [.data] true (true, "95f6ea9d403f7937751d645b60a9924f7afd7c18e9047aef24e3dc8f01e8eb85") false mobiusAlgebra_holds (fun _ h => by cases h) (by kernel_rfl) (fun _ h => by cases h) mobiusAlgebra_row_tie rfl ⟨rfl, rfl⟩ (by kernel_rfl) rfl
    (fun f fn hf hfn => by
      obtain rfl : f = 5 := Option.some.inj ((show Tryd.prog.funcNamed "watershed/watershedkeep.MobiusAlgebra" = some 5 by kernel_rfl).symm.trans hf) |>.symm
      obtain rfl : fn = Tryd.f5 := (Option.some.inj (Tryd.func5.symm.trans hfn)).symm
      exact ⟨by kernel_rfl, fun j t ht => by
        have h3 := List.all_eq_true.1 (show (Tryd.f5.params.toList.all fun t => !(Tryd.prog.wantsStandIn t)) = true by kernel_rfl) t (by rw [← Array.getElem?_toList] at ht; exact List.mem_of_getElem? ht)
        have h4 : Tryd.prog.wantsStandIn t = false := by simpa using h3
        exact h4⟩)
    (by kernel_rfl)
end Go.Proofs.YtdlhfddmbdbedaaDoor
