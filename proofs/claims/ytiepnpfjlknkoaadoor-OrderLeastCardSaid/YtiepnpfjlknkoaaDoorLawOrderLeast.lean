/- The least order with some pairs has them, and is within every order that has them: the law answers true for every pairs and every order. No condition. -/
import Derived.Test.YtiepnpfjlknkoaaDoorOfS
import Derived.Test.YtiepnpfjlknkoaaDoorKeepS
import Derived.Test.YtiepnpfjlknkoaaDoorFrame
namespace Go.Proofs.YtiepnpfjlknkoaaDoor
open Go Go.ChangeShapes Go.WideShapes Go.ChangeAt Go.WideMaps Go.WideElems Go.RowKit Go.Abs
-- watershed/watershedkeep.OrderLeast
abbrev Ks_keep_OrderLeast : List Kd := [.dat (.pair (.int .i64) (.sl (.int .u32))), .dat (.sl (.pair (.int .i64) (.int .i64)))]
abbrev Rk_keep_OrderLeast : List Kd := [.dat (.bool)]
abbrev Rt_keep_OrderLeast : Type := Dens Rk_keep_OrderLeast
def T_keep_OrderLeast : List (Nat × TE) := [(3, ⟨.int .i64, 1, 8, some (.int .i64), [.int .i64 (0 : Int)]⟩),
  (22, ⟨.slice 25, 1, 24, some (.sl (.int .u32)), [.nil]⟩),
  (25, ⟨.int .u32, 1, 4, some (.int .u32), [.int .u32 (0 : Int)]⟩),
  (34, ⟨.struct [(0, 3), (1, 22)], 2, 32, some (.pair (.int .i64) (.sl (.int .u32))), [.int .i64 (0 : Int), .nil]⟩),
  (36, ⟨.slice 3, 1, 24, some (.sl (.int .i64)), [.nil]⟩),
  (42, ⟨.slice 46, 1, 24, some (.sl (.pair (.int .i64) (.int .i64))), [.nil]⟩),
  (46, ⟨.struct [(0, 3), (1, 3)], 2, 16, some (.pair (.int .i64) (.int .i64)), [.int .i64 (0 : Int), .int .i64 (0 : Int)]⟩)]
noncomputable def C_keep_OrderLeast (_N : Nat) : Ctx := { T := T_keep_OrderLeast, G := findE [mkQ 24 Ks_order_Of Rk_order_Of (D_order_Of _N), mkP 18 Ks_keep_sound Rk_keep_sound (D_keep_sound _N), mkP 19 Ks_keep_refused Rk_keep_refused (D_keep_refused _N), mkP 22 Ks_keep_within Rk_keep_within (D_keep_within _N), mkP 25 Ks_keep_below Rk_keep_below (D_keep_below _N)], I := findI [], N := _N, n := 117, fx := [], fl := 0, gs := Gs }
noncomputable def keep_OrderLeast_1 (_N : Nat) (_k26 : Option Rt_keep_OrderLeast) : Option Rt_keep_OrderLeast :=
  _k26
theorem keep_OrderLeast_1e (_N : Nat) (_x1 : Int × List Int) (_x2 : List (Int × Int)) (_k26 : Slots → List O → Option Rt_keep_OrderLeast) :
    exec (C_keep_OrderLeast _N) (cAt (bodyOf Tryd.f7) [0]) .none [(0, .agg [.int .i64 _x1.1, .sl (.int .u32) _x1.2]), (1, .sl (.pair (.int .i64) (.int .i64)) _x2)] [] (canonK [] _k26 [1, 2] 1 (fun _i _t _h => none) (fun _t _h => finK (C_keep_OrderLeast _N) [.tmp 4] (finD Rk_keep_OrderLeast) .ret _t _h)) = keep_OrderLeast_1 _N (_k26 [(1, .sl (.pair (.int .i64) (.int .i64)) _x2), (2, .ptr 0 0)] [.cells [.int .i64 _x1.1, .sl (.int .u32) _x1.2]]) :=
  by kernel_rfl
noncomputable def keep_OrderLeast_2 (_N : Nat) (_x1 : Int × List Int) (_x2 : List (Int × Int)) (_k27 : Int → Int → (List Int) → Option Rt_keep_OrderLeast) : Option Rt_keep_OrderLeast :=
  ((D_order_Of _N (_x1.1, _x2, ())).bind fun _y28 => (_k27 _y28.2.1 _y28.1.1 _y28.1.2))
theorem keep_OrderLeast_2e (_N : Nat) (_x1 : Int × List Int) (_x2 : List (Int × Int)) (_k27 : Slots → List O → Option Rt_keep_OrderLeast) :
    exec (C_keep_OrderLeast _N) (cAt (bodyOf Tryd.f7) [1, 0]) .none [(1, .sl (.pair (.int .i64) (.int .i64)) _x2), (2, .ptr 0 0)] [.cells [.int .i64 _x1.1, .sl (.int .u32) _x1.2]] (canonK [] _k27 [1, 2, 5, 6] 2 (fun _i _t _h => none) (fun _t _h => finK (C_keep_OrderLeast _N) [.tmp 4] (finD Rk_keep_OrderLeast) .ret _t _h)) = keep_OrderLeast_2 _N _x1 _x2 (fun _v2 _v3 _v4 => _k27 [(1, .sl (.pair (.int .i64) (.int .i64)) _x2), (2, .ptr 0 0), (5, .ptr 1 0), (6, .int .i64 _v2)] [.cells [.int .i64 _x1.1, .sl (.int .u32) _x1.2], .cells [.int .i64 _v3, .sl (.int .u32) _v4]]) :=
  by kernel_rfl
noncomputable def keep_OrderLeast_3 (_N : Nat) (_x1 : Int × List Int) (_x2 : List (Int × Int)) (_k29 : Option Rt_keep_OrderLeast) : Option Rt_keep_OrderLeast :=
  ((D_keep_sound _N ((_x1.1, _x1.2), ())).bind fun _y30 => (bif (!_y30.1) then ((D_keep_sound _N ((_x1.1, _x1.2), ())).bind fun _y31 => (bif _y31.1 then (some (true, ())) else ((D_keep_refused _N ((_x1.1, _x1.2), ())).bind fun _y32 => (some (_y32.1, ()))))) else (bif (decide ((_x2.length : Int) > (256 : Int))) then ((D_keep_sound _N ((_x1.1, _x1.2), ())).bind fun _y33 => (bif _y33.1 then (some (true, ())) else ((D_keep_refused _N ((_x1.1, _x1.2), ())).bind fun _y34 => (some (_y34.1, ()))))) else _k29)))
theorem keep_OrderLeast_3e (_N : Nat) (_x1 : Int × List Int) (_x2 : List (Int × Int)) (_v2 : Int) (_v3 : Int) (_v4 : List Int) (_k29 : Slots → List O → Option Rt_keep_OrderLeast) :
    exec (C_keep_OrderLeast _N) (cAt (bodyOf Tryd.f7) [1, 1, 0]) .none [(1, .sl (.pair (.int .i64) (.int .i64)) _x2), (2, .ptr 0 0), (5, .ptr 1 0), (6, .int .i64 _v2)] [.cells [.int .i64 _x1.1, .sl (.int .u32) _x1.2], .cells [.int .i64 _v3, .sl (.int .u32) _v4]] (canonK [] _k29 [1, 2, 5, 6] 2 (fun _i _t _h => none) (fun _t _h => finK (C_keep_OrderLeast _N) [.tmp 4] (finD Rk_keep_OrderLeast) .ret _t _h)) = keep_OrderLeast_3 _N _x1 _x2 (_k29 [(1, .sl (.pair (.int .i64) (.int .i64)) _x2), (2, .ptr 0 0), (5, .ptr 1 0), (6, .int .i64 _v2)] [.cells [.int .i64 _x1.1, .sl (.int .u32) _x1.2], .cells [.int .i64 _v3, .sl (.int .u32) _v4]]) :=
  by kernel_rfl
noncomputable def keep_OrderLeast_4 (_N : Nat) (_k35 : Option Rt_keep_OrderLeast) : Option Rt_keep_OrderLeast :=
  _k35
theorem keep_OrderLeast_4e (_N : Nat) (_x1 : Int × List Int) (_x2 : List (Int × Int)) (_v2 : Int) (_v3 : Int) (_v4 : List Int) (_k35 : Slots → List O → Option Rt_keep_OrderLeast) :
    exec (C_keep_OrderLeast _N) (cAt (bodyOf Tryd.f7) [1, 1, 1, 0]) .none [(1, .sl (.pair (.int .i64) (.int .i64)) _x2), (2, .ptr 0 0), (5, .ptr 1 0), (6, .int .i64 _v2)] [.cells [.int .i64 _x1.1, .sl (.int .u32) _x1.2], .cells [.int .i64 _v3, .sl (.int .u32) _v4]] (canonK [] _k35 [1, 2, 5, 6, 7] 2 (fun _i _t _h => none) (fun _t _h => finK (C_keep_OrderLeast _N) [.tmp 4] (finD Rk_keep_OrderLeast) .ret _t _h)) = keep_OrderLeast_4 _N (_k35 [(1, .sl (.pair (.int .i64) (.int .i64)) _x2), (2, .ptr 0 0), (5, .ptr 1 0), (6, .int .i64 _v2), (7, .bool true)] [.cells [.int .i64 _x1.1, .sl (.int .u32) _x1.2], .cells [.int .i64 _v3, .sl (.int .u32) _v4]]) :=
  by kernel_rfl
noncomputable def keep_OrderLeast_5 (_N : Nat) (_k37 : Option Rt_keep_OrderLeast) : Option Rt_keep_OrderLeast :=
  _k37
theorem keep_OrderLeast_5e (_N : Nat) (_x1 : Int × List Int) (_x2 : List (Int × Int)) (_v2 : Int) (_v3 : Int) (_v4 : List Int) (_k37 : Slots → List O → Option Rt_keep_OrderLeast) :
    exec (C_keep_OrderLeast _N) (cAt (bodyOf Tryd.f7) [1, 1, 1, 1, 0, 0]) .none [(1, .sl (.pair (.int .i64) (.int .i64)) _x2), (2, .ptr 0 0), (5, .ptr 1 0), (6, .int .i64 _v2), (7, .bool true)] [.cells [.int .i64 _x1.1, .sl (.int .u32) _x1.2], .cells [.int .i64 _v3, .sl (.int .u32) _v4]] (canonK [] _k37 [1, 2, 5, 6, 7, 34, 35, 36] 2 (fun _i _t _h => none) (fun _t _h => finK (C_keep_OrderLeast _N) [.tmp 4] (finD Rk_keep_OrderLeast) .ret _t _h)) = keep_OrderLeast_5 _N (_k37 [(1, .sl (.pair (.int .i64) (.int .i64)) _x2), (2, .ptr 0 0), (5, .ptr 1 0), (6, .int .i64 _v2), (7, .bool true), (34, .sl (.pair (.int .i64) (.int .i64)) _x2), (35, .int .i64 (_x2.length : Int)), (36, .int .i64 (0 : Int))] [.cells [.int .i64 _x1.1, .sl (.int .u32) _x1.2], .cells [.int .i64 _v3, .sl (.int .u32) _v4]]) :=
  by kernel_rfl
noncomputable def keep_OrderLeast_6 (_N : Nat) (_x1 : Int × List Int) (_x2 : List (Int × Int)) (_v2 : Int) (_v12 : Bool) (_v13 : Int) (_k38 : Bool → Int → Option Rt_keep_OrderLeast) (_k36 : Bool → Option Rt_keep_OrderLeast) : Option Rt_keep_OrderLeast :=
  (bif (decide (_v13 < (_x2.length : Int))) then (bif (decide (0 ≤ _v13) && decide (_v13 < (_x2.length : Int))) then ((D_keep_within _N (_x1.1, [(nth ((0 : Int), (0 : Int)) _x2 (_v13).toNat).1, (nth ((0 : Int), (0 : Int)) _x2 (_v13).toNat).2], ())).bind fun _y39 => (bif (!_y39.1) then (some ((_v2 == (2 : Int)), ())) else ((D_keep_below _N ((_x1.1, _x1.2), (nth ((0 : Int), (0 : Int)) _x2 (_v13).toNat).1, (nth ((0 : Int), (0 : Int)) _x2 (_v13).toNat).2, ())).bind fun _y40 => (bif (!_y40.1) then (_k38 false (IntKind.i64.wrap (_v13 + (1 : Int)))) else (_k38 _v12 (IntKind.i64.wrap (_v13 + (1 : Int)))))))) else none) else (_k36 _v12))
theorem keep_OrderLeast_6e (_N : Nat) (_x1 : Int × List Int) (_x2 : List (Int × Int)) (_v2 : Int) (_v3 : Int) (_v4 : List Int) (_v12 : Bool) (_v13 : Int) (_k38 _k36 : Slots → List O → Option Rt_keep_OrderLeast) :
    exec (C_keep_OrderLeast _N) (cAt (bodyOf Tryd.f7) [1, 1, 1, 1, 0, 1, 0, 0]) .none [(1, .sl (.pair (.int .i64) (.int .i64)) _x2), (2, .ptr 0 0), (5, .ptr 1 0), (6, .int .i64 _v2), (7, .bool _v12), (34, .sl (.pair (.int .i64) (.int .i64)) _x2), (35, .int .i64 (_x2.length : Int)), (36, .int .i64 _v13)] [.cells [.int .i64 _x1.1, .sl (.int .u32) _x1.2], .cells [.int .i64 _v3, .sl (.int .u32) _v4]] (canonK [] _k38 [1, 2, 5, 6, 7, 34, 35, 36] 2 (fun _i _t _h => bif Nat.beq _i 0 then _k36 (cvT [] [1, 2, 5, 6, 7] 2 _t _h) (cvH [] 2 _h) else none) (fun _t _h => finK (C_keep_OrderLeast _N) [.tmp 4] (finD Rk_keep_OrderLeast) .ret _t _h)) = keep_OrderLeast_6 _N _x1 _x2 _v2 _v12 _v13 (fun _v12 _v13 => _k38 [(1, .sl (.pair (.int .i64) (.int .i64)) _x2), (2, .ptr 0 0), (5, .ptr 1 0), (6, .int .i64 _v2), (7, .bool _v12), (34, .sl (.pair (.int .i64) (.int .i64)) _x2), (35, .int .i64 (_x2.length : Int)), (36, .int .i64 _v13)] [.cells [.int .i64 _x1.1, .sl (.int .u32) _x1.2], .cells [.int .i64 _v3, .sl (.int .u32) _v4]]) (fun _v18 => _k36 [(1, .sl (.pair (.int .i64) (.int .i64)) _x2), (2, .ptr 0 0), (5, .ptr 1 0), (6, .int .i64 _v2), (7, .bool _v18)] [.cells [.int .i64 _x1.1, .sl (.int .u32) _x1.2], .cells [.int .i64 _v3, .sl (.int .u32) _v4]]) :=
  by kernel_rfl
noncomputable def keep_OrderLeast_7 (_N : Nat) (_x1 : Int × List Int) (_x2 : List (Int × Int)) (_v2 : Int) (_k36 : Bool → Option Rt_keep_OrderLeast) : Option Rt_keep_OrderLeast :=
  loopD (fun (_s : Bool × Int) _kn => keep_OrderLeast_6 _N _x1 _x2 _v2 _s.1 _s.2 (fun _v12 _v13 => _kn (_v12, _v13)) _k36) _N (true, (0 : Int))
theorem keep_OrderLeast_7e (_N : Nat) (_x1 : Int × List Int) (_x2 : List (Int × Int)) (_v2 : Int) (_v3 : Int) (_v4 : List Int) (_k36 : Slots → List O → Option Rt_keep_OrderLeast) :
    exec (C_keep_OrderLeast _N) (cAt (bodyOf Tryd.f7) [1, 1, 1, 1, 0, 1, 0]) (.loop [1, 2, 5, 6, 7, 34, 35, 36] 2 .none) [(1, .sl (.pair (.int .i64) (.int .i64)) _x2), (2, .ptr 0 0), (5, .ptr 1 0), (6, .int .i64 _v2), (7, .bool true), (34, .sl (.pair (.int .i64) (.int .i64)) _x2), (35, .int .i64 (_x2.length : Int)), (36, .int .i64 (0 : Int))] [.cells [.int .i64 _x1.1, .sl (.int .u32) _x1.2], .cells [.int .i64 _v3, .sl (.int .u32) _v4]] (canonK [] _k36 [1, 2, 5, 6, 7] 2 (fun _i _t _h => bif Nat.beq _i 0 then _k36 (cvT [] [1, 2, 5, 6, 7] 2 _t _h) (cvH [] 2 _h) else none) (fun _t _h => finK (C_keep_OrderLeast _N) [.tmp 4] (finD Rk_keep_OrderLeast) .ret _t _h)) = keep_OrderLeast_7 _N _x1 _x2 _v2 (fun _v18 => _k36 [(1, .sl (.pair (.int .i64) (.int .i64)) _x2), (2, .ptr 0 0), (5, .ptr 1 0), (6, .int .i64 _v2), (7, .bool _v18)] [.cells [.int .i64 _x1.1, .sl (.int .u32) _x1.2], .cells [.int .i64 _v3, .sl (.int .u32) _v4]]) :=
  (loop_frag (by kernel_rfl) rfl (by kernel_rfl) (by kernel_rfl)).trans (loopN_sim (S := Bool × Int) (fun _s => [(1, .sl (.pair (.int .i64) (.int .i64)) _x2), (2, .ptr 0 0), (5, .ptr 1 0), (6, .int .i64 _v2), (7, .bool _s.1), (34, .sl (.pair (.int .i64) (.int .i64)) _x2), (35, .int .i64 (_x2.length : Int)), (36, .int .i64 _s.2)]) (fun _s => [.cells [.int .i64 _x1.1, .sl (.int .u32) _x1.2], .cells [.int .i64 _v3, .sl (.int .u32) _v4]]) (fun _s _kn => keep_OrderLeast_6e _N _x1 _x2 _v2 _v3 _v4 _s.1 _s.2 _kn _k36) _N (true, (0 : Int)))
noncomputable def keep_OrderLeast_8 (_N : Nat) (_x1 : Int × List Int) (_x2 : List (Int × Int)) (_v2 : Int) (_k36 : Bool → Option Rt_keep_OrderLeast) : Option Rt_keep_OrderLeast :=
  keep_OrderLeast_7 _N _x1 _x2 _v2 _k36
theorem keep_OrderLeast_8e (_N : Nat) (_x1 : Int × List Int) (_x2 : List (Int × Int)) (_v2 : Int) (_v3 : Int) (_v4 : List Int) (_k36 : Slots → List O → Option Rt_keep_OrderLeast) :
    exec (C_keep_OrderLeast _N) (cAt (bodyOf Tryd.f7) [1, 1, 1, 1, 0, 1]) (.one (.loop [1, 2, 5, 6, 7, 34, 35, 36] 2 .none)) [(1, .sl (.pair (.int .i64) (.int .i64)) _x2), (2, .ptr 0 0), (5, .ptr 1 0), (6, .int .i64 _v2), (7, .bool true), (34, .sl (.pair (.int .i64) (.int .i64)) _x2), (35, .int .i64 (_x2.length : Int)), (36, .int .i64 (0 : Int))] [.cells [.int .i64 _x1.1, .sl (.int .u32) _x1.2], .cells [.int .i64 _v3, .sl (.int .u32) _v4]] (canonK [] _k36 [1, 2, 5, 6, 7] 2 (fun _i _t _h => none) (fun _t _h => finK (C_keep_OrderLeast _N) [.tmp 4] (finD Rk_keep_OrderLeast) .ret _t _h)) = keep_OrderLeast_8 _N _x1 _x2 _v2 (fun _v18 => _k36 [(1, .sl (.pair (.int .i64) (.int .i64)) _x2), (2, .ptr 0 0), (5, .ptr 1 0), (6, .int .i64 _v2), (7, .bool _v18)] [.cells [.int .i64 _x1.1, .sl (.int .u32) _x1.2], .cells [.int .i64 _v3, .sl (.int .u32) _v4]]) :=
  (block_canon (by kernel_rfl)).trans (keep_OrderLeast_7e _N _x1 _x2 _v2 _v3 _v4 _k36)
noncomputable def keep_OrderLeast_9 (_N : Nat) (_x1 : Int × List Int) (_x2 : List (Int × Int)) (_v2 : Int) (_k36 : Bool → Option Rt_keep_OrderLeast) : Option Rt_keep_OrderLeast :=
  keep_OrderLeast_5 _N (keep_OrderLeast_8 _N _x1 _x2 _v2 _k36)
theorem keep_OrderLeast_9e (_N : Nat) (_x1 : Int × List Int) (_x2 : List (Int × Int)) (_v2 : Int) (_v3 : Int) (_v4 : List Int) (_k36 : Slots → List O → Option Rt_keep_OrderLeast) :
    exec (C_keep_OrderLeast _N) (cAt (bodyOf Tryd.f7) [1, 1, 1, 1, 0]) (.two .none (.keep [1, 2, 5, 6, 7, 34, 35, 36] 2 (.one (.loop [1, 2, 5, 6, 7, 34, 35, 36] 2 .none)))) [(1, .sl (.pair (.int .i64) (.int .i64)) _x2), (2, .ptr 0 0), (5, .ptr 1 0), (6, .int .i64 _v2), (7, .bool true)] [.cells [.int .i64 _x1.1, .sl (.int .u32) _x1.2], .cells [.int .i64 _v3, .sl (.int .u32) _v4]] (canonK [] _k36 [1, 2, 5, 6, 7] 2 (fun _i _t _h => none) (fun _t _h => finK (C_keep_OrderLeast _N) [.tmp 4] (finD Rk_keep_OrderLeast) .ret _t _h)) = keep_OrderLeast_9 _N _x1 _x2 _v2 (fun _v18 => _k36 [(1, .sl (.pair (.int .i64) (.int .i64)) _x2), (2, .ptr 0 0), (5, .ptr 1 0), (6, .int .i64 _v2), (7, .bool _v18)] [.cells [.int .i64 _x1.1, .sl (.int .u32) _x1.2], .cells [.int .i64 _v3, .sl (.int .u32) _v4]]) :=
  (seq_frag (by kernel_rfl) rfl).trans ((keep_OrderLeast_5e _N _x1 _x2 _v2 _v3 _v4 (fun _t _h => exec (C_keep_OrderLeast _N) (cAt (bodyOf Tryd.f7) [1, 1, 1, 1, 0, 1]) (.one (.loop [1, 2, 5, 6, 7, 34, 35, 36] 2 .none)) _t _h (canonK [] _k36 [1, 2, 5, 6, 7] 2 (fun _i _t _h => none) (fun _t _h => finK (C_keep_OrderLeast _N) [.tmp 4] (finD Rk_keep_OrderLeast) .ret _t _h)))).trans (congrArg (fun _z => keep_OrderLeast_5 _N _z) (keep_OrderLeast_8e _N _x1 _x2 _v2 _v3 _v4 _k36)))
noncomputable def keep_OrderLeast_10 (_N : Nat) (_v2 : Int) (_v18 : Bool) (_k41 : Option Rt_keep_OrderLeast) : Option Rt_keep_OrderLeast :=
  (bif (_v2 != (0 : Int)) then (bif (_v2 == (4 : Int)) then (some ((!_v18), ())) else (some (false, ()))) else _k41)
theorem keep_OrderLeast_10e (_N : Nat) (_x1 : Int × List Int) (_x2 : List (Int × Int)) (_v2 : Int) (_v3 : Int) (_v4 : List Int) (_v18 : Bool) (_k41 : Slots → List O → Option Rt_keep_OrderLeast) :
    exec (C_keep_OrderLeast _N) (cAt (bodyOf Tryd.f7) [1, 1, 1, 1, 1, 0]) .none [(1, .sl (.pair (.int .i64) (.int .i64)) _x2), (2, .ptr 0 0), (5, .ptr 1 0), (6, .int .i64 _v2), (7, .bool _v18)] [.cells [.int .i64 _x1.1, .sl (.int .u32) _x1.2], .cells [.int .i64 _v3, .sl (.int .u32) _v4]] (canonK [] _k41 [1, 2, 5, 7] 2 (fun _i _t _h => none) (fun _t _h => finK (C_keep_OrderLeast _N) [.tmp 4] (finD Rk_keep_OrderLeast) .ret _t _h)) = keep_OrderLeast_10 _N _v2 _v18 (_k41 [(1, .sl (.pair (.int .i64) (.int .i64)) _x2), (2, .ptr 0 0), (5, .ptr 1 0), (7, .bool _v18)] [.cells [.int .i64 _x1.1, .sl (.int .u32) _x1.2], .cells [.int .i64 _v3, .sl (.int .u32) _v4]]) :=
  by kernel_rfl
noncomputable def keep_OrderLeast_11 (_N : Nat) (_x1 : Int × List Int) (_v3 : Int) (_v4 : List Int) (_k42 : Option Rt_keep_OrderLeast) : Option Rt_keep_OrderLeast :=
  ((D_keep_sound _N ((_v3, _v4), ())).bind fun _y43 => (bif (!_y43.1) then (some (false, ())) else (bif (_v3 != _x1.1) then (some (false, ())) else _k42)))
theorem keep_OrderLeast_11e (_N : Nat) (_x1 : Int × List Int) (_x2 : List (Int × Int)) (_v2 : Int) (_v3 : Int) (_v4 : List Int) (_v18 : Bool) (_k42 : Slots → List O → Option Rt_keep_OrderLeast) :
    exec (C_keep_OrderLeast _N) (cAt (bodyOf Tryd.f7) [1, 1, 1, 1, 1, 1, 0]) .none [(1, .sl (.pair (.int .i64) (.int .i64)) _x2), (2, .ptr 0 0), (5, .ptr 1 0), (7, .bool _v18)] [.cells [.int .i64 _x1.1, .sl (.int .u32) _x1.2], .cells [.int .i64 _v3, .sl (.int .u32) _v4]] (canonK [] _k42 [1, 2, 5, 7] 2 (fun _i _t _h => none) (fun _t _h => finK (C_keep_OrderLeast _N) [.tmp 4] (finD Rk_keep_OrderLeast) .ret _t _h)) = keep_OrderLeast_11 _N _x1 _v3 _v4 (_k42 [(1, .sl (.pair (.int .i64) (.int .i64)) _x2), (2, .ptr 0 0), (5, .ptr 1 0), (7, .bool _v18)] [.cells [.int .i64 _x1.1, .sl (.int .u32) _x1.2], .cells [.int .i64 _v3, .sl (.int .u32) _v4]]) :=
  by kernel_rfl
noncomputable def keep_OrderLeast_12 (_N : Nat) (_k45 : Option Rt_keep_OrderLeast) : Option Rt_keep_OrderLeast :=
  _k45
theorem keep_OrderLeast_12e (_N : Nat) (_x1 : Int × List Int) (_x2 : List (Int × Int)) (_v2 : Int) (_v3 : Int) (_v4 : List Int) (_v18 : Bool) (_k45 : Slots → List O → Option Rt_keep_OrderLeast) :
    exec (C_keep_OrderLeast _N) (cAt (bodyOf Tryd.f7) [1, 1, 1, 1, 1, 1, 1, 0, 0]) .none [(1, .sl (.pair (.int .i64) (.int .i64)) _x2), (2, .ptr 0 0), (5, .ptr 1 0), (7, .bool _v18)] [.cells [.int .i64 _x1.1, .sl (.int .u32) _x1.2], .cells [.int .i64 _v3, .sl (.int .u32) _v4]] (canonK [] _k45 [2, 5, 7, 77, 78, 79] 2 (fun _i _t _h => none) (fun _t _h => finK (C_keep_OrderLeast _N) [.tmp 4] (finD Rk_keep_OrderLeast) .ret _t _h)) = keep_OrderLeast_12 _N (_k45 [(2, .ptr 0 0), (5, .ptr 1 0), (7, .bool _v18), (77, .sl (.pair (.int .i64) (.int .i64)) _x2), (78, .int .i64 (_x2.length : Int)), (79, .int .i64 (0 : Int))] [.cells [.int .i64 _x1.1, .sl (.int .u32) _x1.2], .cells [.int .i64 _v3, .sl (.int .u32) _v4]]) :=
  by kernel_rfl
noncomputable def keep_OrderLeast_13 (_N : Nat) (_x2 : List (Int × Int)) (_v3 : Int) (_v4 : List Int) (_v21 : Int) (_k46 : Int → Option Rt_keep_OrderLeast) (_k44 : Option Rt_keep_OrderLeast) : Option Rt_keep_OrderLeast :=
  (bif (decide (_v21 < (_x2.length : Int))) then (bif (decide (0 ≤ _v21) && decide (_v21 < (_x2.length : Int))) then ((D_keep_below _N ((_v3, _v4), (nth ((0 : Int), (0 : Int)) _x2 (_v21).toNat).1, (nth ((0 : Int), (0 : Int)) _x2 (_v21).toNat).2, ())).bind fun _y47 => (bif (!_y47.1) then (some (false, ())) else (_k46 (IntKind.i64.wrap (_v21 + (1 : Int)))))) else none) else _k44)
theorem keep_OrderLeast_13e (_N : Nat) (_x1 : Int × List Int) (_x2 : List (Int × Int)) (_v2 : Int) (_v3 : Int) (_v4 : List Int) (_v18 : Bool) (_v21 : Int) (_k46 _k44 : Slots → List O → Option Rt_keep_OrderLeast) :
    exec (C_keep_OrderLeast _N) (cAt (bodyOf Tryd.f7) [1, 1, 1, 1, 1, 1, 1, 0, 1, 0, 0]) .none [(2, .ptr 0 0), (5, .ptr 1 0), (7, .bool _v18), (77, .sl (.pair (.int .i64) (.int .i64)) _x2), (78, .int .i64 (_x2.length : Int)), (79, .int .i64 _v21)] [.cells [.int .i64 _x1.1, .sl (.int .u32) _x1.2], .cells [.int .i64 _v3, .sl (.int .u32) _v4]] (canonK [] _k46 [2, 5, 7, 77, 78, 79] 2 (fun _i _t _h => bif Nat.beq _i 2 then _k44 (cvT [] [2, 5, 7] 2 _t _h) (cvH [] 2 _h) else none) (fun _t _h => finK (C_keep_OrderLeast _N) [.tmp 4] (finD Rk_keep_OrderLeast) .ret _t _h)) = keep_OrderLeast_13 _N _x2 _v3 _v4 _v21 (fun _v21 => _k46 [(2, .ptr 0 0), (5, .ptr 1 0), (7, .bool _v18), (77, .sl (.pair (.int .i64) (.int .i64)) _x2), (78, .int .i64 (_x2.length : Int)), (79, .int .i64 _v21)] [.cells [.int .i64 _x1.1, .sl (.int .u32) _x1.2], .cells [.int .i64 _v3, .sl (.int .u32) _v4]]) (_k44 [(2, .ptr 0 0), (5, .ptr 1 0), (7, .bool _v18)] [.cells [.int .i64 _x1.1, .sl (.int .u32) _x1.2], .cells [.int .i64 _v3, .sl (.int .u32) _v4]]) :=
  by kernel_rfl
noncomputable def keep_OrderLeast_14 (_N : Nat) (_x2 : List (Int × Int)) (_v3 : Int) (_v4 : List Int) (_k44 : Option Rt_keep_OrderLeast) : Option Rt_keep_OrderLeast :=
  loopD (fun (_s : Int) _kn => keep_OrderLeast_13 _N _x2 _v3 _v4 _s (fun _v21 => _kn _v21) _k44) _N (0 : Int)
theorem keep_OrderLeast_14e (_N : Nat) (_x1 : Int × List Int) (_x2 : List (Int × Int)) (_v2 : Int) (_v3 : Int) (_v4 : List Int) (_v18 : Bool) (_k44 : Slots → List O → Option Rt_keep_OrderLeast) :
    exec (C_keep_OrderLeast _N) (cAt (bodyOf Tryd.f7) [1, 1, 1, 1, 1, 1, 1, 0, 1, 0]) (.loop [2, 5, 7, 77, 78, 79] 2 .none) [(2, .ptr 0 0), (5, .ptr 1 0), (7, .bool _v18), (77, .sl (.pair (.int .i64) (.int .i64)) _x2), (78, .int .i64 (_x2.length : Int)), (79, .int .i64 (0 : Int))] [.cells [.int .i64 _x1.1, .sl (.int .u32) _x1.2], .cells [.int .i64 _v3, .sl (.int .u32) _v4]] (canonK [] _k44 [2, 5, 7] 2 (fun _i _t _h => bif Nat.beq _i 2 then _k44 (cvT [] [2, 5, 7] 2 _t _h) (cvH [] 2 _h) else none) (fun _t _h => finK (C_keep_OrderLeast _N) [.tmp 4] (finD Rk_keep_OrderLeast) .ret _t _h)) = keep_OrderLeast_14 _N _x2 _v3 _v4 (_k44 [(2, .ptr 0 0), (5, .ptr 1 0), (7, .bool _v18)] [.cells [.int .i64 _x1.1, .sl (.int .u32) _x1.2], .cells [.int .i64 _v3, .sl (.int .u32) _v4]]) :=
  (loop_frag (by kernel_rfl) rfl (by kernel_rfl) (by kernel_rfl)).trans (loopN_sim (S := Int) (fun _s => [(2, .ptr 0 0), (5, .ptr 1 0), (7, .bool _v18), (77, .sl (.pair (.int .i64) (.int .i64)) _x2), (78, .int .i64 (_x2.length : Int)), (79, .int .i64 _s)]) (fun _s => [.cells [.int .i64 _x1.1, .sl (.int .u32) _x1.2], .cells [.int .i64 _v3, .sl (.int .u32) _v4]]) (fun _s _kn => keep_OrderLeast_13e _N _x1 _x2 _v2 _v3 _v4 _v18 _s _kn _k44) _N (0 : Int))
noncomputable def keep_OrderLeast_15 (_N : Nat) (_x2 : List (Int × Int)) (_v3 : Int) (_v4 : List Int) (_k44 : Option Rt_keep_OrderLeast) : Option Rt_keep_OrderLeast :=
  keep_OrderLeast_14 _N _x2 _v3 _v4 _k44
theorem keep_OrderLeast_15e (_N : Nat) (_x1 : Int × List Int) (_x2 : List (Int × Int)) (_v2 : Int) (_v3 : Int) (_v4 : List Int) (_v18 : Bool) (_k44 : Slots → List O → Option Rt_keep_OrderLeast) :
    exec (C_keep_OrderLeast _N) (cAt (bodyOf Tryd.f7) [1, 1, 1, 1, 1, 1, 1, 0, 1]) (.one (.loop [2, 5, 7, 77, 78, 79] 2 .none)) [(2, .ptr 0 0), (5, .ptr 1 0), (7, .bool _v18), (77, .sl (.pair (.int .i64) (.int .i64)) _x2), (78, .int .i64 (_x2.length : Int)), (79, .int .i64 (0 : Int))] [.cells [.int .i64 _x1.1, .sl (.int .u32) _x1.2], .cells [.int .i64 _v3, .sl (.int .u32) _v4]] (canonK [] _k44 [2, 5, 7] 2 (fun _i _t _h => none) (fun _t _h => finK (C_keep_OrderLeast _N) [.tmp 4] (finD Rk_keep_OrderLeast) .ret _t _h)) = keep_OrderLeast_15 _N _x2 _v3 _v4 (_k44 [(2, .ptr 0 0), (5, .ptr 1 0), (7, .bool _v18)] [.cells [.int .i64 _x1.1, .sl (.int .u32) _x1.2], .cells [.int .i64 _v3, .sl (.int .u32) _v4]]) :=
  (block_canon (by kernel_rfl)).trans (keep_OrderLeast_14e _N _x1 _x2 _v2 _v3 _v4 _v18 _k44)
noncomputable def keep_OrderLeast_16 (_N : Nat) (_x2 : List (Int × Int)) (_v3 : Int) (_v4 : List Int) (_k44 : Option Rt_keep_OrderLeast) : Option Rt_keep_OrderLeast :=
  keep_OrderLeast_12 _N (keep_OrderLeast_15 _N _x2 _v3 _v4 _k44)
theorem keep_OrderLeast_16e (_N : Nat) (_x1 : Int × List Int) (_x2 : List (Int × Int)) (_v2 : Int) (_v3 : Int) (_v4 : List Int) (_v18 : Bool) (_k44 : Slots → List O → Option Rt_keep_OrderLeast) :
    exec (C_keep_OrderLeast _N) (cAt (bodyOf Tryd.f7) [1, 1, 1, 1, 1, 1, 1, 0]) (.two .none (.keep [2, 5, 7, 77, 78, 79] 2 (.one (.loop [2, 5, 7, 77, 78, 79] 2 .none)))) [(1, .sl (.pair (.int .i64) (.int .i64)) _x2), (2, .ptr 0 0), (5, .ptr 1 0), (7, .bool _v18)] [.cells [.int .i64 _x1.1, .sl (.int .u32) _x1.2], .cells [.int .i64 _v3, .sl (.int .u32) _v4]] (canonK [] _k44 [2, 5, 7] 2 (fun _i _t _h => none) (fun _t _h => finK (C_keep_OrderLeast _N) [.tmp 4] (finD Rk_keep_OrderLeast) .ret _t _h)) = keep_OrderLeast_16 _N _x2 _v3 _v4 (_k44 [(2, .ptr 0 0), (5, .ptr 1 0), (7, .bool _v18)] [.cells [.int .i64 _x1.1, .sl (.int .u32) _x1.2], .cells [.int .i64 _v3, .sl (.int .u32) _v4]]) :=
  (seq_frag (by kernel_rfl) rfl).trans ((keep_OrderLeast_12e _N _x1 _x2 _v2 _v3 _v4 _v18 (fun _t _h => exec (C_keep_OrderLeast _N) (cAt (bodyOf Tryd.f7) [1, 1, 1, 1, 1, 1, 1, 0, 1]) (.one (.loop [2, 5, 7, 77, 78, 79] 2 .none)) _t _h (canonK [] _k44 [2, 5, 7] 2 (fun _i _t _h => none) (fun _t _h => finK (C_keep_OrderLeast _N) [.tmp 4] (finD Rk_keep_OrderLeast) .ret _t _h)))).trans (congrArg (fun _z => keep_OrderLeast_12 _N _z) (keep_OrderLeast_15e _N _x1 _x2 _v2 _v3 _v4 _v18 _k44)))
noncomputable def keep_OrderLeast_17 (_N : Nat) (_k49 : Option Rt_keep_OrderLeast) : Option Rt_keep_OrderLeast :=
  _k49
theorem keep_OrderLeast_17e (_N : Nat) (_x1 : Int × List Int) (_x2 : List (Int × Int)) (_v2 : Int) (_v3 : Int) (_v4 : List Int) (_v18 : Bool) (_k49 : Slots → List O → Option Rt_keep_OrderLeast) :
    exec (C_keep_OrderLeast _N) (cAt (bodyOf Tryd.f7) [1, 1, 1, 1, 1, 1, 1, 1, 0, 0]) .none [(2, .ptr 0 0), (5, .ptr 1 0), (7, .bool _v18)] [.cells [.int .i64 _x1.1, .sl (.int .u32) _x1.2], .cells [.int .i64 _v3, .sl (.int .u32) _v4]] (canonK [] _k49 [2, 5, 7, 12] 2 (fun _i _t _h => none) (fun _t _h => finK (C_keep_OrderLeast _N) [.tmp 4] (finD Rk_keep_OrderLeast) .ret _t _h)) = keep_OrderLeast_17 _N (_k49 [(2, .ptr 0 0), (5, .ptr 1 0), (7, .bool _v18), (12, .int .i64 (0 : Int))] [.cells [.int .i64 _x1.1, .sl (.int .u32) _x1.2], .cells [.int .i64 _v3, .sl (.int .u32) _v4]]) :=
  by kernel_rfl
noncomputable def keep_OrderLeast_18 (_N : Nat) (_x1 : Int × List Int) (_v3 : Int) (_v4 : List Int) (_v18 : Bool) (_v24 : Int) (_k50 : Int → Option Rt_keep_OrderLeast) (_k48 : Option Rt_keep_OrderLeast) : Option Rt_keep_OrderLeast :=
  (bif (decide (_v24 < _v3)) then (bif _v18 then (bif (decide (0 ≤ _v24) && decide (_v24 < (_v4.length : Int))) then (bif (decide (0 ≤ _v24) && decide (_v24 < (_x1.2.length : Int))) then (bif (decide (0 ≤ _v24) && decide (_v24 < (_x1.2.length : Int))) then (bif ((ior .u32 (nth (0 : Int) _v4 (_v24).toNat) (nth (0 : Int) _x1.2 (_v24).toNat)) != (nth (0 : Int) _x1.2 (_v24).toNat)) then (some (false, ())) else (_k50 (IntKind.i64.wrap (_v24 + (1 : Int))))) else none) else none) else none) else (_k50 (IntKind.i64.wrap (_v24 + (1 : Int))))) else _k48)
theorem keep_OrderLeast_18e (_N : Nat) (_x1 : Int × List Int) (_x2 : List (Int × Int)) (_v2 : Int) (_v3 : Int) (_v4 : List Int) (_v18 : Bool) (_v24 : Int) (_k50 _k48 : Slots → List O → Option Rt_keep_OrderLeast) :
    exec (C_keep_OrderLeast _N) (cAt (bodyOf Tryd.f7) [1, 1, 1, 1, 1, 1, 1, 1, 0, 1, 0, 0]) (.two .none (.two (.one (.two (.draw 0 [.pure, .pure, .pure, .rd [1], .pure, .pure, .pure, .pure, .rd [0], .pure, .pure, .pure, .pure, .pure, .rd [0], .pure, .pure, .pure, .pure, .pure]) .none)) .none)) [(2, .ptr 0 0), (5, .ptr 1 0), (7, .bool _v18), (12, .int .i64 _v24)] [.cells [.int .i64 _x1.1, .sl (.int .u32) _x1.2], .cells [.int .i64 _v3, .sl (.int .u32) _v4]] (canonK [] _k50 [2, 5, 7, 12] 2 (fun _i _t _h => bif Nat.beq _i 4 then _k48 (cvT [] [] 2 _t _h) (cvH [] 2 _h) else none) (fun _t _h => finK (C_keep_OrderLeast _N) [.tmp 4] (finD Rk_keep_OrderLeast) .ret _t _h)) = keep_OrderLeast_18 _N _x1 _v3 _v4 _v18 _v24 (fun _v24 => _k50 [(2, .ptr 0 0), (5, .ptr 1 0), (7, .bool _v18), (12, .int .i64 _v24)] [.cells [.int .i64 _x1.1, .sl (.int .u32) _x1.2], .cells [.int .i64 _v3, .sl (.int .u32) _v4]]) (_k48 [] [.cells [.int .i64 _x1.1, .sl (.int .u32) _x1.2], .cells [.int .i64 _v3, .sl (.int .u32) _v4]]) :=
  by kernel_rfl
noncomputable def keep_OrderLeast_19 (_N : Nat) (_x1 : Int × List Int) (_v3 : Int) (_v4 : List Int) (_v18 : Bool) (_k48 : Option Rt_keep_OrderLeast) : Option Rt_keep_OrderLeast :=
  loopD (fun (_s : Int) _kn => keep_OrderLeast_18 _N _x1 _v3 _v4 _v18 _s (fun _v24 => _kn _v24) _k48) _N (0 : Int)
theorem keep_OrderLeast_19e (_N : Nat) (_x1 : Int × List Int) (_x2 : List (Int × Int)) (_v2 : Int) (_v3 : Int) (_v4 : List Int) (_v18 : Bool) (_k48 : Slots → List O → Option Rt_keep_OrderLeast) :
    exec (C_keep_OrderLeast _N) (cAt (bodyOf Tryd.f7) [1, 1, 1, 1, 1, 1, 1, 1, 0, 1, 0]) (.loop [2, 5, 7, 12] 2 (.two .none (.two (.one (.two (.draw 0 [.pure, .pure, .pure, .rd [1], .pure, .pure, .pure, .pure, .rd [0], .pure, .pure, .pure, .pure, .pure, .rd [0], .pure, .pure, .pure, .pure, .pure]) .none)) .none))) [(2, .ptr 0 0), (5, .ptr 1 0), (7, .bool _v18), (12, .int .i64 (0 : Int))] [.cells [.int .i64 _x1.1, .sl (.int .u32) _x1.2], .cells [.int .i64 _v3, .sl (.int .u32) _v4]] (canonK [] _k48 [] 2 (fun _i _t _h => bif Nat.beq _i 4 then _k48 (cvT [] [] 2 _t _h) (cvH [] 2 _h) else none) (fun _t _h => finK (C_keep_OrderLeast _N) [.tmp 4] (finD Rk_keep_OrderLeast) .ret _t _h)) = keep_OrderLeast_19 _N _x1 _v3 _v4 _v18 (_k48 [] [.cells [.int .i64 _x1.1, .sl (.int .u32) _x1.2], .cells [.int .i64 _v3, .sl (.int .u32) _v4]]) :=
  (loop_frag (by kernel_rfl) rfl (by kernel_rfl) (by kernel_rfl)).trans (loopN_sim (S := Int) (fun _s => [(2, .ptr 0 0), (5, .ptr 1 0), (7, .bool _v18), (12, .int .i64 _s)]) (fun _s => [.cells [.int .i64 _x1.1, .sl (.int .u32) _x1.2], .cells [.int .i64 _v3, .sl (.int .u32) _v4]]) (fun _s _kn => keep_OrderLeast_18e _N _x1 _x2 _v2 _v3 _v4 _v18 _s _kn _k48) _N (0 : Int))
noncomputable def keep_OrderLeast_20 (_N : Nat) (_x1 : Int × List Int) (_v3 : Int) (_v4 : List Int) (_v18 : Bool) (_k48 : Option Rt_keep_OrderLeast) : Option Rt_keep_OrderLeast :=
  keep_OrderLeast_19 _N _x1 _v3 _v4 _v18 _k48
theorem keep_OrderLeast_20e (_N : Nat) (_x1 : Int × List Int) (_x2 : List (Int × Int)) (_v2 : Int) (_v3 : Int) (_v4 : List Int) (_v18 : Bool) (_k48 : Slots → List O → Option Rt_keep_OrderLeast) :
    exec (C_keep_OrderLeast _N) (cAt (bodyOf Tryd.f7) [1, 1, 1, 1, 1, 1, 1, 1, 0, 1]) (.one (.loop [2, 5, 7, 12] 2 (.two .none (.two (.one (.two (.draw 0 [.pure, .pure, .pure, .rd [1], .pure, .pure, .pure, .pure, .rd [0], .pure, .pure, .pure, .pure, .pure, .rd [0], .pure, .pure, .pure, .pure, .pure]) .none)) .none)))) [(2, .ptr 0 0), (5, .ptr 1 0), (7, .bool _v18), (12, .int .i64 (0 : Int))] [.cells [.int .i64 _x1.1, .sl (.int .u32) _x1.2], .cells [.int .i64 _v3, .sl (.int .u32) _v4]] (canonK [] _k48 [] 2 (fun _i _t _h => none) (fun _t _h => finK (C_keep_OrderLeast _N) [.tmp 4] (finD Rk_keep_OrderLeast) .ret _t _h)) = keep_OrderLeast_20 _N _x1 _v3 _v4 _v18 (_k48 [] [.cells [.int .i64 _x1.1, .sl (.int .u32) _x1.2], .cells [.int .i64 _v3, .sl (.int .u32) _v4]]) :=
  (block_canon (by kernel_rfl)).trans (keep_OrderLeast_19e _N _x1 _x2 _v2 _v3 _v4 _v18 _k48)
noncomputable def keep_OrderLeast_21 (_N : Nat) (_x1 : Int × List Int) (_v3 : Int) (_v4 : List Int) (_v18 : Bool) (_k48 : Option Rt_keep_OrderLeast) : Option Rt_keep_OrderLeast :=
  keep_OrderLeast_17 _N (keep_OrderLeast_20 _N _x1 _v3 _v4 _v18 _k48)
theorem keep_OrderLeast_21e (_N : Nat) (_x1 : Int × List Int) (_x2 : List (Int × Int)) (_v2 : Int) (_v3 : Int) (_v4 : List Int) (_v18 : Bool) (_k48 : Slots → List O → Option Rt_keep_OrderLeast) :
    exec (C_keep_OrderLeast _N) (cAt (bodyOf Tryd.f7) [1, 1, 1, 1, 1, 1, 1, 1, 0]) (.two .none (.keep [2, 5, 7, 12] 2 (.one (.loop [2, 5, 7, 12] 2 (.two .none (.two (.one (.two (.draw 0 [.pure, .pure, .pure, .rd [1], .pure, .pure, .pure, .pure, .rd [0], .pure, .pure, .pure, .pure, .pure, .rd [0], .pure, .pure, .pure, .pure, .pure]) .none)) .none)))))) [(2, .ptr 0 0), (5, .ptr 1 0), (7, .bool _v18)] [.cells [.int .i64 _x1.1, .sl (.int .u32) _x1.2], .cells [.int .i64 _v3, .sl (.int .u32) _v4]] (canonK [] _k48 [] 2 (fun _i _t _h => none) (fun _t _h => finK (C_keep_OrderLeast _N) [.tmp 4] (finD Rk_keep_OrderLeast) .ret _t _h)) = keep_OrderLeast_21 _N _x1 _v3 _v4 _v18 (_k48 [] [.cells [.int .i64 _x1.1, .sl (.int .u32) _x1.2], .cells [.int .i64 _v3, .sl (.int .u32) _v4]]) :=
  (seq_frag (by kernel_rfl) rfl).trans ((keep_OrderLeast_17e _N _x1 _x2 _v2 _v3 _v4 _v18 (fun _t _h => exec (C_keep_OrderLeast _N) (cAt (bodyOf Tryd.f7) [1, 1, 1, 1, 1, 1, 1, 1, 0, 1]) (.one (.loop [2, 5, 7, 12] 2 (.two .none (.two (.one (.two (.draw 0 [.pure, .pure, .pure, .rd [1], .pure, .pure, .pure, .pure, .rd [0], .pure, .pure, .pure, .pure, .pure, .rd [0], .pure, .pure, .pure, .pure, .pure]) .none)) .none)))) _t _h (canonK [] _k48 [] 2 (fun _i _t _h => none) (fun _t _h => finK (C_keep_OrderLeast _N) [.tmp 4] (finD Rk_keep_OrderLeast) .ret _t _h)))).trans (congrArg (fun _z => keep_OrderLeast_17 _N _z) (keep_OrderLeast_20e _N _x1 _x2 _v2 _v3 _v4 _v18 _k48)))
noncomputable def keep_OrderLeast_22 (_N : Nat) : Option Rt_keep_OrderLeast :=
  (some (true, ()))
theorem keep_OrderLeast_22e (_N : Nat) (_x1 : Int × List Int) (_x2 : List (Int × Int)) (_v2 : Int) (_v3 : Int) (_v4 : List Int) (_v18 : Bool) :
    exec (C_keep_OrderLeast _N) (cAt (bodyOf Tryd.f7) [1, 1, 1, 1, 1, 1, 1, 1, 1]) .none [] [.cells [.int .i64 _x1.1, .sl (.int .u32) _x1.2], .cells [.int .i64 _v3, .sl (.int .u32) _v4]] (canonR (fun _i _t _h => none) (finK (C_keep_OrderLeast _N) [.tmp 4] (finD Rk_keep_OrderLeast))) = keep_OrderLeast_22 _N :=
  by kernel_rfl
noncomputable def keep_OrderLeast_23 (_N : Nat) (_x1 : Int × List Int) (_v3 : Int) (_v4 : List Int) (_v18 : Bool) : Option Rt_keep_OrderLeast :=
  keep_OrderLeast_21 _N _x1 _v3 _v4 _v18 (keep_OrderLeast_22 _N)
theorem keep_OrderLeast_23e (_N : Nat) (_x1 : Int × List Int) (_x2 : List (Int × Int)) (_v2 : Int) (_v3 : Int) (_v4 : List Int) (_v18 : Bool) :
    exec (C_keep_OrderLeast _N) (cAt (bodyOf Tryd.f7) [1, 1, 1, 1, 1, 1, 1, 1]) (.two (.two .none (.keep [2, 5, 7, 12] 2 (.one (.loop [2, 5, 7, 12] 2 (.two .none (.two (.one (.two (.draw 0 [.pure, .pure, .pure, .rd [1], .pure, .pure, .pure, .pure, .rd [0], .pure, .pure, .pure, .pure, .pure, .rd [0], .pure, .pure, .pure, .pure, .pure]) .none)) .none)))))) (.keep [] 2 .none)) [(2, .ptr 0 0), (5, .ptr 1 0), (7, .bool _v18)] [.cells [.int .i64 _x1.1, .sl (.int .u32) _x1.2], .cells [.int .i64 _v3, .sl (.int .u32) _v4]] (canonR (fun _i _t _h => none) (finK (C_keep_OrderLeast _N) [.tmp 4] (finD Rk_keep_OrderLeast))) = keep_OrderLeast_23 _N _x1 _v3 _v4 _v18 :=
  (seq_frag (by kernel_rfl) rfl).trans ((keep_OrderLeast_21e _N _x1 _x2 _v2 _v3 _v4 _v18 (fun _t _h => exec (C_keep_OrderLeast _N) (cAt (bodyOf Tryd.f7) [1, 1, 1, 1, 1, 1, 1, 1, 1]) .none _t _h (canonR (fun _i _t _h => none) (finK (C_keep_OrderLeast _N) [.tmp 4] (finD Rk_keep_OrderLeast))))).trans (congrArg (fun _z => keep_OrderLeast_21 _N _x1 _v3 _v4 _v18 _z) (keep_OrderLeast_22e _N _x1 _x2 _v2 _v3 _v4 _v18)))
noncomputable def keep_OrderLeast_24 (_N : Nat) (_x1 : Int × List Int) (_x2 : List (Int × Int)) (_v3 : Int) (_v4 : List Int) (_v18 : Bool) : Option Rt_keep_OrderLeast :=
  keep_OrderLeast_16 _N _x2 _v3 _v4 (keep_OrderLeast_23 _N _x1 _v3 _v4 _v18)
theorem keep_OrderLeast_24e (_N : Nat) (_x1 : Int × List Int) (_x2 : List (Int × Int)) (_v2 : Int) (_v3 : Int) (_v4 : List Int) (_v18 : Bool) :
    exec (C_keep_OrderLeast _N) (cAt (bodyOf Tryd.f7) [1, 1, 1, 1, 1, 1, 1]) (.two (.two .none (.keep [2, 5, 7, 77, 78, 79] 2 (.one (.loop [2, 5, 7, 77, 78, 79] 2 .none)))) (.keep [2, 5, 7] 2 (.two (.two .none (.keep [2, 5, 7, 12] 2 (.one (.loop [2, 5, 7, 12] 2 (.two .none (.two (.one (.two (.draw 0 [.pure, .pure, .pure, .rd [1], .pure, .pure, .pure, .pure, .rd [0], .pure, .pure, .pure, .pure, .pure, .rd [0], .pure, .pure, .pure, .pure, .pure]) .none)) .none)))))) (.keep [] 2 .none)))) [(1, .sl (.pair (.int .i64) (.int .i64)) _x2), (2, .ptr 0 0), (5, .ptr 1 0), (7, .bool _v18)] [.cells [.int .i64 _x1.1, .sl (.int .u32) _x1.2], .cells [.int .i64 _v3, .sl (.int .u32) _v4]] (canonR (fun _i _t _h => none) (finK (C_keep_OrderLeast _N) [.tmp 4] (finD Rk_keep_OrderLeast))) = keep_OrderLeast_24 _N _x1 _x2 _v3 _v4 _v18 :=
  (seq_frag (by kernel_rfl) rfl).trans ((keep_OrderLeast_16e _N _x1 _x2 _v2 _v3 _v4 _v18 (fun _t _h => exec (C_keep_OrderLeast _N) (cAt (bodyOf Tryd.f7) [1, 1, 1, 1, 1, 1, 1, 1]) (.two (.two .none (.keep [2, 5, 7, 12] 2 (.one (.loop [2, 5, 7, 12] 2 (.two .none (.two (.one (.two (.draw 0 [.pure, .pure, .pure, .rd [1], .pure, .pure, .pure, .pure, .rd [0], .pure, .pure, .pure, .pure, .pure, .rd [0], .pure, .pure, .pure, .pure, .pure]) .none)) .none)))))) (.keep [] 2 .none)) _t _h (canonR (fun _i _t _h => none) (finK (C_keep_OrderLeast _N) [.tmp 4] (finD Rk_keep_OrderLeast))))).trans (congrArg (fun _z => keep_OrderLeast_16 _N _x2 _v3 _v4 _z) (keep_OrderLeast_23e _N _x1 _x2 _v2 _v3 _v4 _v18)))
noncomputable def keep_OrderLeast_25 (_N : Nat) (_x1 : Int × List Int) (_x2 : List (Int × Int)) (_v3 : Int) (_v4 : List Int) (_v18 : Bool) : Option Rt_keep_OrderLeast :=
  keep_OrderLeast_11 _N _x1 _v3 _v4 (keep_OrderLeast_24 _N _x1 _x2 _v3 _v4 _v18)
theorem keep_OrderLeast_25e (_N : Nat) (_x1 : Int × List Int) (_x2 : List (Int × Int)) (_v2 : Int) (_v3 : Int) (_v4 : List Int) (_v18 : Bool) :
    exec (C_keep_OrderLeast _N) (cAt (bodyOf Tryd.f7) [1, 1, 1, 1, 1, 1]) (.two .none (.keep [1, 2, 5, 7] 2 (.two (.two .none (.keep [2, 5, 7, 77, 78, 79] 2 (.one (.loop [2, 5, 7, 77, 78, 79] 2 .none)))) (.keep [2, 5, 7] 2 (.two (.two .none (.keep [2, 5, 7, 12] 2 (.one (.loop [2, 5, 7, 12] 2 (.two .none (.two (.one (.two (.draw 0 [.pure, .pure, .pure, .rd [1], .pure, .pure, .pure, .pure, .rd [0], .pure, .pure, .pure, .pure, .pure, .rd [0], .pure, .pure, .pure, .pure, .pure]) .none)) .none)))))) (.keep [] 2 .none)))))) [(1, .sl (.pair (.int .i64) (.int .i64)) _x2), (2, .ptr 0 0), (5, .ptr 1 0), (7, .bool _v18)] [.cells [.int .i64 _x1.1, .sl (.int .u32) _x1.2], .cells [.int .i64 _v3, .sl (.int .u32) _v4]] (canonR (fun _i _t _h => none) (finK (C_keep_OrderLeast _N) [.tmp 4] (finD Rk_keep_OrderLeast))) = keep_OrderLeast_25 _N _x1 _x2 _v3 _v4 _v18 :=
  (seq_frag (by kernel_rfl) rfl).trans ((keep_OrderLeast_11e _N _x1 _x2 _v2 _v3 _v4 _v18 (fun _t _h => exec (C_keep_OrderLeast _N) (cAt (bodyOf Tryd.f7) [1, 1, 1, 1, 1, 1, 1]) (.two (.two .none (.keep [2, 5, 7, 77, 78, 79] 2 (.one (.loop [2, 5, 7, 77, 78, 79] 2 .none)))) (.keep [2, 5, 7] 2 (.two (.two .none (.keep [2, 5, 7, 12] 2 (.one (.loop [2, 5, 7, 12] 2 (.two .none (.two (.one (.two (.draw 0 [.pure, .pure, .pure, .rd [1], .pure, .pure, .pure, .pure, .rd [0], .pure, .pure, .pure, .pure, .pure, .rd [0], .pure, .pure, .pure, .pure, .pure]) .none)) .none)))))) (.keep [] 2 .none)))) _t _h (canonR (fun _i _t _h => none) (finK (C_keep_OrderLeast _N) [.tmp 4] (finD Rk_keep_OrderLeast))))).trans (congrArg (fun _z => keep_OrderLeast_11 _N _x1 _v3 _v4 _z) (keep_OrderLeast_24e _N _x1 _x2 _v2 _v3 _v4 _v18)))
noncomputable def keep_OrderLeast_26 (_N : Nat) (_x1 : Int × List Int) (_x2 : List (Int × Int)) (_v2 : Int) (_v3 : Int) (_v4 : List Int) (_v18 : Bool) : Option Rt_keep_OrderLeast :=
  keep_OrderLeast_10 _N _v2 _v18 (keep_OrderLeast_25 _N _x1 _x2 _v3 _v4 _v18)
theorem keep_OrderLeast_26e (_N : Nat) (_x1 : Int × List Int) (_x2 : List (Int × Int)) (_v2 : Int) (_v3 : Int) (_v4 : List Int) (_v18 : Bool) :
    exec (C_keep_OrderLeast _N) (cAt (bodyOf Tryd.f7) [1, 1, 1, 1, 1]) (.two .none (.keep [1, 2, 5, 7] 2 (.two .none (.keep [1, 2, 5, 7] 2 (.two (.two .none (.keep [2, 5, 7, 77, 78, 79] 2 (.one (.loop [2, 5, 7, 77, 78, 79] 2 .none)))) (.keep [2, 5, 7] 2 (.two (.two .none (.keep [2, 5, 7, 12] 2 (.one (.loop [2, 5, 7, 12] 2 (.two .none (.two (.one (.two (.draw 0 [.pure, .pure, .pure, .rd [1], .pure, .pure, .pure, .pure, .rd [0], .pure, .pure, .pure, .pure, .pure, .rd [0], .pure, .pure, .pure, .pure, .pure]) .none)) .none)))))) (.keep [] 2 .none)))))))) [(1, .sl (.pair (.int .i64) (.int .i64)) _x2), (2, .ptr 0 0), (5, .ptr 1 0), (6, .int .i64 _v2), (7, .bool _v18)] [.cells [.int .i64 _x1.1, .sl (.int .u32) _x1.2], .cells [.int .i64 _v3, .sl (.int .u32) _v4]] (canonR (fun _i _t _h => none) (finK (C_keep_OrderLeast _N) [.tmp 4] (finD Rk_keep_OrderLeast))) = keep_OrderLeast_26 _N _x1 _x2 _v2 _v3 _v4 _v18 :=
  (seq_frag (by kernel_rfl) rfl).trans ((keep_OrderLeast_10e _N _x1 _x2 _v2 _v3 _v4 _v18 (fun _t _h => exec (C_keep_OrderLeast _N) (cAt (bodyOf Tryd.f7) [1, 1, 1, 1, 1, 1]) (.two .none (.keep [1, 2, 5, 7] 2 (.two (.two .none (.keep [2, 5, 7, 77, 78, 79] 2 (.one (.loop [2, 5, 7, 77, 78, 79] 2 .none)))) (.keep [2, 5, 7] 2 (.two (.two .none (.keep [2, 5, 7, 12] 2 (.one (.loop [2, 5, 7, 12] 2 (.two .none (.two (.one (.two (.draw 0 [.pure, .pure, .pure, .rd [1], .pure, .pure, .pure, .pure, .rd [0], .pure, .pure, .pure, .pure, .pure, .rd [0], .pure, .pure, .pure, .pure, .pure]) .none)) .none)))))) (.keep [] 2 .none)))))) _t _h (canonR (fun _i _t _h => none) (finK (C_keep_OrderLeast _N) [.tmp 4] (finD Rk_keep_OrderLeast))))).trans (congrArg (fun _z => keep_OrderLeast_10 _N _v2 _v18 _z) (keep_OrderLeast_25e _N _x1 _x2 _v2 _v3 _v4 _v18)))
noncomputable def keep_OrderLeast_27 (_N : Nat) (_x1 : Int × List Int) (_x2 : List (Int × Int)) (_v2 : Int) (_v3 : Int) (_v4 : List Int) : Option Rt_keep_OrderLeast :=
  keep_OrderLeast_9 _N _x1 _x2 _v2 (fun _v18 => keep_OrderLeast_26 _N _x1 _x2 _v2 _v3 _v4 _v18)
theorem keep_OrderLeast_27e (_N : Nat) (_x1 : Int × List Int) (_x2 : List (Int × Int)) (_v2 : Int) (_v3 : Int) (_v4 : List Int) :
    exec (C_keep_OrderLeast _N) (cAt (bodyOf Tryd.f7) [1, 1, 1, 1]) (.two (.two .none (.keep [1, 2, 5, 6, 7, 34, 35, 36] 2 (.one (.loop [1, 2, 5, 6, 7, 34, 35, 36] 2 .none)))) (.keep [1, 2, 5, 6, 7] 2 (.two .none (.keep [1, 2, 5, 7] 2 (.two .none (.keep [1, 2, 5, 7] 2 (.two (.two .none (.keep [2, 5, 7, 77, 78, 79] 2 (.one (.loop [2, 5, 7, 77, 78, 79] 2 .none)))) (.keep [2, 5, 7] 2 (.two (.two .none (.keep [2, 5, 7, 12] 2 (.one (.loop [2, 5, 7, 12] 2 (.two .none (.two (.one (.two (.draw 0 [.pure, .pure, .pure, .rd [1], .pure, .pure, .pure, .pure, .rd [0], .pure, .pure, .pure, .pure, .pure, .rd [0], .pure, .pure, .pure, .pure, .pure]) .none)) .none)))))) (.keep [] 2 .none)))))))))) [(1, .sl (.pair (.int .i64) (.int .i64)) _x2), (2, .ptr 0 0), (5, .ptr 1 0), (6, .int .i64 _v2), (7, .bool true)] [.cells [.int .i64 _x1.1, .sl (.int .u32) _x1.2], .cells [.int .i64 _v3, .sl (.int .u32) _v4]] (canonR (fun _i _t _h => none) (finK (C_keep_OrderLeast _N) [.tmp 4] (finD Rk_keep_OrderLeast))) = keep_OrderLeast_27 _N _x1 _x2 _v2 _v3 _v4 :=
  (seq_frag (by kernel_rfl) rfl).trans ((keep_OrderLeast_9e _N _x1 _x2 _v2 _v3 _v4 (fun _t _h => exec (C_keep_OrderLeast _N) (cAt (bodyOf Tryd.f7) [1, 1, 1, 1, 1]) (.two .none (.keep [1, 2, 5, 7] 2 (.two .none (.keep [1, 2, 5, 7] 2 (.two (.two .none (.keep [2, 5, 7, 77, 78, 79] 2 (.one (.loop [2, 5, 7, 77, 78, 79] 2 .none)))) (.keep [2, 5, 7] 2 (.two (.two .none (.keep [2, 5, 7, 12] 2 (.one (.loop [2, 5, 7, 12] 2 (.two .none (.two (.one (.two (.draw 0 [.pure, .pure, .pure, .rd [1], .pure, .pure, .pure, .pure, .rd [0], .pure, .pure, .pure, .pure, .pure, .rd [0], .pure, .pure, .pure, .pure, .pure]) .none)) .none)))))) (.keep [] 2 .none)))))))) _t _h (canonR (fun _i _t _h => none) (finK (C_keep_OrderLeast _N) [.tmp 4] (finD Rk_keep_OrderLeast))))).trans (congrArg (fun _z => keep_OrderLeast_9 _N _x1 _x2 _v2 _z) (funext fun _v18 => keep_OrderLeast_26e _N _x1 _x2 _v2 _v3 _v4 _v18)))
noncomputable def keep_OrderLeast_28 (_N : Nat) (_x1 : Int × List Int) (_x2 : List (Int × Int)) (_v2 : Int) (_v3 : Int) (_v4 : List Int) : Option Rt_keep_OrderLeast :=
  keep_OrderLeast_4 _N (keep_OrderLeast_27 _N _x1 _x2 _v2 _v3 _v4)
theorem keep_OrderLeast_28e (_N : Nat) (_x1 : Int × List Int) (_x2 : List (Int × Int)) (_v2 : Int) (_v3 : Int) (_v4 : List Int) :
    exec (C_keep_OrderLeast _N) (cAt (bodyOf Tryd.f7) [1, 1, 1]) (.two .none (.keep [1, 2, 5, 6, 7] 2 (.two (.two .none (.keep [1, 2, 5, 6, 7, 34, 35, 36] 2 (.one (.loop [1, 2, 5, 6, 7, 34, 35, 36] 2 .none)))) (.keep [1, 2, 5, 6, 7] 2 (.two .none (.keep [1, 2, 5, 7] 2 (.two .none (.keep [1, 2, 5, 7] 2 (.two (.two .none (.keep [2, 5, 7, 77, 78, 79] 2 (.one (.loop [2, 5, 7, 77, 78, 79] 2 .none)))) (.keep [2, 5, 7] 2 (.two (.two .none (.keep [2, 5, 7, 12] 2 (.one (.loop [2, 5, 7, 12] 2 (.two .none (.two (.one (.two (.draw 0 [.pure, .pure, .pure, .rd [1], .pure, .pure, .pure, .pure, .rd [0], .pure, .pure, .pure, .pure, .pure, .rd [0], .pure, .pure, .pure, .pure, .pure]) .none)) .none)))))) (.keep [] 2 .none)))))))))))) [(1, .sl (.pair (.int .i64) (.int .i64)) _x2), (2, .ptr 0 0), (5, .ptr 1 0), (6, .int .i64 _v2)] [.cells [.int .i64 _x1.1, .sl (.int .u32) _x1.2], .cells [.int .i64 _v3, .sl (.int .u32) _v4]] (canonR (fun _i _t _h => none) (finK (C_keep_OrderLeast _N) [.tmp 4] (finD Rk_keep_OrderLeast))) = keep_OrderLeast_28 _N _x1 _x2 _v2 _v3 _v4 :=
  (seq_frag (by kernel_rfl) rfl).trans ((keep_OrderLeast_4e _N _x1 _x2 _v2 _v3 _v4 (fun _t _h => exec (C_keep_OrderLeast _N) (cAt (bodyOf Tryd.f7) [1, 1, 1, 1]) (.two (.two .none (.keep [1, 2, 5, 6, 7, 34, 35, 36] 2 (.one (.loop [1, 2, 5, 6, 7, 34, 35, 36] 2 .none)))) (.keep [1, 2, 5, 6, 7] 2 (.two .none (.keep [1, 2, 5, 7] 2 (.two .none (.keep [1, 2, 5, 7] 2 (.two (.two .none (.keep [2, 5, 7, 77, 78, 79] 2 (.one (.loop [2, 5, 7, 77, 78, 79] 2 .none)))) (.keep [2, 5, 7] 2 (.two (.two .none (.keep [2, 5, 7, 12] 2 (.one (.loop [2, 5, 7, 12] 2 (.two .none (.two (.one (.two (.draw 0 [.pure, .pure, .pure, .rd [1], .pure, .pure, .pure, .pure, .rd [0], .pure, .pure, .pure, .pure, .pure, .rd [0], .pure, .pure, .pure, .pure, .pure]) .none)) .none)))))) (.keep [] 2 .none)))))))))) _t _h (canonR (fun _i _t _h => none) (finK (C_keep_OrderLeast _N) [.tmp 4] (finD Rk_keep_OrderLeast))))).trans (congrArg (fun _z => keep_OrderLeast_4 _N _z) (keep_OrderLeast_27e _N _x1 _x2 _v2 _v3 _v4)))
noncomputable def keep_OrderLeast_29 (_N : Nat) (_x1 : Int × List Int) (_x2 : List (Int × Int)) (_v2 : Int) (_v3 : Int) (_v4 : List Int) : Option Rt_keep_OrderLeast :=
  keep_OrderLeast_3 _N _x1 _x2 (keep_OrderLeast_28 _N _x1 _x2 _v2 _v3 _v4)
theorem keep_OrderLeast_29e (_N : Nat) (_x1 : Int × List Int) (_x2 : List (Int × Int)) (_v2 : Int) (_v3 : Int) (_v4 : List Int) :
    exec (C_keep_OrderLeast _N) (cAt (bodyOf Tryd.f7) [1, 1]) (.two .none (.keep [1, 2, 5, 6] 2 (.two .none (.keep [1, 2, 5, 6, 7] 2 (.two (.two .none (.keep [1, 2, 5, 6, 7, 34, 35, 36] 2 (.one (.loop [1, 2, 5, 6, 7, 34, 35, 36] 2 .none)))) (.keep [1, 2, 5, 6, 7] 2 (.two .none (.keep [1, 2, 5, 7] 2 (.two .none (.keep [1, 2, 5, 7] 2 (.two (.two .none (.keep [2, 5, 7, 77, 78, 79] 2 (.one (.loop [2, 5, 7, 77, 78, 79] 2 .none)))) (.keep [2, 5, 7] 2 (.two (.two .none (.keep [2, 5, 7, 12] 2 (.one (.loop [2, 5, 7, 12] 2 (.two .none (.two (.one (.two (.draw 0 [.pure, .pure, .pure, .rd [1], .pure, .pure, .pure, .pure, .rd [0], .pure, .pure, .pure, .pure, .pure, .rd [0], .pure, .pure, .pure, .pure, .pure]) .none)) .none)))))) (.keep [] 2 .none)))))))))))))) [(1, .sl (.pair (.int .i64) (.int .i64)) _x2), (2, .ptr 0 0), (5, .ptr 1 0), (6, .int .i64 _v2)] [.cells [.int .i64 _x1.1, .sl (.int .u32) _x1.2], .cells [.int .i64 _v3, .sl (.int .u32) _v4]] (canonR (fun _i _t _h => none) (finK (C_keep_OrderLeast _N) [.tmp 4] (finD Rk_keep_OrderLeast))) = keep_OrderLeast_29 _N _x1 _x2 _v2 _v3 _v4 :=
  (seq_frag (by kernel_rfl) rfl).trans ((keep_OrderLeast_3e _N _x1 _x2 _v2 _v3 _v4 (fun _t _h => exec (C_keep_OrderLeast _N) (cAt (bodyOf Tryd.f7) [1, 1, 1]) (.two .none (.keep [1, 2, 5, 6, 7] 2 (.two (.two .none (.keep [1, 2, 5, 6, 7, 34, 35, 36] 2 (.one (.loop [1, 2, 5, 6, 7, 34, 35, 36] 2 .none)))) (.keep [1, 2, 5, 6, 7] 2 (.two .none (.keep [1, 2, 5, 7] 2 (.two .none (.keep [1, 2, 5, 7] 2 (.two (.two .none (.keep [2, 5, 7, 77, 78, 79] 2 (.one (.loop [2, 5, 7, 77, 78, 79] 2 .none)))) (.keep [2, 5, 7] 2 (.two (.two .none (.keep [2, 5, 7, 12] 2 (.one (.loop [2, 5, 7, 12] 2 (.two .none (.two (.one (.two (.draw 0 [.pure, .pure, .pure, .rd [1], .pure, .pure, .pure, .pure, .rd [0], .pure, .pure, .pure, .pure, .pure, .rd [0], .pure, .pure, .pure, .pure, .pure]) .none)) .none)))))) (.keep [] 2 .none)))))))))))) _t _h (canonR (fun _i _t _h => none) (finK (C_keep_OrderLeast _N) [.tmp 4] (finD Rk_keep_OrderLeast))))).trans (congrArg (fun _z => keep_OrderLeast_3 _N _x1 _x2 _z) (keep_OrderLeast_28e _N _x1 _x2 _v2 _v3 _v4)))
noncomputable def keep_OrderLeast_30 (_N : Nat) (_x1 : Int × List Int) (_x2 : List (Int × Int)) : Option Rt_keep_OrderLeast :=
  keep_OrderLeast_2 _N _x1 _x2 (fun _v2 _v3 _v4 => keep_OrderLeast_29 _N _x1 _x2 _v2 _v3 _v4)
theorem keep_OrderLeast_30e (_N : Nat) (_x1 : Int × List Int) (_x2 : List (Int × Int)) :
    exec (C_keep_OrderLeast _N) (cAt (bodyOf Tryd.f7) [1]) (.two .none (.keep [1, 2, 5, 6] 2 (.two .none (.keep [1, 2, 5, 6] 2 (.two .none (.keep [1, 2, 5, 6, 7] 2 (.two (.two .none (.keep [1, 2, 5, 6, 7, 34, 35, 36] 2 (.one (.loop [1, 2, 5, 6, 7, 34, 35, 36] 2 .none)))) (.keep [1, 2, 5, 6, 7] 2 (.two .none (.keep [1, 2, 5, 7] 2 (.two .none (.keep [1, 2, 5, 7] 2 (.two (.two .none (.keep [2, 5, 7, 77, 78, 79] 2 (.one (.loop [2, 5, 7, 77, 78, 79] 2 .none)))) (.keep [2, 5, 7] 2 (.two (.two .none (.keep [2, 5, 7, 12] 2 (.one (.loop [2, 5, 7, 12] 2 (.two .none (.two (.one (.two (.draw 0 [.pure, .pure, .pure, .rd [1], .pure, .pure, .pure, .pure, .rd [0], .pure, .pure, .pure, .pure, .pure, .rd [0], .pure, .pure, .pure, .pure, .pure]) .none)) .none)))))) (.keep [] 2 .none)))))))))))))))) [(1, .sl (.pair (.int .i64) (.int .i64)) _x2), (2, .ptr 0 0)] [.cells [.int .i64 _x1.1, .sl (.int .u32) _x1.2]] (canonR (fun _i _t _h => none) (finK (C_keep_OrderLeast _N) [.tmp 4] (finD Rk_keep_OrderLeast))) = keep_OrderLeast_30 _N _x1 _x2 :=
  (seq_frag (by kernel_rfl) rfl).trans ((keep_OrderLeast_2e _N _x1 _x2 (fun _t _h => exec (C_keep_OrderLeast _N) (cAt (bodyOf Tryd.f7) [1, 1]) (.two .none (.keep [1, 2, 5, 6] 2 (.two .none (.keep [1, 2, 5, 6, 7] 2 (.two (.two .none (.keep [1, 2, 5, 6, 7, 34, 35, 36] 2 (.one (.loop [1, 2, 5, 6, 7, 34, 35, 36] 2 .none)))) (.keep [1, 2, 5, 6, 7] 2 (.two .none (.keep [1, 2, 5, 7] 2 (.two .none (.keep [1, 2, 5, 7] 2 (.two (.two .none (.keep [2, 5, 7, 77, 78, 79] 2 (.one (.loop [2, 5, 7, 77, 78, 79] 2 .none)))) (.keep [2, 5, 7] 2 (.two (.two .none (.keep [2, 5, 7, 12] 2 (.one (.loop [2, 5, 7, 12] 2 (.two .none (.two (.one (.two (.draw 0 [.pure, .pure, .pure, .rd [1], .pure, .pure, .pure, .pure, .rd [0], .pure, .pure, .pure, .pure, .pure, .rd [0], .pure, .pure, .pure, .pure, .pure]) .none)) .none)))))) (.keep [] 2 .none)))))))))))))) _t _h (canonR (fun _i _t _h => none) (finK (C_keep_OrderLeast _N) [.tmp 4] (finD Rk_keep_OrderLeast))))).trans (congrArg (fun _z => keep_OrderLeast_2 _N _x1 _x2 _z) (funext fun _v2 => funext fun _v3 => funext fun _v4 => keep_OrderLeast_29e _N _x1 _x2 _v2 _v3 _v4)))
noncomputable def keep_OrderLeast_31 (_N : Nat) (_x1 : Int × List Int) (_x2 : List (Int × Int)) : Option Rt_keep_OrderLeast :=
  keep_OrderLeast_1 _N (keep_OrderLeast_30 _N _x1 _x2)
theorem keep_OrderLeast_31e (_N : Nat) (_x1 : Int × List Int) (_x2 : List (Int × Int)) :
    exec (C_keep_OrderLeast _N) (cAt (bodyOf Tryd.f7) []) (.two .none (.keep [1, 2] 1 (.two .none (.keep [1, 2, 5, 6] 2 (.two .none (.keep [1, 2, 5, 6] 2 (.two .none (.keep [1, 2, 5, 6, 7] 2 (.two (.two .none (.keep [1, 2, 5, 6, 7, 34, 35, 36] 2 (.one (.loop [1, 2, 5, 6, 7, 34, 35, 36] 2 .none)))) (.keep [1, 2, 5, 6, 7] 2 (.two .none (.keep [1, 2, 5, 7] 2 (.two .none (.keep [1, 2, 5, 7] 2 (.two (.two .none (.keep [2, 5, 7, 77, 78, 79] 2 (.one (.loop [2, 5, 7, 77, 78, 79] 2 .none)))) (.keep [2, 5, 7] 2 (.two (.two .none (.keep [2, 5, 7, 12] 2 (.one (.loop [2, 5, 7, 12] 2 (.two .none (.two (.one (.two (.draw 0 [.pure, .pure, .pure, .rd [1], .pure, .pure, .pure, .pure, .rd [0], .pure, .pure, .pure, .pure, .pure, .rd [0], .pure, .pure, .pure, .pure, .pure]) .none)) .none)))))) (.keep [] 2 .none)))))))))))))))))) [(0, .agg [.int .i64 _x1.1, .sl (.int .u32) _x1.2]), (1, .sl (.pair (.int .i64) (.int .i64)) _x2)] [] (canonR (fun _i _t _h => none) (finK (C_keep_OrderLeast _N) [.tmp 4] (finD Rk_keep_OrderLeast))) = keep_OrderLeast_31 _N _x1 _x2 :=
  (seq_frag (by kernel_rfl) rfl).trans ((keep_OrderLeast_1e _N _x1 _x2 (fun _t _h => exec (C_keep_OrderLeast _N) (cAt (bodyOf Tryd.f7) [1]) (.two .none (.keep [1, 2, 5, 6] 2 (.two .none (.keep [1, 2, 5, 6] 2 (.two .none (.keep [1, 2, 5, 6, 7] 2 (.two (.two .none (.keep [1, 2, 5, 6, 7, 34, 35, 36] 2 (.one (.loop [1, 2, 5, 6, 7, 34, 35, 36] 2 .none)))) (.keep [1, 2, 5, 6, 7] 2 (.two .none (.keep [1, 2, 5, 7] 2 (.two .none (.keep [1, 2, 5, 7] 2 (.two (.two .none (.keep [2, 5, 7, 77, 78, 79] 2 (.one (.loop [2, 5, 7, 77, 78, 79] 2 .none)))) (.keep [2, 5, 7] 2 (.two (.two .none (.keep [2, 5, 7, 12] 2 (.one (.loop [2, 5, 7, 12] 2 (.two .none (.two (.one (.two (.draw 0 [.pure, .pure, .pure, .rd [1], .pure, .pure, .pure, .pure, .rd [0], .pure, .pure, .pure, .pure, .pure, .rd [0], .pure, .pure, .pure, .pure, .pure]) .none)) .none)))))) (.keep [] 2 .none)))))))))))))))) _t _h (canonR (fun _i _t _h => none) (finK (C_keep_OrderLeast _N) [.tmp 4] (finD Rk_keep_OrderLeast))))).trans (congrArg (fun _z => keep_OrderLeast_1 _N _z) (keep_OrderLeast_30e _N _x1 _x2)))
noncomputable def D_keep_OrderLeast (_N : Nat) (x : Dens Ks_keep_OrderLeast) : Option Rt_keep_OrderLeast := keep_OrderLeast_31 _N x.1 x.2.1
theorem E_keep_OrderLeast (_N : Nat) (x : Dens Ks_keep_OrderLeast) : exec (C_keep_OrderLeast _N) (bodyOf Tryd.f7) (.two .none (.keep [1, 2] 1 (.two .none (.keep [1, 2, 5, 6] 2 (.two .none (.keep [1, 2, 5, 6] 2 (.two .none (.keep [1, 2, 5, 6, 7] 2 (.two (.two .none (.keep [1, 2, 5, 6, 7, 34, 35, 36] 2 (.one (.loop [1, 2, 5, 6, 7, 34, 35, 36] 2 .none)))) (.keep [1, 2, 5, 6, 7] 2 (.two .none (.keep [1, 2, 5, 7] 2 (.two .none (.keep [1, 2, 5, 7] 2 (.two (.two .none (.keep [2, 5, 7, 77, 78, 79] 2 (.one (.loop [2, 5, 7, 77, 78, 79] 2 .none)))) (.keep [2, 5, 7] 2 (.two (.two .none (.keep [2, 5, 7, 12] 2 (.one (.loop [2, 5, 7, 12] 2 (.two .none (.two (.one (.two (.draw 0 [.pure, .pure, .pure, .rd [1], .pure, .pure, .pure, .pure, .rd [0], .pure, .pure, .pure, .pure, .pure, .rd [0], .pure, .pure, .pure, .pure, .pure]) .none)) .none)))))) (.keep [] 2 .none)))))))))))))))))) (argS 0 (kvals Ks_keep_OrderLeast x)) [] (finK (C_keep_OrderLeast _N) [.tmp 4] (finD Rk_keep_OrderLeast)) = D_keep_OrderLeast _N x :=
  (congrArg (fun K => exec (C_keep_OrderLeast _N) (bodyOf Tryd.f7) (.two .none (.keep [1, 2] 1 (.two .none (.keep [1, 2, 5, 6] 2 (.two .none (.keep [1, 2, 5, 6] 2 (.two .none (.keep [1, 2, 5, 6, 7] 2 (.two (.two .none (.keep [1, 2, 5, 6, 7, 34, 35, 36] 2 (.one (.loop [1, 2, 5, 6, 7, 34, 35, 36] 2 .none)))) (.keep [1, 2, 5, 6, 7] 2 (.two .none (.keep [1, 2, 5, 7] 2 (.two .none (.keep [1, 2, 5, 7] 2 (.two (.two .none (.keep [2, 5, 7, 77, 78, 79] 2 (.one (.loop [2, 5, 7, 77, 78, 79] 2 .none)))) (.keep [2, 5, 7] 2 (.two (.two .none (.keep [2, 5, 7, 12] 2 (.one (.loop [2, 5, 7, 12] 2 (.two .none (.two (.one (.two (.draw 0 [.pure, .pure, .pure, .rd [1], .pure, .pure, .pure, .pure, .rd [0], .pure, .pure, .pure, .pure, .pure, .rd [0], .pure, .pure, .pure, .pure, .pure]) .none)) .none)))))) (.keep [] 2 .none)))))))))))))))))) (argS 0 (kvals Ks_keep_OrderLeast x)) [] K) canonR_fin).trans (keep_OrderLeast_31e _N x.1 x.2.1)
theorem ok_keep_OrderLeast (_N : Nat) : CtxOk Tryd.prog Gs Tryd.f7 (C_keep_OrderLeast _N) := ⟨rfl, by unfold TOk; kernel_rfl, gOk_of rfl rfl (List.forall_mem_cons.2 ⟨qen_order_Of _N, (List.forall_mem_cons.2 ⟨en_keep_sound _N, (List.forall_mem_cons.2 ⟨en_keep_refused _N, (List.forall_mem_cons.2 ⟨en_keep_within _N, (List.forall_mem_cons.2 ⟨en_keep_below _N, (List.forall_mem_nil _)⟩)⟩)⟩)⟩)⟩), iOk_of rfl rfl (List.forall_mem_nil _), rfl⟩
theorem hb_keep_OrderLeast : HasBody Tryd.prog 7 := ⟨Tryd.f7, bodyOf Tryd.f7, by kernel_rfl, by kernel_rfl, rfl⟩
theorem sp_keep_OrderLeast (_N : Nat) : SpecD Tryd.prog Gs 7 Ks_keep_OrderLeast Rk_keep_OrderLeast (D_keep_OrderLeast _N) := specD_of (c := bodyOf Tryd.f7) (by kernel_rfl) rfl (by kernel_rfl) (Nat.le_of_ble_eq_true (by kernel_rfl)) fun x y _h => ⟨C_keep_OrderLeast _N, (.two .none (.keep [1, 2] 1 (.two .none (.keep [1, 2, 5, 6] 2 (.two .none (.keep [1, 2, 5, 6] 2 (.two .none (.keep [1, 2, 5, 6, 7] 2 (.two (.two .none (.keep [1, 2, 5, 6, 7, 34, 35, 36] 2 (.one (.loop [1, 2, 5, 6, 7, 34, 35, 36] 2 .none)))) (.keep [1, 2, 5, 6, 7] 2 (.two .none (.keep [1, 2, 5, 7] 2 (.two .none (.keep [1, 2, 5, 7] 2 (.two (.two .none (.keep [2, 5, 7, 77, 78, 79] 2 (.one (.loop [2, 5, 7, 77, 78, 79] 2 .none)))) (.keep [2, 5, 7] 2 (.two (.two .none (.keep [2, 5, 7, 12] 2 (.one (.loop [2, 5, 7, 12] 2 (.two .none (.two (.one (.two (.draw 0 [.pure, .pure, .pure, .rd [1], .pure, .pure, .pure, .pure, .rd [0], .pure, .pure, .pure, .pure, .pure, .rd [0], .pure, .pure, .pure, .pure, .pure]) .none)) .none)))))) (.keep [] 2 .none)))))))))))))))))), ok_keep_OrderLeast _N, (E_keep_OrderLeast _N x).trans _h⟩
theorem en_keep_OrderLeast (_N : Nat) : EntOk Tryd.prog Gs (mkP 7 Ks_keep_OrderLeast Rk_keep_OrderLeast (D_keep_OrderLeast _N)) := entP hb_keep_OrderLeast (by kernel_rfl) (sp_keep_OrderLeast _N)
def at1 (pairs : List (Int × Int)) (t : Nat) : Nat := (nth (0, 0) pairs t).1.toNat
def at2 (pairs : List (Int × Int)) (t : Nat) : Nat := (nth (0, 0) pairs t).2.toNat
theorem ol6 {N : Nat} (hN : 40 ≤ N) {m : Nat} {up : List Int} (hw : WL up) (hl : up.length = m) (hm : m ≤ 16) {pairs : List (Int × Int)} (hp : pairs.length ≤ 256) (e : Int) {t : Nat} (ht : t < pairs.length) (all : Bool) (kn : Bool → Int → Option Rt_keep_OrderLeast) (k : Bool → Option Rt_keep_OrderLeast) :
    (¬ pairIn m (nth (0, 0) pairs t) → keep_OrderLeast_6 N ((m : Int), up) pairs e all (t : Int) kn k = some ((e == 2), ())) ∧
    (pairIn m (nth (0, 0) pairs t) → keep_OrderLeast_6 N ((m : Int), up) pairs e all (t : Int) kn k = kn (all && bt (nth 0 up (at1 pairs t)) (at2 pairs t)) ((t : Int) + 1)) := by
  unfold at1 at2
  generalize hpt : nth (0, 0) pairs t = p
  obtain ⟨a, b⟩ := p
  obtain ⟨w, h1, h2⟩ := within_eq (N := N) (n := (m : Int)) (xs := [a, b]) (by simp; omega) (by simp)
  simp only [keep_OrderLeast_6, lt_d ht, ge0_d, cond_true, Bool.and_self, Int.toNat_natCast, hpt, pairIn, h1, Option.bind_some]
  constructor
  · intro h
    have : w = false := Bool.eq_false_iff.2 fun hw => h (by have := h2.1 hw; simp at this; omega)
    rw [this]; rfl
  · rintro ⟨q1, q2, q3, q4⟩
    have : w = true := h2.2 (by simp; omega)
    obtain ⟨a, rfl⟩ : ∃ x : Nat, a = (x : Int) := ⟨a.toNat, by omega⟩
    obtain ⟨b, rfl⟩ : ∃ x : Nat, b = (x : Int) := ⟨b.toNat, by omega⟩
    rw [this, kbelow_eq N hw (by omega) (by omega)]
    simp only [Bool.not_true, cond_false, Option.bind_some, Int.toNat_natCast, w64 (show -9223372036854775808 ≤ (t : Int) + 1 by omega) (show (t : Int) + 1 ≤ 9223372036854775807 by omega)]
    cases bt (nth 0 up a) b <;> simp
theorem ol7 {N : Nat} (hN : 1000 ≤ N) {m : Nat} {up : List Int} (hw : WL up) (hl : up.length = m) (hm : m ≤ 16) {pairs : List (Int × Int)} (hp : pairs.length ≤ 256) (e : Int) (hb : ∀ t, t < pairs.length → pairIn m (nth (0, 0) pairs t)) (k : Bool → Option Rt_keep_OrderLeast) :
    ∃ all : Bool, (all = true ↔ ∀ t, t < pairs.length → le up (at1 pairs t) (at2 pairs t)) ∧ keep_OrderLeast_7 N ((m : Int), up) pairs e k = k all := by
  unfold keep_OrderLeast_7
  have key := loopD_inv (N := N) (g := fun (s : Bool × Int) kn => keep_OrderLeast_6 N ((m : Int), up) pairs e s.1 s.2 (fun v12 v13 => kn (v12, v13)) k) (k := fun s => k s.1) (s := (true, 0)) pairs.length
    (fun t s => s.2 = (t : Int) ∧ (s.1 = true ↔ ∀ t', t' < t → le up (at1 pairs t') (at2 pairs t'))) ?_ ?_ (by omega) ⟨rfl, fun _ t' h => absurd h (Nat.not_lt_zero _), fun _ => rfl⟩
  · obtain ⟨⟨all, s⟩, ⟨-, hI⟩, h⟩ := key
    exact ⟨all, hI, h⟩
  · rintro t ⟨a, s⟩ ht ⟨hs, hI⟩
    simp only at hs hI
    subst hs
    refine ⟨(a && bt (nth 0 up (at1 pairs t)) (at2 pairs t), (t : Int) + 1), ⟨rfl, ?_⟩, fun kn => (ol6 (by omega) hw hl hm hp e ht a _ k).2 (hb t ht)⟩
    rw [Bool.and_eq_true, hI]
    constructor
    · rintro ⟨h1, h2⟩ t' ht'
      by_cases e : t' = t
      · subst e; exact h2
      · exact h1 t' (by omega)
    · exact fun h => ⟨fun t' h' => h t' (by omega), h t (by omega)⟩
  · rintro ⟨a, s⟩ ⟨hs, hI⟩ kn
    simp only at hs
    subst hs
    simp only [keep_OrderLeast_6, lt_self, cond_false]
theorem law_OrderLeast (p : Int × List Int) (pairs : List (Int × Int)) (hp : wfS (.pair (.int .i64) (.sl (.int .u32))) p) (_hq : wfS (.sl (.pair (.int .i64) (.int .i64))) pairs) : ∃ N, D_keep_OrderLeast N (p, pairs, ()) = some (true, ()) := by
  obtain ⟨n, up⟩ := p
  have hw : WL up := WL_of hp.2
  refine ⟨1000, ?_⟩
  obtain ⟨⟨⟨oN, oU⟩, e, ⟨⟩⟩, ho⟩ := Of_def (N := 1000) (Nat.le_refl _) n pairs
  obtain ⟨b, h1, h2⟩ := sound_eq (N := 1000) (by omega) hw n
  obtain ⟨f, k1, k2⟩ := refused_eq (N := 1000) (by omega) hw n
  simp only [D_keep_OrderLeast, keep_OrderLeast_31, keep_OrderLeast_30, keep_OrderLeast_29, keep_OrderLeast_3, keep_OrderLeast_2, keep_OrderLeast_1, ho, h1, k1, Option.bind_some]
  rcases bcase h2 with ⟨h, rfl⟩ | ⟨h, rfl⟩
  case inr => rw [k2.2 h]; rfl
  by_cases hlen : (pairs.length : Int) > 256
  · rw [d_true hlen]; rfl
  rw [d_false hlen]
  have hlen : pairs.length ≤ 256 := by omega
  obtain ⟨m, rfl⟩ : ∃ m : Nat, n = (m : Int) := ⟨n.toNat, by have := h.h0; omega⟩
  have hm : m ≤ 16 := by have := h.h1; omega
  have hlu : up.length = m := by have := h.len; omega
  simp only [Bool.not_true, cond_false, keep_OrderLeast_28, keep_OrderLeast_27, keep_OrderLeast_9, keep_OrderLeast_8, keep_OrderLeast_5, keep_OrderLeast_4]
  obtain ⟨s1, s2⟩ := Of_spec (N := 1000) (Nat.le_refl _) hm hlen
  by_cases hb : ∃ t, t < pairs.length ∧ ¬ pairIn m (nth (0, 0) pairs t)
  · have he := s1 hb
    rw [ho] at he
    simp only [Option.some.injEq, Prod.mk.injEq] at he
    obtain ⟨-, rfl, -⟩ := he
    unfold keep_OrderLeast_7
    refine loopD_const (fun s => ∃ t : Nat, s.2 = (t : Int) ∧ t ≤ pairs.length ∧ ∀ t', t' < t → pairIn m (nth (0, 0) pairs t')) (fun s => pairs.length - s.2.toNat) _ ?_ 1000 _ ⟨0, rfl, Nat.zero_le _, fun t' h => absurd h (Nat.not_lt_zero _)⟩ (by simp; omega)
    rintro ⟨a, s⟩ ⟨t, hs, ht, hok⟩ kn hkn
    simp only at hs
    subst hs
    have htl : t < pairs.length := by
      rcases Nat.lt_or_ge t pairs.length with h | h
      · exact h
      · obtain ⟨t', q1, q2⟩ := hb
        exact absurd (hok t' (by omega)) q2
    by_cases hpt : pairIn m (nth (0, 0) pairs t)
    · rw [(ol6 (by omega) hw hlu hm hlen 2 htl _ _ _).2 hpt]
      refine hkn (_, _) ⟨t + 1, rfl, by omega, fun t' ht' => ?_⟩ (by simp; omega)
      by_cases e : t' = t
      · subst e; exact hpt
      · exact hok t' (by omega)
    · rw [(ol6 (by omega) hw hlu hm hlen 2 htl _ _ _).1 hpt]; rfl
  have hb : ∀ t, t < pairs.length → pairIn m (nth (0, 0) pairs t) := fun t ht => Classical.byContradiction fun hn => hb ⟨t, ht, hn⟩
  obtain ⟨all, ha, hl7⟩ := ol7 (N := 1000) (Nat.le_refl _) hw hlu hm hlen e hb (fun v18 => keep_OrderLeast_26 1000 ((m : Int), up) pairs e oN oU v18)
  rw [hl7]
  obtain ⟨u, ht, hh, hle, hc, hcase⟩ := s2 hb
  have hmem : ∀ i j : Nat, ((i : Int), (j : Int)) ∈ pairs → all = true → le up i j := fun i j hij e => by
    obtain ⟨t, q1, q2⟩ := mem_nth (z := ((0 : Int), (0 : Int))) hij
    have := ha.1 e t q1
    rw [at1, at2, q2] at this
    exact this
  have hsub : all = true → ∀ i j, i < m → le u i j → le up i j := fun e =>
    hle (fun i j => le up i j) (fun i hi => h.refl i (by omega)) (fun i j k hi hj hk r1 r2 => h.trans i j k (by omega) (by omega) r1 r2) (fun i j hij => hmem i j hij e)
  rw [ho] at hcase
  simp only [Option.some.injEq, Prod.mk.injEq] at hcase
  rcases hcase with ⟨⟨i, hi, j, hne, c1, c2⟩, -, rfl, -⟩ | ⟨hou, ⟨rfl, rfl⟩, rfl, -⟩
  · have : all = false := Bool.eq_false_iff.2 fun e => hne (h.anti j i (by have := ht.inn i hi j c1; omega) (by omega) (hsub e j i (ht.inn i hi j c1) c2) (hsub e i j hi c1))
    simp only [keep_OrderLeast_26, keep_OrderLeast_10, this]
    rfl
  · obtain ⟨b3, g1, g2⟩ := sound_eq (N := 1000) (by omega) ht.w (m : Int)
    obtain rfl := g2.2 hou
    simp only [keep_OrderLeast_26, keep_OrderLeast_25, keep_OrderLeast_24, keep_OrderLeast_16, keep_OrderLeast_15, keep_OrderLeast_12, keep_OrderLeast_11, keep_OrderLeast_10, bne_self_eq_false, cond_false, g1, Option.bind_some, Bool.not_true]
    unfold keep_OrderLeast_14
    refine loopD_pass (n := pairs.length) (by omega) (fun t htl kn => ?_) (fun kn => ?_) (by omega)
    · obtain ⟨q1, q2, q3, q4⟩ := hb t htl
      have hin := nth_mem (z := ((0 : Int), (0 : Int))) htl
      generalize hpt : nth (0, 0) pairs t = p at *
      obtain ⟨a, b⟩ := p
      obtain ⟨a, rfl⟩ : ∃ x : Nat, a = (x : Int) := ⟨a.toNat, by simp only at q1; omega⟩
      obtain ⟨b, rfl⟩ : ∃ x : Nat, b = (x : Int) := ⟨b.toNat, by simp only at q2; omega⟩
      simp only at q3 q4
      have hab := hh a b hin
      rw [le] at hab
      simp only [keep_OrderLeast_13, lt_d htl, ge0_d, cond_true, Bool.and_self, Int.toNat_natCast, hpt, kbelow_eq 1000 ht.w (show a < oU.length by rw [ht.len]; omega) (show b < 4611686018427387904 by omega), Option.bind_some, hab, Bool.not_true, cond_false, w64 (show -9223372036854775808 ≤ (t : Int) + 1 by omega) (show (t : Int) + 1 ≤ 9223372036854775807 by omega)]
    · simp only [keep_OrderLeast_13, lt_self, cond_false, keep_OrderLeast_23, keep_OrderLeast_21, keep_OrderLeast_20, keep_OrderLeast_17]
      unfold keep_OrderLeast_19
      refine loopD_pass (n := m) (by omega) (fun i hi kn => ?_) (fun kn => ?_) (by omega)
      · simp only [keep_OrderLeast_18, lt_d hi]
        cases he : all with
        | false => simp only [cond_true, cond_false, w1 hm hi]
        | true =>
          have := (or_eq_iff (ht.w.nth i) (hw.nth i)).2 fun j hj => hsub he i j hi hj
          simp only [cond_true, ge0_d, lt_d (show i < oU.length by rw [ht.len]; omega), lt_d (show i < up.length by omega), Bool.and_self, Int.toNat_natCast, bne, this, Bool.not_true, cond_false, w1 hm hi]
      · simp only [keep_OrderLeast_18, lt_self, cond_false, keep_OrderLeast_22]
set_option maxRecDepth 100000 in
theorem lifted_OrderLeast (os : Os) (started : os.Started) (H : Type) (enc : TypeId × Value → H) :
    ReturnsInHanded {} Tryd.checked os 7 .any (fun w args => (Rows.orderLeastSpec.pre enc Tryd.prog Tryd.f7 [] false w args ∧ laidMetH Tryd.prog Rows.orderLeastRow.laid w) ∧ sizedMet enc Tryd.prog Tryd.f7 (OpenSpec.ofChange Rows.orderLeastSpec) false w args) (Rows.orderLeastSpec.post enc Tryd.prog Tryd.f7 false true false false) := by
  refine returnsInHanded_of_change_and (C := Tryd.checked) (X := fun w _ => laidMetH Tryd.prog Rows.orderLeastRow.laid w) (fun _ _ _ hh h => h.of_heap hh) own started (by kernel_rfl) Tryd.func7
    (ChangeSpec.witness_shaped (enc := enc) (C := Tryd.checked) (os := os) (X := fun w _ => laidMetH Tryd.prog Rows.orderLeastRow.laid w) false (World.doorLaid Tryd.prog 400 os) #[.agg #[.int .i64 0, .slice none 0 0], .slice none 0 0] 8 rfl (World.shaped_of_RefB (by kernel_rfl) (by kernel_rfl)) (by kernel_rfl) (by kernel_rfl) (by kernel_rfl) (door_met os _)) ?_
  intro W base args ds gs before hval0 hW _ hsz0 hL _
  have hgw : GW Gs W := gw_of hL
  have hval : ∀ (j : Nat) t v, Tryd.f7.params[j]? = some t → args[j]? = some v → Value.okWide Tryd.prog W .any base t v := hval0
  have hW' := hW
  obtain ⟨p, q, hA0, hV, rfl, _, _⟩ := hW
  have hA : DataW.TrodAll enc Tryd.prog W 0 (fun _ => true) true Tryd.f7.params.toList args.toList ds p := hA0
  rw [Tryd.params7] at hA hval
  obtain ⟨v0, vs0, d0, ds0, p0, q0, hargs, rfl, rfl, h0, r0⟩ := trodAll_cons hA
  obtain ⟨v1, vs1, d1, ds1, p1, q1, rfl, rfl, rfl, h1, r1⟩ := trodAll_cons r0
  obtain ⟨rfl, rfl, rfl⟩ := trodAll_nil r1
  obtain rfl : args = #[v0, v1] := by cases args; simp_all
  obtain ⟨rfl, rfl⟩ := trodVars_none hV
  clear hA0 hval0 hsz0
  simp only [List.append_nil] at hW'
  have hlt0 : ∀ x ∈ p0, x.block < W.heap.size := fun x hx => hW'.lt x (by simp [hx])
  have hlt1 : ∀ x ∈ p1, x.block < W.heap.size := fun x hx => hW'.lt x (by simp [hx])
  obtain ⟨x0, g0, w0⟩ := open_kd (k := .dat (.pair (.int .i64) (.sl (.int .u32)))) (by kernel_rfl) (hval 0 34 v0 rfl rfl) h0
  obtain ⟨x1, g1, w1⟩ := open_kd (k := .dat (.sl (.pair (.int .i64) (.int .i64)))) (by kernel_rfl) (hval 1 42 v1 rfl rfl) h1
  obtain ⟨N, hN⟩ := law_OrderLeast x0 x1 w0 w1
  refine (sp_keep_OrderLeast N (fun _ => False) W (x0, x1, ()) (true, ()) [v0, v1] (fun _ h => h.elim) hgw ⟨v0, _, rfl, g0, ⟨v1, _, rfl, g1, rfl⟩⟩ hN).mono ?_
  rintro e W' ⟨v, rfl, hg, hr⟩
  have hr : v = .bool true := by simpa only [kvals, retV, Kd.val, Go.Abs.enc, RV] using hr
  subst hr
  exact ⟨_, rfl, _, _, _, [], p0 ++ (p1 ++ []), [], hW', (trodAll_cons_mk (shut_bool (show Tryd.prog.underlying 4 = some .bool by kernel_rfl) _) trodAll_mk0), (trodAll_cons_mk (Below.trod laidOut (by kernel_rfl) (of_decide_eq_true (by kernel_rfl)) h0 hg hlt0) (trodAll_cons_mk (Below.trod laidOut (by kernel_rfl) (of_decide_eq_true (by kernel_rfl)) h1 hg hlt1) trodAll_mk0)), rfl, hg.frame _, fun h => by cases h⟩

/-- The statement: whatever the arguments, the law's function returns true and leaves them as they were. -/
theorem orderLeast_holds : Rows.OrderLeastSaid :=
  OpenClaim.holds_of_wide 7 Tryd.f7 rfl rfl rfl rfl rfl rfl rfl ⟨rfl, rfl, rfl, rfl, rfl⟩ rfl rfl rfl rfl rfl (by kernel_rfl) Tryd.func7 (by kernel_rfl)
    (of_decide_eq_true (by kernel_rfl)) (by unfold Func.isWrapper; first | (rw [if_pos (by decide +kernel)]; kernel_rfl) | (rw [if_neg (by decide +kernel)]; exact ⟨rfl, rfl⟩))
    (fun os started H enc _ => lifted_OrderLeast os started H enc)
/-- The statement's card: the variable that the road reads is tied to the program's text. -/
theorem orderLeast_card : Rows.OrderLeastCardSaid :=
  Claim7.holds_tied_plain_at .later [] [.data] true (true, "cbd544c05f2c0fdd660505a86de7bf34820ac41be0754ffecfa8b6dc1818dc70") false orderLeast_holds (fun _ h => by cases h) (by kernel_rfl) (fun _ h => by cases h) orderLeast_row_tie rfl ⟨rfl, rfl⟩ (by kernel_rfl) rfl
    (fun f fn hf hfn => by
      obtain rfl : f = 7 := Option.some.inj ((show Tryd.prog.funcNamed "watershed/watershedkeep.OrderLeast" = some 7 by kernel_rfl).symm.trans hf) |>.symm
      obtain rfl : fn = Tryd.f7 := (Option.some.inj (Tryd.func7.symm.trans hfn)).symm
      exact ⟨by kernel_rfl, fun j t ht => by
        have h3 := List.all_eq_true.1 (show (Tryd.f7.params.toList.all fun t => !(Tryd.prog.wantsStandIn t)) = true by kernel_rfl) t (by rw [← Array.getElem?_toList] at ht; exact List.mem_of_getElem? ht)
        have h4 : Tryd.prog.wantsStandIn t = false := by simpa using h3
        exact h4⟩)
    (by kernel_rfl)
end Go.Proofs.YtiepnpfjlknkoaaDoor
