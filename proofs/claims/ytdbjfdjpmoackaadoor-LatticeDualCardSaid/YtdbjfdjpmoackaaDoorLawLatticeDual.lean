/- An order is a lattice just if its dual is; there joins are meets, and Top is Bottom; and it is as distributive, modular, complemented: the law answers true for every order. No condition. -/
import Derived.Test.YtdbjfdjpmoackaaDoorKindS
import Derived.Test.YtdbjfdjpmoackaaDoorBoardS
import Derived.Test.YtdbjfdjpmoackaaDoorFrame
namespace Go.Proofs.YtdbjfdjpmoackaaDoor
open Go Go.ChangeShapes Go.WideShapes Go.ChangeAt Go.WideMaps Go.WideElems Go.RowKit Go.Abs
-- watershed/watershedref.TimesSame
abbrev Ks_ref_TimesSame : List Kd := [.dat (.sl (.int .i64)), .dat (.sl (.int .i64))]
abbrev Rk_ref_TimesSame : List Kd := [.dat (.bool)]
abbrev Rt_ref_TimesSame : Type := Dens Rk_ref_TimesSame
def T_ref_TimesSame : List (Nat × TE) := [(3, ⟨.int .i64, 1, 8, some (.int .i64), [.int .i64 (0 : Int)]⟩),
  (25, ⟨.slice 3, 1, 24, some (.sl (.int .i64)), [.nil]⟩)]
noncomputable def C_ref_TimesSame (_N : Nat) : Ctx := { T := T_ref_TimesSame, G := findE [], I := findI [], N := _N, n := 26, fx := [], fl := 0, gs := Gs }
noncomputable def ref_TimesSame_1 (_N : Nat) (_k3 : Option Rt_ref_TimesSame) : Option Rt_ref_TimesSame :=
  _k3
theorem ref_TimesSame_1e (_N : Nat) (_x1 : List Int) (_x2 : List Int) (_k3 : Slots → List O → Option Rt_ref_TimesSame) :
    exec (C_ref_TimesSame _N) (cAt (bodyOf Tryd.f18) [0]) .none [(0, .sl (.int .i64) _x1), (1, .sl (.int .i64) _x2)] [] (canonK [] _k3 [0, 1] 0 (fun _i _t _h => none) (fun _t _h => finK (C_ref_TimesSame _N) [.tmp 4] (finD Rk_ref_TimesSame) .ret _t _h)) = ref_TimesSame_1 _N (_k3 [(0, .sl (.int .i64) _x1), (1, .sl (.int .i64) _x2)] []) :=
  by kernel_rfl
noncomputable def ref_TimesSame_2 (_N : Nat) (_x1 : List Int) (_x2 : List Int) (_k4 : Option Rt_ref_TimesSame) : Option Rt_ref_TimesSame :=
  (bif ((_x1.length : Int) != (_x2.length : Int)) then (some (false, ())) else _k4)
theorem ref_TimesSame_2e (_N : Nat) (_x1 : List Int) (_x2 : List Int) (_k4 : Slots → List O → Option Rt_ref_TimesSame) :
    exec (C_ref_TimesSame _N) (cAt (bodyOf Tryd.f18) [1, 0]) .none [(0, .sl (.int .i64) _x1), (1, .sl (.int .i64) _x2)] [] (canonK [] _k4 [0, 1] 0 (fun _i _t _h => none) (fun _t _h => finK (C_ref_TimesSame _N) [.tmp 4] (finD Rk_ref_TimesSame) .ret _t _h)) = ref_TimesSame_2 _N _x1 _x2 (_k4 [(0, .sl (.int .i64) _x1), (1, .sl (.int .i64) _x2)] []) :=
  by kernel_rfl
noncomputable def ref_TimesSame_3 (_N : Nat) (_k6 : Option Rt_ref_TimesSame) : Option Rt_ref_TimesSame :=
  _k6
theorem ref_TimesSame_3e (_N : Nat) (_x1 : List Int) (_x2 : List Int) (_k6 : Slots → List O → Option Rt_ref_TimesSame) :
    exec (C_ref_TimesSame _N) (cAt (bodyOf Tryd.f18) [1, 1, 0, 0]) .none [(0, .sl (.int .i64) _x1), (1, .sl (.int .i64) _x2)] [] (canonK [] _k6 [0, 1, 5] 0 (fun _i _t _h => none) (fun _t _h => finK (C_ref_TimesSame _N) [.tmp 4] (finD Rk_ref_TimesSame) .ret _t _h)) = ref_TimesSame_3 _N (_k6 [(0, .sl (.int .i64) _x1), (1, .sl (.int .i64) _x2), (5, .int .i64 (0 : Int))] []) :=
  by kernel_rfl
noncomputable def ref_TimesSame_4 (_N : Nat) (_x1 : List Int) (_x2 : List Int) (_v1 : Int) (_k7 : Int → Option Rt_ref_TimesSame) (_k5 : Option Rt_ref_TimesSame) : Option Rt_ref_TimesSame :=
  (bif (decide (_v1 < (_x1.length : Int))) then (bif (decide (0 ≤ _v1) && decide (_v1 < (_x1.length : Int))) then (bif (decide (0 ≤ _v1) && decide (_v1 < (_x2.length : Int))) then (bif ((nth (0 : Int) _x1 (_v1).toNat) != (nth (0 : Int) _x2 (_v1).toNat)) then (some (false, ())) else (_k7 (IntKind.i64.wrap (_v1 + (1 : Int))))) else none) else none) else _k5)
theorem ref_TimesSame_4e (_N : Nat) (_x1 : List Int) (_x2 : List Int) (_v1 : Int) (_k7 _k5 : Slots → List O → Option Rt_ref_TimesSame) :
    exec (C_ref_TimesSame _N) (cAt (bodyOf Tryd.f18) [1, 1, 0, 1, 0, 0]) (.two .none (.two (.one (.two (.draw 0 [.pure, .pure, .pure, .pure, .pure, .pure, .pure, .pure, .pure]) .none)) .none)) [(0, .sl (.int .i64) _x1), (1, .sl (.int .i64) _x2), (5, .int .i64 _v1)] [] (canonK [] _k7 [0, 1, 5] 0 (fun _i _t _h => bif Nat.beq _i 0 then _k5 (cvT [] [] 0 _t _h) (cvH [] 0 _h) else none) (fun _t _h => finK (C_ref_TimesSame _N) [.tmp 4] (finD Rk_ref_TimesSame) .ret _t _h)) = ref_TimesSame_4 _N _x1 _x2 _v1 (fun _v1 => _k7 [(0, .sl (.int .i64) _x1), (1, .sl (.int .i64) _x2), (5, .int .i64 _v1)] []) (_k5 [] []) :=
  by kernel_rfl
noncomputable def ref_TimesSame_5 (_N : Nat) (_x1 : List Int) (_x2 : List Int) (_k5 : Option Rt_ref_TimesSame) : Option Rt_ref_TimesSame :=
  loopD (fun (_s : Int) _kn => ref_TimesSame_4 _N _x1 _x2 _s (fun _v1 => _kn _v1) _k5) _N (0 : Int)
theorem ref_TimesSame_5e (_N : Nat) (_x1 : List Int) (_x2 : List Int) (_k5 : Slots → List O → Option Rt_ref_TimesSame) :
    exec (C_ref_TimesSame _N) (cAt (bodyOf Tryd.f18) [1, 1, 0, 1, 0]) (.loop [0, 1, 5] 0 (.two .none (.two (.one (.two (.draw 0 [.pure, .pure, .pure, .pure, .pure, .pure, .pure, .pure, .pure]) .none)) .none))) [(0, .sl (.int .i64) _x1), (1, .sl (.int .i64) _x2), (5, .int .i64 (0 : Int))] [] (canonK [] _k5 [] 0 (fun _i _t _h => bif Nat.beq _i 0 then _k5 (cvT [] [] 0 _t _h) (cvH [] 0 _h) else none) (fun _t _h => finK (C_ref_TimesSame _N) [.tmp 4] (finD Rk_ref_TimesSame) .ret _t _h)) = ref_TimesSame_5 _N _x1 _x2 (_k5 [] []) :=
  (loop_frag (by kernel_rfl) rfl (by kernel_rfl) (by kernel_rfl)).trans (loopN_sim (S := Int) (fun _s => [(0, .sl (.int .i64) _x1), (1, .sl (.int .i64) _x2), (5, .int .i64 _s)]) (fun _s => []) (fun _s _kn => ref_TimesSame_4e _N _x1 _x2 _s _kn _k5) _N (0 : Int))
noncomputable def ref_TimesSame_6 (_N : Nat) (_x1 : List Int) (_x2 : List Int) (_k5 : Option Rt_ref_TimesSame) : Option Rt_ref_TimesSame :=
  ref_TimesSame_5 _N _x1 _x2 _k5
theorem ref_TimesSame_6e (_N : Nat) (_x1 : List Int) (_x2 : List Int) (_k5 : Slots → List O → Option Rt_ref_TimesSame) :
    exec (C_ref_TimesSame _N) (cAt (bodyOf Tryd.f18) [1, 1, 0, 1]) (.one (.loop [0, 1, 5] 0 (.two .none (.two (.one (.two (.draw 0 [.pure, .pure, .pure, .pure, .pure, .pure, .pure, .pure, .pure]) .none)) .none)))) [(0, .sl (.int .i64) _x1), (1, .sl (.int .i64) _x2), (5, .int .i64 (0 : Int))] [] (canonK [] _k5 [] 0 (fun _i _t _h => none) (fun _t _h => finK (C_ref_TimesSame _N) [.tmp 4] (finD Rk_ref_TimesSame) .ret _t _h)) = ref_TimesSame_6 _N _x1 _x2 (_k5 [] []) :=
  (block_canon (by kernel_rfl)).trans (ref_TimesSame_5e _N _x1 _x2 _k5)
noncomputable def ref_TimesSame_7 (_N : Nat) (_x1 : List Int) (_x2 : List Int) (_k5 : Option Rt_ref_TimesSame) : Option Rt_ref_TimesSame :=
  ref_TimesSame_3 _N (ref_TimesSame_6 _N _x1 _x2 _k5)
theorem ref_TimesSame_7e (_N : Nat) (_x1 : List Int) (_x2 : List Int) (_k5 : Slots → List O → Option Rt_ref_TimesSame) :
    exec (C_ref_TimesSame _N) (cAt (bodyOf Tryd.f18) [1, 1, 0]) (.two .none (.keep [0, 1, 5] 0 (.one (.loop [0, 1, 5] 0 (.two .none (.two (.one (.two (.draw 0 [.pure, .pure, .pure, .pure, .pure, .pure, .pure, .pure, .pure]) .none)) .none)))))) [(0, .sl (.int .i64) _x1), (1, .sl (.int .i64) _x2)] [] (canonK [] _k5 [] 0 (fun _i _t _h => none) (fun _t _h => finK (C_ref_TimesSame _N) [.tmp 4] (finD Rk_ref_TimesSame) .ret _t _h)) = ref_TimesSame_7 _N _x1 _x2 (_k5 [] []) :=
  (seq_frag (by kernel_rfl) rfl).trans ((ref_TimesSame_3e _N _x1 _x2 (fun _t _h => exec (C_ref_TimesSame _N) (cAt (bodyOf Tryd.f18) [1, 1, 0, 1]) (.one (.loop [0, 1, 5] 0 (.two .none (.two (.one (.two (.draw 0 [.pure, .pure, .pure, .pure, .pure, .pure, .pure, .pure, .pure]) .none)) .none)))) _t _h (canonK [] _k5 [] 0 (fun _i _t _h => none) (fun _t _h => finK (C_ref_TimesSame _N) [.tmp 4] (finD Rk_ref_TimesSame) .ret _t _h)))).trans (congrArg (fun _z => ref_TimesSame_3 _N _z) (ref_TimesSame_6e _N _x1 _x2 _k5)))
noncomputable def ref_TimesSame_8 (_N : Nat) : Option Rt_ref_TimesSame :=
  (some (true, ()))
theorem ref_TimesSame_8e (_N : Nat) (_x1 : List Int) (_x2 : List Int) :
    exec (C_ref_TimesSame _N) (cAt (bodyOf Tryd.f18) [1, 1, 1]) .none [] [] (canonR (fun _i _t _h => none) (finK (C_ref_TimesSame _N) [.tmp 4] (finD Rk_ref_TimesSame))) = ref_TimesSame_8 _N :=
  by kernel_rfl
noncomputable def ref_TimesSame_9 (_N : Nat) (_x1 : List Int) (_x2 : List Int) : Option Rt_ref_TimesSame :=
  ref_TimesSame_7 _N _x1 _x2 (ref_TimesSame_8 _N)
theorem ref_TimesSame_9e (_N : Nat) (_x1 : List Int) (_x2 : List Int) :
    exec (C_ref_TimesSame _N) (cAt (bodyOf Tryd.f18) [1, 1]) (.two (.two .none (.keep [0, 1, 5] 0 (.one (.loop [0, 1, 5] 0 (.two .none (.two (.one (.two (.draw 0 [.pure, .pure, .pure, .pure, .pure, .pure, .pure, .pure, .pure]) .none)) .none)))))) (.keep [] 0 .none)) [(0, .sl (.int .i64) _x1), (1, .sl (.int .i64) _x2)] [] (canonR (fun _i _t _h => none) (finK (C_ref_TimesSame _N) [.tmp 4] (finD Rk_ref_TimesSame))) = ref_TimesSame_9 _N _x1 _x2 :=
  (seq_frag (by kernel_rfl) rfl).trans ((ref_TimesSame_7e _N _x1 _x2 (fun _t _h => exec (C_ref_TimesSame _N) (cAt (bodyOf Tryd.f18) [1, 1, 1]) .none _t _h (canonR (fun _i _t _h => none) (finK (C_ref_TimesSame _N) [.tmp 4] (finD Rk_ref_TimesSame))))).trans (congrArg (fun _z => ref_TimesSame_7 _N _x1 _x2 _z) (ref_TimesSame_8e _N _x1 _x2)))
noncomputable def ref_TimesSame_10 (_N : Nat) (_x1 : List Int) (_x2 : List Int) : Option Rt_ref_TimesSame :=
  ref_TimesSame_2 _N _x1 _x2 (ref_TimesSame_9 _N _x1 _x2)
theorem ref_TimesSame_10e (_N : Nat) (_x1 : List Int) (_x2 : List Int) :
    exec (C_ref_TimesSame _N) (cAt (bodyOf Tryd.f18) [1]) (.two .none (.keep [0, 1] 0 (.two (.two .none (.keep [0, 1, 5] 0 (.one (.loop [0, 1, 5] 0 (.two .none (.two (.one (.two (.draw 0 [.pure, .pure, .pure, .pure, .pure, .pure, .pure, .pure, .pure]) .none)) .none)))))) (.keep [] 0 .none)))) [(0, .sl (.int .i64) _x1), (1, .sl (.int .i64) _x2)] [] (canonR (fun _i _t _h => none) (finK (C_ref_TimesSame _N) [.tmp 4] (finD Rk_ref_TimesSame))) = ref_TimesSame_10 _N _x1 _x2 :=
  (seq_frag (by kernel_rfl) rfl).trans ((ref_TimesSame_2e _N _x1 _x2 (fun _t _h => exec (C_ref_TimesSame _N) (cAt (bodyOf Tryd.f18) [1, 1]) (.two (.two .none (.keep [0, 1, 5] 0 (.one (.loop [0, 1, 5] 0 (.two .none (.two (.one (.two (.draw 0 [.pure, .pure, .pure, .pure, .pure, .pure, .pure, .pure, .pure]) .none)) .none)))))) (.keep [] 0 .none)) _t _h (canonR (fun _i _t _h => none) (finK (C_ref_TimesSame _N) [.tmp 4] (finD Rk_ref_TimesSame))))).trans (congrArg (fun _z => ref_TimesSame_2 _N _x1 _x2 _z) (ref_TimesSame_9e _N _x1 _x2)))
noncomputable def ref_TimesSame_11 (_N : Nat) (_x1 : List Int) (_x2 : List Int) : Option Rt_ref_TimesSame :=
  ref_TimesSame_1 _N (ref_TimesSame_10 _N _x1 _x2)
theorem ref_TimesSame_11e (_N : Nat) (_x1 : List Int) (_x2 : List Int) :
    exec (C_ref_TimesSame _N) (cAt (bodyOf Tryd.f18) []) (.two .none (.keep [0, 1] 0 (.two .none (.keep [0, 1] 0 (.two (.two .none (.keep [0, 1, 5] 0 (.one (.loop [0, 1, 5] 0 (.two .none (.two (.one (.two (.draw 0 [.pure, .pure, .pure, .pure, .pure, .pure, .pure, .pure, .pure]) .none)) .none)))))) (.keep [] 0 .none)))))) [(0, .sl (.int .i64) _x1), (1, .sl (.int .i64) _x2)] [] (canonR (fun _i _t _h => none) (finK (C_ref_TimesSame _N) [.tmp 4] (finD Rk_ref_TimesSame))) = ref_TimesSame_11 _N _x1 _x2 :=
  (seq_frag (by kernel_rfl) rfl).trans ((ref_TimesSame_1e _N _x1 _x2 (fun _t _h => exec (C_ref_TimesSame _N) (cAt (bodyOf Tryd.f18) [1]) (.two .none (.keep [0, 1] 0 (.two (.two .none (.keep [0, 1, 5] 0 (.one (.loop [0, 1, 5] 0 (.two .none (.two (.one (.two (.draw 0 [.pure, .pure, .pure, .pure, .pure, .pure, .pure, .pure, .pure]) .none)) .none)))))) (.keep [] 0 .none)))) _t _h (canonR (fun _i _t _h => none) (finK (C_ref_TimesSame _N) [.tmp 4] (finD Rk_ref_TimesSame))))).trans (congrArg (fun _z => ref_TimesSame_1 _N _z) (ref_TimesSame_10e _N _x1 _x2)))
noncomputable def D_ref_TimesSame (_N : Nat) (x : Dens Ks_ref_TimesSame) : Option Rt_ref_TimesSame := ref_TimesSame_11 _N x.1 x.2.1
theorem E_ref_TimesSame (_N : Nat) (x : Dens Ks_ref_TimesSame) : exec (C_ref_TimesSame _N) (bodyOf Tryd.f18) (.two .none (.keep [0, 1] 0 (.two .none (.keep [0, 1] 0 (.two (.two .none (.keep [0, 1, 5] 0 (.one (.loop [0, 1, 5] 0 (.two .none (.two (.one (.two (.draw 0 [.pure, .pure, .pure, .pure, .pure, .pure, .pure, .pure, .pure]) .none)) .none)))))) (.keep [] 0 .none)))))) (argS 0 (kvals Ks_ref_TimesSame x)) [] (finK (C_ref_TimesSame _N) [.tmp 4] (finD Rk_ref_TimesSame)) = D_ref_TimesSame _N x :=
  (congrArg (fun K => exec (C_ref_TimesSame _N) (bodyOf Tryd.f18) (.two .none (.keep [0, 1] 0 (.two .none (.keep [0, 1] 0 (.two (.two .none (.keep [0, 1, 5] 0 (.one (.loop [0, 1, 5] 0 (.two .none (.two (.one (.two (.draw 0 [.pure, .pure, .pure, .pure, .pure, .pure, .pure, .pure, .pure]) .none)) .none)))))) (.keep [] 0 .none)))))) (argS 0 (kvals Ks_ref_TimesSame x)) [] K) canonR_fin).trans (ref_TimesSame_11e _N x.1 x.2.1)
theorem ok_ref_TimesSame (_N : Nat) : CtxOk Tryd.prog Gs Tryd.f18 (C_ref_TimesSame _N) := ⟨rfl, by unfold TOk; kernel_rfl, gOk_of rfl rfl (List.forall_mem_nil _), iOk_of rfl rfl (List.forall_mem_nil _), rfl⟩
theorem hb_ref_TimesSame : HasBody Tryd.prog 18 := ⟨Tryd.f18, bodyOf Tryd.f18, by kernel_rfl, by kernel_rfl, rfl⟩
theorem sp_ref_TimesSame (_N : Nat) : SpecD Tryd.prog Gs 18 Ks_ref_TimesSame Rk_ref_TimesSame (D_ref_TimesSame _N) := specD_of (c := bodyOf Tryd.f18) (by kernel_rfl) rfl (by kernel_rfl) (Nat.le_of_ble_eq_true (by kernel_rfl)) fun x y _h => ⟨C_ref_TimesSame _N, (.two .none (.keep [0, 1] 0 (.two .none (.keep [0, 1] 0 (.two (.two .none (.keep [0, 1, 5] 0 (.one (.loop [0, 1, 5] 0 (.two .none (.two (.one (.two (.draw 0 [.pure, .pure, .pure, .pure, .pure, .pure, .pure, .pure, .pure]) .none)) .none)))))) (.keep [] 0 .none)))))), ok_ref_TimesSame _N, (E_ref_TimesSame _N x).trans _h⟩
theorem en_ref_TimesSame (_N : Nat) : EntOk Tryd.prog Gs (mkP 18 Ks_ref_TimesSame Rk_ref_TimesSame (D_ref_TimesSame _N)) := entP hb_ref_TimesSame (by kernel_rfl) (sp_ref_TimesSame _N)
-- watershed/watershedkeep.LatticeDual
abbrev Ks_keep_LatticeDual : List Kd := [.dat (.pair (.int .i64) (.sl (.int .u32)))]
abbrev Rk_keep_LatticeDual : List Kd := [.dat (.bool)]
abbrev Rt_keep_LatticeDual : Type := Dens Rk_keep_LatticeDual
def T_keep_LatticeDual : List (Nat × TE) := [(3, ⟨.int .i64, 1, 8, some (.int .i64), [.int .i64 (0 : Int)]⟩),
  (4, ⟨.bool, 1, 1, some .bool, [.bool false]⟩),
  (24, ⟨.struct [(0, 3), (1, 22)], 2, 32, some (.pair (.int .i64) (.sl (.int .u32))), [.int .i64 (0 : Int), .nil]⟩),
  (25, ⟨.slice 3, 1, 24, some (.sl (.int .i64)), [.nil]⟩),
  (27, ⟨.struct [(0, 25), (1, 25), (2, 3), (3, 3)], 4, 64, some (.pair (.sl (.int .i64)) (.pair (.sl (.int .i64)) (.pair (.int .i64) (.int .i64)))), [.nil, .nil, .int .i64 (0 : Int), .int .i64 (0 : Int)]⟩),
  (29, ⟨.struct [(0, 24), (2, 27), (6, 4)], 7, 104, some (.pair (.pair (.int .i64) (.sl (.int .u32))) (.pair (.pair (.sl (.int .i64)) (.pair (.sl (.int .i64)) (.pair (.int .i64) (.int .i64)))) (.bool))), [.int .i64 (0 : Int), .nil, .nil, .nil, .int .i64 (0 : Int), .int .i64 (0 : Int), .bool false]⟩),
  (39, ⟨.struct [(0, 4), (1, 4), (2, 4), (3, 3), (4, 3), (5, 3)], 6, 32, some (.pair (.bool) (.pair (.bool) (.pair (.bool) (.pair (.int .i64) (.pair (.int .i64) (.int .i64)))))), [.bool false, .bool false, .bool false, .int .i64 (0 : Int), .int .i64 (0 : Int), .int .i64 (0 : Int)]⟩)]
noncomputable def C_keep_LatticeDual (_N : Nat) : Ctx := { T := T_keep_LatticeDual, G := findE [mkQ 15 Ks_keep_open Rk_keep_open (D_keep_open _N), mkQ 16 Ks_order_Dual Rk_order_Dual (D_order_Dual _N), mkQ 17 Ks_lattice_Make Rk_lattice_Make (D_lattice_Make _N), mkP 18 Ks_ref_TimesSame Rk_ref_TimesSame (D_ref_TimesSame _N), mkP 19 Ks_lattice_Kind Rk_lattice_Kind (D_lattice_Kind _N)], I := findI [], N := _N, n := 104, fx := [], fl := 0, gs := Gs }
noncomputable def keep_LatticeDual_1 (_N : Nat) (_x1 : Int × List Int) : Option Rt_keep_LatticeDual :=
  ((D_keep_open _N ((_x1.1, _x1.2), ())).bind fun _y9 => (bif _y9.1.2.2 then (some (false, ())) else ((D_order_Dual _N ((_x1.1, _x1.2), ())).bind fun _y10 => (bif (_y10.2.1 != (0 : Int)) then (some (true, ())) else ((D_lattice_Make _N ((_x1.1, _x1.2), ())).bind fun _y11 => ((D_lattice_Make _N ((_y10.1.1, _y10.1.2), ())).bind fun _y12 => (bif (_y11.2.1 != _y12.2.1) then (some (false, ())) else ((D_ref_TimesSame _N (_y11.1.1, _y12.1.2.1, ())).bind fun _y13 => (bif (!_y13.1) then (some (false, ())) else ((D_ref_TimesSame _N (_y11.1.2.1, _y12.1.1, ())).bind fun _y14 => (bif (!_y14.1) then (some (false, ())) else (bif (_y11.1.2.2.2 != _y12.1.2.2.1) then (some (false, ())) else (bif (_y11.1.2.2.1 != _y12.1.2.2.2) then (some (false, ())) else ((D_lattice_Kind _N ((_x1.1, _x1.2), ())).bind fun _y15 => ((D_lattice_Kind _N ((_y10.1.1, _y10.1.2), ())).bind fun _y16 => (bif (_y15.2.1 == _y16.2.1) then (bif (_y15.1.1 == _y16.1.1) then (bif (_y15.1.2.1 == _y16.1.2.1) then (some ((_y15.1.2.2.1 == _y16.1.2.2.1), ())) else (some (false, ()))) else (some (false, ()))) else (some (false, ()))))))))))))))))))
theorem keep_LatticeDual_1e (_N : Nat) (_x1 : Int × List Int) :
    exec (C_keep_LatticeDual _N) (cAt (bodyOf Tryd.f3) []) .none [(0, .agg [.int .i64 _x1.1, .sl (.int .u32) _x1.2])] [] (canonR (fun _i _t _h => none) (finK (C_keep_LatticeDual _N) [.tmp 2] (finD Rk_keep_LatticeDual))) = keep_LatticeDual_1 _N _x1 :=
  by kernel_rfl
noncomputable def D_keep_LatticeDual (_N : Nat) (x : Dens Ks_keep_LatticeDual) : Option Rt_keep_LatticeDual := keep_LatticeDual_1 _N x.1
theorem E_keep_LatticeDual (_N : Nat) (x : Dens Ks_keep_LatticeDual) : exec (C_keep_LatticeDual _N) (bodyOf Tryd.f3) .none (argS 0 (kvals Ks_keep_LatticeDual x)) [] (finK (C_keep_LatticeDual _N) [.tmp 2] (finD Rk_keep_LatticeDual)) = D_keep_LatticeDual _N x :=
  (congrArg (fun K => exec (C_keep_LatticeDual _N) (bodyOf Tryd.f3) .none (argS 0 (kvals Ks_keep_LatticeDual x)) [] K) canonR_fin).trans (keep_LatticeDual_1e _N x.1)
theorem ok_keep_LatticeDual (_N : Nat) : CtxOk Tryd.prog Gs Tryd.f3 (C_keep_LatticeDual _N) := ⟨rfl, by unfold TOk; kernel_rfl, gOk_of rfl rfl (List.forall_mem_cons.2 ⟨qen_keep_open _N, (List.forall_mem_cons.2 ⟨qen_order_Dual _N, (List.forall_mem_cons.2 ⟨qen_lattice_Make _N, (List.forall_mem_cons.2 ⟨en_ref_TimesSame _N, (List.forall_mem_cons.2 ⟨en_lattice_Kind _N, (List.forall_mem_nil _)⟩)⟩)⟩)⟩)⟩), iOk_of rfl rfl (List.forall_mem_nil _), rfl⟩
theorem hb_keep_LatticeDual : HasBody Tryd.prog 3 := ⟨Tryd.f3, bodyOf Tryd.f3, by kernel_rfl, by kernel_rfl, rfl⟩
theorem sp_keep_LatticeDual (_N : Nat) : SpecD Tryd.prog Gs 3 Ks_keep_LatticeDual Rk_keep_LatticeDual (D_keep_LatticeDual _N) := specD_of (c := bodyOf Tryd.f3) (by kernel_rfl) rfl (by kernel_rfl) (Nat.le_of_ble_eq_true (by kernel_rfl)) fun x y _h => ⟨C_keep_LatticeDual _N, .none, ok_keep_LatticeDual _N, (E_keep_LatticeDual _N x).trans _h⟩
theorem en_keep_LatticeDual (_N : Nat) : EntOk Tryd.prog Gs (mkP 3 Ks_keep_LatticeDual Rk_keep_LatticeDual (D_keep_LatticeDual _N)) := entP hb_keep_LatticeDual (by kernel_rfl) (sp_keep_LatticeDual _N)
theorem same_self {N : Nat} {xs : List Int} (hN : xs.length < N) (hl : xs.length ≤ 9223372036854775807) : D_ref_TimesSame N (xs, xs, ()) = some (true, ()) := by
  simp only [D_ref_TimesSame, ref_TimesSame_11, ref_TimesSame_10, ref_TimesSame_9, ref_TimesSame_7, ref_TimesSame_6, ref_TimesSame_3, ref_TimesSame_2, ref_TimesSame_1, bne_self_eq_false, cond_false]
  unfold ref_TimesSame_5
  refine loopD_passU (n := xs.length) (fun i hi kn => ?_) (fun kn => by simp only [ref_TimesSame_4, lt_self, cond_false, ref_TimesSame_8]) hN
  simp only [ref_TimesSame_4, lt_d hi, ge0_d, Bool.and_self, cond_true, Int.toNat_natCast, bne_self_eq_false, cond_false, w64 (show -9223372036854775808 ≤ (i : Int) + 1 by omega) (show (i : Int) + 1 ≤ 9223372036854775807 by omega)]
theorem IsLat.eqL {m : Nat} {up up' J M J' M' : List Int} {B T B' T' : Int} (h : IsLat m up J M B T) (h' : IsLat m up' J' M' B' T') (he : ∀ i j, i < m → j < m → (le up' j i ↔ le up i j)) : J = M' ∧ M = J' ∧ B.toNat = T'.toNat ∧ T.toNat = B'.toNat := by
  obtain ⟨u1, u2, u3, u4⟩ := h.lat.uniq (h'.lat.swap fun i j hi hj => (he j i hj hi).symm)
  refine ⟨ext_nth (by rw [h.jl, h'.ml]) fun i hi => ?_, ext_nth (by rw [h.ml, h'.jl]) fun i hi => ?_, u3, u4⟩
  · obtain ⟨a, b, ha, hb, rfl⟩ := place (by rw [← h.jl]; exact hi)
    rw [h.jn a b ha hb, h'.mn a b ha hb, u1 a b ha hb]
  · obtain ⟨a, b, ha, hb, rfl⟩ := place (by rw [← h.ml]; exact hi)
    rw [h.mn a b ha hb, h'.jn a b ha hb, u2 a b ha hb]
theorem law_LatticeDual (o : Int × List Int) (ho : wfS (.pair (.int .i64) (.sl (.int .u32))) o) : ∃ N, D_keep_LatticeDual N (o, ()) = some (true, ()) := by
  obtain ⟨n, up⟩ := o
  have hw : WL up := WL_of ho.2
  refine ⟨1000, ?_⟩
  simp only [D_keep_LatticeDual, keep_LatticeDual_1]
  have hwr : ∃ r, D_keep_open 1000 ((n, up), ()) = some r ∧ r.1.2.2 = false := by
    rcases open_spec (N := 1000) (Nat.le_refl _) hw n with ⟨e, he, h0, -, h1⟩ | ⟨m, J, M, b, t, rfl, hm, hlu, h, hL, h0, h1⟩
    · exact ⟨_, h1, rfl⟩
    · exact ⟨_, h1, rfl⟩
  obtain ⟨r, r1, r2⟩ := hwr
  simp only [r1, Option.bind_some, r2, cond_false]
  by_cases h : Ord n up
  case neg =>
    obtain ⟨e, k1, k2⟩ := Check_spec (N := 1000) (by omega) hw n
    have he : e ≠ 0 := fun h' => h (k2.1 h')
    have hne : (e != 0) = true := bne_iff_ne.2 he
    simp only [D_order_Dual, order_Dual_1, k1, Option.bind_some, hne, cond_true]
  have hwd : WL (colsS up n up.length) := WL.colsS _ _ _
  have hd := h.dual
  have hled : ∀ i j, i < n.toNat → j < n.toNat → (le (colsS up n up.length) j i ↔ le up i j) := fun i j hi hj => le_dual h hi hj
  simp only [Dual_eq (N := 1000) (by omega) hw h, Option.bind_some, bne_self_eq_false, cond_false, D_lattice_Make, lattice_Make_1]
  generalize colsS up n up.length = dn at *
  rcases LatOf_spec (N := 1000) (Nat.le_refl _) hw n with ⟨e, he, h1, h2⟩ | ⟨m, J, M, B, T, rfl, ho, hL, h1⟩
  · obtain ⟨rfl, hnl⟩ := h2 h
    rcases LatOf_spec (N := 1000) (Nat.le_refl _) hwd n with ⟨e, he', q1, q2⟩ | ⟨m, J, M, B, T, rfl, ho, hL, q1⟩
    · obtain ⟨rfl, -⟩ := q2 hd
      simp only [h1, q1, Option.bind_some, bne_self_eq_false, cond_false, same_self (N := 1000) (xs := []) (by simp) (by simp), Bool.not_true, Kind_err he h1, Kind_err he' q1, beq_self_eq_true, cond_true]
    · exact absurd ⟨_, _, _, _, hL.lat.swap fun i j hi hj => (hled j i (by omega) (by omega)).symm⟩ hnl
  · rcases LatOf_spec (N := 1000) (Nat.le_refl _) hwd (m : Int) with ⟨e, he', q1, q2⟩ | ⟨m', J', M', B', T', hmm, ho', hL', q1⟩
    · exact absurd ⟨_, _, _, _, hL.lat.swap fun i j hi hj => hled i j (by omega) (by omega)⟩ (q2 hd).2
    · obtain rfl : m = m' := by omega
      have hm : m ≤ 16 := by have := ho.h1; omega
      have hmm2 : m * m ≤ 16 * 16 := Nat.mul_le_mul hm hm
      obtain ⟨rfl, rfl, hb, ht⟩ := hL.eqL hL' fun i j hi hj => hled i j (by omega) (by omega)
      obtain ⟨b, rfl⟩ : ∃ b : Nat, B = (b : Int) := ⟨B.toNat, by have := hL.b0; omega⟩
      obtain ⟨t, rfl⟩ : ∃ t : Nat, T = (t : Int) := ⟨T.toNat, by have := hL.t0; omega⟩
      obtain ⟨b', rfl⟩ : ∃ b : Nat, B' = (b : Int) := ⟨B'.toNat, by have := hL'.b0; omega⟩
      obtain ⟨t', rfl⟩ : ∃ t : Nat, T' = (t : Int) := ⟨T'.toNat, by have := hL'.t0; omega⟩
      simp only [Int.toNat_natCast] at hb ht
      subst hb ht
      obtain ⟨d1, m1, c1, A1, B1, C1, hK1, k1, k2, k3⟩ := Kind_spec (N := 1000) (Nat.le_refl _) hw h hL h1
      obtain ⟨d2, m2, c2, A2, B2, C2, hK2, k4, k5, k6⟩ := Kind_spec (N := 1000) (Nat.le_refl _) hwd hd hL' q1
      have e1 : d1 = d2 := Bool.eq_iff_iff.2 (k1.trans ((Iff.intro hL.lat.dist_dual hL.lat.turn.dist_dual).trans k4.symm))
      have e2 : m1 = m2 := Bool.eq_iff_iff.2 (k2.trans (Iff.trans ⟨fun e x y z hx hy hz hxz => hL.lat.modu_turn e x y z hx hy hz ((hled z x (by omega) (by omega)).1 hxz), fun e => hL.lat.turn.modu_turn fun x y z hx hy hz hxz => e x y z hx hy hz ((hled z x (by omega) (by omega)).2 hxz)⟩ k5.symm))
      have e3 : c1 = c2 := Bool.eq_iff_iff.2 (k3.trans (Iff.trans ⟨fun e a ha => by obtain ⟨c, g1, g2, g3⟩ := e a ha; exact ⟨c, g1, g3, g2⟩, fun e a ha => by obtain ⟨c, g1, g2, g3⟩ := e a ha; exact ⟨c, g1, g3, g2⟩⟩ k6.symm))
      subst e1 e2 e3
      simp only [h1, q1, Option.bind_some, bne_self_eq_false, cond_false, same_self (N := 1000) (xs := J) (by rw [hL.jl]; omega) (by rw [hL.jl]; omega), same_self (N := 1000) (xs := M) (by rw [hL.ml]; omega) (by rw [hL.ml]; omega), Bool.not_true, hK1, hK2, beq_self_eq_true, cond_true]
set_option maxRecDepth 100000 in
theorem lifted_LatticeDual (os : Os) (started : os.Started) (H : Type) (enc : TypeId × Value → H) :
    ReturnsInHanded {} Tryd.checked os 3 .any (fun w args => (Rows.latticeDualSpec.pre enc Tryd.prog Tryd.f3 [] false w args ∧ laidMetH Tryd.prog Rows.latticeDualRow.laid w) ∧ sizedMet enc Tryd.prog Tryd.f3 (OpenSpec.ofChange Rows.latticeDualSpec) false w args) (Rows.latticeDualSpec.post enc Tryd.prog Tryd.f3 false true false false) := by
  refine returnsInHanded_of_change_and (C := Tryd.checked) (X := fun w _ => laidMetH Tryd.prog Rows.latticeDualRow.laid w) (fun _ _ _ hh h => h.of_heap hh) own started (by kernel_rfl) Tryd.func3
    (ChangeSpec.witness_shaped (enc := enc) (C := Tryd.checked) (os := os) (X := fun w _ => laidMetH Tryd.prog Rows.latticeDualRow.laid w) false (World.doorLaid Tryd.prog 400 os) #[.agg #[.int .i64 0, .slice none 0 0]] 8 rfl (World.shaped_of_RefB (by kernel_rfl) (by kernel_rfl)) (by kernel_rfl) (by kernel_rfl) (by kernel_rfl) (door_met os _)) ?_
  intro W base args ds gs before hval0 hW _ hsz0 hL _
  have hgw : GW Gs W := gw_of hL
  have hval : ∀ (j : Nat) t v, Tryd.f3.params[j]? = some t → args[j]? = some v → Value.okWide Tryd.prog W .any base t v := hval0
  have hW' := hW
  obtain ⟨p, q, hA0, hV, rfl, _, _⟩ := hW
  have hA : DataW.TrodAll enc Tryd.prog W 0 (fun _ => true) true Tryd.f3.params.toList args.toList ds p := hA0
  rw [Tryd.params3] at hA hval
  obtain ⟨v0, vs0, d0, ds0, p0, q0, hargs, rfl, rfl, h0, r0⟩ := trodAll_cons hA
  obtain ⟨rfl, rfl, rfl⟩ := trodAll_nil r0
  obtain rfl : args = #[v0] := by cases args; simp_all
  obtain ⟨rfl, rfl⟩ := trodVars_none hV
  clear hA0 hval0 hsz0
  simp only [List.append_nil] at hW'
  have hlt0 : ∀ x ∈ p0, x.block < W.heap.size := fun x hx => hW'.lt x (by simp [hx])
  obtain ⟨x0, g0, w0⟩ := open_kd (k := .dat (.pair (.int .i64) (.sl (.int .u32)))) (by kernel_rfl) (hval 0 24 v0 rfl rfl) h0
  obtain ⟨N, hN⟩ := law_LatticeDual x0 w0
  refine (sp_keep_LatticeDual N (fun _ => False) W (x0, ()) (true, ()) [v0] (fun _ h => h.elim) hgw ⟨v0, _, rfl, g0, rfl⟩ hN).mono ?_
  rintro e W' ⟨v, rfl, hg, hr⟩
  have hr : v = .bool true := by simpa only [kvals, retV, Kd.val, Go.Abs.enc, RV] using hr
  subst hr
  exact ⟨_, rfl, _, _, _, [], p0 ++ [], [], hW', (trodAll_cons_mk (shut_bool (show Tryd.prog.underlying 4 = some .bool by kernel_rfl) _) trodAll_mk0), (trodAll_cons_mk (Below.trod laidOut (by kernel_rfl) (of_decide_eq_true (by kernel_rfl)) h0 hg hlt0) trodAll_mk0), rfl, hg.frame _, fun h => by cases h⟩

/-- The statement: whatever the arguments, the law's function returns true and leaves them as they were. -/
theorem latticeDual_holds : Rows.LatticeDualSaid :=
  OpenClaim.holds_of_wide 3 Tryd.f3 rfl rfl rfl rfl rfl rfl rfl ⟨rfl, rfl, rfl, rfl, rfl⟩ rfl rfl rfl rfl rfl (by kernel_rfl) Tryd.func3 (by kernel_rfl)
    (of_decide_eq_true (by kernel_rfl)) (by unfold Func.isWrapper; first | (rw [if_pos (by decide +kernel)]; kernel_rfl) | (rw [if_neg (by decide +kernel)]; exact ⟨rfl, rfl⟩))
    (fun os started H enc _ => lifted_LatticeDual os started H enc)
/-- The statement's card: the variable that the road reads is tied to the program's text. -/
theorem latticeDual_card : Rows.LatticeDualCardSaid :=
  Claim7.holds_tied_plain_at .later [] [.data] true (true, "f7a6d2b8554754a98a473bd2733a624cf4bb6698be02ac50fe61eaa0509daf44") false latticeDual_holds (fun _ h => by cases h) (by kernel_rfl) (fun _ h => by cases h) latticeDual_row_tie rfl ⟨rfl, rfl⟩ (by kernel_rfl) rfl
    (fun f fn hf hfn => by
      obtain rfl : f = 3 := Option.some.inj ((show Tryd.prog.funcNamed "watershed/watershedkeep.LatticeDual" = some 3 by kernel_rfl).symm.trans hf) |>.symm
      obtain rfl : fn = Tryd.f3 := (Option.some.inj (Tryd.func3.symm.trans hfn)).symm
      exact ⟨by kernel_rfl, fun j t ht => by
        have h3 := List.all_eq_true.1 (show (Tryd.f3.params.toList.all fun t => !(Tryd.prog.wantsStandIn t)) = true by kernel_rfl) t (by rw [← Array.getElem?_toList] at ht; exact List.mem_of_getElem? ht)
        have h4 : Tryd.prog.wantsStandIn t = false := by simpa using h3
        exact h4⟩)
    (by kernel_rfl)
end Go.Proofs.YtdbjfdjpmoackaaDoor
