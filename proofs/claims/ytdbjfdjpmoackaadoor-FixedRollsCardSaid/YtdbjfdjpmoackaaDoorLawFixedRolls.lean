/- What comes of Bottom by one map behind another is what the one makes of what comes of it by the other behind the one: the law answers true for every order and any two maps. No condition. -/
import Derived.Test.YtdbjfdjpmoackaaDoorFixedS
import Derived.Test.YtdbjfdjpmoackaaDoorFrame
namespace Go.Proofs.YtdbjfdjpmoackaaDoor
open Go Go.ChangeShapes Go.WideShapes Go.ChangeAt Go.WideMaps Go.WideElems Go.RowKit Go.Abs
-- watershed/watershedkeep.composed
abbrev Ks_keep_composed : List Kd := [.dat (.sl (.int .i64)), .dat (.sl (.int .i64))]
abbrev Rt_keep_composed : Type := List Int
def T_keep_composed : List (Nat × TE) := [(3, ⟨.int .i64, 1, 8, some (.int .i64), [.int .i64 (0 : Int)]⟩),
  (25, ⟨.slice 3, 1, 24, some (.sl (.int .i64)), [.nil]⟩)]
noncomputable def C_keep_composed (_N : Nat) : Ctx := { T := T_keep_composed, G := findE [], I := findI [], N := _N, n := 23, fx := [0], fl := 0, gs := Gs }
noncomputable def keep_composed_1 (_N : Nat) (_k6 : Option Rt_keep_composed) : Option Rt_keep_composed :=
  _k6
theorem keep_composed_1e (_N : Nat) (_x1 : List Int) (_x2 : List Int) (_k6 : Slots → List O → Option Rt_keep_composed) :
    exec (C_keep_composed _N) (cAt (bodyOf Tryd.f33) [0]) .none [(0, .sl (.int .i64) _x1), (1, .sl (.int .i64) _x2)] [] (canonK [0] _k6 [0, 1] 0 (fun _i _t _h => none) (fun _t _h => finK (C_keep_composed _N) [.tmp 4] (finF 3 (.int .i64)) .ret _t _h)) = keep_composed_1 _N (_k6 [(0, .sl (.int .i64) _x1), (1, .sl (.int .i64) _x2)] []) :=
  by kernel_rfl
noncomputable def keep_composed_2 (_N : Nat) (_k7 : Option Rt_keep_composed) : Option Rt_keep_composed :=
  _k7
theorem keep_composed_2e (_N : Nat) (_x1 : List Int) (_x2 : List Int) (_k7 : Slots → List O → Option Rt_keep_composed) :
    exec (C_keep_composed _N) (cAt (bodyOf Tryd.f33) [1, 0]) .none [(0, .sl (.int .i64) _x1), (1, .sl (.int .i64) _x2)] [] (canonK [0] _k7 [0, 1, 5] 0 (fun _i _t _h => none) (fun _t _h => finK (C_keep_composed _N) [.tmp 4] (finF 3 (.int .i64)) .ret _t _h)) = keep_composed_2 _N (_k7 [(0, .sl (.int .i64) _x1), (1, .sl (.int .i64) _x2), (5, .nil)] []) :=
  by kernel_rfl
noncomputable def keep_composed_3 (_N : Nat) (_k9 : Option Rt_keep_composed) : Option Rt_keep_composed :=
  _k9
theorem keep_composed_3e (_N : Nat) (_x1 : List Int) (_x2 : List Int) (_k9 : Slots → List O → Option Rt_keep_composed) :
    exec (C_keep_composed _N) (cAt (bodyOf Tryd.f33) [1, 1, 0, 0]) .none [(0, .sl (.int .i64) _x1), (1, .sl (.int .i64) _x2), (5, .nil)] [] (canonK [0] _k9 [0, 5, 8, 9, 10] 0 (fun _i _t _h => none) (fun _t _h => finK (C_keep_composed _N) [.tmp 4] (finF 3 (.int .i64)) .ret _t _h)) = keep_composed_3 _N (_k9 [(0, .sl (.int .i64) _x1), (5, .nil), (8, .sl (.int .i64) _x2), (9, .int .i64 (_x2.length : Int)), (10, .int .i64 (0 : Int))] []) :=
  by kernel_rfl
noncomputable def keep_composed_4 (_N : Nat) (_x1 : List Int) (_x2 : List Int) (_v1 : Int) (_v2 : List Int) (_k10 : Int → (List Int) → Option Rt_keep_composed) (_k8 : (List Int) → Option Rt_keep_composed) : Option Rt_keep_composed :=
  (bif (decide (_v1 < (_x2.length : Int))) then (bif (decide (0 ≤ _v1) && decide (_v1 < (_x2.length : Int))) then (bif (decide (0 ≤ (nth (0 : Int) _x2 (_v1).toNat)) && decide ((nth (0 : Int) _x2 (_v1).toNat) < (_x1.length : Int))) then (bif (decide ((_v2.length + ([(nth (0 : Int) _x1 (nth (0 : Int) _x2 (_v1).toNat).toNat)]).length) * 8 ≤ 70368744177664) && Nat.ble 1 8) then (_k10 (IntKind.i64.wrap (_v1 + (1 : Int))) (_v2 ++ [(nth (0 : Int) _x1 (nth (0 : Int) _x2 (_v1).toNat).toNat)])) else none) else none) else none) else (_k8 _v2))
theorem keep_composed_4e (_N : Nat) (_x1 : List Int) (_x2 : List Int) (_v1 : Int) (_v2 : List Int) (_k10 _k8 : Slots → List O → Option Rt_keep_composed) :
    exec (C_keep_composed _N) (cAt (bodyOf Tryd.f33) [1, 1, 0, 1, 0, 0]) .none [(0, .sl (.int .i64) _x1), (5, .slc 0 0), (8, .sl (.int .i64) _x2), (9, .int .i64 (_x2.length : Int)), (10, .int .i64 _v1)] [.row false 0 3 (.int .i64) _v2] (canonK [0] _k10 [0, 5, 8, 9, 10] 1 (fun _i _t _h => bif Nat.beq _i 0 then _k8 (cvT [0] [5] 1 _t _h) (cvH [0] 1 _h) else none) (fun _t _h => finK (C_keep_composed _N) [.tmp 4] (finF 3 (.int .i64)) .ret _t _h)) = keep_composed_4 _N _x1 _x2 _v1 _v2 (fun _v1 _v2 => _k10 [(0, .sl (.int .i64) _x1), (5, .slc 0 0), (8, .sl (.int .i64) _x2), (9, .int .i64 (_x2.length : Int)), (10, .int .i64 _v1)] [.row false 0 3 (.int .i64) _v2]) (fun _v5 => _k8 [(5, .slc 0 0)] [.row false 0 3 (.int .i64) _v5]) :=
  by kernel_rfl
noncomputable def keep_composed_5 (_N : Nat) (_x1 : List Int) (_x2 : List Int) (_k8 : (List Int) → Option Rt_keep_composed) : Option Rt_keep_composed :=
  loopD (fun (_s : Int × List Int) _kn => keep_composed_4 _N _x1 _x2 _s.1 _s.2 (fun _v1 _v2 => _kn (_v1, _v2)) _k8) _N ((0 : Int), [])
theorem keep_composed_5e (_N : Nat) (_x1 : List Int) (_x2 : List Int) (_k8 : Slots → List O → Option Rt_keep_composed) :
    exec (C_keep_composed _N) (cAt (bodyOf Tryd.f33) [1, 1, 0, 1, 0]) (.obj 5 3 (.int .i64) (.loop [0, 5, 8, 9, 10] 1 .none)) [(0, .sl (.int .i64) _x1), (5, .nil), (8, .sl (.int .i64) _x2), (9, .int .i64 (_x2.length : Int)), (10, .int .i64 (0 : Int))] [] (canonK [0] _k8 [5] 1 (fun _i _t _h => bif Nat.beq _i 0 then _k8 (cvT [0] [5] 1 _t _h) (cvH [0] 1 _h) else none) (fun _t _h => finK (C_keep_composed _N) [.tmp 4] (finF 3 (.int .i64)) .ret _t _h)) = keep_composed_5 _N _x1 _x2 (fun _v5 => _k8 [(5, .slc 0 0)] [.row false 0 3 (.int .i64) _v5]) :=
  (exec_obj _ (by kernel_rfl) rfl (t' := (5, .slc 0 0) :: [(0, .sl (.int .i64) _x1), (5, .nil), (8, .sl (.int .i64) _x2), (9, .int .i64 (_x2.length : Int)), (10, .int .i64 (0 : Int))]) (h' := [.row false 0 3 (.int .i64) ([])]) (by kernel_rfl) (by kernel_rfl)).trans ((loop_frag (by kernel_rfl) rfl (by kernel_rfl) (by kernel_rfl)).trans (loopN_sim (S := Int × List Int) (fun _s => [(0, .sl (.int .i64) _x1), (5, .slc 0 0), (8, .sl (.int .i64) _x2), (9, .int .i64 (_x2.length : Int)), (10, .int .i64 _s.1)]) (fun _s => [.row false 0 3 (.int .i64) _s.2]) (fun _s _kn => keep_composed_4e _N _x1 _x2 _s.1 _s.2 _kn _k8) _N ((0 : Int), [])))
noncomputable def keep_composed_6 (_N : Nat) (_x1 : List Int) (_x2 : List Int) (_k8 : (List Int) → Option Rt_keep_composed) : Option Rt_keep_composed :=
  keep_composed_5 _N _x1 _x2 _k8
theorem keep_composed_6e (_N : Nat) (_x1 : List Int) (_x2 : List Int) (_k8 : Slots → List O → Option Rt_keep_composed) :
    exec (C_keep_composed _N) (cAt (bodyOf Tryd.f33) [1, 1, 0, 1]) (.one (.obj 5 3 (.int .i64) (.loop [0, 5, 8, 9, 10] 1 .none))) [(0, .sl (.int .i64) _x1), (5, .nil), (8, .sl (.int .i64) _x2), (9, .int .i64 (_x2.length : Int)), (10, .int .i64 (0 : Int))] [] (canonK [0] _k8 [5] 1 (fun _i _t _h => none) (fun _t _h => finK (C_keep_composed _N) [.tmp 4] (finF 3 (.int .i64)) .ret _t _h)) = keep_composed_6 _N _x1 _x2 (fun _v5 => _k8 [(5, .slc 0 0)] [.row false 0 3 (.int .i64) _v5]) :=
  (block_canon (by kernel_rfl)).trans (keep_composed_5e _N _x1 _x2 _k8)
noncomputable def keep_composed_7 (_N : Nat) (_x1 : List Int) (_x2 : List Int) (_k8 : (List Int) → Option Rt_keep_composed) : Option Rt_keep_composed :=
  keep_composed_3 _N (keep_composed_6 _N _x1 _x2 _k8)
theorem keep_composed_7e (_N : Nat) (_x1 : List Int) (_x2 : List Int) (_k8 : Slots → List O → Option Rt_keep_composed) :
    exec (C_keep_composed _N) (cAt (bodyOf Tryd.f33) [1, 1, 0]) (.two .none (.keep [0, 5, 8, 9, 10] 0 (.one (.obj 5 3 (.int .i64) (.loop [0, 5, 8, 9, 10] 1 .none))))) [(0, .sl (.int .i64) _x1), (1, .sl (.int .i64) _x2), (5, .nil)] [] (canonK [0] _k8 [5] 1 (fun _i _t _h => none) (fun _t _h => finK (C_keep_composed _N) [.tmp 4] (finF 3 (.int .i64)) .ret _t _h)) = keep_composed_7 _N _x1 _x2 (fun _v5 => _k8 [(5, .slc 0 0)] [.row false 0 3 (.int .i64) _v5]) :=
  (seq_frag (by kernel_rfl) rfl).trans ((keep_composed_3e _N _x1 _x2 (fun _t _h => exec (C_keep_composed _N) (cAt (bodyOf Tryd.f33) [1, 1, 0, 1]) (.one (.obj 5 3 (.int .i64) (.loop [0, 5, 8, 9, 10] 1 .none))) _t _h (canonK [0] _k8 [5] 1 (fun _i _t _h => none) (fun _t _h => finK (C_keep_composed _N) [.tmp 4] (finF 3 (.int .i64)) .ret _t _h)))).trans (congrArg (fun _z => keep_composed_3 _N _z) (keep_composed_6e _N _x1 _x2 _k8)))
noncomputable def keep_composed_8 (_N : Nat) (_v5 : List Int) : Option Rt_keep_composed :=
  (some _v5)
theorem keep_composed_8e (_N : Nat) (_x1 : List Int) (_x2 : List Int) (_v5 : List Int) :
    exec (C_keep_composed _N) (cAt (bodyOf Tryd.f33) [1, 1, 1]) .none [(5, .slc 0 0)] [.row false 0 3 (.int .i64) _v5] (canonR (fun _i _t _h => none) (finK (C_keep_composed _N) [.tmp 4] (finF 3 (.int .i64)))) = keep_composed_8 _N _v5 :=
  by kernel_rfl
noncomputable def keep_composed_9 (_N : Nat) (_x1 : List Int) (_x2 : List Int) : Option Rt_keep_composed :=
  keep_composed_7 _N _x1 _x2 (fun _v5 => keep_composed_8 _N _v5)
theorem keep_composed_9e (_N : Nat) (_x1 : List Int) (_x2 : List Int) :
    exec (C_keep_composed _N) (cAt (bodyOf Tryd.f33) [1, 1]) (.two (.two .none (.keep [0, 5, 8, 9, 10] 0 (.one (.obj 5 3 (.int .i64) (.loop [0, 5, 8, 9, 10] 1 .none))))) (.keep [5] 1 .none)) [(0, .sl (.int .i64) _x1), (1, .sl (.int .i64) _x2), (5, .nil)] [] (canonR (fun _i _t _h => none) (finK (C_keep_composed _N) [.tmp 4] (finF 3 (.int .i64)))) = keep_composed_9 _N _x1 _x2 :=
  (seq_frag (by kernel_rfl) rfl).trans ((keep_composed_7e _N _x1 _x2 (fun _t _h => exec (C_keep_composed _N) (cAt (bodyOf Tryd.f33) [1, 1, 1]) .none _t _h (canonR (fun _i _t _h => none) (finK (C_keep_composed _N) [.tmp 4] (finF 3 (.int .i64)))))).trans (congrArg (fun _z => keep_composed_7 _N _x1 _x2 _z) (funext fun _v5 => keep_composed_8e _N _x1 _x2 _v5)))
noncomputable def keep_composed_10 (_N : Nat) (_x1 : List Int) (_x2 : List Int) : Option Rt_keep_composed :=
  keep_composed_2 _N (keep_composed_9 _N _x1 _x2)
theorem keep_composed_10e (_N : Nat) (_x1 : List Int) (_x2 : List Int) :
    exec (C_keep_composed _N) (cAt (bodyOf Tryd.f33) [1]) (.two .none (.keep [0, 1, 5] 0 (.two (.two .none (.keep [0, 5, 8, 9, 10] 0 (.one (.obj 5 3 (.int .i64) (.loop [0, 5, 8, 9, 10] 1 .none))))) (.keep [5] 1 .none)))) [(0, .sl (.int .i64) _x1), (1, .sl (.int .i64) _x2)] [] (canonR (fun _i _t _h => none) (finK (C_keep_composed _N) [.tmp 4] (finF 3 (.int .i64)))) = keep_composed_10 _N _x1 _x2 :=
  (seq_frag (by kernel_rfl) rfl).trans ((keep_composed_2e _N _x1 _x2 (fun _t _h => exec (C_keep_composed _N) (cAt (bodyOf Tryd.f33) [1, 1]) (.two (.two .none (.keep [0, 5, 8, 9, 10] 0 (.one (.obj 5 3 (.int .i64) (.loop [0, 5, 8, 9, 10] 1 .none))))) (.keep [5] 1 .none)) _t _h (canonR (fun _i _t _h => none) (finK (C_keep_composed _N) [.tmp 4] (finF 3 (.int .i64)))))).trans (congrArg (fun _z => keep_composed_2 _N _z) (keep_composed_9e _N _x1 _x2)))
noncomputable def keep_composed_11 (_N : Nat) (_x1 : List Int) (_x2 : List Int) : Option Rt_keep_composed :=
  keep_composed_1 _N (keep_composed_10 _N _x1 _x2)
theorem keep_composed_11e (_N : Nat) (_x1 : List Int) (_x2 : List Int) :
    exec (C_keep_composed _N) (cAt (bodyOf Tryd.f33) []) (.two .none (.keep [0, 1] 0 (.two .none (.keep [0, 1, 5] 0 (.two (.two .none (.keep [0, 5, 8, 9, 10] 0 (.one (.obj 5 3 (.int .i64) (.loop [0, 5, 8, 9, 10] 1 .none))))) (.keep [5] 1 .none)))))) [(0, .sl (.int .i64) _x1), (1, .sl (.int .i64) _x2)] [] (canonR (fun _i _t _h => none) (finK (C_keep_composed _N) [.tmp 4] (finF 3 (.int .i64)))) = keep_composed_11 _N _x1 _x2 :=
  (seq_frag (by kernel_rfl) rfl).trans ((keep_composed_1e _N _x1 _x2 (fun _t _h => exec (C_keep_composed _N) (cAt (bodyOf Tryd.f33) [1]) (.two .none (.keep [0, 1, 5] 0 (.two (.two .none (.keep [0, 5, 8, 9, 10] 0 (.one (.obj 5 3 (.int .i64) (.loop [0, 5, 8, 9, 10] 1 .none))))) (.keep [5] 1 .none)))) _t _h (canonR (fun _i _t _h => none) (finK (C_keep_composed _N) [.tmp 4] (finF 3 (.int .i64)))))).trans (congrArg (fun _z => keep_composed_1 _N _z) (keep_composed_10e _N _x1 _x2)))
noncomputable def D_keep_composed (_N : Nat) (x : Dens Ks_keep_composed) : Option Rt_keep_composed := keep_composed_11 _N x.1 x.2.1
theorem E_keep_composed (_N : Nat) (x : Dens Ks_keep_composed) : exec (C_keep_composed _N) (bodyOf Tryd.f33) (.two .none (.keep [0, 1] 0 (.two .none (.keep [0, 1, 5] 0 (.two (.two .none (.keep [0, 5, 8, 9, 10] 0 (.one (.obj 5 3 (.int .i64) (.loop [0, 5, 8, 9, 10] 1 .none))))) (.keep [5] 1 .none)))))) (argS 0 (kvals Ks_keep_composed x)) [] (finK (C_keep_composed _N) [.tmp 4] (finF 3 (.int .i64))) = D_keep_composed _N x :=
  (congrArg (fun K => exec (C_keep_composed _N) (bodyOf Tryd.f33) (.two .none (.keep [0, 1] 0 (.two .none (.keep [0, 1, 5] 0 (.two (.two .none (.keep [0, 5, 8, 9, 10] 0 (.one (.obj 5 3 (.int .i64) (.loop [0, 5, 8, 9, 10] 1 .none))))) (.keep [5] 1 .none)))))) (argS 0 (kvals Ks_keep_composed x)) [] K) canonR_fin).trans (keep_composed_11e _N x.1 x.2.1)
theorem ok_keep_composed (_N : Nat) : CtxOk Tryd.prog Gs Tryd.f33 (C_keep_composed _N) := ⟨rfl, by unfold TOk; kernel_rfl, gOk_of rfl rfl (List.forall_mem_nil _), iOk_of rfl rfl (List.forall_mem_nil _), rfl⟩
theorem hb_keep_composed : HasBody Tryd.prog 33 := ⟨Tryd.f33, bodyOf Tryd.f33, by kernel_rfl, by kernel_rfl, rfl⟩
theorem sp_keep_composed (_N : Nat) : SpecF Tryd.prog Gs 33 Ks_keep_composed 3 (.int .i64) (D_keep_composed _N) := specF_of (c := bodyOf Tryd.f33) (by kernel_rfl) rfl (by kernel_rfl) (Nat.le_of_ble_eq_true (by kernel_rfl)) fun x y _h => ⟨C_keep_composed _N, (.two .none (.keep [0, 1] 0 (.two .none (.keep [0, 1, 5] 0 (.two (.two .none (.keep [0, 5, 8, 9, 10] 0 (.one (.obj 5 3 (.int .i64) (.loop [0, 5, 8, 9, 10] 1 .none))))) (.keep [5] 1 .none)))))), ok_keep_composed _N, (E_keep_composed _N x).trans _h⟩
theorem en_keep_composed (_N : Nat) : EntOk Tryd.prog Gs (mkF 33 Ks_keep_composed 3 (.int .i64) (D_keep_composed _N)) := entF hb_keep_composed (by kernel_rfl) (Nat.le_of_ble_eq_true (by kernel_rfl)) (sp_keep_composed _N)
theorem qen_keep_composed (_N : Nat) : EntOk Tryd.prog Gs (mkQ 33 Ks_keep_composed [.dat (.sl (.int .i64))] (fun x => (D_keep_composed _N x).map fun y => (y, ()))) := entQ hb_keep_composed (specD_of_F (sp_keep_composed _N))
-- watershed/watershedkeep.FixedRolls
abbrev Ks_keep_FixedRolls : List Kd := [.dat (.pair (.int .i64) (.sl (.int .u32))), .dat (.sl (.int .i64)), .dat (.sl (.int .i64))]
abbrev Rk_keep_FixedRolls : List Kd := [.dat (.bool)]
abbrev Rt_keep_FixedRolls : Type := Dens Rk_keep_FixedRolls
def T_keep_FixedRolls : List (Nat × TE) := [(3, ⟨.int .i64, 1, 8, some (.int .i64), [.int .i64 (0 : Int)]⟩),
  (24, ⟨.struct [(0, 3), (1, 22)], 2, 32, some (.pair (.int .i64) (.sl (.int .u32))), [.int .i64 (0 : Int), .nil]⟩),
  (25, ⟨.slice 3, 1, 24, some (.sl (.int .i64)), [.nil]⟩)]
noncomputable def C_keep_FixedRolls (_N : Nat) : Ctx := { T := T_keep_FixedRolls, G := findE [mkP 29 Ks_keep_mapped Rk_keep_mapped (D_keep_mapped _N), mkP 30 Ks_fixed_Check Rk_fixed_Check (D_fixed_Check _N), mkQ 33 Ks_keep_composed [.dat (.sl (.int .i64))] (fun x => (D_keep_composed _N x).map fun y => (y, ())), mkP 31 Ks_fixed_Least Rk_fixed_Least (D_fixed_Least _N), mkP 20 Ks_keep_within Rk_keep_within (D_keep_within _N)], I := findI [], N := _N, n := 74, fx := [], fl := 0, gs := Gs }
noncomputable def keep_FixedRolls_1 (_N : Nat) (_x1 : Int × List Int) (_x2 : List Int) (_x3 : List Int) : Option Rt_keep_FixedRolls :=
  ((D_keep_mapped _N ((_x1.1, _x1.2), _x2, ())).bind fun _y12 => (bif (!_y12.1) then ((D_fixed_Check _N ((_x1.1, _x1.2), _x2, ())).bind fun _y13 => (bif (_y13.1 != (0 : Int)) then (some (true, ())) else ((D_fixed_Check _N ((_x1.1, _x1.2), _x3, ())).bind fun _y14 => (some ((_y14.1 != (0 : Int)), ()))))) else ((D_keep_mapped _N ((_x1.1, _x1.2), _x3, ())).bind fun _y15 => (bif (!_y15.1) then ((D_fixed_Check _N ((_x1.1, _x1.2), _x2, ())).bind fun _y16 => (bif (_y16.1 != (0 : Int)) then (some (true, ())) else ((D_fixed_Check _N ((_x1.1, _x1.2), _x3, ())).bind fun _y17 => (some ((_y17.1 != (0 : Int)), ()))))) else (((fun x => (D_keep_composed _N x).map fun y => (y, ())) (_x2, _x3, ())).bind fun _y18 => ((D_fixed_Least _N ((_x1.1, _x1.2), _y18.1, ())).bind fun _y19 => (((fun x => (D_keep_composed _N x).map fun y => (y, ())) (_x3, _x2, ())).bind fun _y20 => ((D_fixed_Least _N ((_x1.1, _x1.2), _y20.1, ())).bind fun _y21 => (bif (_y19.2.2.1 != (0 : Int)) then (some ((_y19.2.2.1 == _y21.2.2.1), ())) else (bif (_y21.2.2.1 != (0 : Int)) then (some ((_y19.2.2.1 == _y21.2.2.1), ())) else ((D_keep_within _N (_x1.1, [_y19.1, _y21.1], ())).bind fun _y22 => (bif _y22.1 then (bif (decide (0 ≤ _y21.1) && decide (_y21.1 < (_x2.length : Int))) then (some ((_y19.1 == (nth (0 : Int) _x2 (_y21.1).toNat)), ())) else none) else (some (false, ()))))))))))))))
theorem keep_FixedRolls_1e (_N : Nat) (_x1 : Int × List Int) (_x2 : List Int) (_x3 : List Int) :
    exec (C_keep_FixedRolls _N) (cAt (bodyOf Tryd.f11) []) (.two .none (.two .none (.two (.draw 0 [.rd [0], .pure, .pure, .pure, .pure, .pure, .pure, .pure, .pure, .pure, .pure, .pure]) (.two (.draw 0 [.rd [0], .pure, .pure, .pure, .pure, .pure, .pure, .pure, .pure, .pure, .pure, .pure]) .none)))) [(0, .agg [.int .i64 _x1.1, .sl (.int .u32) _x1.2]), (1, .sl (.int .i64) _x2), (2, .sl (.int .i64) _x3)] [] (canonR (fun _i _t _h => none) (finK (C_keep_FixedRolls _N) [.tmp 6] (finD Rk_keep_FixedRolls))) = keep_FixedRolls_1 _N _x1 _x2 _x3 :=
  by kernel_rfl
noncomputable def D_keep_FixedRolls (_N : Nat) (x : Dens Ks_keep_FixedRolls) : Option Rt_keep_FixedRolls := keep_FixedRolls_1 _N x.1 x.2.1 x.2.2.1
theorem E_keep_FixedRolls (_N : Nat) (x : Dens Ks_keep_FixedRolls) : exec (C_keep_FixedRolls _N) (bodyOf Tryd.f11) (.two .none (.two .none (.two (.draw 0 [.rd [0], .pure, .pure, .pure, .pure, .pure, .pure, .pure, .pure, .pure, .pure, .pure]) (.two (.draw 0 [.rd [0], .pure, .pure, .pure, .pure, .pure, .pure, .pure, .pure, .pure, .pure, .pure]) .none)))) (argS 0 (kvals Ks_keep_FixedRolls x)) [] (finK (C_keep_FixedRolls _N) [.tmp 6] (finD Rk_keep_FixedRolls)) = D_keep_FixedRolls _N x :=
  (congrArg (fun K => exec (C_keep_FixedRolls _N) (bodyOf Tryd.f11) (.two .none (.two .none (.two (.draw 0 [.rd [0], .pure, .pure, .pure, .pure, .pure, .pure, .pure, .pure, .pure, .pure, .pure]) (.two (.draw 0 [.rd [0], .pure, .pure, .pure, .pure, .pure, .pure, .pure, .pure, .pure, .pure, .pure]) .none)))) (argS 0 (kvals Ks_keep_FixedRolls x)) [] K) canonR_fin).trans (keep_FixedRolls_1e _N x.1 x.2.1 x.2.2.1)
theorem ok_keep_FixedRolls (_N : Nat) : CtxOk Tryd.prog Gs Tryd.f11 (C_keep_FixedRolls _N) := ⟨rfl, by unfold TOk; kernel_rfl, gOk_of rfl rfl (List.forall_mem_cons.2 ⟨en_keep_mapped _N, (List.forall_mem_cons.2 ⟨en_fixed_Check _N, (List.forall_mem_cons.2 ⟨qen_keep_composed _N, (List.forall_mem_cons.2 ⟨en_fixed_Least _N, (List.forall_mem_cons.2 ⟨en_keep_within _N, (List.forall_mem_nil _)⟩)⟩)⟩)⟩)⟩), iOk_of rfl rfl (List.forall_mem_nil _), rfl⟩
theorem hb_keep_FixedRolls : HasBody Tryd.prog 11 := ⟨Tryd.f11, bodyOf Tryd.f11, by kernel_rfl, by kernel_rfl, rfl⟩
theorem sp_keep_FixedRolls (_N : Nat) : SpecD Tryd.prog Gs 11 Ks_keep_FixedRolls Rk_keep_FixedRolls (D_keep_FixedRolls _N) := specD_of (c := bodyOf Tryd.f11) (by kernel_rfl) rfl (by kernel_rfl) (Nat.le_of_ble_eq_true (by kernel_rfl)) fun x y _h => ⟨C_keep_FixedRolls _N, (.two .none (.two .none (.two (.draw 0 [.rd [0], .pure, .pure, .pure, .pure, .pure, .pure, .pure, .pure, .pure, .pure, .pure]) (.two (.draw 0 [.rd [0], .pure, .pure, .pure, .pure, .pure, .pure, .pure, .pure, .pure, .pure, .pure]) .none)))), ok_keep_FixedRolls _N, (E_keep_FixedRolls _N x).trans _h⟩
theorem en_keep_FixedRolls (_N : Nat) : EntOk Tryd.prog Gs (mkP 11 Ks_keep_FixedRolls Rk_keep_FixedRolls (D_keep_FixedRolls _N)) := entP hb_keep_FixedRolls (by kernel_rfl) (sp_keep_FixedRolls _N)
def compL (f g : List Int) (t : Nat) : List Int := (List.range t).map fun i => nth 0 f (nth 0 g i).toNat
theorem composed_eq {N m : Nat} {up f g : List Int} (hN : 1000 ≤ N) (hm : m ≤ 16) (hf : Mapd m up f) (hg : Mapd m up g) : D_keep_composed N (f, g, ()) = some (compL f g m) := by
  have hlf := hf.len
  have hlg := hg.len
  simp only [D_keep_composed, keep_composed_11, keep_composed_10, keep_composed_9, keep_composed_7, keep_composed_6, keep_composed_3, keep_composed_2, keep_composed_1]
  unfold keep_composed_5
  refine loopD_path (N := N) m (fun t => ((t : Int), compL f g t)) (fun t ht kn => ?_) (fun kn => ?_) (by omega)
  · have h1 := hg.lt t ht
    simp only [keep_composed_4, lt_d (show t < g.length by omega), cond_true, ge0_d, Bool.and_self, Int.toNat_natCast, hg.val t ht, lt_d (show fm g t < f.length by omega), w1 hm ht]
    rw [d_true (by simp [compL]; omega)]
    simp only [Bool.true_and, show Nat.ble 1 8 = true from rfl, cond_true, compL, List.range_succ, List.map_append, List.map_cons, List.map_nil, hg.val t ht, Int.toNat_natCast]
    rfl
  · simp only [keep_composed_4, hlg, lt_self, cond_false, keep_composed_8]
theorem compL_mapd {m : Nat} {up f g : List Int} (hf : Mapd m up f) (hg : Mapd m up g) : Mapd m up (compL f g m) ∧ ∀ i, i < m → fm (compL f g m) i = fm f (fm g i) := by
  have hn : ∀ i, i < m → nth 0 (compL f g m) i = nth 0 f (fm g i) := fun i hi => by
    unfold compL
    rw [nth_lt (by simp; exact hi)]
    simp [fm]
  have hv : ∀ i, i < m → fm (compL f g m) i = fm f (fm g i) := fun i hi => by unfold fm; rw [hn i hi]; rfl
  have hl : (compL f g m).length = m := by simp [compL]
  refine ⟨⟨hl, allIn_iff.2 ?_, fun a b ha hb e => ?_⟩, hv⟩
  · rintro ⟨i, hi, hb⟩
    rw [hl] at hi
    rw [hn i hi, hf.val _ (hg.lt i hi)] at hb
    have := hf.lt _ (hg.lt i hi)
    omega
  · rw [hv a ha, hv b hb]
    exact hf.mono _ _ (hg.lt a ha) (hg.lt b hb) (hg.mono a b ha hb e)
theorem law_FixedRolls (o : Int × List Int) (f g : List Int) (ho : wfS (.pair (.int .i64) (.sl (.int .u32))) o) (hf : wfS (.sl (.int .i64)) f) (hg : wfS (.sl (.int .i64)) g) : ∃ N, D_keep_FixedRolls N (o, f, g, ()) = some (true, ()) := by
  obtain ⟨n, up⟩ := o
  have hw : WL up := WL_of ho.2
  have hl : f.length ≤ 9223372036854775807 := hf.1
  have hl2 : g.length ≤ 9223372036854775807 := hg.1
  refine ⟨1000 + f.length + g.length, ?_⟩
  have hN : 1000 ≤ 1000 + f.length + g.length := by omega
  have hfN : f.length < 1000 + f.length + g.length := by omega
  have hgN : g.length < 1000 + f.length + g.length := by omega
  generalize 1000 + f.length + g.length = N at hN hfN hgN
  obtain ⟨b1, m1, m2⟩ := mapped_eq hN hfN hl hw (n := n)
  obtain ⟨b2, m3, m4⟩ := mapped_eq hN hgN hl2 hw (n := n)
  obtain ⟨e1, c1, c2⟩ := fCheck_eq hN hfN hl hw (n := n)
  obtain ⟨e2, c3, c4⟩ := fCheck_eq hN hgN hl2 hw (n := n)
  simp only [D_keep_FixedRolls, keep_FixedRolls_1, m1, m3, c1, c3, Option.bind_some]
  rcases bcase m2 with ⟨⟨ho', hmf⟩, rfl⟩ | ⟨hno, rfl⟩
  case inr =>
    have : (e1 != 0) = true := bne_iff_ne.2 fun e => hno (c2.1 e)
    simp only [Bool.not_false, cond_true, this]
  rcases bcase m4 with ⟨⟨-, hmg⟩, rfl⟩ | ⟨hno, rfl⟩
  case inr =>
    have : (e2 != 0) = true := bne_iff_ne.2 fun e => hno (c4.1 e)
    simp only [Bool.not_false, Bool.not_true, cond_true, cond_false, this]
    cases (e1 != 0) <;> rfl
  obtain ⟨m, rfl⟩ : ∃ m : Nat, n = (m : Int) := ⟨n.toNat, by have := ho'.h0; omega⟩
  simp only [Int.toNat_natCast] at hmf hmg
  have hm : m ≤ 16 := by have := ho'.h1; omega
  obtain ⟨hc1, hv1⟩ := compL_mapd hmf hmg
  obtain ⟨hc2, hv2⟩ := compL_mapd hmg hmf
  have hlen1 := hc1.len
  have hlen2 := hc2.len
  simp only [Bool.not_true, cond_false, composed_eq hN hm hmf hmg, composed_eq hN hm hmg hmf, Option.map_some, Option.bind_some]
  rcases LG_spec (f := compL f g m) hN (by omega) (by omega) hw (n := (m : Int)) with ⟨e, he, q1, q2, q3⟩ | ⟨m', J, M, b, t, p, k, y, l, hmm, -, hlu, ho, hL, -, q1, q2, sp, sy⟩
  · obtain ⟨rfl, hnl⟩ := q3 ho' hc1
    rcases LG_spec (f := compL g f m) hN (by omega) (by omega) hw (n := (m : Int)) with ⟨e, he, r1, r2, r3⟩ | ⟨m', J, M, b, t, p, k, y, l, hmm, -, hlu, ho, hL, -, r1, r2, sp, sy⟩
    · obtain ⟨rfl, -⟩ := r3 ho' hc2
      simp only [q1, r1, Option.bind_some, show ((5 : Int) != 0) = true from rfl, cond_true, beq_self_eq_true]
    · obtain rfl : m = m' := by omega
      exact absurd ⟨_, _, _, _, hL.lat⟩ hnl
  obtain rfl : m = m' := by omega
  rcases LG_spec (f := compL g f m) hN (by omega) (by omega) hw (n := (m : Int)) with ⟨e, he, r1, r2, r3⟩ | ⟨m', J', M', b', t', p', k', y', l', hmm', -, -, -, -, -, r1, r2, sp', sy'⟩
  · exact absurd ⟨_, _, _, _, hL.lat⟩ (r3 ho' hc2).2
  obtain rfl : m = m' := by omega
  have hp := sp.lt
  have hp' := sp'.lt
  have hlf := hmf.len
  obtain ⟨w1, p1, p2⟩ := within_eq (N := N) (n := (m : Int)) (xs := [(p : Int), (p' : Int)]) (by simp; omega) (by simp)
  obtain rfl := p2.2 (by simp; omega)
  have s1 := sp.stays
  have s2 := sp'.stays
  rw [hv1 p hp] at s1
  rw [hv2 p' hp'] at s2
  have hfp' := hmf.lt p' hp'
  have hgp := hmg.lt p hp
  have h1 : le up p (fm f p') := sp.least _ hfp' (by rw [hv1 _ hfp', s2]; exact ho.refl _ (by omega))
  have h2 : le up p' (fm g p) := sp'.least _ hgp (by rw [hv2 _ hgp, s1]; exact ho.refl _ (by omega))
  have h3 := hmf.mono _ _ hp' hgp h2
  rw [s1] at h3
  have heq : p = fm f p' := ho.anti p (fm f p') (by omega) (by omega) h1 h3
  simp only [q1, r1, Option.bind_some, bne_self_eq_false, cond_false, p1, cond_true, ge0_d, lt_d (show p' < f.length by omega), Bool.and_self, Int.toNat_natCast, hmf.val p' hp', ← heq, beq_self_eq_true]
set_option maxRecDepth 100000 in
theorem lifted_FixedRolls (os : Os) (started : os.Started) (H : Type) (enc : TypeId × Value → H) :
    ReturnsInHanded {} Tryd.checked os 11 .any (fun w args => (Rows.fixedRollsSpec.pre enc Tryd.prog Tryd.f11 [] false w args ∧ laidMetH Tryd.prog Rows.fixedRollsRow.laid w) ∧ sizedMet enc Tryd.prog Tryd.f11 (OpenSpec.ofChange Rows.fixedRollsSpec) false w args) (Rows.fixedRollsSpec.post enc Tryd.prog Tryd.f11 false true false false) := by
  refine returnsInHanded_of_change_and (C := Tryd.checked) (X := fun w _ => laidMetH Tryd.prog Rows.fixedRollsRow.laid w) (fun _ _ _ hh h => h.of_heap hh) own started (by kernel_rfl) Tryd.func11
    (ChangeSpec.witness_shaped (enc := enc) (C := Tryd.checked) (os := os) (X := fun w _ => laidMetH Tryd.prog Rows.fixedRollsRow.laid w) false (World.doorLaid Tryd.prog 400 os) #[.agg #[.int .i64 0, .slice none 0 0], .slice none 0 0, .slice none 0 0] 8 rfl (World.shaped_of_RefB (by kernel_rfl) (by kernel_rfl)) (by kernel_rfl) (by kernel_rfl) (by kernel_rfl) (door_met os _)) ?_
  intro W base args ds gs before hval0 hW _ hsz0 hL _
  have hgw : GW Gs W := gw_of hL
  have hval : ∀ (j : Nat) t v, Tryd.f11.params[j]? = some t → args[j]? = some v → Value.okWide Tryd.prog W .any base t v := hval0
  have hW' := hW
  obtain ⟨p, q, hA0, hV, rfl, _, _⟩ := hW
  have hA : DataW.TrodAll enc Tryd.prog W 0 (fun _ => true) true Tryd.f11.params.toList args.toList ds p := hA0
  rw [Tryd.params11] at hA hval
  obtain ⟨v0, vs0, d0, ds0, p0, q0, hargs, rfl, rfl, h0, r0⟩ := trodAll_cons hA
  obtain ⟨v1, vs1, d1, ds1, p1, q1, rfl, rfl, rfl, h1, r1⟩ := trodAll_cons r0
  obtain ⟨v2, vs2, d2, ds2, p2, q2, rfl, rfl, rfl, h2, r2⟩ := trodAll_cons r1
  obtain ⟨rfl, rfl, rfl⟩ := trodAll_nil r2
  obtain rfl : args = #[v0, v1, v2] := by cases args; simp_all
  obtain ⟨rfl, rfl⟩ := trodVars_none hV
  clear hA0 hval0 hsz0
  simp only [List.append_nil] at hW'
  have hlt0 : ∀ x ∈ p0, x.block < W.heap.size := fun x hx => hW'.lt x (by simp [hx])
  have hlt1 : ∀ x ∈ p1, x.block < W.heap.size := fun x hx => hW'.lt x (by simp [hx])
  have hlt2 : ∀ x ∈ p2, x.block < W.heap.size := fun x hx => hW'.lt x (by simp [hx])
  obtain ⟨x0, g0, w0⟩ := open_kd (k := .dat (.pair (.int .i64) (.sl (.int .u32)))) (by kernel_rfl) (hval 0 24 v0 rfl rfl) h0
  obtain ⟨x1, g1, w1⟩ := open_kd (k := .dat (.sl (.int .i64))) (by kernel_rfl) (hval 1 25 v1 rfl rfl) h1
  obtain ⟨x2, g2, w2⟩ := open_kd (k := .dat (.sl (.int .i64))) (by kernel_rfl) (hval 2 25 v2 rfl rfl) h2
  obtain ⟨N, hN⟩ := law_FixedRolls x0 x1 x2 w0 w1 w2
  refine (sp_keep_FixedRolls N (fun _ => False) W (x0, x1, x2, ()) (true, ()) [v0, v1, v2] (fun _ h => h.elim) hgw ⟨v0, _, rfl, g0, ⟨v1, _, rfl, g1, ⟨v2, _, rfl, g2, rfl⟩⟩⟩ hN).mono ?_
  rintro e W' ⟨v, rfl, hg, hr⟩
  have hr : v = .bool true := by simpa only [kvals, retV, Kd.val, Go.Abs.enc, RV] using hr
  subst hr
  exact ⟨_, rfl, _, _, _, [], p0 ++ (p1 ++ (p2 ++ [])), [], hW', (trodAll_cons_mk (shut_bool (show Tryd.prog.underlying 4 = some .bool by kernel_rfl) _) trodAll_mk0), (trodAll_cons_mk (Below.trod laidOut (by kernel_rfl) (of_decide_eq_true (by kernel_rfl)) h0 hg hlt0) (trodAll_cons_mk (Below.trod laidOut (by kernel_rfl) (of_decide_eq_true (by kernel_rfl)) h1 hg hlt1) (trodAll_cons_mk (Below.trod laidOut (by kernel_rfl) (of_decide_eq_true (by kernel_rfl)) h2 hg hlt2) trodAll_mk0))), rfl, hg.frame _, fun h => by cases h⟩

/-- The statement: whatever the arguments, the law's function returns true and leaves them as they were. -/
theorem fixedRolls_holds : Rows.FixedRollsSaid :=
  OpenClaim.holds_of_wide 11 Tryd.f11 rfl rfl rfl rfl rfl rfl rfl ⟨rfl, rfl, rfl, rfl, rfl⟩ rfl rfl rfl rfl rfl (by kernel_rfl) Tryd.func11 (by kernel_rfl)
    (of_decide_eq_true (by kernel_rfl)) (by unfold Func.isWrapper; first | (rw [if_pos (by decide +kernel)]; kernel_rfl) | (rw [if_neg (by decide +kernel)]; exact ⟨rfl, rfl⟩))
    (fun os started H enc _ => lifted_FixedRolls os started H enc)
/-- The statement's card: the variable that the road reads is tied to the program's text. -/
theorem fixedRolls_card : Rows.FixedRollsCardSaid :=
  Claim7.holds_tied_plain_at .later [] [.data] true (true, "f7a6d2b8554754a98a473bd2733a624cf4bb6698be02ac50fe61eaa0509daf44") false fixedRolls_holds (fun _ h => by cases h) (by kernel_rfl) (fun _ h => by cases h) fixedRolls_row_tie rfl ⟨rfl, rfl⟩ (by kernel_rfl) rfl
    (fun f fn hf hfn => by
      obtain rfl : f = 11 := Option.some.inj ((show Tryd.prog.funcNamed "watershed/watershedkeep.FixedRolls" = some 11 by kernel_rfl).symm.trans hf) |>.symm
      obtain rfl : fn = Tryd.f11 := (Option.some.inj (Tryd.func11.symm.trans hfn)).symm
      exact ⟨by kernel_rfl, fun j t ht => by
        have h3 := List.all_eq_true.1 (show (Tryd.f11.params.toList.all fun t => !(Tryd.prog.wantsStandIn t)) = true by kernel_rfl) t (by rw [← Array.getElem?_toList] at ht; exact List.mem_of_getElem? ht)
        have h4 : Tryd.prog.wantsStandIn t = false := by simpa using h3
        exact h4⟩)
    (by kernel_rfl)
end Go.Proofs.YtdbjfdjpmoackaaDoor
