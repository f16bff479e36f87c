/- fixed.Map: is it into? -/
import Derived.Test.YtdlhfddmbdbedaaDoorIter
namespace Go.Proofs.YtdlhfddmbdbedaaDoor
open Go.Abs
-- (watershed/fixed.Map).into
abbrev Ks_fixed_Map_into : List Kd := [.dat (.sl (.int .i64)), .dat (.int .i64), .dat (.int .i64)]
abbrev Rk_fixed_Map_into : List Kd := [.dat (.bool)]
abbrev Rt_fixed_Map_into : Type := Dens Rk_fixed_Map_into
def T_fixed_Map_into : List (Nat × TE) := [(3, ⟨.int .i64, 1, 8, some (.int .i64), [.int .i64 (0 : Int)]⟩),
  (104, ⟨.slice 3, 1, 24, some (.sl (.int .i64)), [.nil]⟩)]
noncomputable def C_fixed_Map_into (_N : Nat) : Ctx := { T := T_fixed_Map_into, G := findE [], I := findI [], N := _N, n := 27, fx := [], fl := 0, gs := Gs }
noncomputable def fixed_Map_into_1 (_N : Nat) (_k3 : Option Rt_fixed_Map_into) : Option Rt_fixed_Map_into :=
  _k3
theorem fixed_Map_into_1e (_N : Nat) (_x1 : List Int) (_x2 : Int) (_x3 : Int) (_k3 : Ko Rt_fixed_Map_into) :
    exec (C_fixed_Map_into _N) (cAt (bodyOf Tryd.f75) [0]) .none [(0, .sl (.int .i64) _x1), (1, .int .i64 _x2), (2, .int .i64 _x3)] [] (canonK [] _k3 [0, 1, 2] 0 (fun _i _t _h => none) (fun _t _h => finK (C_fixed_Map_into _N) [.tmp 6] (finD Rk_fixed_Map_into) .ret _t _h)) = fixed_Map_into_1 _N (_k3 [(0, .sl (.int .i64) _x1), (1, .int .i64 _x2), (2, .int .i64 _x3)] []) :=
  by kernel_rfl
noncomputable def fixed_Map_into_2 (_N : Nat) (_k5 : Option Rt_fixed_Map_into) : Option Rt_fixed_Map_into :=
  _k5
theorem fixed_Map_into_2e (_N : Nat) (_x1 : List Int) (_x2 : Int) (_x3 : Int) (_k5 : Ko Rt_fixed_Map_into) :
    exec (C_fixed_Map_into _N) (cAt (bodyOf Tryd.f75) [1, 0, 0]) .none [(0, .sl (.int .i64) _x1), (1, .int .i64 _x2), (2, .int .i64 _x3)] [] (canonK [] _k5 [0, 1, 2, 9, 10, 11] 0 (fun _i _t _h => none) (fun _t _h => finK (C_fixed_Map_into _N) [.tmp 6] (finD Rk_fixed_Map_into) .ret _t _h)) = fixed_Map_into_2 _N (_k5 [(0, .sl (.int .i64) _x1), (1, .int .i64 _x2), (2, .int .i64 _x3), (9, .sl (.int .i64) _x1), (10, .int .i64 (_x1.length : Int)), (11, .int .i64 (0 : Int))] []) :=
  by kernel_rfl
noncomputable def fixed_Map_into_3 (_N : Nat) (_x1 : List Int) (_x3 : Int) (_v1 : Int) (_k6 : Int → Option Rt_fixed_Map_into) (_k4 : Option Rt_fixed_Map_into) : Option Rt_fixed_Map_into :=
  (bif (decide (_v1 < (_x1.length : Int))) then (bif (decide (0 ≤ _v1) && decide (_v1 < (_x1.length : Int))) then (bif (decide ((nth (0 : Int) _x1 (_v1).toNat) < (0 : Int))) then (some (false, ())) else (bif (decide ((nth (0 : Int) _x1 (_v1).toNat) ≥ _x3)) then (some (false, ())) else (_k6 (IntKind.i64.wrap (_v1 + (1 : Int)))))) else none) else _k4)
theorem fixed_Map_into_3e (_N : Nat) (_x1 : List Int) (_x2 : Int) (_x3 : Int) (_v1 : Int) (_k6 _k4 : Ko Rt_fixed_Map_into) :
    exec (C_fixed_Map_into _N) (cAt (bodyOf Tryd.f75) [1, 0, 1, 0, 0]) .none [(0, .sl (.int .i64) _x1), (1, .int .i64 _x2), (2, .int .i64 _x3), (9, .sl (.int .i64) _x1), (10, .int .i64 (_x1.length : Int)), (11, .int .i64 _v1)] [] (canonK [] _k6 [0, 1, 2, 9, 10, 11] 0 (fun _i _t _h => wo 0 _k4 [] [0, 1] 0 _i _t _h none) (fun _t _h => finK (C_fixed_Map_into _N) [.tmp 6] (finD Rk_fixed_Map_into) .ret _t _h)) = fixed_Map_into_3 _N _x1 _x3 _v1 (fun _v1 => _k6 [(0, .sl (.int .i64) _x1), (1, .int .i64 _x2), (2, .int .i64 _x3), (9, .sl (.int .i64) _x1), (10, .int .i64 (_x1.length : Int)), (11, .int .i64 _v1)] []) (_k4 [(0, .sl (.int .i64) _x1), (1, .int .i64 _x2)] []) :=
  by kernel_rfl
noncomputable def fixed_Map_into_4 (_N : Nat) (_x1 : List Int) (_x3 : Int) (_k4 : Option Rt_fixed_Map_into) : Option Rt_fixed_Map_into :=
  loopD (fun (_s : Int) _kn => fixed_Map_into_3 _N _x1 _x3 _s (fun _v1 => _kn _v1) _k4) _N (0 : Int)
theorem fixed_Map_into_4e (_N : Nat) (_x1 : List Int) (_x2 : Int) (_x3 : Int) (_k4 : Ko Rt_fixed_Map_into) :
    exec (C_fixed_Map_into _N) (cAt (bodyOf Tryd.f75) [1, 0, 1, 0]) (.loop [0, 1, 2, 9, 10, 11] 0 .none) [(0, .sl (.int .i64) _x1), (1, .int .i64 _x2), (2, .int .i64 _x3), (9, .sl (.int .i64) _x1), (10, .int .i64 (_x1.length : Int)), (11, .int .i64 (0 : Int))] [] (canonK [] _k4 [0, 1] 0 (fun _i _t _h => wo 0 _k4 [] [0, 1] 0 _i _t _h none) (fun _t _h => finK (C_fixed_Map_into _N) [.tmp 6] (finD Rk_fixed_Map_into) .ret _t _h)) = fixed_Map_into_4 _N _x1 _x3 (_k4 [(0, .sl (.int .i64) _x1), (1, .int .i64 _x2)] []) :=
  (loop_frag (by kernel_rfl) rfl (by kernel_rfl) (by kernel_rfl)).trans (loopN_sim (S := Int) (fun _s => [(0, .sl (.int .i64) _x1), (1, .int .i64 _x2), (2, .int .i64 _x3), (9, .sl (.int .i64) _x1), (10, .int .i64 (_x1.length : Int)), (11, .int .i64 _s)]) (fun _s => []) (fun _s _kn => fixed_Map_into_3e _N _x1 _x2 _x3 _s _kn _k4) _N (0 : Int))
noncomputable def fixed_Map_into_5 (_N : Nat) (_x1 : List Int) (_x3 : Int) (_k4 : Option Rt_fixed_Map_into) : Option Rt_fixed_Map_into :=
  fixed_Map_into_4 _N _x1 _x3 _k4
abbrev A_fixed_Map_into_5 : Ann := .one (.loop [0, 1, 2, 9, 10, 11] 0 .none)
theorem fixed_Map_into_5e (_N : Nat) (_x1 : List Int) (_x2 : Int) (_x3 : Int) (_k4 : Ko Rt_fixed_Map_into) :
    exec (C_fixed_Map_into _N) (cAt (bodyOf Tryd.f75) [1, 0, 1]) A_fixed_Map_into_5 [(0, .sl (.int .i64) _x1), (1, .int .i64 _x2), (2, .int .i64 _x3), (9, .sl (.int .i64) _x1), (10, .int .i64 (_x1.length : Int)), (11, .int .i64 (0 : Int))] [] (canonK [] _k4 [0, 1] 0 (fun _i _t _h => none) (fun _t _h => finK (C_fixed_Map_into _N) [.tmp 6] (finD Rk_fixed_Map_into) .ret _t _h)) = fixed_Map_into_5 _N _x1 _x3 (_k4 [(0, .sl (.int .i64) _x1), (1, .int .i64 _x2)] []) :=
  (block_canon (by kernel_rfl)).trans (fixed_Map_into_4e _N _x1 _x2 _x3 _k4)
noncomputable def fixed_Map_into_6 (_N : Nat) (_x1 : List Int) (_x3 : Int) (_k4 : Option Rt_fixed_Map_into) : Option Rt_fixed_Map_into :=
  fixed_Map_into_2 _N (fixed_Map_into_5 _N _x1 _x3 _k4)
abbrev A_fixed_Map_into_6 : Ann := .two .none (.keep [0, 1, 2, 9, 10, 11] 0 A_fixed_Map_into_5)
theorem fixed_Map_into_6e (_N : Nat) (_x1 : List Int) (_x2 : Int) (_x3 : Int) (_k4 : Ko Rt_fixed_Map_into) :
    exec (C_fixed_Map_into _N) (cAt (bodyOf Tryd.f75) [1, 0]) A_fixed_Map_into_6 [(0, .sl (.int .i64) _x1), (1, .int .i64 _x2), (2, .int .i64 _x3)] [] (canonK [] _k4 [0, 1] 0 (fun _i _t _h => none) (fun _t _h => finK (C_fixed_Map_into _N) [.tmp 6] (finD Rk_fixed_Map_into) .ret _t _h)) = fixed_Map_into_6 _N _x1 _x3 (_k4 [(0, .sl (.int .i64) _x1), (1, .int .i64 _x2)] []) :=
  (seq_frag (by kernel_rfl) rfl).trans ((fixed_Map_into_2e _N _x1 _x2 _x3 _).trans (congrArg (fun _z => fixed_Map_into_2 _N _z) (fixed_Map_into_5e _N _x1 _x2 _x3 _k4)))
noncomputable def fixed_Map_into_7 (_N : Nat) (_x1 : List Int) (_x2 : Int) : Option Rt_fixed_Map_into :=
  (some (((_x1.length : Int) == _x2), ()))
theorem fixed_Map_into_7e (_N : Nat) (_x1 : List Int) (_x2 : Int) (_x3 : Int) :
    exec (C_fixed_Map_into _N) (cAt (bodyOf Tryd.f75) [1, 1]) .none [(0, .sl (.int .i64) _x1), (1, .int .i64 _x2)] [] (canonR (fun _i _t _h => none) (finK (C_fixed_Map_into _N) [.tmp 6] (finD Rk_fixed_Map_into))) = fixed_Map_into_7 _N _x1 _x2 :=
  by kernel_rfl
noncomputable def fixed_Map_into_8 (_N : Nat) (_x1 : List Int) (_x2 : Int) (_x3 : Int) : Option Rt_fixed_Map_into :=
  fixed_Map_into_6 _N _x1 _x3 (fixed_Map_into_7 _N _x1 _x2)
abbrev A_fixed_Map_into_8 : Ann := .two (.two .none (.keep [0, 1, 2, 9, 10, 11] 0 A_fixed_Map_into_5)) (.keep [0, 1] 0 .none)
theorem fixed_Map_into_8e (_N : Nat) (_x1 : List Int) (_x2 : Int) (_x3 : Int) :
    exec (C_fixed_Map_into _N) (cAt (bodyOf Tryd.f75) [1]) A_fixed_Map_into_8 [(0, .sl (.int .i64) _x1), (1, .int .i64 _x2), (2, .int .i64 _x3)] [] (canonR (fun _i _t _h => none) (finK (C_fixed_Map_into _N) [.tmp 6] (finD Rk_fixed_Map_into))) = fixed_Map_into_8 _N _x1 _x2 _x3 :=
  (seq_frag (by kernel_rfl) rfl).trans ((fixed_Map_into_6e _N _x1 _x2 _x3 _).trans (congrArg (fun _z => fixed_Map_into_6 _N _x1 _x3 _z) (fixed_Map_into_7e _N _x1 _x2 _x3)))
noncomputable def fixed_Map_into_9 (_N : Nat) (_x1 : List Int) (_x2 : Int) (_x3 : Int) : Option Rt_fixed_Map_into :=
  fixed_Map_into_1 _N (fixed_Map_into_8 _N _x1 _x2 _x3)
abbrev A_fixed_Map_into_9 : Ann := .two .none (.keep [0, 1, 2] 0 (.two (.two .none (.keep [0, 1, 2, 9, 10, 11] 0 A_fixed_Map_into_5)) (.keep [0, 1] 0 .none)))
theorem fixed_Map_into_9e (_N : Nat) (_x1 : List Int) (_x2 : Int) (_x3 : Int) :
    exec (C_fixed_Map_into _N) (cAt (bodyOf Tryd.f75) []) A_fixed_Map_into_9 [(0, .sl (.int .i64) _x1), (1, .int .i64 _x2), (2, .int .i64 _x3)] [] (canonR (fun _i _t _h => none) (finK (C_fixed_Map_into _N) [.tmp 6] (finD Rk_fixed_Map_into))) = fixed_Map_into_9 _N _x1 _x2 _x3 :=
  (seq_frag (by kernel_rfl) rfl).trans ((fixed_Map_into_1e _N _x1 _x2 _x3 _).trans (congrArg (fun _z => fixed_Map_into_1 _N _z) (fixed_Map_into_8e _N _x1 _x2 _x3)))
noncomputable def D_fixed_Map_into (_N : Nat) (x : Dens Ks_fixed_Map_into) : Option Rt_fixed_Map_into := fixed_Map_into_9 _N x.1 x.2.1 x.2.2.1
theorem E_fixed_Map_into (_N : Nat) (x : Dens Ks_fixed_Map_into) : exec (C_fixed_Map_into _N) (bodyOf Tryd.f75) (.two .none (.keep [0, 1, 2] 0 (.two (.two .none (.keep [0, 1, 2, 9, 10, 11] 0 A_fixed_Map_into_5)) (.keep [0, 1] 0 .none)))) (argS 0 (kvals Ks_fixed_Map_into x)) [] (finK (C_fixed_Map_into _N) [.tmp 6] (finD Rk_fixed_Map_into)) = D_fixed_Map_into _N x :=
  (congrArg (fun K => exec (C_fixed_Map_into _N) (bodyOf Tryd.f75) (.two .none (.keep [0, 1, 2] 0 (.two (.two .none (.keep [0, 1, 2, 9, 10, 11] 0 A_fixed_Map_into_5)) (.keep [0, 1] 0 .none)))) (argS 0 (kvals Ks_fixed_Map_into x)) [] K) canonR_fin).trans (fixed_Map_into_9e _N x.1 x.2.1 x.2.2.1)
theorem ok_fixed_Map_into (_N : Nat) : CtxOk Tryd.prog Gs Tryd.f75 (C_fixed_Map_into _N) := ⟨rfl, by unfold TOk; kernel_rfl, gOk_of rfl rfl (List.forall_mem_nil _), iOk_of rfl rfl (List.forall_mem_nil _), rfl⟩
theorem hb_fixed_Map_into : HasBody Tryd.prog 75 := ⟨Tryd.f75, bodyOf Tryd.f75, by kernel_rfl, by kernel_rfl, rfl⟩
theorem sp_fixed_Map_into (_N : Nat) : SpecD Tryd.prog Gs 75 Ks_fixed_Map_into Rk_fixed_Map_into (D_fixed_Map_into _N) := specD_of (c := bodyOf Tryd.f75) (by kernel_rfl) rfl (by kernel_rfl) (Nat.le_of_ble_eq_true (by kernel_rfl)) fun x y _h => ⟨C_fixed_Map_into _N, (.two .none (.keep [0, 1, 2] 0 (.two (.two .none (.keep [0, 1, 2, 9, 10, 11] 0 A_fixed_Map_into_5)) (.keep [0, 1] 0 .none)))), ok_fixed_Map_into _N, (E_fixed_Map_into _N x).trans _h⟩
theorem en_fixed_Map_into (_N : Nat) : EntOk Tryd.prog Gs (mkP 75 Ks_fixed_Map_into Rk_fixed_Map_into (D_fixed_Map_into _N)) := entP hb_fixed_Map_into (by kernel_rfl) (sp_fixed_Map_into _N)
-- watershed/watershedref.MapInto
abbrev Ks_ref_MapInto : List Kd := [.dat (.sl (.int .i64)), .dat (.int .i64), .dat (.int .i64)]
abbrev Rk_ref_MapInto : List Kd := [.dat (.bool)]
abbrev Rt_ref_MapInto : Type := Dens Rk_ref_MapInto
def T_ref_MapInto : List (Nat × TE) := [(3, ⟨.int .i64, 1, 8, some (.int .i64), [.int .i64 (0 : Int)]⟩),
  (25, ⟨.slice 3, 1, 24, some (.sl (.int .i64)), [.nil]⟩)]
noncomputable def C_ref_MapInto (_N : Nat) : Ctx := { T := T_ref_MapInto, G := findE [], I := findI [], N := _N, n := 27, fx := [], fl := 0, gs := Gs }
noncomputable def ref_MapInto_1 (_N : Nat) (_k3 : Option Rt_ref_MapInto) : Option Rt_ref_MapInto :=
  _k3
theorem ref_MapInto_1e (_N : Nat) (_x1 : List Int) (_x2 : Int) (_x3 : Int) (_k3 : Ko Rt_ref_MapInto) :
    exec (C_ref_MapInto _N) (cAt (bodyOf Tryd.f71) [0]) .none [(0, .sl (.int .i64) _x1), (1, .int .i64 _x2), (2, .int .i64 _x3)] [] (canonK [] _k3 [0, 1, 2] 0 (fun _i _t _h => none) (fun _t _h => finK (C_ref_MapInto _N) [.tmp 6] (finD Rk_ref_MapInto) .ret _t _h)) = ref_MapInto_1 _N (_k3 [(0, .sl (.int .i64) _x1), (1, .int .i64 _x2), (2, .int .i64 _x3)] []) :=
  by kernel_rfl
noncomputable def ref_MapInto_2 (_N : Nat) (_x1 : List Int) (_x2 : Int) (_k4 : Option Rt_ref_MapInto) : Option Rt_ref_MapInto :=
  (bif ((_x1.length : Int) != _x2) then (some (false, ())) else _k4)
theorem ref_MapInto_2e (_N : Nat) (_x1 : List Int) (_x2 : Int) (_x3 : Int) (_k4 : Ko Rt_ref_MapInto) :
    exec (C_ref_MapInto _N) (cAt (bodyOf Tryd.f71) [1, 0]) .none [(0, .sl (.int .i64) _x1), (1, .int .i64 _x2), (2, .int .i64 _x3)] [] (canonK [] _k4 [0, 2] 0 (fun _i _t _h => none) (fun _t _h => finK (C_ref_MapInto _N) [.tmp 6] (finD Rk_ref_MapInto) .ret _t _h)) = ref_MapInto_2 _N _x1 _x2 (_k4 [(0, .sl (.int .i64) _x1), (2, .int .i64 _x3)] []) :=
  by kernel_rfl
noncomputable def ref_MapInto_3 (_N : Nat) (_k6 : Option Rt_ref_MapInto) : Option Rt_ref_MapInto :=
  _k6
theorem ref_MapInto_3e (_N : Nat) (_x1 : List Int) (_x2 : Int) (_x3 : Int) (_k6 : Ko Rt_ref_MapInto) :
    exec (C_ref_MapInto _N) (cAt (bodyOf Tryd.f71) [1, 1, 0, 0]) .none [(0, .sl (.int .i64) _x1), (2, .int .i64 _x3)] [] (canonK [] _k6 [2, 13, 14, 15] 0 (fun _i _t _h => none) (fun _t _h => finK (C_ref_MapInto _N) [.tmp 6] (finD Rk_ref_MapInto) .ret _t _h)) = ref_MapInto_3 _N (_k6 [(2, .int .i64 _x3), (13, .sl (.int .i64) _x1), (14, .int .i64 (_x1.length : Int)), (15, .int .i64 (0 : Int))] []) :=
  by kernel_rfl
noncomputable def ref_MapInto_4 (_N : Nat) (_x1 : List Int) (_x3 : Int) (_v1 : Int) (_k7 : Int → Option Rt_ref_MapInto) (_k5 : Option Rt_ref_MapInto) : Option Rt_ref_MapInto :=
  (bif (decide (_v1 < (_x1.length : Int))) then (bif (decide (0 ≤ _v1) && decide (_v1 < (_x1.length : Int))) then (bif (decide ((nth (0 : Int) _x1 (_v1).toNat) < (0 : Int))) then (some (false, ())) else (bif (decide ((nth (0 : Int) _x1 (_v1).toNat) ≥ _x3)) then (some (false, ())) else (_k7 (IntKind.i64.wrap (_v1 + (1 : Int)))))) else none) else _k5)
theorem ref_MapInto_4e (_N : Nat) (_x1 : List Int) (_x2 : Int) (_x3 : Int) (_v1 : Int) (_k7 _k5 : Ko Rt_ref_MapInto) :
    exec (C_ref_MapInto _N) (cAt (bodyOf Tryd.f71) [1, 1, 0, 1, 0, 0]) .none [(2, .int .i64 _x3), (13, .sl (.int .i64) _x1), (14, .int .i64 (_x1.length : Int)), (15, .int .i64 _v1)] [] (canonK [] _k7 [2, 13, 14, 15] 0 (fun _i _t _h => wo 0 _k5 [] [] 0 _i _t _h none) (fun _t _h => finK (C_ref_MapInto _N) [.tmp 6] (finD Rk_ref_MapInto) .ret _t _h)) = ref_MapInto_4 _N _x1 _x3 _v1 (fun _v1 => _k7 [(2, .int .i64 _x3), (13, .sl (.int .i64) _x1), (14, .int .i64 (_x1.length : Int)), (15, .int .i64 _v1)] []) (_k5 [] []) :=
  by kernel_rfl
noncomputable def ref_MapInto_5 (_N : Nat) (_x1 : List Int) (_x3 : Int) (_k5 : Option Rt_ref_MapInto) : Option Rt_ref_MapInto :=
  loopD (fun (_s : Int) _kn => ref_MapInto_4 _N _x1 _x3 _s (fun _v1 => _kn _v1) _k5) _N (0 : Int)
theorem ref_MapInto_5e (_N : Nat) (_x1 : List Int) (_x2 : Int) (_x3 : Int) (_k5 : Ko Rt_ref_MapInto) :
    exec (C_ref_MapInto _N) (cAt (bodyOf Tryd.f71) [1, 1, 0, 1, 0]) (.loop [2, 13, 14, 15] 0 .none) [(2, .int .i64 _x3), (13, .sl (.int .i64) _x1), (14, .int .i64 (_x1.length : Int)), (15, .int .i64 (0 : Int))] [] (canonK [] _k5 [] 0 (fun _i _t _h => wo 0 _k5 [] [] 0 _i _t _h none) (fun _t _h => finK (C_ref_MapInto _N) [.tmp 6] (finD Rk_ref_MapInto) .ret _t _h)) = ref_MapInto_5 _N _x1 _x3 (_k5 [] []) :=
  (loop_frag (by kernel_rfl) rfl (by kernel_rfl) (by kernel_rfl)).trans (loopN_sim (S := Int) (fun _s => [(2, .int .i64 _x3), (13, .sl (.int .i64) _x1), (14, .int .i64 (_x1.length : Int)), (15, .int .i64 _s)]) (fun _s => []) (fun _s _kn => ref_MapInto_4e _N _x1 _x2 _x3 _s _kn _k5) _N (0 : Int))
noncomputable def ref_MapInto_6 (_N : Nat) (_x1 : List Int) (_x3 : Int) (_k5 : Option Rt_ref_MapInto) : Option Rt_ref_MapInto :=
  ref_MapInto_5 _N _x1 _x3 _k5
theorem ref_MapInto_6e (_N : Nat) (_x1 : List Int) (_x2 : Int) (_x3 : Int) (_k5 : Ko Rt_ref_MapInto) :
    exec (C_ref_MapInto _N) (cAt (bodyOf Tryd.f71) [1, 1, 0, 1]) (.one (.loop [2, 13, 14, 15] 0 .none)) [(2, .int .i64 _x3), (13, .sl (.int .i64) _x1), (14, .int .i64 (_x1.length : Int)), (15, .int .i64 (0 : Int))] [] (canonK [] _k5 [] 0 (fun _i _t _h => none) (fun _t _h => finK (C_ref_MapInto _N) [.tmp 6] (finD Rk_ref_MapInto) .ret _t _h)) = ref_MapInto_6 _N _x1 _x3 (_k5 [] []) :=
  (block_canon (by kernel_rfl)).trans (ref_MapInto_5e _N _x1 _x2 _x3 _k5)
noncomputable def ref_MapInto_7 (_N : Nat) (_x1 : List Int) (_x3 : Int) (_k5 : Option Rt_ref_MapInto) : Option Rt_ref_MapInto :=
  ref_MapInto_3 _N (ref_MapInto_6 _N _x1 _x3 _k5)
abbrev A_ref_MapInto_7 : Ann := .two .none (.keep [2, 13, 14, 15] 0 (.one (.loop [2, 13, 14, 15] 0 .none)))
theorem ref_MapInto_7e (_N : Nat) (_x1 : List Int) (_x2 : Int) (_x3 : Int) (_k5 : Ko Rt_ref_MapInto) :
    exec (C_ref_MapInto _N) (cAt (bodyOf Tryd.f71) [1, 1, 0]) A_ref_MapInto_7 [(0, .sl (.int .i64) _x1), (2, .int .i64 _x3)] [] (canonK [] _k5 [] 0 (fun _i _t _h => none) (fun _t _h => finK (C_ref_MapInto _N) [.tmp 6] (finD Rk_ref_MapInto) .ret _t _h)) = ref_MapInto_7 _N _x1 _x3 (_k5 [] []) :=
  (seq_frag (by kernel_rfl) rfl).trans ((ref_MapInto_3e _N _x1 _x2 _x3 _).trans (congrArg (fun _z => ref_MapInto_3 _N _z) (ref_MapInto_6e _N _x1 _x2 _x3 _k5)))
noncomputable def ref_MapInto_8 (_N : Nat) : Option Rt_ref_MapInto :=
  (some (true, ()))
theorem ref_MapInto_8e (_N : Nat) (_x1 : List Int) (_x2 : Int) (_x3 : Int) :
    exec (C_ref_MapInto _N) (cAt (bodyOf Tryd.f71) [1, 1, 1]) .none [] [] (canonR (fun _i _t _h => none) (finK (C_ref_MapInto _N) [.tmp 6] (finD Rk_ref_MapInto))) = ref_MapInto_8 _N :=
  by kernel_rfl
noncomputable def ref_MapInto_9 (_N : Nat) (_x1 : List Int) (_x3 : Int) : Option Rt_ref_MapInto :=
  ref_MapInto_7 _N _x1 _x3 (ref_MapInto_8 _N)
abbrev A_ref_MapInto_9 : Ann := .two A_ref_MapInto_7 (.keep [] 0 .none)
theorem ref_MapInto_9e (_N : Nat) (_x1 : List Int) (_x2 : Int) (_x3 : Int) :
    exec (C_ref_MapInto _N) (cAt (bodyOf Tryd.f71) [1, 1]) A_ref_MapInto_9 [(0, .sl (.int .i64) _x1), (2, .int .i64 _x3)] [] (canonR (fun _i _t _h => none) (finK (C_ref_MapInto _N) [.tmp 6] (finD Rk_ref_MapInto))) = ref_MapInto_9 _N _x1 _x3 :=
  (seq_frag (by kernel_rfl) rfl).trans ((ref_MapInto_7e _N _x1 _x2 _x3 _).trans (congrArg (fun _z => ref_MapInto_7 _N _x1 _x3 _z) (ref_MapInto_8e _N _x1 _x2 _x3)))
noncomputable def ref_MapInto_10 (_N : Nat) (_x1 : List Int) (_x2 : Int) (_x3 : Int) : Option Rt_ref_MapInto :=
  ref_MapInto_2 _N _x1 _x2 (ref_MapInto_9 _N _x1 _x3)
abbrev A_ref_MapInto_10 : Ann := .two .none (.keep [0, 2] 0 (.two A_ref_MapInto_7 (.keep [] 0 .none)))
theorem ref_MapInto_10e (_N : Nat) (_x1 : List Int) (_x2 : Int) (_x3 : Int) :
    exec (C_ref_MapInto _N) (cAt (bodyOf Tryd.f71) [1]) A_ref_MapInto_10 [(0, .sl (.int .i64) _x1), (1, .int .i64 _x2), (2, .int .i64 _x3)] [] (canonR (fun _i _t _h => none) (finK (C_ref_MapInto _N) [.tmp 6] (finD Rk_ref_MapInto))) = ref_MapInto_10 _N _x1 _x2 _x3 :=
  (seq_frag (by kernel_rfl) rfl).trans ((ref_MapInto_2e _N _x1 _x2 _x3 _).trans (congrArg (fun _z => ref_MapInto_2 _N _x1 _x2 _z) (ref_MapInto_9e _N _x1 _x2 _x3)))
noncomputable def ref_MapInto_11 (_N : Nat) (_x1 : List Int) (_x2 : Int) (_x3 : Int) : Option Rt_ref_MapInto :=
  ref_MapInto_1 _N (ref_MapInto_10 _N _x1 _x2 _x3)
abbrev A_ref_MapInto_11 : Ann := .two .none (.keep [0, 1, 2] 0 (.two .none (.keep [0, 2] 0 (.two A_ref_MapInto_7 (.keep [] 0 .none)))))
theorem ref_MapInto_11e (_N : Nat) (_x1 : List Int) (_x2 : Int) (_x3 : Int) :
    exec (C_ref_MapInto _N) (cAt (bodyOf Tryd.f71) []) A_ref_MapInto_11 [(0, .sl (.int .i64) _x1), (1, .int .i64 _x2), (2, .int .i64 _x3)] [] (canonR (fun _i _t _h => none) (finK (C_ref_MapInto _N) [.tmp 6] (finD Rk_ref_MapInto))) = ref_MapInto_11 _N _x1 _x2 _x3 :=
  (seq_frag (by kernel_rfl) rfl).trans ((ref_MapInto_1e _N _x1 _x2 _x3 _).trans (congrArg (fun _z => ref_MapInto_1 _N _z) (ref_MapInto_10e _N _x1 _x2 _x3)))
noncomputable def D_ref_MapInto (_N : Nat) (x : Dens Ks_ref_MapInto) : Option Rt_ref_MapInto := ref_MapInto_11 _N x.1 x.2.1 x.2.2.1
theorem E_ref_MapInto (_N : Nat) (x : Dens Ks_ref_MapInto) : exec (C_ref_MapInto _N) (bodyOf Tryd.f71) (.two .none (.keep [0, 1, 2] 0 (.two .none (.keep [0, 2] 0 (.two A_ref_MapInto_7 (.keep [] 0 .none)))))) (argS 0 (kvals Ks_ref_MapInto x)) [] (finK (C_ref_MapInto _N) [.tmp 6] (finD Rk_ref_MapInto)) = D_ref_MapInto _N x :=
  (congrArg (fun K => exec (C_ref_MapInto _N) (bodyOf Tryd.f71) (.two .none (.keep [0, 1, 2] 0 (.two .none (.keep [0, 2] 0 (.two A_ref_MapInto_7 (.keep [] 0 .none)))))) (argS 0 (kvals Ks_ref_MapInto x)) [] K) canonR_fin).trans (ref_MapInto_11e _N x.1 x.2.1 x.2.2.1)
theorem ok_ref_MapInto (_N : Nat) : CtxOk Tryd.prog Gs Tryd.f71 (C_ref_MapInto _N) := ⟨rfl, by unfold TOk; kernel_rfl, gOk_of rfl rfl (List.forall_mem_nil _), iOk_of rfl rfl (List.forall_mem_nil _), rfl⟩
theorem hb_ref_MapInto : HasBody Tryd.prog 71 := ⟨Tryd.f71, bodyOf Tryd.f71, by kernel_rfl, by kernel_rfl, rfl⟩
theorem sp_ref_MapInto (_N : Nat) : SpecD Tryd.prog Gs 71 Ks_ref_MapInto Rk_ref_MapInto (D_ref_MapInto _N) := specD_of (c := bodyOf Tryd.f71) (by kernel_rfl) rfl (by kernel_rfl) (Nat.le_of_ble_eq_true (by kernel_rfl)) fun x y _h => ⟨C_ref_MapInto _N, (.two .none (.keep [0, 1, 2] 0 (.two .none (.keep [0, 2] 0 (.two A_ref_MapInto_7 (.keep [] 0 .none)))))), ok_ref_MapInto _N, (E_ref_MapInto _N x).trans _h⟩
theorem en_ref_MapInto (_N : Nat) : EntOk Tryd.prog Gs (mkP 71 Ks_ref_MapInto Rk_ref_MapInto (D_ref_MapInto _N)) := entP hb_ref_MapInto (by kernel_rfl) (sp_ref_MapInto _N)
end Go.Proofs.YtdlhfddmbdbedaaDoor
