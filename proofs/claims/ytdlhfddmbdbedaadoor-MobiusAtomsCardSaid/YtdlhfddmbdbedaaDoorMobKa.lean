/- What the laws on tables use: the functions. -/
import Derived.Test.YtdlhfddmbdbedaaDoorOrder
namespace Go.Proofs.YtdlhfddmbdbedaaDoor
open Go.Abs Go.RowKit
-- watershed/watershedkeep.added
abbrev Ks_keep_added : List Kd := [.dat (.sl (.int .i64)), .dat (.sl (.int .i64))]
abbrev Rt_keep_added : Type := List Int
def T_keep_added : List (Nat × TE) := [(2, ⟨.int .i64, 1, 8, some (.int .i64), [.int .i64 (0 : Int)]⟩),
  (40, ⟨.slice 2, 1, 24, some (.sl (.int .i64)), [.nil]⟩)]
noncomputable def C_keep_added (_N : Nat) : Ctx := { T := T_keep_added, G := findE [], I := findI [], N := _N, n := 32, fx := [0], fl := 0, gs := Gs }
noncomputable def keep_added_1 (_N : Nat) (_k6 : Option Rt_keep_added) : Option Rt_keep_added :=
  _k6
theorem keep_added_1e (_N : Nat) (_x1 : List Int) (_x2 : List Int) (_k6 : Ko Rt_keep_added) :
    exec (C_keep_added _N) (cAt (bodyOf Tryd.f28) [0]) .none [(0, .sl (.int .i64) _x1), (1, .sl (.int .i64) _x2)] [] (canonK [0] _k6 [0, 1] 0 (fun _i _t _h => none) (fun _t _h => finK (C_keep_added _N) [.tmp 4] (finF 2 (.int .i64)) .ret _t _h)) = keep_added_1 _N (_k6 [(0, .sl (.int .i64) _x1), (1, .sl (.int .i64) _x2)] []) :=
  by kernel_rfl
noncomputable def keep_added_2 (_N : Nat) (_k7 : Option Rt_keep_added) : Option Rt_keep_added :=
  _k7
theorem keep_added_2e (_N : Nat) (_x1 : List Int) (_x2 : List Int) (_k7 : Ko Rt_keep_added) :
    exec (C_keep_added _N) (cAt (bodyOf Tryd.f28) [1, 0]) .none [(0, .sl (.int .i64) _x1), (1, .sl (.int .i64) _x2)] [] (canonK [0] _k7 [0, 1, 5] 0 (fun _i _t _h => none) (fun _t _h => finK (C_keep_added _N) [.tmp 4] (finF 2 (.int .i64)) .ret _t _h)) = keep_added_2 _N (_k7 [(0, .sl (.int .i64) _x1), (1, .sl (.int .i64) _x2), (5, .nil)] []) :=
  by kernel_rfl
noncomputable def keep_added_3 (_N : Nat) (_k9 : Option Rt_keep_added) : Option Rt_keep_added :=
  _k9
theorem keep_added_3e (_N : Nat) (_x1 : List Int) (_x2 : List Int) (_k9 : Ko Rt_keep_added) :
    exec (C_keep_added _N) (cAt (bodyOf Tryd.f28) [1, 1, 0, 0]) .none [(0, .sl (.int .i64) _x1), (1, .sl (.int .i64) _x2), (5, .nil)] [] (canonK [0] _k9 [0, 1, 5, 6] 0 (fun _i _t _h => none) (fun _t _h => finK (C_keep_added _N) [.tmp 4] (finF 2 (.int .i64)) .ret _t _h)) = keep_added_3 _N (_k9 [(0, .sl (.int .i64) _x1), (1, .sl (.int .i64) _x2), (5, .nil), (6, .int .i64 (0 : Int))] []) :=
  by kernel_rfl
noncomputable def keep_added_4 (_N : Nat) (_x1 : List Int) (_x2 : List Int) (_v1 : Int) (_v2 : List Int) (_k10 : Int → (List Int) → Option Rt_keep_added) (_k8 : (List Int) → Option Rt_keep_added) : Option Rt_keep_added :=
  (bif (decide (_v1 < (_x1.length : Int))) then (bif (decide (_v1 < (_x2.length : Int))) then (bif (decide (0 ≤ _v1) && decide (_v1 < (_x1.length : Int))) then (bif (decide (0 ≤ _v1) && decide (_v1 < (_x2.length : Int))) then (bif (decide ((_v2.length + ([(IntKind.i64.wrap ((nth (0 : Int) _x1 (_v1).toNat) + (nth (0 : Int) _x2 (_v1).toNat)))]).length) * 8 ≤ 70368744177664) && Nat.ble 1 8) then (_k10 (IntKind.i64.wrap (_v1 + (1 : Int))) (_v2 ++ [(IntKind.i64.wrap ((nth (0 : Int) _x1 (_v1).toNat) + (nth (0 : Int) _x2 (_v1).toNat)))])) else none) else none) else none) else (_k8 _v2)) else (_k8 _v2))
abbrev A_keep_added_4 : Ann := .two .none (.two (.one (.draw 1 [.pure, .pure, .pure, .pure, .pure, .pure, .pure, .pure, .pure, .pure, .new 1, .wr [0, 1], .pure])) .none)
theorem keep_added_4e (_N : Nat) (_x1 : List Int) (_x2 : List Int) (_v1 : Int) (_v2 : List Int) (_k10 _k8 : Ko Rt_keep_added) :
    exec (C_keep_added _N) (cAt (bodyOf Tryd.f28) [1, 1, 0, 1, 0, 0]) A_keep_added_4 [(0, .sl (.int .i64) _x1), (1, .sl (.int .i64) _x2), (5, .slc 0 0), (6, .int .i64 _v1)] [.row false 0 2 (.int .i64) _v2] (canonK [0] _k10 [0, 1, 5, 6] 1 (fun _i _t _h => wo 0 _k8 [0] [5] 1 _i _t _h none) (fun _t _h => finK (C_keep_added _N) [.tmp 4] (finF 2 (.int .i64)) .ret _t _h)) = keep_added_4 _N _x1 _x2 _v1 _v2 (fun _v1 _v2 => _k10 [(0, .sl (.int .i64) _x1), (1, .sl (.int .i64) _x2), (5, .slc 0 0), (6, .int .i64 _v1)] [.row false 0 2 (.int .i64) _v2]) (fun _v5 => _k8 [(5, .slc 0 0)] [.row false 0 2 (.int .i64) _v5]) :=
  by kernel_rfl
noncomputable def keep_added_5 (_N : Nat) (_x1 : List Int) (_x2 : List Int) (_k8 : (List Int) → Option Rt_keep_added) : Option Rt_keep_added :=
  loopD (fun (_s : Int × List Int) _kn => keep_added_4 _N _x1 _x2 _s.1 _s.2 (fun _v1 _v2 => _kn (_v1, _v2)) _k8) _N ((0 : Int), [])
abbrev A_keep_added_5 : Ann := .obj 5 2 (.int .i64) (.loop [0, 1, 5, 6] 1 A_keep_added_4)
theorem keep_added_5e (_N : Nat) (_x1 : List Int) (_x2 : List Int) (_k8 : Ko Rt_keep_added) :
    exec (C_keep_added _N) (cAt (bodyOf Tryd.f28) [1, 1, 0, 1, 0]) A_keep_added_5 [(0, .sl (.int .i64) _x1), (1, .sl (.int .i64) _x2), (5, .nil), (6, .int .i64 (0 : Int))] [] (canonK [0] _k8 [5] 1 (fun _i _t _h => wo 0 _k8 [0] [5] 1 _i _t _h none) (fun _t _h => finK (C_keep_added _N) [.tmp 4] (finF 2 (.int .i64)) .ret _t _h)) = keep_added_5 _N _x1 _x2 (fun _v5 => _k8 [(5, .slc 0 0)] [.row false 0 2 (.int .i64) _v5]) :=
  (exec_obj _ (by kernel_rfl) rfl (t' := (5, .slc 0 0) :: [(0, .sl (.int .i64) _x1), (1, .sl (.int .i64) _x2), (5, .nil), (6, .int .i64 (0 : Int))]) (h' := [.row false 0 2 (.int .i64) ([])]) (by kernel_rfl) (by kernel_rfl)).trans ((loop_frag (by kernel_rfl) rfl (by kernel_rfl) (by kernel_rfl)).trans (loopN_sim (S := Int × List Int) (fun _s => [(0, .sl (.int .i64) _x1), (1, .sl (.int .i64) _x2), (5, .slc 0 0), (6, .int .i64 _s.1)]) (fun _s => [.row false 0 2 (.int .i64) _s.2]) (fun _s _kn => keep_added_4e _N _x1 _x2 _s.1 _s.2 _kn _k8) _N ((0 : Int), [])))
noncomputable def keep_added_6 (_N : Nat) (_x1 : List Int) (_x2 : List Int) (_k8 : (List Int) → Option Rt_keep_added) : Option Rt_keep_added :=
  keep_added_5 _N _x1 _x2 _k8
abbrev A_keep_added_6 : Ann := .one (.obj 5 2 (.int .i64) (.loop [0, 1, 5, 6] 1 A_keep_added_4))
theorem keep_added_6e (_N : Nat) (_x1 : List Int) (_x2 : List Int) (_k8 : Ko Rt_keep_added) :
    exec (C_keep_added _N) (cAt (bodyOf Tryd.f28) [1, 1, 0, 1]) A_keep_added_6 [(0, .sl (.int .i64) _x1), (1, .sl (.int .i64) _x2), (5, .nil), (6, .int .i64 (0 : Int))] [] (canonK [0] _k8 [5] 1 (fun _i _t _h => none) (fun _t _h => finK (C_keep_added _N) [.tmp 4] (finF 2 (.int .i64)) .ret _t _h)) = keep_added_6 _N _x1 _x2 (fun _v5 => _k8 [(5, .slc 0 0)] [.row false 0 2 (.int .i64) _v5]) :=
  (block_canon (by kernel_rfl)).trans (keep_added_5e _N _x1 _x2 _k8)
noncomputable def keep_added_7 (_N : Nat) (_x1 : List Int) (_x2 : List Int) (_k8 : (List Int) → Option Rt_keep_added) : Option Rt_keep_added :=
  keep_added_3 _N (keep_added_6 _N _x1 _x2 _k8)
abbrev A_keep_added_7 : Ann := .two .none (.keep [0, 1, 5, 6] 0 (.one (.obj 5 2 (.int .i64) (.loop [0, 1, 5, 6] 1 A_keep_added_4))))
theorem keep_added_7e (_N : Nat) (_x1 : List Int) (_x2 : List Int) (_k8 : Ko Rt_keep_added) :
    exec (C_keep_added _N) (cAt (bodyOf Tryd.f28) [1, 1, 0]) A_keep_added_7 [(0, .sl (.int .i64) _x1), (1, .sl (.int .i64) _x2), (5, .nil)] [] (canonK [0] _k8 [5] 1 (fun _i _t _h => none) (fun _t _h => finK (C_keep_added _N) [.tmp 4] (finF 2 (.int .i64)) .ret _t _h)) = keep_added_7 _N _x1 _x2 (fun _v5 => _k8 [(5, .slc 0 0)] [.row false 0 2 (.int .i64) _v5]) :=
  (seq_frag (by kernel_rfl) rfl).trans ((keep_added_3e _N _x1 _x2 _).trans (congrArg (fun _z => keep_added_3 _N _z) (keep_added_6e _N _x1 _x2 _k8)))
noncomputable def keep_added_8 (_N : Nat) (_v5 : List Int) : Option Rt_keep_added :=
  (some _v5)
theorem keep_added_8e (_N : Nat) (_x1 : List Int) (_x2 : List Int) (_v5 : List Int) :
    exec (C_keep_added _N) (cAt (bodyOf Tryd.f28) [1, 1, 1]) .none [(5, .slc 0 0)] [.row false 0 2 (.int .i64) _v5] (canonR (fun _i _t _h => none) (finK (C_keep_added _N) [.tmp 4] (finF 2 (.int .i64)))) = keep_added_8 _N _v5 :=
  by kernel_rfl
noncomputable def keep_added_9 (_N : Nat) (_x1 : List Int) (_x2 : List Int) : Option Rt_keep_added :=
  keep_added_7 _N _x1 _x2 (fun _v5 => keep_added_8 _N _v5)
abbrev A_keep_added_9 : Ann := .two (.two .none (.keep [0, 1, 5, 6] 0 (.one (.obj 5 2 (.int .i64) (.loop [0, 1, 5, 6] 1 A_keep_added_4))))) (.keep [5] 1 .none)
theorem keep_added_9e (_N : Nat) (_x1 : List Int) (_x2 : List Int) :
    exec (C_keep_added _N) (cAt (bodyOf Tryd.f28) [1, 1]) A_keep_added_9 [(0, .sl (.int .i64) _x1), (1, .sl (.int .i64) _x2), (5, .nil)] [] (canonR (fun _i _t _h => none) (finK (C_keep_added _N) [.tmp 4] (finF 2 (.int .i64)))) = keep_added_9 _N _x1 _x2 :=
  (seq_frag (by kernel_rfl) rfl).trans ((keep_added_7e _N _x1 _x2 _).trans (congrArg (fun _z => keep_added_7 _N _x1 _x2 _z) (funext fun _v5 => keep_added_8e _N _x1 _x2 _v5)))
noncomputable def keep_added_10 (_N : Nat) (_x1 : List Int) (_x2 : List Int) : Option Rt_keep_added :=
  keep_added_2 _N (keep_added_9 _N _x1 _x2)
abbrev A_keep_added_10 : Ann := .two .none (.keep [0, 1, 5] 0 (.two (.two .none (.keep [0, 1, 5, 6] 0 (.one (.obj 5 2 (.int .i64) (.loop [0, 1, 5, 6] 1 A_keep_added_4))))) (.keep [5] 1 .none)))
theorem keep_added_10e (_N : Nat) (_x1 : List Int) (_x2 : List Int) :
    exec (C_keep_added _N) (cAt (bodyOf Tryd.f28) [1]) A_keep_added_10 [(0, .sl (.int .i64) _x1), (1, .sl (.int .i64) _x2)] [] (canonR (fun _i _t _h => none) (finK (C_keep_added _N) [.tmp 4] (finF 2 (.int .i64)))) = keep_added_10 _N _x1 _x2 :=
  (seq_frag (by kernel_rfl) rfl).trans ((keep_added_2e _N _x1 _x2 _).trans (congrArg (fun _z => keep_added_2 _N _z) (keep_added_9e _N _x1 _x2)))
noncomputable def keep_added_11 (_N : Nat) (_x1 : List Int) (_x2 : List Int) : Option Rt_keep_added :=
  keep_added_1 _N (keep_added_10 _N _x1 _x2)
abbrev A_keep_added_11 : Ann := .two .none (.keep [0, 1] 0 (.two .none (.keep [0, 1, 5] 0 (.two (.two .none (.keep [0, 1, 5, 6] 0 (.one (.obj 5 2 (.int .i64) (.loop [0, 1, 5, 6] 1 A_keep_added_4))))) (.keep [5] 1 .none)))))
theorem keep_added_11e (_N : Nat) (_x1 : List Int) (_x2 : List Int) :
    exec (C_keep_added _N) (cAt (bodyOf Tryd.f28) []) A_keep_added_11 [(0, .sl (.int .i64) _x1), (1, .sl (.int .i64) _x2)] [] (canonR (fun _i _t _h => none) (finK (C_keep_added _N) [.tmp 4] (finF 2 (.int .i64)))) = keep_added_11 _N _x1 _x2 :=
  (seq_frag (by kernel_rfl) rfl).trans ((keep_added_1e _N _x1 _x2 _).trans (congrArg (fun _z => keep_added_1 _N _z) (keep_added_10e _N _x1 _x2)))
noncomputable def D_keep_added (_N : Nat) (x : Dens Ks_keep_added) : Option Rt_keep_added := keep_added_11 _N x.1 x.2.1
theorem E_keep_added (_N : Nat) (x : Dens Ks_keep_added) : exec (C_keep_added _N) (bodyOf Tryd.f28) (.two .none (.keep [0, 1] 0 (.two .none (.keep [0, 1, 5] 0 (.two (.two .none (.keep [0, 1, 5, 6] 0 (.one (.obj 5 2 (.int .i64) (.loop [0, 1, 5, 6] 1 A_keep_added_4))))) (.keep [5] 1 .none)))))) (argS 0 (kvals Ks_keep_added x)) [] (finK (C_keep_added _N) [.tmp 4] (finF 2 (.int .i64))) = D_keep_added _N x :=
  (congrArg (fun K => exec (C_keep_added _N) (bodyOf Tryd.f28) (.two .none (.keep [0, 1] 0 (.two .none (.keep [0, 1, 5] 0 (.two (.two .none (.keep [0, 1, 5, 6] 0 (.one (.obj 5 2 (.int .i64) (.loop [0, 1, 5, 6] 1 A_keep_added_4))))) (.keep [5] 1 .none)))))) (argS 0 (kvals Ks_keep_added x)) [] K) canonR_fin).trans (keep_added_11e _N x.1 x.2.1)
theorem ok_keep_added (_N : Nat) : CtxOk Tryd.prog Gs Tryd.f28 (C_keep_added _N) := ⟨rfl, by unfold TOk; kernel_rfl, gOk_of rfl rfl (List.forall_mem_nil _), iOk_of rfl rfl (List.forall_mem_nil _), rfl⟩
theorem hb_keep_added : HasBody Tryd.prog 28 := ⟨Tryd.f28, bodyOf Tryd.f28, by kernel_rfl, by kernel_rfl, rfl⟩
theorem sp_keep_added (_N : Nat) : SpecF Tryd.prog Gs 28 Ks_keep_added 2 (.int .i64) (D_keep_added _N) := specF_of (c := bodyOf Tryd.f28) (by kernel_rfl) rfl (by kernel_rfl) (Nat.le_of_ble_eq_true (by kernel_rfl)) fun x y _h => ⟨C_keep_added _N, (.two .none (.keep [0, 1] 0 (.two .none (.keep [0, 1, 5] 0 (.two (.two .none (.keep [0, 1, 5, 6] 0 (.one (.obj 5 2 (.int .i64) (.loop [0, 1, 5, 6] 1 A_keep_added_4))))) (.keep [5] 1 .none)))))), ok_keep_added _N, (E_keep_added _N x).trans _h⟩
theorem en_keep_added (_N : Nat) : EntOk Tryd.prog Gs (mkF 28 Ks_keep_added 2 (.int .i64) (D_keep_added _N)) := entF hb_keep_added (by kernel_rfl) (Nat.le_of_ble_eq_true (by kernel_rfl)) (sp_keep_added _N)
theorem qen_keep_added (_N : Nat) : EntOk Tryd.prog Gs (mkQ 28 Ks_keep_added [.dat (.sl (.int .i64))] (fun x => (D_keep_added _N x).map fun y => (y, ()))) := entQ hb_keep_added (specD_of_F (sp_keep_added _N))
end Go.Proofs.YtdlhfddmbdbedaaDoor
