/- What stays under a map of a lattice is a lattice, with the least and the greatest of it as its ends: the law answers true for every order and every map. No condition. -/
import Derived.Test.YtdlhfddmbdbedaaDoorFixedS
import Derived.Test.YtdlhfddmbdbedaaDoorPartS
import Derived.Test.YtdlhfddmbdbedaaDoorFrame
namespace Go.Proofs.YtdlhfddmbdbedaaDoor
open Go Go.ChangeShapes Go.WideShapes Go.ChangeAt Go.WideMaps Go.WideElems Go.RowKit Go.Abs
-- watershed/fixed.All
abbrev Ks_fixed_All : List Kd := [.dat (.pair (.int .i64) (.sl (.int .u32))), .dat (.sl (.int .i64))]
abbrev Rk_fixed_All : List Kd := [.dat (.sl (.int .i64)), .dat (.int .i64)]
abbrev Rt_fixed_All : Type := Dens Rk_fixed_All
def T_fixed_All : List (Nat × TE) := [(3, ⟨.int .i64, 1, 8, some (.int .i64), [.int .i64 (0 : Int)]⟩),
  (24, ⟨.struct [(0, 3), (1, 22)], 2, 32, some (.pair (.int .i64) (.sl (.int .u32))), [.int .i64 (0 : Int), .nil]⟩),
  (25, ⟨.slice 3, 1, 24, some (.sl (.int .i64)), [.nil]⟩)]
noncomputable def C_fixed_All (_N : Nat) : Ctx := { T := T_fixed_All, G := findE [mkP 16 Ks_fixed_Check Rk_fixed_Check (D_fixed_Check _N)], I := findI [], N := _N, n := 32, fx := [1], fl := 0, gs := Gs }
noncomputable def fixed_All_1 (_N : Nat) (_k7 : Option Rt_fixed_All) : Option Rt_fixed_All :=
  _k7
theorem fixed_All_1e (_N : Nat) (_x1 : Int × List Int) (_x2 : List Int) (_k7 : Ko Rt_fixed_All) :
    exec (C_fixed_All _N) (cAt (bodyOf Tryd.f19) [0]) .none [(0, .agg [.int .i64 _x1.1, .sl (.int .u32) _x1.2]), (1, .sl (.int .i64) _x2)] [] (canonK [1] _k7 [1, 2] 1 (fun _i _t _h => none) (fun _t _h => finK (C_fixed_All _N) [.tmp 4, .tmp 5] (finD Rk_fixed_All) .ret _t _h)) = fixed_All_1 _N (_k7 [(1, .sl (.int .i64) _x2), (2, .ptr 0 0)] [.cells [.int .i64 _x1.1, .sl (.int .u32) _x1.2]]) :=
  by kernel_rfl
noncomputable def fixed_All_2 (_N : Nat) (_x1 : Int × List Int) (_x2 : List Int) (_k8 : Option Rt_fixed_All) : Option Rt_fixed_All :=
  ((D_fixed_Check _N ((_x1.1, _x1.2), _x2, ())).bind fun _y9 => (bif (_y9.1 != (0 : Int)) then (some ([], _y9.1, ())) else _k8))
theorem fixed_All_2e (_N : Nat) (_x1 : Int × List Int) (_x2 : List Int) (_k8 : Ko Rt_fixed_All) :
    exec (C_fixed_All _N) (cAt (bodyOf Tryd.f19) [1, 0]) .none [(1, .sl (.int .i64) _x2), (2, .ptr 0 0)] [.cells [.int .i64 _x1.1, .sl (.int .u32) _x1.2]] (canonK [1] _k8 [1] 1 (fun _i _t _h => none) (fun _t _h => finK (C_fixed_All _N) [.tmp 4, .tmp 5] (finD Rk_fixed_All) .ret _t _h)) = fixed_All_2 _N _x1 _x2 (_k8 [(1, .sl (.int .i64) _x2)] [.cells [.int .i64 _x1.1, .sl (.int .u32) _x1.2]]) :=
  by kernel_rfl
noncomputable def fixed_All_3 (_N : Nat) (_k10 : Option Rt_fixed_All) : Option Rt_fixed_All :=
  _k10
theorem fixed_All_3e (_N : Nat) (_x1 : Int × List Int) (_x2 : List Int) (_k10 : Ko Rt_fixed_All) :
    exec (C_fixed_All _N) (cAt (bodyOf Tryd.f19) [1, 1, 0]) .none [(1, .sl (.int .i64) _x2)] [.cells [.int .i64 _x1.1, .sl (.int .u32) _x1.2]] (canonK [1] _k10 [1, 7] 1 (fun _i _t _h => none) (fun _t _h => finK (C_fixed_All _N) [.tmp 4, .tmp 5] (finD Rk_fixed_All) .ret _t _h)) = fixed_All_3 _N (_k10 [(1, .sl (.int .i64) _x2), (7, .nil)] [.cells [.int .i64 _x1.1, .sl (.int .u32) _x1.2]]) :=
  by kernel_rfl
noncomputable def fixed_All_4 (_N : Nat) (_k12 : Option Rt_fixed_All) : Option Rt_fixed_All :=
  _k12
theorem fixed_All_4e (_N : Nat) (_x1 : Int × List Int) (_x2 : List Int) (_k12 : Ko Rt_fixed_All) :
    exec (C_fixed_All _N) (cAt (bodyOf Tryd.f19) [1, 1, 1, 0, 0]) .none [(1, .sl (.int .i64) _x2), (7, .nil)] [.cells [.int .i64 _x1.1, .sl (.int .u32) _x1.2]] (canonK [1] _k12 [7, 16, 17, 18] 1 (fun _i _t _h => none) (fun _t _h => finK (C_fixed_All _N) [.tmp 4, .tmp 5] (finD Rk_fixed_All) .ret _t _h)) = fixed_All_4 _N (_k12 [(7, .nil), (16, .sl (.int .i64) _x2), (17, .int .i64 (_x2.length : Int)), (18, .int .i64 (0 : Int))] [.cells [.int .i64 _x1.1, .sl (.int .u32) _x1.2]]) :=
  by kernel_rfl
noncomputable def fixed_All_5 (_N : Nat) (_x2 : List Int) (_v2 : Int) (_v3 : List Int) (_k13 : Int → (List Int) → Option Rt_fixed_All) (_k11 : (List Int) → Option Rt_fixed_All) : Option Rt_fixed_All :=
  (bif (decide (_v2 < (_x2.length : Int))) then (bif (decide (0 ≤ _v2) && decide (_v2 < (_x2.length : Int))) then (bif (_v2 == (nth (0 : Int) _x2 (_v2).toNat)) then (bif (decide ((_v3.length + ([_v2]).length) * 8 ≤ 70368744177664) && Nat.ble 1 8) then (_k13 (IntKind.i64.wrap (_v2 + (1 : Int))) (_v3 ++ [_v2])) else none) else (_k13 (IntKind.i64.wrap (_v2 + (1 : Int))) _v3)) else none) else (_k11 _v3))
theorem fixed_All_5e (_N : Nat) (_x1 : Int × List Int) (_x2 : List Int) (_v2 : Int) (_v3 : List Int) (_k13 _k11 : Ko Rt_fixed_All) :
    exec (C_fixed_All _N) (cAt (bodyOf Tryd.f19) [1, 1, 1, 0, 1, 0, 0]) .none [(7, .slc 1 0), (16, .sl (.int .i64) _x2), (17, .int .i64 (_x2.length : Int)), (18, .int .i64 _v2)] [.cells [.int .i64 _x1.1, .sl (.int .u32) _x1.2], .row false 0 3 (.int .i64) _v3] (canonK [1] _k13 [7, 16, 17, 18] 2 (fun _i _t _h => wo 0 _k11 [1] [7] 2 _i _t _h none) (fun _t _h => finK (C_fixed_All _N) [.tmp 4, .tmp 5] (finD Rk_fixed_All) .ret _t _h)) = fixed_All_5 _N _x2 _v2 _v3 (fun _v2 _v3 => _k13 [(7, .slc 1 0), (16, .sl (.int .i64) _x2), (17, .int .i64 (_x2.length : Int)), (18, .int .i64 _v2)] [.cells [.int .i64 _x1.1, .sl (.int .u32) _x1.2], .row false 0 3 (.int .i64) _v3]) (fun _v6 => _k11 [(7, .slc 1 0)] [.cells [.int .i64 _x1.1, .sl (.int .u32) _x1.2], .row false 0 3 (.int .i64) _v6]) :=
  by kernel_rfl
noncomputable def fixed_All_6 (_N : Nat) (_x2 : List Int) (_k11 : (List Int) → Option Rt_fixed_All) : Option Rt_fixed_All :=
  loopD (fun (_s : Int × List Int) _kn => fixed_All_5 _N _x2 _s.1 _s.2 (fun _v2 _v3 => _kn (_v2, _v3)) _k11) _N ((0 : Int), [])
abbrev A_fixed_All_6 : Ann := .obj 7 3 (.int .i64) (.loop [7, 16, 17, 18] 2 .none)
theorem fixed_All_6e (_N : Nat) (_x1 : Int × List Int) (_x2 : List Int) (_k11 : Ko Rt_fixed_All) :
    exec (C_fixed_All _N) (cAt (bodyOf Tryd.f19) [1, 1, 1, 0, 1, 0]) A_fixed_All_6 [(7, .nil), (16, .sl (.int .i64) _x2), (17, .int .i64 (_x2.length : Int)), (18, .int .i64 (0 : Int))] [.cells [.int .i64 _x1.1, .sl (.int .u32) _x1.2]] (canonK [1] _k11 [7] 2 (fun _i _t _h => wo 0 _k11 [1] [7] 2 _i _t _h none) (fun _t _h => finK (C_fixed_All _N) [.tmp 4, .tmp 5] (finD Rk_fixed_All) .ret _t _h)) = fixed_All_6 _N _x2 (fun _v6 => _k11 [(7, .slc 1 0)] [.cells [.int .i64 _x1.1, .sl (.int .u32) _x1.2], .row false 0 3 (.int .i64) _v6]) :=
  (exec_obj _ (by kernel_rfl) rfl (t' := (7, .slc 1 0) :: [(7, .nil), (16, .sl (.int .i64) _x2), (17, .int .i64 (_x2.length : Int)), (18, .int .i64 (0 : Int))]) (h' := [.cells [.int .i64 _x1.1, .sl (.int .u32) _x1.2], .row false 0 3 (.int .i64) ([])]) (by kernel_rfl) (by kernel_rfl)).trans ((loop_frag (by kernel_rfl) rfl (by kernel_rfl) (by kernel_rfl)).trans (loopN_sim (S := Int × List Int) (fun _s => [(7, .slc 1 0), (16, .sl (.int .i64) _x2), (17, .int .i64 (_x2.length : Int)), (18, .int .i64 _s.1)]) (fun _s => [.cells [.int .i64 _x1.1, .sl (.int .u32) _x1.2], .row false 0 3 (.int .i64) _s.2]) (fun _s _kn => fixed_All_5e _N _x1 _x2 _s.1 _s.2 _kn _k11) _N ((0 : Int), [])))
noncomputable def fixed_All_7 (_N : Nat) (_x2 : List Int) (_k11 : (List Int) → Option Rt_fixed_All) : Option Rt_fixed_All :=
  fixed_All_6 _N _x2 _k11
theorem fixed_All_7e (_N : Nat) (_x1 : Int × List Int) (_x2 : List Int) (_k11 : Ko Rt_fixed_All) :
    exec (C_fixed_All _N) (cAt (bodyOf Tryd.f19) [1, 1, 1, 0, 1]) (.one A_fixed_All_6) [(7, .nil), (16, .sl (.int .i64) _x2), (17, .int .i64 (_x2.length : Int)), (18, .int .i64 (0 : Int))] [.cells [.int .i64 _x1.1, .sl (.int .u32) _x1.2]] (canonK [1] _k11 [7] 2 (fun _i _t _h => none) (fun _t _h => finK (C_fixed_All _N) [.tmp 4, .tmp 5] (finD Rk_fixed_All) .ret _t _h)) = fixed_All_7 _N _x2 (fun _v6 => _k11 [(7, .slc 1 0)] [.cells [.int .i64 _x1.1, .sl (.int .u32) _x1.2], .row false 0 3 (.int .i64) _v6]) :=
  (block_canon (by kernel_rfl)).trans (fixed_All_6e _N _x1 _x2 _k11)
noncomputable def fixed_All_8 (_N : Nat) (_x2 : List Int) (_k11 : (List Int) → Option Rt_fixed_All) : Option Rt_fixed_All :=
  fixed_All_4 _N (fixed_All_7 _N _x2 _k11)
abbrev A_fixed_All_8 : Ann := .two .none (.keep [7, 16, 17, 18] 1 (.one A_fixed_All_6))
theorem fixed_All_8e (_N : Nat) (_x1 : Int × List Int) (_x2 : List Int) (_k11 : Ko Rt_fixed_All) :
    exec (C_fixed_All _N) (cAt (bodyOf Tryd.f19) [1, 1, 1, 0]) A_fixed_All_8 [(1, .sl (.int .i64) _x2), (7, .nil)] [.cells [.int .i64 _x1.1, .sl (.int .u32) _x1.2]] (canonK [1] _k11 [7] 2 (fun _i _t _h => none) (fun _t _h => finK (C_fixed_All _N) [.tmp 4, .tmp 5] (finD Rk_fixed_All) .ret _t _h)) = fixed_All_8 _N _x2 (fun _v6 => _k11 [(7, .slc 1 0)] [.cells [.int .i64 _x1.1, .sl (.int .u32) _x1.2], .row false 0 3 (.int .i64) _v6]) :=
  (seq_frag (by kernel_rfl) rfl).trans ((fixed_All_4e _N _x1 _x2 _).trans (congrArg (fun _z => fixed_All_4 _N _z) (fixed_All_7e _N _x1 _x2 _k11)))
noncomputable def fixed_All_9 (_N : Nat) (_v6 : List Int) : Option Rt_fixed_All :=
  (some (_v6, (0 : Int), ()))
theorem fixed_All_9e (_N : Nat) (_x1 : Int × List Int) (_x2 : List Int) (_v6 : List Int) :
    exec (C_fixed_All _N) (cAt (bodyOf Tryd.f19) [1, 1, 1, 1]) .none [(7, .slc 1 0)] [.cells [.int .i64 _x1.1, .sl (.int .u32) _x1.2], .row false 0 3 (.int .i64) _v6] (canonR (fun _i _t _h => none) (finK (C_fixed_All _N) [.tmp 4, .tmp 5] (finD Rk_fixed_All))) = fixed_All_9 _N _v6 :=
  by kernel_rfl
noncomputable def fixed_All_10 (_N : Nat) (_x2 : List Int) : Option Rt_fixed_All :=
  fixed_All_8 _N _x2 (fun _v6 => fixed_All_9 _N _v6)
abbrev A_fixed_All_10 : Ann := .two (.two .none (.keep [7, 16, 17, 18] 1 (.one A_fixed_All_6))) (.keep [7] 2 .none)
theorem fixed_All_10e (_N : Nat) (_x1 : Int × List Int) (_x2 : List Int) :
    exec (C_fixed_All _N) (cAt (bodyOf Tryd.f19) [1, 1, 1]) A_fixed_All_10 [(1, .sl (.int .i64) _x2), (7, .nil)] [.cells [.int .i64 _x1.1, .sl (.int .u32) _x1.2]] (canonR (fun _i _t _h => none) (finK (C_fixed_All _N) [.tmp 4, .tmp 5] (finD Rk_fixed_All))) = fixed_All_10 _N _x2 :=
  (seq_frag (by kernel_rfl) rfl).trans ((fixed_All_8e _N _x1 _x2 _).trans (congrArg (fun _z => fixed_All_8 _N _x2 _z) (funext fun _v6 => fixed_All_9e _N _x1 _x2 _v6)))
noncomputable def fixed_All_11 (_N : Nat) (_x2 : List Int) : Option Rt_fixed_All :=
  fixed_All_3 _N (fixed_All_10 _N _x2)
abbrev A_fixed_All_11 : Ann := .two .none (.keep [1, 7] 1 (.two (.two .none (.keep [7, 16, 17, 18] 1 (.one A_fixed_All_6))) (.keep [7] 2 .none)))
theorem fixed_All_11e (_N : Nat) (_x1 : Int × List Int) (_x2 : List Int) :
    exec (C_fixed_All _N) (cAt (bodyOf Tryd.f19) [1, 1]) A_fixed_All_11 [(1, .sl (.int .i64) _x2)] [.cells [.int .i64 _x1.1, .sl (.int .u32) _x1.2]] (canonR (fun _i _t _h => none) (finK (C_fixed_All _N) [.tmp 4, .tmp 5] (finD Rk_fixed_All))) = fixed_All_11 _N _x2 :=
  (seq_frag (by kernel_rfl) rfl).trans ((fixed_All_3e _N _x1 _x2 _).trans (congrArg (fun _z => fixed_All_3 _N _z) (fixed_All_10e _N _x1 _x2)))
noncomputable def fixed_All_12 (_N : Nat) (_x1 : Int × List Int) (_x2 : List Int) : Option Rt_fixed_All :=
  fixed_All_2 _N _x1 _x2 (fixed_All_11 _N _x2)
abbrev A_fixed_All_12 : Ann := .two .none (.keep [1] 1 (.two .none (.keep [1, 7] 1 (.two (.two .none (.keep [7, 16, 17, 18] 1 (.one A_fixed_All_6))) (.keep [7] 2 .none)))))
theorem fixed_All_12e (_N : Nat) (_x1 : Int × List Int) (_x2 : List Int) :
    exec (C_fixed_All _N) (cAt (bodyOf Tryd.f19) [1]) A_fixed_All_12 [(1, .sl (.int .i64) _x2), (2, .ptr 0 0)] [.cells [.int .i64 _x1.1, .sl (.int .u32) _x1.2]] (canonR (fun _i _t _h => none) (finK (C_fixed_All _N) [.tmp 4, .tmp 5] (finD Rk_fixed_All))) = fixed_All_12 _N _x1 _x2 :=
  (seq_frag (by kernel_rfl) rfl).trans ((fixed_All_2e _N _x1 _x2 _).trans (congrArg (fun _z => fixed_All_2 _N _x1 _x2 _z) (fixed_All_11e _N _x1 _x2)))
noncomputable def fixed_All_13 (_N : Nat) (_x1 : Int × List Int) (_x2 : List Int) : Option Rt_fixed_All :=
  fixed_All_1 _N (fixed_All_12 _N _x1 _x2)
abbrev A_fixed_All_13 : Ann := .two .none (.keep [1, 2] 1 (.two .none (.keep [1] 1 (.two .none (.keep [1, 7] 1 (.two (.two .none (.keep [7, 16, 17, 18] 1 (.one A_fixed_All_6))) (.keep [7] 2 .none)))))))
theorem fixed_All_13e (_N : Nat) (_x1 : Int × List Int) (_x2 : List Int) :
    exec (C_fixed_All _N) (cAt (bodyOf Tryd.f19) []) A_fixed_All_13 [(0, .agg [.int .i64 _x1.1, .sl (.int .u32) _x1.2]), (1, .sl (.int .i64) _x2)] [] (canonR (fun _i _t _h => none) (finK (C_fixed_All _N) [.tmp 4, .tmp 5] (finD Rk_fixed_All))) = fixed_All_13 _N _x1 _x2 :=
  (seq_frag (by kernel_rfl) rfl).trans ((fixed_All_1e _N _x1 _x2 _).trans (congrArg (fun _z => fixed_All_1 _N _z) (fixed_All_12e _N _x1 _x2)))
noncomputable def D_fixed_All (_N : Nat) (x : Dens Ks_fixed_All) : Option Rt_fixed_All := fixed_All_13 _N x.1 x.2.1
theorem E_fixed_All (_N : Nat) (x : Dens Ks_fixed_All) : exec (C_fixed_All _N) (bodyOf Tryd.f19) (.two .none (.keep [1, 2] 1 (.two .none (.keep [1] 1 (.two .none (.keep [1, 7] 1 (.two (.two .none (.keep [7, 16, 17, 18] 1 (.one A_fixed_All_6))) (.keep [7] 2 .none)))))))) (argS 0 (kvals Ks_fixed_All x)) [] (finK (C_fixed_All _N) [.tmp 4, .tmp 5] (finD Rk_fixed_All)) = D_fixed_All _N x :=
  (congrArg (fun K => exec (C_fixed_All _N) (bodyOf Tryd.f19) (.two .none (.keep [1, 2] 1 (.two .none (.keep [1] 1 (.two .none (.keep [1, 7] 1 (.two (.two .none (.keep [7, 16, 17, 18] 1 (.one A_fixed_All_6))) (.keep [7] 2 .none)))))))) (argS 0 (kvals Ks_fixed_All x)) [] K) canonR_fin).trans (fixed_All_13e _N x.1 x.2.1)
theorem ok_fixed_All (_N : Nat) : CtxOk Tryd.prog Gs Tryd.f19 (C_fixed_All _N) := ⟨rfl, by unfold TOk; kernel_rfl, gOk_of rfl rfl (List.forall_mem_cons.2 ⟨en_fixed_Check _N, (List.forall_mem_nil _)⟩), iOk_of rfl rfl (List.forall_mem_nil _), rfl⟩
theorem hb_fixed_All : HasBody Tryd.prog 19 := ⟨Tryd.f19, bodyOf Tryd.f19, by kernel_rfl, by kernel_rfl, rfl⟩
theorem sp_fixed_All (_N : Nat) : SpecD Tryd.prog Gs 19 Ks_fixed_All Rk_fixed_All (D_fixed_All _N) := specD_of (c := bodyOf Tryd.f19) (by kernel_rfl) rfl (by kernel_rfl) (Nat.le_of_ble_eq_true (by kernel_rfl)) fun x y _h => ⟨C_fixed_All _N, (.two .none (.keep [1, 2] 1 (.two .none (.keep [1] 1 (.two .none (.keep [1, 7] 1 (.two (.two .none (.keep [7, 16, 17, 18] 1 (.one A_fixed_All_6))) (.keep [7] 2 .none)))))))), ok_fixed_All _N, (E_fixed_All _N x).trans _h⟩
theorem en_fixed_All (_N : Nat) : EntOk Tryd.prog Gs (mkD 19 Ks_fixed_All Rk_fixed_All (D_fixed_All _N)) := entD hb_fixed_All (sp_fixed_All _N)
theorem qen_fixed_All (_N : Nat) : EntOk Tryd.prog Gs (mkQ 19 Ks_fixed_All Rk_fixed_All (D_fixed_All _N)) := entQ hb_fixed_All (sp_fixed_All _N)
-- watershed/watershedkeep.FixedLattice
abbrev Ks_keep_FixedLattice : List Kd := [.dat (.pair (.int .i64) (.sl (.int .u32))), .dat (.sl (.int .i64))]
abbrev Rk_keep_FixedLattice : List Kd := [.dat (.bool)]
abbrev Rt_keep_FixedLattice : Type := Dens Rk_keep_FixedLattice
def T_keep_FixedLattice : List (Nat × TE) := [(3, ⟨.int .i64, 1, 8, some (.int .i64), [.int .i64 (0 : Int)]⟩),
  (24, ⟨.struct [(0, 3), (1, 22)], 2, 32, some (.pair (.int .i64) (.sl (.int .u32))), [.int .i64 (0 : Int), .nil]⟩),
  (25, ⟨.slice 3, 1, 24, some (.sl (.int .i64)), [.nil]⟩),
  (35, ⟨.struct [(0, 25), (1, 25), (2, 3), (3, 3)], 4, 64, some (.pair (.sl (.int .i64)) (.pair (.sl (.int .i64)) (.pair (.int .i64) (.int .i64)))), [.nil, .nil, .int .i64 (0 : Int), .int .i64 (0 : Int)]⟩)]
noncomputable def C_keep_FixedLattice (_N : Nat) : Ctx := { T := T_keep_FixedLattice, G := findE [mkP 15 Ks_keep_mapped Rk_keep_mapped (D_keep_mapped _N), mkP 16 Ks_fixed_Check Rk_fixed_Check (D_fixed_Check _N), mkP 17 Ks_fixed_Least Rk_fixed_Least (D_fixed_Least _N), mkP 18 Ks_fixed_Greatest Rk_fixed_Greatest (D_fixed_Greatest _N), mkQ 19 Ks_fixed_All Rk_fixed_All (D_fixed_All _N), mkP 20 Ks_keep_within Rk_keep_within (D_keep_within _N), mkQ 22 Ks_keep_part Rk_keep_part (D_keep_part _N), mkQ 21 Ks_lattice_Make Rk_lattice_Make (D_lattice_Make _N)], I := findI [], N := _N, n := 97, fx := [], fl := 0, gs := Gs }
noncomputable def keep_FixedLattice_1 (_N : Nat) (_x1 : Int × List Int) (_x2 : List Int) : Option Rt_keep_FixedLattice :=
  ((D_keep_mapped _N ((_x1.1, _x1.2), _x2, ())).bind fun _y10 => (bif (!_y10.1) then ((D_fixed_Check _N ((_x1.1, _x1.2), _x2, ())).bind fun _y11 => (some ((_y11.1 != (0 : Int)), ()))) else ((D_fixed_Least _N ((_x1.1, _x1.2), _x2, ())).bind fun _y12 => ((D_fixed_Greatest _N ((_x1.1, _x1.2), _x2, ())).bind fun _y13 => ((D_fixed_All _N ((_x1.1, _x1.2), _x2, ())).bind fun _y14 => (bif (_y12.2.2.1 != (0 : Int)) then (some ((_y12.2.2.1 == _y13.2.2.1), ())) else (bif (_y13.2.2.1 != (0 : Int)) then (some ((_y12.2.2.1 == _y13.2.2.1), ())) else (bif (_y14.2.1 != (0 : Int)) then (some ((_y12.2.2.1 == _y13.2.2.1), ())) else ((D_keep_within _N (_x1.1, _y14.1, ())).bind fun _y15 => (bif (!_y15.1) then (some (false, ())) else ((D_keep_part _N ((_x1.1, _x1.2), _y14.1, ())).bind fun _y16 => ((D_lattice_Make _N ((_y16.1.1, _y16.1.2), ())).bind fun _y17 => (bif (_y17.2.1 == (0 : Int)) then ((D_keep_within _N ((_y14.1.length : Int), [_y17.1.2.2.1, _y17.1.2.2.2], ())).bind fun _y18 => (bif _y18.1 then (bif (decide (0 ≤ _y17.1.2.2.1) && decide (_y17.1.2.2.1 < (_y14.1.length : Int))) then (bif ((nth (0 : Int) _y14.1 (_y17.1.2.2.1).toNat) == _y12.1) then (bif (decide (0 ≤ _y17.1.2.2.2) && decide (_y17.1.2.2.2 < (_y14.1.length : Int))) then (some (((nth (0 : Int) _y14.1 (_y17.1.2.2.2).toNat) == _y13.1), ())) else none) else (some (false, ()))) else none) else (some (false, ())))) else (some (false, ())))))))))))))))
theorem keep_FixedLattice_1e (_N : Nat) (_x1 : Int × List Int) (_x2 : List Int) :
    exec (C_keep_FixedLattice _N) (cAt (bodyOf Tryd.f3) []) .none [(0, .agg [.int .i64 _x1.1, .sl (.int .u32) _x1.2]), (1, .sl (.int .i64) _x2)] [] (canonR (fun _i _t _h => none) (finK (C_keep_FixedLattice _N) [.tmp 4] (finD Rk_keep_FixedLattice))) = keep_FixedLattice_1 _N _x1 _x2 :=
  by kernel_rfl
noncomputable def D_keep_FixedLattice (_N : Nat) (x : Dens Ks_keep_FixedLattice) : Option Rt_keep_FixedLattice := keep_FixedLattice_1 _N x.1 x.2.1
theorem E_keep_FixedLattice (_N : Nat) (x : Dens Ks_keep_FixedLattice) : exec (C_keep_FixedLattice _N) (bodyOf Tryd.f3) .none (argS 0 (kvals Ks_keep_FixedLattice x)) [] (finK (C_keep_FixedLattice _N) [.tmp 4] (finD Rk_keep_FixedLattice)) = D_keep_FixedLattice _N x :=
  (congrArg (fun K => exec (C_keep_FixedLattice _N) (bodyOf Tryd.f3) .none (argS 0 (kvals Ks_keep_FixedLattice x)) [] K) canonR_fin).trans (keep_FixedLattice_1e _N x.1 x.2.1)
theorem ok_keep_FixedLattice (_N : Nat) : CtxOk Tryd.prog Gs Tryd.f3 (C_keep_FixedLattice _N) := ⟨rfl, by unfold TOk; kernel_rfl, gOk_of rfl rfl (List.forall_mem_cons.2 ⟨en_keep_mapped _N, (List.forall_mem_cons.2 ⟨en_fixed_Check _N, (List.forall_mem_cons.2 ⟨en_fixed_Least _N, (List.forall_mem_cons.2 ⟨en_fixed_Greatest _N, (List.forall_mem_cons.2 ⟨qen_fixed_All _N, (List.forall_mem_cons.2 ⟨en_keep_within _N, (List.forall_mem_cons.2 ⟨qen_keep_part _N, (List.forall_mem_cons.2 ⟨qen_lattice_Make _N, (List.forall_mem_nil _)⟩)⟩)⟩)⟩)⟩)⟩)⟩)⟩), iOk_of rfl rfl (List.forall_mem_nil _), rfl⟩
theorem hb_keep_FixedLattice : HasBody Tryd.prog 3 := ⟨Tryd.f3, bodyOf Tryd.f3, by kernel_rfl, by kernel_rfl, rfl⟩
theorem sp_keep_FixedLattice (_N : Nat) : SpecD Tryd.prog Gs 3 Ks_keep_FixedLattice Rk_keep_FixedLattice (D_keep_FixedLattice _N) := specD_of (c := bodyOf Tryd.f3) (by kernel_rfl) rfl (by kernel_rfl) (Nat.le_of_ble_eq_true (by kernel_rfl)) fun x y _h => ⟨C_keep_FixedLattice _N, .none, ok_keep_FixedLattice _N, (E_keep_FixedLattice _N x).trans _h⟩
theorem en_keep_FixedLattice (_N : Nat) : EntOk Tryd.prog Gs (mkP 3 Ks_keep_FixedLattice Rk_keep_FixedLattice (D_keep_FixedLattice _N)) := entP hb_keep_FixedLattice (by kernel_rfl) (sp_keep_FixedLattice _N)
def stay (f : List Int) (n : Nat) : List Nat := (List.range n).filter fun i => decide (nth 0 f i = (i : Int))
theorem stay_succ (f : List Int) (n : Nat) : stay f (n + 1) = if nth 0 f n = (n : Int) then stay f n ++ [n] else stay f n := by
  unfold stay
  rw [List.range_succ, List.filter_append]
  by_cases h : nth 0 f n = (n : Int)
  · rw [if_pos h]; simp [h]
  · rw [if_neg h]; simp [h]
theorem stay_len (f : List Int) (n : Nat) : (stay f n).length ≤ n := by
  have := List.length_filter_le (fun i => decide (nth 0 f i = ((i : Nat) : Int))) (List.range n)
  simpa [stay] using this
theorem stay_mem {f : List Int} {n x : Nat} : x ∈ stay f n ↔ x < n ∧ nth 0 f x = (x : Int) := by
  unfold stay
  rw [List.mem_filter, List.mem_range, decide_eq_true_eq]
theorem stay_inj {f : List Int} {n i j : Nat} (hi : i < (stay f n).length) (hj : j < (stay f n).length) (h : nth 0 (stay f n) i = nth 0 (stay f n) j) : i = j := by
  have hn : (stay f n).Nodup := List.Pairwise.filter _ List.nodup_range
  have e : ∀ i, (hi : i < (stay f n).length) → nth 0 (stay f n) i = (stay f n)[i] := fun i hi => by unfold nth; rw [List.getD_eq_getElem?_getD, List.getElem?_eq_getElem hi]; rfl
  rw [e i hi, e j hj] at h
  exact (List.getElem_inj hn).1 h
theorem fAll_eq {N m : Nat} {up f : List Int} (hN : 1000 ≤ N) (hfN : f.length < N) (hl : f.length ≤ 9223372036854775807) (hw : WL up) (ho : Ord (m : Int) up) (hmp : Mapd m up f) : D_fixed_All N (((m : Int), up), f, ()) = some ((stay f m).map fun (i : Nat) => (i : Int), 0, ()) := by
  have hm : m ≤ 16 := by have := ho.h1; omega
  obtain ⟨e, e1, e2⟩ := fCheck_eq hN hfN hl hw (n := (m : Int))
  obtain rfl := e2.2 ⟨ho, hmp⟩
  simp only [D_fixed_All, fixed_All_13, fixed_All_12, fixed_All_11, fixed_All_10, fixed_All_9, fixed_All_8, fixed_All_7, fixed_All_4, fixed_All_3, fixed_All_2, fixed_All_1, e1, Option.bind_some, bne_self_eq_false, cond_false]
  have hlen := hmp.len
  unfold fixed_All_6
  refine loopD_path (N := N) m (fun i => ((i : Int), (stay f i).map fun (j : Nat) => (j : Int))) (fun i hi kn => ?_) (fun kn => ?_) (by omega)
  · simp only [fixed_All_5, lt_d (show i < f.length by omega), ge0_d, Bool.and_self, cond_true, Int.toNat_natCast, w1 hm hi, stay_succ]
    by_cases q : nth 0 f i = (i : Int)
    · rw [if_pos q, q, beq_self_eq_true, cond_true, d_true (by have := stay_len f i; simp; omega)]
      simp
      rfl
    · rw [if_neg q, beq_false_of_ne (fun h => q h.symm), cond_false]
      rfl
  · simp only [fixed_All_5, hlen, lt_self, cond_false]
theorem fixed_latt {m : Nat} {up f w : List Int} {J K : Nat → Nat → Nat} {b t x y k l : Nat} (hmp : Mapd m up f) (lat : Latt m (le up) J K b t) (sx : Sett m (le up) (fm f) b k x) (sy : Sett m (fun i j => le up j i) (fm f) t l y) (hP : Pw up (stay f m) (stay f m).length w)
    {ix iy : Nat} (hix : ix < (stay f m).length) (ex : nth 0 (stay f m) ix = x) (hiy : iy < (stay f m).length) (ey : nth 0 (stay f m) iy = y) : ∃ J' K', Latt (stay f m).length (le w) J' K' ix iy := by
  have hle : ∀ {i j}, i < (stay f m).length → (le w i j ↔ j < (stay f m).length ∧ le up (nth 0 (stay f m) i) (nth 0 (stay f m) j)) := fun {i j} hi => hP.bit i hi j
  have hin : ∀ i, i < (stay f m).length → nth 0 (stay f m) i < m ∧ fm f (nth 0 (stay f m) i) = nth 0 (stay f m) i := fun i hi => by
    have := stay_mem.1 (nth_mem (z := 0) hi)
    have hv := hmp.val _ this.1
    exact ⟨this.1, by omega⟩
  have hidx : ∀ z, z < m → fm f z = z → ∃ i, i < (stay f m).length ∧ nth 0 (stay f m) i = z := fun z hz hf => by
    have := stay_mem.2 ⟨hz, by rw [hmp.val z hz, hf]⟩
    obtain ⟨i, hi, e⟩ := mem_nth (z := (0 : Nat)) this
    exact ⟨i, hi, e⟩
  have hlt := hmp.lt
  have hjoin : ∀ i j, ∃ c, i < (stay f m).length → j < (stay f m).length → c < (stay f m).length ∧ ∀ d, d < (stay f m).length → (le w c d ↔ le w i d ∧ le w j d) := fun i j => by
    by_cases h : i < (stay f m).length ∧ j < (stay f m).length
    case neg => exact ⟨0, fun h1 h2 => absurd ⟨h1, h2⟩ h⟩
    obtain ⟨hi, hj⟩ := h
    obtain ⟨ai, fi⟩ := hin i hi
    obtain ⟨aj, fj⟩ := hin j hj
    have hu := lat.jlt _ _ ai aj
    have hup : le up (J (nth 0 (stay f m) i) (nth 0 (stay f m) j)) (fm f (J (nth 0 (stay f m) i) (nth 0 (stay f m) j))) := by
      refine (lat.jle _ _ _ ai aj (hlt _ hu)).2 ⟨?_, ?_⟩
      · have := hmp.mono _ _ ai hu (lat.jl ai aj)
        rw [fi] at this; exact this
      · have := hmp.mono _ _ aj hu (lat.jr ai aj)
        rw [fj] at this; exact this
    obtain ⟨n, n1, n2, -, n4, n5⟩ := settle_up lat.refl lat.anti lat.trans hlt hmp.mono hu hup
    obtain ⟨c, hc, ec⟩ := hidx _ n4 n2
    have huz : le up (J (nth 0 (stay f m) i) (nth 0 (stay f m) j)) (itf (fm f) (J (nth 0 (stay f m) i) (nth 0 (stay f m) j)) n) := by
      have := itf_mono lat.refl lat.trans hlt hmp.mono hu hup 0 n
      rw [Nat.zero_add] at this
      exact this
    refine ⟨c, fun _ _ => ⟨hc, fun d hd => ?_⟩⟩
    obtain ⟨ad, fd⟩ := hin d hd
    rw [hle hc, hle hi, hle hj, ec]
    constructor
    · rintro ⟨_, h2⟩
      have h3 := (lat.jle _ _ _ ai aj ad).1 (lat.trans _ _ _ hu n4 ad huz h2)
      exact ⟨⟨hd, h3.1⟩, hd, h3.2⟩
    · rintro ⟨⟨_, h2⟩, _, h3⟩
      exact ⟨hd, n5 _ ad (by rw [fd]; exact lat.refl _ ad) ((lat.jle _ _ _ ai aj ad).2 ⟨h2, h3⟩)⟩
  have hmeet : ∀ i j, ∃ c, i < (stay f m).length → j < (stay f m).length → c < (stay f m).length ∧ ∀ d, d < (stay f m).length → (le w d c ↔ le w d i ∧ le w d j) := fun i j => by
    by_cases h : i < (stay f m).length ∧ j < (stay f m).length
    case neg => exact ⟨0, fun h1 h2 => absurd ⟨h1, h2⟩ h⟩
    obtain ⟨hi, hj⟩ := h
    obtain ⟨ai, fi⟩ := hin i hi
    obtain ⟨aj, fj⟩ := hin j hj
    have hu := lat.klt _ _ ai aj
    have hup : le up (fm f (K (nth 0 (stay f m) i) (nth 0 (stay f m) j))) (K (nth 0 (stay f m) i) (nth 0 (stay f m) j)) := by
      refine (lat.kle _ _ _ ai aj (hlt _ hu)).2 ⟨?_, ?_⟩
      · have := hmp.mono _ _ hu ai (lat.kl ai aj)
        rw [fi] at this; exact this
      · have := hmp.mono _ _ hu aj (lat.kr ai aj)
        rw [fj] at this; exact this
    have lt2 := lat.turn
    obtain ⟨n, n1, n2, -, n4, n5⟩ := settle_up (L := fun i j => le up j i) lt2.refl lt2.anti lt2.trans hlt (fun a b ha hb h => hmp.mono b a hb ha h) hu hup
    obtain ⟨c, hc, ec⟩ := hidx _ n4 n2
    have huz : le up (itf (fm f) (K (nth 0 (stay f m) i) (nth 0 (stay f m) j)) n) (K (nth 0 (stay f m) i) (nth 0 (stay f m) j)) := by
      have := itf_mono (L := fun i j => le up j i) lt2.refl lt2.trans hlt (fun a b ha hb h => hmp.mono b a hb ha h) hu hup 0 n
      rw [Nat.zero_add] at this
      exact this
    refine ⟨c, fun _ _ => ⟨hc, fun d hd => ?_⟩⟩
    obtain ⟨ad, fd⟩ := hin d hd
    rw [hle hd, hle hd, hle hd, ec]
    constructor
    · rintro ⟨_, h2⟩
      have h3 := (lat.kle _ _ _ ai aj ad).1 (lat.trans _ _ _ ad n4 hu h2 huz)
      exact ⟨⟨hi, h3.1⟩, hj, h3.2⟩
    · rintro ⟨⟨_, h2⟩, _, h3⟩
      exact ⟨hc, n5 _ ad (by rw [fd]; exact lat.refl _ ad) ((lat.kle _ _ _ ai aj ad).2 ⟨h2, h3⟩)⟩
  refine ⟨fun i j => Classical.choose (hjoin i j), fun i j => Classical.choose (hmeet i j), fun i hi => ?_, fun i j hi hj h1 h2 => ?_, fun i j k hi hj hk h1 h2 => ?_, fun i j hi hj => ?_, fun i j hi hj => ?_, fun i j d hi hj hd => ?_, fun i j d hi hj hd => ?_, hix, hiy, fun d hd => ?_, fun d hd => ?_⟩
  · exact (hle hi).2 ⟨hi, lat.refl _ (hin i hi).1⟩
  · exact stay_inj hi hj (lat.anti _ _ (hin i hi).1 (hin j hj).1 ((hle hi).1 h1).2 ((hle hj).1 h2).2)
  · exact (hle hi).2 ⟨hk, lat.trans _ _ _ (hin i hi).1 (hin j hj).1 (hin k hk).1 ((hle hi).1 h1).2 ((hle hj).1 h2).2⟩
  · exact (Classical.choose_spec (hjoin i j) hi hj).1
  · exact (Classical.choose_spec (hmeet i j) hi hj).1
  · exact (Classical.choose_spec (hjoin i j) hi hj).2 d hd
  · exact (Classical.choose_spec (hmeet i j) hi hj).2 d hd
  · rw [hle hix, ex]
    exact ⟨hd, sx.least _ (hin d hd).1 (by rw [(hin d hd).2]; exact lat.refl _ (hin d hd).1)⟩
  · rw [hle hd, ey]
    exact ⟨hiy, sy.least _ (hin d hd).1 (by rw [(hin d hd).2]; exact lat.refl _ (hin d hd).1)⟩
theorem law_FixedLattice (o : Int × List Int) (f : List Int) (ho : wfS (.pair (.int .i64) (.sl (.int .u32))) o) (hf : wfS (.sl (.int .i64)) f) : ∃ N, D_keep_FixedLattice N (o, f, ()) = some (true, ()) := by
  obtain ⟨n, up⟩ := o
  have hw : WL up := WL_of ho.2
  have hl : f.length ≤ 9223372036854775807 := hf.1
  refine ⟨1000 + f.length, ?_⟩
  have hN : 1000 ≤ 1000 + f.length := by omega
  have hfN : f.length < 1000 + f.length := by omega
  generalize 1000 + f.length = N at hN hfN
  obtain ⟨b1, m1, m2⟩ := mapped_eq hN hfN hl hw (n := n)
  obtain ⟨e1, c1, c2⟩ := fCheck_eq hN hfN hl hw (n := n)
  simp only [D_keep_FixedLattice, keep_FixedLattice_1, D_lattice_Make, lattice_Make_1, m1, Option.bind_some]
  rcases bcase m2 with ⟨hyes, rfl⟩ | ⟨hno, rfl⟩
  case inr =>
    have : (e1 != 0) = true := bne_iff_ne.2 fun e => hno (c2.1 e)
    simp only [Bool.not_false, cond_true, c1, Option.bind_some, this]
  obtain ⟨ho', hmp'⟩ := hyes
  obtain ⟨m', rfl⟩ : ∃ m : Nat, n = (m : Int) := ⟨n.toNat, by have := ho'.h0; omega⟩
  rw [Int.toNat_natCast] at hmp'
  simp only [Bool.not_true, cond_false]
  rcases LG_spec hN hfN hl hw (n := (m' : Int)) with ⟨e, he, q1, q2, -⟩ | ⟨m, J, M, b, t, p, k, y, l, em, hm, hlu, ho, hL, hmp, q1, q2, sp, sy⟩
  · simp only [q1, q2, fAll_eq hN hfN hl hw ho' hmp', Option.bind_some, show (e != 0) = true from bne_iff_ne.2 he, cond_true, beq_self_eq_true]
  obtain rfl : m' = m := by omega
  have lat := hL.lat
  simp only [Int.toNat_natCast] at lat
  have hlen16 : (stay f m').length ≤ 16 := Nat.le_trans (stay_len f m') hm
  have hlt : ∀ x ∈ stay f m', x < m' := fun x hx => (stay_mem.1 hx).1
  obtain ⟨w, w1', w2⟩ := part_eq hN hm hw hlu hlen16 hlt
  have hidx : ∀ z, z < m' → fm f z = z → ∃ i, i < (stay f m').length ∧ nth 0 (stay f m') i = z := fun z hz hf => by
    have := stay_mem.2 ⟨hz, by rw [hmp.val z hz, hf]⟩
    obtain ⟨i, hi, e⟩ := mem_nth (z := (0 : Nat)) this
    exact ⟨i, hi, e⟩
  obtain ⟨ix, hix, ex⟩ := hidx p sp.lt sp.stays
  obtain ⟨iy, hiy, ey⟩ := hidx y sy.lt sy.stays
  obtain ⟨J', K', lat'⟩ := fixed_latt hmp lat sp sy w2 hix ex hiy ey
  have hoP := w2.ord ho hlen16 hlt fun i j hi hj h => stay_inj hi hj h
  obtain ⟨wi, r1, r2⟩ := within_eq (N := N) (n := (m' : Int)) (xs := (stay f m').map fun (i : Nat) => (i : Int)) (by rw [List.length_map]; omega) (by rw [List.length_map]; omega)
  obtain rfl := r2.2 fun x hx => by
    obtain ⟨j, hj, rfl⟩ := List.mem_map.1 hx
    have := hlt j hj
    omega
  rcases LatOf_spec hN w2.wl ((stay f m').length : Int) with ⟨e, he, h1, h2⟩ | ⟨m2, J2, M2, B, T, em2, ho2, hL2, h1⟩
  · exact absurd ⟨J', K', ix, iy, lat'⟩ (h2 hoP).2
  obtain rfl : m2 = (stay f m').length := by omega
  have hB := hL2.b0
  have hT := hL2.t0
  obtain ⟨B, rfl⟩ : ∃ x : Nat, B = (x : Int) := ⟨B.toNat, by omega⟩
  obtain ⟨T, rfl⟩ : ∃ x : Nat, T = (x : Int) := ⟨T.toNat, by omega⟩
  have l2 := hL2.lat
  simp only [Int.toNat_natCast] at l2
  have eB : B = ix := l2.anti _ _ l2.blt hix (l2.ble _ hix) (lat'.ble _ l2.blt)
  have eT : T = iy := l2.anti _ _ l2.tlt hiy (lat'.tle _ l2.tlt) (l2.tle _ hiy)
  subst eB; subst eT
  obtain ⟨wj, s1, s2⟩ := within_eq (N := N) (n := ((stay f m').length : Int)) (xs := [(B : Int), (T : Int)]) (by simp; omega) (by simp)
  obtain rfl := s2.2 (by simp; omega)
  simp only [q1, q2, fAll_eq hN hfN hl hw ho hmp, Option.bind_some, bne_self_eq_false, cond_false, r1, Bool.not_true, w1', h1, beq_self_eq_true, cond_true, List.length_map, s1, ge0_d, lt_d hix, lt_d hiy, Bool.and_self, Int.toNat_natCast, nthp, ex, ey]
set_option maxRecDepth 100000 in
theorem lifted_FixedLattice (os : Os) (started : os.Started) (H : Type) (enc : TypeId × Value → H) :
    ReturnsInHanded {} Tryd.checked os 3 .any (fun w args => (Rows.fixedLatticeSpec.pre enc Tryd.prog Tryd.f3 [] false w args ∧ laidMetH Tryd.prog Rows.fixedLatticeRow.laid w) ∧ sizedMet enc Tryd.prog Tryd.f3 (OpenSpec.ofChange Rows.fixedLatticeSpec) false w args) (Rows.fixedLatticeSpec.post enc Tryd.prog Tryd.f3 false true false false) := by
  refine returnsInHanded_of_change_and (C := Tryd.checked) (X := fun w _ => laidMetH Tryd.prog Rows.fixedLatticeRow.laid w) (fun _ _ _ hh h => h.of_heap hh) own started (by kernel_rfl) Tryd.func3
    (ChangeSpec.witness_shaped (enc := enc) (C := Tryd.checked) (os := os) (X := fun w _ => laidMetH Tryd.prog Rows.fixedLatticeRow.laid w) false (World.doorLaid Tryd.prog 400 os) #[.agg #[.int .i64 0, .slice none 0 0], .slice none 0 0] 8 rfl (World.shaped_of_RefB (by kernel_rfl) (by kernel_rfl)) (by kernel_rfl) (by kernel_rfl) (by kernel_rfl) (door_met os _)) ?_
  intro W base args ds gs before hval0 hW _ hsz0 hL _
  have hgw : GW Gs W := gw_of hL
  have hval : ∀ (j : Nat) t v, Tryd.f3.params[j]? = some t → args[j]? = some v → Value.okWide Tryd.prog W .any base t v := hval0
  have hW' := hW
  obtain ⟨p, q, hA0, hV, rfl, _, _⟩ := hW
  have hA : DataW.TrodAll enc Tryd.prog W 0 (fun _ => true) true Tryd.f3.params.toList args.toList ds p := hA0
  rw [Tryd.params3] at hA hval
  obtain ⟨v0, vs0, d0, ds0, p0, q0, hargs, rfl, rfl, h0, r0⟩ := trodAll_cons hA
  obtain ⟨v1, vs1, d1, ds1, p1, q1, rfl, rfl, rfl, h1, r1⟩ := trodAll_cons r0
  obtain ⟨rfl, rfl, rfl⟩ := trodAll_nil r1
  obtain rfl : args = #[v0, v1] := by cases args; simp_all
  obtain ⟨rfl, rfl⟩ := trodVars_none hV
  clear hA0 hval0 hsz0
  simp only [List.append_nil] at hW'
  have hlt0 : ∀ x ∈ p0, x.block < W.heap.size := fun x hx => hW'.lt x (by simp [hx])
  have hlt1 : ∀ x ∈ p1, x.block < W.heap.size := fun x hx => hW'.lt x (by simp [hx])
  obtain ⟨x0, g0, w0⟩ := open_kd (k := .dat (.pair (.int .i64) (.sl (.int .u32)))) (by kernel_rfl) (hval 0 24 v0 rfl rfl) h0
  obtain ⟨x1, g1, w1⟩ := open_kd (k := .dat (.sl (.int .i64))) (by kernel_rfl) (hval 1 25 v1 rfl rfl) h1
  obtain ⟨N, hN⟩ := law_FixedLattice x0 x1 w0 w1
  refine (sp_keep_FixedLattice N (fun _ => False) W (x0, x1, ()) (true, ()) [v0, v1] (fun _ h => h.elim) hgw ⟨v0, _, rfl, g0, ⟨v1, _, rfl, g1, rfl⟩⟩ hN).mono ?_
  rintro e W' ⟨v, rfl, hg, hr⟩
  have hr : v = .bool true := by simpa only [kvals, retV, Kd.val, Go.Abs.enc, RV] using hr
  subst hr
  exact ⟨_, rfl, _, _, _, [], p0 ++ (p1 ++ []), [], hW', (trodAll_cons_mk (shut_bool (show Tryd.prog.underlying 4 = some .bool by kernel_rfl) _) trodAll_mk0), (trodAll_cons_mk (Below.trod laidOut (by kernel_rfl) (of_decide_eq_true (by kernel_rfl)) h0 hg hlt0) (trodAll_cons_mk (Below.trod laidOut (by kernel_rfl) (of_decide_eq_true (by kernel_rfl)) h1 hg hlt1) trodAll_mk0)), rfl, hg.frame _, fun h => by cases h⟩

/-- The statement: whatever the arguments, the law's function returns true and leaves them as they were. -/
theorem fixedLattice_holds : Rows.FixedLatticeSaid :=
  OpenClaim.holds_of_wide 3 Tryd.f3 rfl rfl rfl rfl rfl rfl rfl ⟨rfl, rfl, rfl, rfl, rfl⟩ rfl rfl rfl rfl rfl (by kernel_rfl) Tryd.func3 (by kernel_rfl)
    (of_decide_eq_true (by kernel_rfl)) (by unfold Func.isWrapper; first | (rw [if_pos (by decide +kernel)]; kernel_rfl) | (rw [if_neg (by decide +kernel)]; exact ⟨rfl, rfl⟩))
    (fun os started H enc _ => lifted_FixedLattice os started H enc)
/-- The statement's card: the variable that the road reads is tied to the program's text. -/
theorem fixedLattice_card : Rows.FixedLatticeCardSaid :=
  Claim7.holds_tied_plain_at .later [] [.data] true (true, "95f6ea9d403f7937751d645b60a9924f7afd7c18e9047aef24e3dc8f01e8eb85") false fixedLattice_holds (fun _ h => by cases h) (by kernel_rfl) (fun _ h => by cases h) fixedLattice_row_tie rfl ⟨rfl, rfl⟩ (by kernel_rfl) rfl
    (fun f fn hf hfn => by
      obtain rfl : f = 3 := Option.some.inj ((show Tryd.prog.funcNamed "watershed/watershedkeep.FixedLattice" = some 3 by kernel_rfl).symm.trans hf) |>.symm
      obtain rfl : fn = Tryd.f3 := (Option.some.inj (Tryd.func3.symm.trans hfn)).symm
      exact ⟨by kernel_rfl, fun j t ht => by
        have h3 := List.all_eq_true.1 (show (Tryd.f3.params.toList.all fun t => !(Tryd.prog.wantsStandIn t)) = true by kernel_rfl) t (by rw [← Array.getElem?_toList] at ht; exact List.mem_of_getElem? ht)
        have h4 : Tryd.prog.wantsStandIn t = false := by simpa using h3
        exact h4⟩)
    (by kernel_rfl)
end Go.Proofs.YtdlhfddmbdbedaaDoor
