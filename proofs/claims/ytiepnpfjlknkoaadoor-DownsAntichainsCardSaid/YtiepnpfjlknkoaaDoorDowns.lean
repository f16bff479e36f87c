/- downs: Down, Maximal, Minimal: the functions. -/
import Derived.Test.YtiepnpfjlknkoaaDoorOrderB
namespace Go.Proofs.YtiepnpfjlknkoaaDoor
open Go.Abs
-- watershed/downs.checked
abbrev Ks_downs_checked : List Kd := [.dat (.pair (.int .i64) (.sl (.int .u32))), .dat (.int .u32)]
abbrev Rk_downs_checked : List Kd := [.dat (.int .i64)]
abbrev Rt_downs_checked : Type := Dens Rk_downs_checked
def T_downs_checked : List (Nat × TE) := [(3, ⟨.int .i64, 1, 8, some (.int .i64), [.int .i64 (0 : Int)]⟩),
  (34, ⟨.struct [(0, 3), (1, 22)], 2, 32, some (.pair (.int .i64) (.sl (.int .u32))), [.int .i64 (0 : Int), .nil]⟩)]
noncomputable def C_downs_checked (_N : Nat) : Ctx := { T := T_downs_checked, G := findE [mkP 21 Ks_order_Check Rk_order_Check (D_order_Check _N), mkP 39 Ks_sets_All Rk_sets_All (D_sets_All _N)], I := findI [], N := _N, n := 17, fx := [], fl := 0, gs := Gs }
noncomputable def downs_checked_1 (_N : Nat) (_x1 : Int × List Int) (_x2 : Int) : Option Rt_downs_checked :=
  ((D_order_Check _N ((_x1.1, _x1.2), ())).bind fun _y3 => (bif (_y3.1 != (0 : Int)) then (some (_y3.1, ())) else ((D_sets_All _N (_x1.1, ())).bind fun _y4 => (bif ((iandNot .u32 _x2 _y4.1) != (0 : Int)) then (some ((2 : Int), ())) else (some ((0 : Int), ()))))))
theorem downs_checked_1e (_N : Nat) (_x1 : Int × List Int) (_x2 : Int) :
    exec (C_downs_checked _N) (cAt (bodyOf Tryd.f54) []) .none [(0, .agg [.int .i64 _x1.1, .sl (.int .u32) _x1.2]), (1, .int .u32 _x2)] [] (canonR (fun _i _t _h => none) (finK (C_downs_checked _N) [.tmp 4] (finD Rk_downs_checked))) = downs_checked_1 _N _x1 _x2 :=
  by kernel_rfl
noncomputable def D_downs_checked (_N : Nat) (x : Dens Ks_downs_checked) : Option Rt_downs_checked := downs_checked_1 _N x.1 x.2.1
theorem E_downs_checked (_N : Nat) (x : Dens Ks_downs_checked) : exec (C_downs_checked _N) (bodyOf Tryd.f54) .none (argS 0 (kvals Ks_downs_checked x)) [] (finK (C_downs_checked _N) [.tmp 4] (finD Rk_downs_checked)) = D_downs_checked _N x :=
  (congrArg (fun K => exec (C_downs_checked _N) (bodyOf Tryd.f54) .none (argS 0 (kvals Ks_downs_checked x)) [] K) canonR_fin).trans (downs_checked_1e _N x.1 x.2.1)
theorem ok_downs_checked (_N : Nat) : CtxOk Tryd.prog Gs Tryd.f54 (C_downs_checked _N) := ⟨rfl, by unfold TOk; kernel_rfl, gOk_of rfl rfl (List.forall_mem_cons.2 ⟨en_order_Check _N, (List.forall_mem_cons.2 ⟨en_sets_All _N, (List.forall_mem_nil _)⟩)⟩), iOk_of rfl rfl (List.forall_mem_nil _), rfl⟩
theorem hb_downs_checked : HasBody Tryd.prog 54 := ⟨Tryd.f54, bodyOf Tryd.f54, by kernel_rfl, by kernel_rfl, rfl⟩
theorem sp_downs_checked (_N : Nat) : SpecD Tryd.prog Gs 54 Ks_downs_checked Rk_downs_checked (D_downs_checked _N) := specD_of (c := bodyOf Tryd.f54) (by kernel_rfl) rfl (by kernel_rfl) (Nat.le_of_ble_eq_true (by kernel_rfl)) fun x y _h => ⟨C_downs_checked _N, .none, ok_downs_checked _N, (E_downs_checked _N x).trans _h⟩
theorem en_downs_checked (_N : Nat) : EntOk Tryd.prog Gs (mkP 54 Ks_downs_checked Rk_downs_checked (D_downs_checked _N)) := entP hb_downs_checked (by kernel_rfl) (sp_downs_checked _N)
-- watershed/downs.under
abbrev Ks_downs_under : List Kd := [.dat (.sl (.int .u32)), .dat (.int .u32)]
abbrev Rk_downs_under : List Kd := [.dat (.int .u32)]
abbrev Rt_downs_under : Type := Dens Rk_downs_under
def T_downs_under : List (Nat × TE) := [(22, ⟨.slice 25, 1, 24, some (.sl (.int .u32)), [.nil]⟩),
  (25, ⟨.int .u32, 1, 4, some (.int .u32), [.int .u32 (0 : Int)]⟩)]
noncomputable def C_downs_under (_N : Nat) : Ctx := { T := T_downs_under, G := findE [mkB 44 Ks_sets_Each_uint32 61 (.int .u32) (D_sets_Each_uint32 _N)], I := findI [mkI 61 Ks_each (.int .i64) eachXs], N := _N, n := 17, fx := [], fl := 0, gs := Gs }
noncomputable def downs_under_1 (_N : Nat) (_k7 : Option Rt_downs_under) : Option Rt_downs_under :=
  _k7
theorem downs_under_1e (_N : Nat) (_x1 : List Int) (_x2 : Int) (_k7 : Slots → List O → Option Rt_downs_under) :
    exec (C_downs_under _N) (cAt (bodyOf Tryd.f55) [0]) .none [(0, .sl (.int .u32) _x1), (1, .int .u32 _x2)] [] (canonK [] _k7 [1, 2] 1 (fun _i _t _h => none) (fun _t _h => finK (C_downs_under _N) [.tmp 4] (finD Rk_downs_under) .ret _t _h)) = downs_under_1 _N (_k7 [(1, .int .u32 _x2), (2, .ptr 0 0)] [.cells [.sl (.int .u32) _x1]]) :=
  by kernel_rfl
noncomputable def downs_under_2 (_N : Nat) (_k8 : Option Rt_downs_under) : Option Rt_downs_under :=
  _k8
theorem downs_under_2e (_N : Nat) (_x1 : List Int) (_x2 : Int) (_k8 : Slots → List O → Option Rt_downs_under) :
    exec (C_downs_under _N) (cAt (bodyOf Tryd.f55) [1, 0]) .none [(1, .int .u32 _x2), (2, .ptr 0 0)] [.cells [.sl (.int .u32) _x1]] (canonK [] _k8 [1, 2, 5] 2 (fun _i _t _h => none) (fun _t _h => finK (C_downs_under _N) [.tmp 4] (finD Rk_downs_under) .ret _t _h)) = downs_under_2 _N (_k8 [(1, .int .u32 _x2), (2, .ptr 0 0), (5, .ptr 1 0)] [.cells [.sl (.int .u32) _x1], .cells [.int .u32 (0 : Int)]]) :=
  by kernel_rfl
noncomputable def downs_under_3 (_N : Nat) (_x2 : Int) (_k10 : Int → Option Rt_downs_under) : Option Rt_downs_under :=
  ((D_sets_Each_uint32 _N (_x2, ())).bind fun _y11 => (_k10 _y11))
theorem downs_under_3e (_N : Nat) (_x1 : List Int) (_x2 : Int) (_k10 : Slots → List O → Option Rt_downs_under) :
    exec (C_downs_under _N) (cAt (bodyOf Tryd.f55) [1, 1, 0, 0]) .none [(1, .int .u32 _x2), (2, .ptr 0 0), (5, .ptr 1 0)] [.cells [.sl (.int .u32) _x1], .cells [.int .u32 (0 : Int)]] (canonK [] _k10 [2, 5, 8] 2 (fun _i _t _h => none) (fun _t _h => finK (C_downs_under _N) [.tmp 4] (finD Rk_downs_under) .ret _t _h)) = downs_under_3 _N _x2 (fun _v2 => _k10 [(2, .ptr 0 0), (5, .ptr 1 0), (8, .clo 61 [.fptr (.int .u32) _v2])] [.cells [.sl (.int .u32) _x1], .cells [.int .u32 (0 : Int)]]) :=
  by kernel_rfl
noncomputable def downs_under_4 (_N : Nat) (_k13 : Option Rt_downs_under) : Option Rt_downs_under :=
  _k13
theorem downs_under_4e (_N : Nat) (_x1 : List Int) (_x2 : Int) (_v2 : Int) (_y3 : Int) (_v4 : Int) (_k13 : Slots → List O → Option Rt_downs_under) :
    exec ((C_downs_under _N).low 2) (cAt (bodyOf Tryd.f55) [1, 1, 0, 1, 0, 0]) .none [(9, .int .i64 _y3), (2, .ptr 0 0), (5, .ptr 1 0), (8, .clo 61 [.fptr (.int .u32) _v2])] [.cells [.sl (.int .u32) _x1], .cells [.int .u32 _v4]] (canonK [] _k13 [2, 5, 6] 2 (fun _ _ _ => none) (fun _ _ => none)) = downs_under_4 _N (_k13 [(2, .ptr 0 0), (5, .ptr 1 0), (6, .int .i64 _y3)] [.cells [.sl (.int .u32) _x1], .cells [.int .u32 _v4]]) :=
  by kernel_rfl
noncomputable def downs_under_5 (_N : Nat) (_x1 : List Int) (_y3 : Int) (_v4 : Int) (_k12 : Int → Option Rt_downs_under) : Option Rt_downs_under :=
  (bif (decide (0 ≤ _y3) && decide (_y3 < (_x1.length : Int))) then (_k12 (ior .u32 _v4 (nth (0 : Int) _x1 (_y3).toNat))) else none)
theorem downs_under_5e (_N : Nat) (_x1 : List Int) (_x2 : Int) (_v2 : Int) (_y3 : Int) (_v4 : Int) (_k12 _k9 : Slots → List O → Option Rt_downs_under) :
    exec ((C_downs_under _N).low 2) (cAt (bodyOf Tryd.f55) [1, 1, 0, 1, 0, 1]) (.one (.draw 0 [.rd [1], .rd [0], .pure, .pure, .pure, .pure, .wr [1]])) [(2, .ptr 0 0), (5, .ptr 1 0), (6, .int .i64 _y3)] [.cells [.sl (.int .u32) _x1], .cells [.int .u32 _v4]] (canonK [] _k12 [] 2 (fun _i _t _h => bif Nat.beq _i 0 then _k9 (cvT [] [5] 2 ([(2, .ptr 0 0), (5, .ptr 1 0), (8, .clo 61 [.fptr (.int .u32) _v2])]) _h) (cvH [] 2 _h) else none) (fun _t _h => finK (C_downs_under _N) [.tmp 4] (finD Rk_downs_under) .ret ([(2, .ptr 0 0), (5, .ptr 1 0), (8, .clo 61 [.fptr (.int .u32) _v2])]) _h)) = downs_under_5 _N _x1 _y3 _v4 (fun _v4 => _k12 [] [.cells [.sl (.int .u32) _x1], .cells [.int .u32 _v4]]) :=
  by kernel_rfl
noncomputable def downs_under_6 (_N : Nat) (_x1 : List Int) (_v2 : Int) (_k9 : Int → Option Rt_downs_under) : Option Rt_downs_under :=
  forD (fun (_y3 : Int) (_s : Int) _kn => downs_under_4 _N (downs_under_5 _N _x1 _y3 _s (fun _v4 => _kn _v4))) (fun (_s : Int) => _k9 _s) (eachXs (_v2, ())) (0 : Int)
theorem downs_under_6e (_N : Nat) (_x1 : List Int) (_x2 : Int) (_v2 : Int) (_k9 : Slots → List O → Option Rt_downs_under) :
    exec (C_downs_under _N) (cAt (bodyOf Tryd.f55) [1, 1, 0, 1, 0]) (.keep [2, 5, 8] 2 (.each 2 .none (.keep [2, 5, 6] 2 (.one (.draw 0 [.rd [1], .rd [0], .pure, .pure, .pure, .pure, .wr [1]]))))) [(2, .ptr 0 0), (5, .ptr 1 0), (8, .clo 61 [.fptr (.int .u32) _v2])] [.cells [.sl (.int .u32) _x1], .cells [.int .u32 (0 : Int)]] (canonK [] _k9 [5] 2 (fun _i _t _h => bif Nat.beq _i 0 then _k9 (cvT [] [5] 2 _t _h) (cvH [] 2 _h) else none) (fun _t _h => finK (C_downs_under _N) [.tmp 4] (finD Rk_downs_under) .ret _t _h)) = downs_under_6 _N _x1 _v2 (fun _v6 => _k9 [(5, .ptr 1 0)] [.cells [.sl (.int .u32) _x1], .cells [.int .u32 _v6]]) :=
  (range_frag (f := .tmp 8) (ps := #[9]) (x := cAt (bodyOf Tryd.f55) [1, 1, 0, 1, 0, 0]) (b := cAt (bodyOf Tryd.f55) [1, 1, 0, 1, 0, 1]) (g := 61) (caps := [.fptr (.int .u32) _v2]) (t' := [(2, .ptr 0 0), (5, .ptr 1 0), (8, .clo 61 [.fptr (.int .u32) _v2])]) (h' := [.cells [.sl (.int .u32) _x1], .cells [.int .u32 (0 : Int)]]) (p := itP (.int .i64) (eachXs (_v2, ()))) (by kernel_rfl) rfl (by kernel_rfl) (by kernel_rfl) (by kernel_rfl) (by kernel_rfl) rfl (by kernel_rfl)).trans (forN_sim (S := Int) (fun _s => [.cells [.sl (.int .u32) _x1], .cells [.int .u32 _s]]) (fun _y3 _s _kn => (range_step (ke := (fun _i _t _h => bif Nat.beq _i 0 then _k9 (cvT [] [5] 2 ([(2, .ptr 0 0), (5, .ptr 1 0), (8, .clo 61 [.fptr (.int .u32) _v2])]) _h) (cvH [] 2 _h) else none)) (kr := (fun _t _h => finK (C_downs_under _N) [.tmp 4] (finD Rk_downs_under) .ret ([(2, .ptr 0 0), (5, .ptr 1 0), (8, .clo 61 [.fptr (.int .u32) _v2])]) _h)) (by kernel_rfl) (fun _ _ _ => rfl) (fun _ _ => rfl)).trans ((exec2_frag rfl).trans ((downs_under_4e _N _x1 _x2 _v2 _y3 _s (fun _t _h => exec ((C_downs_under _N).low 2) (cAt (bodyOf Tryd.f55) [1, 1, 0, 1, 0, 1]) (.one (.draw 0 [.rd [1], .rd [0], .pure, .pure, .pure, .pure, .wr [1]])) _t _h (canonK [] (fun _ _h => _kn _h) [] 2 (fun _i _t _h => bif Nat.beq _i 0 then _k9 (cvT [] [5] 2 ([(2, .ptr 0 0), (5, .ptr 1 0), (8, .clo 61 [.fptr (.int .u32) _v2])]) _h) (cvH [] 2 _h) else none) (fun _t _h => finK (C_downs_under _N) [.tmp 4] (finD Rk_downs_under) .ret ([(2, .ptr 0 0), (5, .ptr 1 0), (8, .clo 61 [.fptr (.int .u32) _v2])]) _h)))).trans (congrArg (fun _z => downs_under_4 _N _z) (downs_under_5e _N _x1 _x2 _v2 _y3 _s (fun _ _h => _kn _h) _k9))))) (fun _s => by kernel_rfl) (eachXs (_v2, ())) (0 : Int))
noncomputable def downs_under_7 (_N : Nat) (_x1 : List Int) (_v2 : Int) (_k9 : Int → Option Rt_downs_under) : Option Rt_downs_under :=
  downs_under_6 _N _x1 _v2 _k9
theorem downs_under_7e (_N : Nat) (_x1 : List Int) (_x2 : Int) (_v2 : Int) (_k9 : Slots → List O → Option Rt_downs_under) :
    exec (C_downs_under _N) (cAt (bodyOf Tryd.f55) [1, 1, 0, 1]) (.one (.keep [2, 5, 8] 2 (.each 2 .none (.keep [2, 5, 6] 2 (.one (.draw 0 [.rd [1], .rd [0], .pure, .pure, .pure, .pure, .wr [1]])))))) [(2, .ptr 0 0), (5, .ptr 1 0), (8, .clo 61 [.fptr (.int .u32) _v2])] [.cells [.sl (.int .u32) _x1], .cells [.int .u32 (0 : Int)]] (canonK [] _k9 [5] 2 (fun _i _t _h => none) (fun _t _h => finK (C_downs_under _N) [.tmp 4] (finD Rk_downs_under) .ret _t _h)) = downs_under_7 _N _x1 _v2 (fun _v6 => _k9 [(5, .ptr 1 0)] [.cells [.sl (.int .u32) _x1], .cells [.int .u32 _v6]]) :=
  (block_canon (by kernel_rfl)).trans (downs_under_6e _N _x1 _x2 _v2 _k9)
noncomputable def downs_under_8 (_N : Nat) (_x1 : List Int) (_x2 : Int) (_k9 : Int → Option Rt_downs_under) : Option Rt_downs_under :=
  downs_under_3 _N _x2 (fun _v2 => downs_under_7 _N _x1 _v2 _k9)
theorem downs_under_8e (_N : Nat) (_x1 : List Int) (_x2 : Int) (_k9 : Slots → List O → Option Rt_downs_under) :
    exec (C_downs_under _N) (cAt (bodyOf Tryd.f55) [1, 1, 0]) (.two .none (.keep [2, 5, 8] 2 (.one (.keep [2, 5, 8] 2 (.each 2 .none (.keep [2, 5, 6] 2 (.one (.draw 0 [.rd [1], .rd [0], .pure, .pure, .pure, .pure, .wr [1]])))))))) [(1, .int .u32 _x2), (2, .ptr 0 0), (5, .ptr 1 0)] [.cells [.sl (.int .u32) _x1], .cells [.int .u32 (0 : Int)]] (canonK [] _k9 [5] 2 (fun _i _t _h => none) (fun _t _h => finK (C_downs_under _N) [.tmp 4] (finD Rk_downs_under) .ret _t _h)) = downs_under_8 _N _x1 _x2 (fun _v6 => _k9 [(5, .ptr 1 0)] [.cells [.sl (.int .u32) _x1], .cells [.int .u32 _v6]]) :=
  (seq_frag (by kernel_rfl) rfl).trans ((downs_under_3e _N _x1 _x2 (fun _t _h => exec (C_downs_under _N) (cAt (bodyOf Tryd.f55) [1, 1, 0, 1]) (.one (.keep [2, 5, 8] 2 (.each 2 .none (.keep [2, 5, 6] 2 (.one (.draw 0 [.rd [1], .rd [0], .pure, .pure, .pure, .pure, .wr [1]])))))) _t _h (canonK [] _k9 [5] 2 (fun _i _t _h => none) (fun _t _h => finK (C_downs_under _N) [.tmp 4] (finD Rk_downs_under) .ret _t _h)))).trans (congrArg (fun _z => downs_under_3 _N _x2 _z) (funext fun _v2 => downs_under_7e _N _x1 _x2 _v2 _k9)))
noncomputable def downs_under_9 (_N : Nat) (_v6 : Int) : Option Rt_downs_under :=
  (some (_v6, ()))
theorem downs_under_9e (_N : Nat) (_x1 : List Int) (_x2 : Int) (_v6 : Int) :
    exec (C_downs_under _N) (cAt (bodyOf Tryd.f55) [1, 1, 1]) .none [(5, .ptr 1 0)] [.cells [.sl (.int .u32) _x1], .cells [.int .u32 _v6]] (canonR (fun _i _t _h => none) (finK (C_downs_under _N) [.tmp 4] (finD Rk_downs_under))) = downs_under_9 _N _v6 :=
  by kernel_rfl
noncomputable def downs_under_10 (_N : Nat) (_x1 : List Int) (_x2 : Int) : Option Rt_downs_under :=
  downs_under_8 _N _x1 _x2 (fun _v6 => downs_under_9 _N _v6)
theorem downs_under_10e (_N : Nat) (_x1 : List Int) (_x2 : Int) :
    exec (C_downs_under _N) (cAt (bodyOf Tryd.f55) [1, 1]) (.two (.two .none (.keep [2, 5, 8] 2 (.one (.keep [2, 5, 8] 2 (.each 2 .none (.keep [2, 5, 6] 2 (.one (.draw 0 [.rd [1], .rd [0], .pure, .pure, .pure, .pure, .wr [1]])))))))) (.keep [5] 2 .none)) [(1, .int .u32 _x2), (2, .ptr 0 0), (5, .ptr 1 0)] [.cells [.sl (.int .u32) _x1], .cells [.int .u32 (0 : Int)]] (canonR (fun _i _t _h => none) (finK (C_downs_under _N) [.tmp 4] (finD Rk_downs_under))) = downs_under_10 _N _x1 _x2 :=
  (seq_frag (by kernel_rfl) rfl).trans ((downs_under_8e _N _x1 _x2 (fun _t _h => exec (C_downs_under _N) (cAt (bodyOf Tryd.f55) [1, 1, 1]) .none _t _h (canonR (fun _i _t _h => none) (finK (C_downs_under _N) [.tmp 4] (finD Rk_downs_under))))).trans (congrArg (fun _z => downs_under_8 _N _x1 _x2 _z) (funext fun _v6 => downs_under_9e _N _x1 _x2 _v6)))
noncomputable def downs_under_11 (_N : Nat) (_x1 : List Int) (_x2 : Int) : Option Rt_downs_under :=
  downs_under_2 _N (downs_under_10 _N _x1 _x2)
theorem downs_under_11e (_N : Nat) (_x1 : List Int) (_x2 : Int) :
    exec (C_downs_under _N) (cAt (bodyOf Tryd.f55) [1]) (.two .none (.keep [1, 2, 5] 2 (.two (.two .none (.keep [2, 5, 8] 2 (.one (.keep [2, 5, 8] 2 (.each 2 .none (.keep [2, 5, 6] 2 (.one (.draw 0 [.rd [1], .rd [0], .pure, .pure, .pure, .pure, .wr [1]])))))))) (.keep [5] 2 .none)))) [(1, .int .u32 _x2), (2, .ptr 0 0)] [.cells [.sl (.int .u32) _x1]] (canonR (fun _i _t _h => none) (finK (C_downs_under _N) [.tmp 4] (finD Rk_downs_under))) = downs_under_11 _N _x1 _x2 :=
  (seq_frag (by kernel_rfl) rfl).trans ((downs_under_2e _N _x1 _x2 (fun _t _h => exec (C_downs_under _N) (cAt (bodyOf Tryd.f55) [1, 1]) (.two (.two .none (.keep [2, 5, 8] 2 (.one (.keep [2, 5, 8] 2 (.each 2 .none (.keep [2, 5, 6] 2 (.one (.draw 0 [.rd [1], .rd [0], .pure, .pure, .pure, .pure, .wr [1]])))))))) (.keep [5] 2 .none)) _t _h (canonR (fun _i _t _h => none) (finK (C_downs_under _N) [.tmp 4] (finD Rk_downs_under))))).trans (congrArg (fun _z => downs_under_2 _N _z) (downs_under_10e _N _x1 _x2)))
noncomputable def downs_under_12 (_N : Nat) (_x1 : List Int) (_x2 : Int) : Option Rt_downs_under :=
  downs_under_1 _N (downs_under_11 _N _x1 _x2)
theorem downs_under_12e (_N : Nat) (_x1 : List Int) (_x2 : Int) :
    exec (C_downs_under _N) (cAt (bodyOf Tryd.f55) []) (.two .none (.keep [1, 2] 1 (.two .none (.keep [1, 2, 5] 2 (.two (.two .none (.keep [2, 5, 8] 2 (.one (.keep [2, 5, 8] 2 (.each 2 .none (.keep [2, 5, 6] 2 (.one (.draw 0 [.rd [1], .rd [0], .pure, .pure, .pure, .pure, .wr [1]])))))))) (.keep [5] 2 .none)))))) [(0, .sl (.int .u32) _x1), (1, .int .u32 _x2)] [] (canonR (fun _i _t _h => none) (finK (C_downs_under _N) [.tmp 4] (finD Rk_downs_under))) = downs_under_12 _N _x1 _x2 :=
  (seq_frag (by kernel_rfl) rfl).trans ((downs_under_1e _N _x1 _x2 (fun _t _h => exec (C_downs_under _N) (cAt (bodyOf Tryd.f55) [1]) (.two .none (.keep [1, 2, 5] 2 (.two (.two .none (.keep [2, 5, 8] 2 (.one (.keep [2, 5, 8] 2 (.each 2 .none (.keep [2, 5, 6] 2 (.one (.draw 0 [.rd [1], .rd [0], .pure, .pure, .pure, .pure, .wr [1]])))))))) (.keep [5] 2 .none)))) _t _h (canonR (fun _i _t _h => none) (finK (C_downs_under _N) [.tmp 4] (finD Rk_downs_under))))).trans (congrArg (fun _z => downs_under_1 _N _z) (downs_under_11e _N _x1 _x2)))
noncomputable def D_downs_under (_N : Nat) (x : Dens Ks_downs_under) : Option Rt_downs_under := downs_under_12 _N x.1 x.2.1
theorem E_downs_under (_N : Nat) (x : Dens Ks_downs_under) : exec (C_downs_under _N) (bodyOf Tryd.f55) (.two .none (.keep [1, 2] 1 (.two .none (.keep [1, 2, 5] 2 (.two (.two .none (.keep [2, 5, 8] 2 (.one (.keep [2, 5, 8] 2 (.each 2 .none (.keep [2, 5, 6] 2 (.one (.draw 0 [.rd [1], .rd [0], .pure, .pure, .pure, .pure, .wr [1]])))))))) (.keep [5] 2 .none)))))) (argS 0 (kvals Ks_downs_under x)) [] (finK (C_downs_under _N) [.tmp 4] (finD Rk_downs_under)) = D_downs_under _N x :=
  (congrArg (fun K => exec (C_downs_under _N) (bodyOf Tryd.f55) (.two .none (.keep [1, 2] 1 (.two .none (.keep [1, 2, 5] 2 (.two (.two .none (.keep [2, 5, 8] 2 (.one (.keep [2, 5, 8] 2 (.each 2 .none (.keep [2, 5, 6] 2 (.one (.draw 0 [.rd [1], .rd [0], .pure, .pure, .pure, .pure, .wr [1]])))))))) (.keep [5] 2 .none)))))) (argS 0 (kvals Ks_downs_under x)) [] K) canonR_fin).trans (downs_under_12e _N x.1 x.2.1)
theorem ok_downs_under (_N : Nat) : CtxOk Tryd.prog Gs Tryd.f55 (C_downs_under _N) := ⟨rfl, by unfold TOk; kernel_rfl, gOk_of rfl rfl (List.forall_mem_cons.2 ⟨en_sets_Each_uint32 _N, (List.forall_mem_nil _)⟩), iOk_of rfl rfl (List.forall_mem_cons.2 ⟨en_each, (List.forall_mem_nil _)⟩), rfl⟩
theorem hb_downs_under : HasBody Tryd.prog 55 := ⟨Tryd.f55, bodyOf Tryd.f55, by kernel_rfl, by kernel_rfl, rfl⟩
theorem sp_downs_under (_N : Nat) : SpecD Tryd.prog Gs 55 Ks_downs_under Rk_downs_under (D_downs_under _N) := specD_of (c := bodyOf Tryd.f55) (by kernel_rfl) rfl (by kernel_rfl) (Nat.le_of_ble_eq_true (by kernel_rfl)) fun x y _h => ⟨C_downs_under _N, (.two .none (.keep [1, 2] 1 (.two .none (.keep [1, 2, 5] 2 (.two (.two .none (.keep [2, 5, 8] 2 (.one (.keep [2, 5, 8] 2 (.each 2 .none (.keep [2, 5, 6] 2 (.one (.draw 0 [.rd [1], .rd [0], .pure, .pure, .pure, .pure, .wr [1]])))))))) (.keep [5] 2 .none)))))), ok_downs_under _N, (E_downs_under _N x).trans _h⟩
theorem en_downs_under (_N : Nat) : EntOk Tryd.prog Gs (mkP 55 Ks_downs_under Rk_downs_under (D_downs_under _N)) := entP hb_downs_under (by kernel_rfl) (sp_downs_under _N)
-- watershed/downs.ends
abbrev Ks_downs_ends : List Kd := [.dat (.sl (.int .u32)), .dat (.int .u32)]
abbrev Rk_downs_ends : List Kd := [.dat (.int .u32)]
abbrev Rt_downs_ends : Type := Dens Rk_downs_ends
def T_downs_ends : List (Nat × TE) := [(22, ⟨.slice 25, 1, 24, some (.sl (.int .u32)), [.nil]⟩),
  (25, ⟨.int .u32, 1, 4, some (.int .u32), [.int .u32 (0 : Int)]⟩)]
noncomputable def C_downs_ends (_N : Nat) : Ctx := { T := T_downs_ends, G := findE [mkB 44 Ks_sets_Each_uint32 61 (.int .u32) (D_sets_Each_uint32 _N), mkP 45 Ks_sets_One Rk_sets_One (D_sets_One _N)], I := findI [mkI 61 Ks_each (.int .i64) eachXs], N := _N, n := 24, fx := [], fl := 0, gs := Gs }
noncomputable def downs_ends_1 (_N : Nat) (_k11 : Option Rt_downs_ends) : Option Rt_downs_ends :=
  _k11
theorem downs_ends_1e (_N : Nat) (_x1 : List Int) (_x2 : Int) (_k11 : Slots → List O → Option Rt_downs_ends) :
    exec (C_downs_ends _N) (cAt (bodyOf Tryd.f56) [0]) .none [(0, .sl (.int .u32) _x1), (1, .int .u32 _x2)] [] (canonK [] _k11 [2, 3] 2 (fun _i _t _h => none) (fun _t _h => finK (C_downs_ends _N) [.tmp 4] (finD Rk_downs_ends) .ret _t _h)) = downs_ends_1 _N (_k11 [(2, .ptr 0 0), (3, .ptr 1 0)] [.cells [.sl (.int .u32) _x1], .cells [.int .u32 _x2]]) :=
  by kernel_rfl
noncomputable def downs_ends_2 (_N : Nat) (_k12 : Option Rt_downs_ends) : Option Rt_downs_ends :=
  _k12
theorem downs_ends_2e (_N : Nat) (_x1 : List Int) (_x2 : Int) (_k12 : Slots → List O → Option Rt_downs_ends) :
    exec (C_downs_ends _N) (cAt (bodyOf Tryd.f56) [1, 0]) .none [(2, .ptr 0 0), (3, .ptr 1 0)] [.cells [.sl (.int .u32) _x1], .cells [.int .u32 _x2]] (canonK [] _k12 [2, 3, 5] 3 (fun _i _t _h => none) (fun _t _h => finK (C_downs_ends _N) [.tmp 4] (finD Rk_downs_ends) .ret _t _h)) = downs_ends_2 _N (_k12 [(2, .ptr 0 0), (3, .ptr 1 0), (5, .ptr 2 0)] [.cells [.sl (.int .u32) _x1], .cells [.int .u32 _x2], .cells [.int .u32 (0 : Int)]]) :=
  by kernel_rfl
noncomputable def downs_ends_3 (_N : Nat) (_x2 : Int) (_k14 : Int → Option Rt_downs_ends) : Option Rt_downs_ends :=
  ((D_sets_Each_uint32 _N (_x2, ())).bind fun _y15 => (_k14 _y15))
theorem downs_ends_3e (_N : Nat) (_x1 : List Int) (_x2 : Int) (_k14 : Slots → List O → Option Rt_downs_ends) :
    exec (C_downs_ends _N) (cAt (bodyOf Tryd.f56) [1, 1, 0, 0]) .none [(2, .ptr 0 0), (3, .ptr 1 0), (5, .ptr 2 0)] [.cells [.sl (.int .u32) _x1], .cells [.int .u32 _x2], .cells [.int .u32 (0 : Int)]] (canonK [] _k14 [2, 3, 5, 8] 3 (fun _i _t _h => none) (fun _t _h => finK (C_downs_ends _N) [.tmp 4] (finD Rk_downs_ends) .ret _t _h)) = downs_ends_3 _N _x2 (fun _v2 => _k14 [(2, .ptr 0 0), (3, .ptr 1 0), (5, .ptr 2 0), (8, .clo 61 [.fptr (.int .u32) _v2])] [.cells [.sl (.int .u32) _x1], .cells [.int .u32 _x2], .cells [.int .u32 (0 : Int)]]) :=
  by kernel_rfl
noncomputable def downs_ends_4 (_N : Nat) (_k17 : Option Rt_downs_ends) : Option Rt_downs_ends :=
  _k17
theorem downs_ends_4e (_N : Nat) (_x1 : List Int) (_x2 : Int) (_v2 : Int) (_y3 : Int) (_v6 : Int) (_k17 : Slots → List O → Option Rt_downs_ends) :
    exec ((C_downs_ends _N).low 3) (cAt (bodyOf Tryd.f56) [1, 1, 0, 1, 0, 0]) .none [(9, .int .i64 _y3), (2, .ptr 0 0), (3, .ptr 1 0), (5, .ptr 2 0), (8, .clo 61 [.fptr (.int .u32) _v2])] [.cells [.sl (.int .u32) _x1], .cells [.int .u32 _x2], .cells [.int .u32 _v6]] (canonK [] _k17 [2, 3, 5, 6] 3 (fun _ _ _ => none) (fun _ _ => none)) = downs_ends_4 _N (_k17 [(2, .ptr 0 0), (3, .ptr 1 0), (5, .ptr 2 0), (6, .int .i64 _y3)] [.cells [.sl (.int .u32) _x1], .cells [.int .u32 _x2], .cells [.int .u32 _v6]]) :=
  by kernel_rfl
noncomputable def downs_ends_5 (_N : Nat) (_x1 : List Int) (_x2 : Int) (_y3 : Int) (_v6 : Int) (_k16 : Int → Option Rt_downs_ends) : Option Rt_downs_ends :=
  (bif (decide (0 ≤ _y3) && decide (_y3 < (_x1.length : Int))) then ((D_sets_One _N (_y3, ())).bind fun _y18 => (bif ((iand .u32 (nth (0 : Int) _x1 (_y3).toNat) _x2) == _y18.1) then ((D_sets_One _N (_y3, ())).bind fun _y19 => (_k16 (ior .u32 _v6 _y19.1))) else (_k16 _v6))) else none)
theorem downs_ends_5e (_N : Nat) (_x1 : List Int) (_x2 : Int) (_v2 : Int) (_y3 : Int) (_v6 : Int) (_k16 _k13 : Slots → List O → Option Rt_downs_ends) :
    exec ((C_downs_ends _N).low 3) (cAt (bodyOf Tryd.f56) [1, 1, 0, 1, 0, 1]) (.one (.two (.draw 0 [.rd [0], .pure, .pure, .pure, .rd [1], .pure, .pure, .pure, .pure]) (.two (.draw 0 [.rd [2], .pure, .pure, .pure, .wr [2]]) .none))) [(2, .ptr 0 0), (3, .ptr 1 0), (5, .ptr 2 0), (6, .int .i64 _y3)] [.cells [.sl (.int .u32) _x1], .cells [.int .u32 _x2], .cells [.int .u32 _v6]] (canonK [] _k16 [] 3 (fun _i _t _h => bif Nat.beq _i 0 then _k13 (cvT [] [5] 3 ([(2, .ptr 0 0), (3, .ptr 1 0), (5, .ptr 2 0), (8, .clo 61 [.fptr (.int .u32) _v2])]) _h) (cvH [] 3 _h) else none) (fun _t _h => finK (C_downs_ends _N) [.tmp 4] (finD Rk_downs_ends) .ret ([(2, .ptr 0 0), (3, .ptr 1 0), (5, .ptr 2 0), (8, .clo 61 [.fptr (.int .u32) _v2])]) _h)) = downs_ends_5 _N _x1 _x2 _y3 _v6 (fun _v6 => _k16 [] [.cells [.sl (.int .u32) _x1], .cells [.int .u32 _x2], .cells [.int .u32 _v6]]) :=
  by kernel_rfl
noncomputable def downs_ends_6 (_N : Nat) (_x1 : List Int) (_x2 : Int) (_v2 : Int) (_k13 : Int → Option Rt_downs_ends) : Option Rt_downs_ends :=
  forD (fun (_y3 : Int) (_s : Int) _kn => downs_ends_4 _N (downs_ends_5 _N _x1 _x2 _y3 _s (fun _v6 => _kn _v6))) (fun (_s : Int) => _k13 _s) (eachXs (_v2, ())) (0 : Int)
theorem downs_ends_6e (_N : Nat) (_x1 : List Int) (_x2 : Int) (_v2 : Int) (_k13 : Slots → List O → Option Rt_downs_ends) :
    exec (C_downs_ends _N) (cAt (bodyOf Tryd.f56) [1, 1, 0, 1, 0]) (.keep [2, 3, 5, 8] 3 (.each 3 .none (.keep [2, 3, 5, 6] 3 (.one (.two (.draw 0 [.rd [0], .pure, .pure, .pure, .rd [1], .pure, .pure, .pure, .pure]) (.two (.draw 0 [.rd [2], .pure, .pure, .pure, .wr [2]]) .none)))))) [(2, .ptr 0 0), (3, .ptr 1 0), (5, .ptr 2 0), (8, .clo 61 [.fptr (.int .u32) _v2])] [.cells [.sl (.int .u32) _x1], .cells [.int .u32 _x2], .cells [.int .u32 (0 : Int)]] (canonK [] _k13 [5] 3 (fun _i _t _h => bif Nat.beq _i 0 then _k13 (cvT [] [5] 3 _t _h) (cvH [] 3 _h) else none) (fun _t _h => finK (C_downs_ends _N) [.tmp 4] (finD Rk_downs_ends) .ret _t _h)) = downs_ends_6 _N _x1 _x2 _v2 (fun _v10 => _k13 [(5, .ptr 2 0)] [.cells [.sl (.int .u32) _x1], .cells [.int .u32 _x2], .cells [.int .u32 _v10]]) :=
  (range_frag (f := .tmp 8) (ps := #[9]) (x := cAt (bodyOf Tryd.f56) [1, 1, 0, 1, 0, 0]) (b := cAt (bodyOf Tryd.f56) [1, 1, 0, 1, 0, 1]) (g := 61) (caps := [.fptr (.int .u32) _v2]) (t' := [(2, .ptr 0 0), (3, .ptr 1 0), (5, .ptr 2 0), (8, .clo 61 [.fptr (.int .u32) _v2])]) (h' := [.cells [.sl (.int .u32) _x1], .cells [.int .u32 _x2], .cells [.int .u32 (0 : Int)]]) (p := itP (.int .i64) (eachXs (_v2, ()))) (by kernel_rfl) rfl (by kernel_rfl) (by kernel_rfl) (by kernel_rfl) (by kernel_rfl) rfl (by kernel_rfl)).trans (forN_sim (S := Int) (fun _s => [.cells [.sl (.int .u32) _x1], .cells [.int .u32 _x2], .cells [.int .u32 _s]]) (fun _y3 _s _kn => (range_step (ke := (fun _i _t _h => bif Nat.beq _i 0 then _k13 (cvT [] [5] 3 ([(2, .ptr 0 0), (3, .ptr 1 0), (5, .ptr 2 0), (8, .clo 61 [.fptr (.int .u32) _v2])]) _h) (cvH [] 3 _h) else none)) (kr := (fun _t _h => finK (C_downs_ends _N) [.tmp 4] (finD Rk_downs_ends) .ret ([(2, .ptr 0 0), (3, .ptr 1 0), (5, .ptr 2 0), (8, .clo 61 [.fptr (.int .u32) _v2])]) _h)) (by kernel_rfl) (fun _ _ _ => rfl) (fun _ _ => rfl)).trans ((exec2_frag rfl).trans ((downs_ends_4e _N _x1 _x2 _v2 _y3 _s (fun _t _h => exec ((C_downs_ends _N).low 3) (cAt (bodyOf Tryd.f56) [1, 1, 0, 1, 0, 1]) (.one (.two (.draw 0 [.rd [0], .pure, .pure, .pure, .rd [1], .pure, .pure, .pure, .pure]) (.two (.draw 0 [.rd [2], .pure, .pure, .pure, .wr [2]]) .none))) _t _h (canonK [] (fun _ _h => _kn _h) [] 3 (fun _i _t _h => bif Nat.beq _i 0 then _k13 (cvT [] [5] 3 ([(2, .ptr 0 0), (3, .ptr 1 0), (5, .ptr 2 0), (8, .clo 61 [.fptr (.int .u32) _v2])]) _h) (cvH [] 3 _h) else none) (fun _t _h => finK (C_downs_ends _N) [.tmp 4] (finD Rk_downs_ends) .ret ([(2, .ptr 0 0), (3, .ptr 1 0), (5, .ptr 2 0), (8, .clo 61 [.fptr (.int .u32) _v2])]) _h)))).trans (congrArg (fun _z => downs_ends_4 _N _z) (downs_ends_5e _N _x1 _x2 _v2 _y3 _s (fun _ _h => _kn _h) _k13))))) (fun _s => by kernel_rfl) (eachXs (_v2, ())) (0 : Int))
noncomputable def downs_ends_7 (_N : Nat) (_x1 : List Int) (_x2 : Int) (_v2 : Int) (_k13 : Int → Option Rt_downs_ends) : Option Rt_downs_ends :=
  downs_ends_6 _N _x1 _x2 _v2 _k13
theorem downs_ends_7e (_N : Nat) (_x1 : List Int) (_x2 : Int) (_v2 : Int) (_k13 : Slots → List O → Option Rt_downs_ends) :
    exec (C_downs_ends _N) (cAt (bodyOf Tryd.f56) [1, 1, 0, 1]) (.one (.keep [2, 3, 5, 8] 3 (.each 3 .none (.keep [2, 3, 5, 6] 3 (.one (.two (.draw 0 [.rd [0], .pure, .pure, .pure, .rd [1], .pure, .pure, .pure, .pure]) (.two (.draw 0 [.rd [2], .pure, .pure, .pure, .wr [2]]) .none))))))) [(2, .ptr 0 0), (3, .ptr 1 0), (5, .ptr 2 0), (8, .clo 61 [.fptr (.int .u32) _v2])] [.cells [.sl (.int .u32) _x1], .cells [.int .u32 _x2], .cells [.int .u32 (0 : Int)]] (canonK [] _k13 [5] 3 (fun _i _t _h => none) (fun _t _h => finK (C_downs_ends _N) [.tmp 4] (finD Rk_downs_ends) .ret _t _h)) = downs_ends_7 _N _x1 _x2 _v2 (fun _v10 => _k13 [(5, .ptr 2 0)] [.cells [.sl (.int .u32) _x1], .cells [.int .u32 _x2], .cells [.int .u32 _v10]]) :=
  (block_canon (by kernel_rfl)).trans (downs_ends_6e _N _x1 _x2 _v2 _k13)
noncomputable def downs_ends_8 (_N : Nat) (_x1 : List Int) (_x2 : Int) (_k13 : Int → Option Rt_downs_ends) : Option Rt_downs_ends :=
  downs_ends_3 _N _x2 (fun _v2 => downs_ends_7 _N _x1 _x2 _v2 _k13)
theorem downs_ends_8e (_N : Nat) (_x1 : List Int) (_x2 : Int) (_k13 : Slots → List O → Option Rt_downs_ends) :
    exec (C_downs_ends _N) (cAt (bodyOf Tryd.f56) [1, 1, 0]) (.two .none (.keep [2, 3, 5, 8] 3 (.one (.keep [2, 3, 5, 8] 3 (.each 3 .none (.keep [2, 3, 5, 6] 3 (.one (.two (.draw 0 [.rd [0], .pure, .pure, .pure, .rd [1], .pure, .pure, .pure, .pure]) (.two (.draw 0 [.rd [2], .pure, .pure, .pure, .wr [2]]) .none))))))))) [(2, .ptr 0 0), (3, .ptr 1 0), (5, .ptr 2 0)] [.cells [.sl (.int .u32) _x1], .cells [.int .u32 _x2], .cells [.int .u32 (0 : Int)]] (canonK [] _k13 [5] 3 (fun _i _t _h => none) (fun _t _h => finK (C_downs_ends _N) [.tmp 4] (finD Rk_downs_ends) .ret _t _h)) = downs_ends_8 _N _x1 _x2 (fun _v10 => _k13 [(5, .ptr 2 0)] [.cells [.sl (.int .u32) _x1], .cells [.int .u32 _x2], .cells [.int .u32 _v10]]) :=
  (seq_frag (by kernel_rfl) rfl).trans ((downs_ends_3e _N _x1 _x2 (fun _t _h => exec (C_downs_ends _N) (cAt (bodyOf Tryd.f56) [1, 1, 0, 1]) (.one (.keep [2, 3, 5, 8] 3 (.each 3 .none (.keep [2, 3, 5, 6] 3 (.one (.two (.draw 0 [.rd [0], .pure, .pure, .pure, .rd [1], .pure, .pure, .pure, .pure]) (.two (.draw 0 [.rd [2], .pure, .pure, .pure, .wr [2]]) .none))))))) _t _h (canonK [] _k13 [5] 3 (fun _i _t _h => none) (fun _t _h => finK (C_downs_ends _N) [.tmp 4] (finD Rk_downs_ends) .ret _t _h)))).trans (congrArg (fun _z => downs_ends_3 _N _x2 _z) (funext fun _v2 => downs_ends_7e _N _x1 _x2 _v2 _k13)))
noncomputable def downs_ends_9 (_N : Nat) (_v10 : Int) : Option Rt_downs_ends :=
  (some (_v10, ()))
theorem downs_ends_9e (_N : Nat) (_x1 : List Int) (_x2 : Int) (_v10 : Int) :
    exec (C_downs_ends _N) (cAt (bodyOf Tryd.f56) [1, 1, 1]) .none [(5, .ptr 2 0)] [.cells [.sl (.int .u32) _x1], .cells [.int .u32 _x2], .cells [.int .u32 _v10]] (canonR (fun _i _t _h => none) (finK (C_downs_ends _N) [.tmp 4] (finD Rk_downs_ends))) = downs_ends_9 _N _v10 :=
  by kernel_rfl
noncomputable def downs_ends_10 (_N : Nat) (_x1 : List Int) (_x2 : Int) : Option Rt_downs_ends :=
  downs_ends_8 _N _x1 _x2 (fun _v10 => downs_ends_9 _N _v10)
theorem downs_ends_10e (_N : Nat) (_x1 : List Int) (_x2 : Int) :
    exec (C_downs_ends _N) (cAt (bodyOf Tryd.f56) [1, 1]) (.two (.two .none (.keep [2, 3, 5, 8] 3 (.one (.keep [2, 3, 5, 8] 3 (.each 3 .none (.keep [2, 3, 5, 6] 3 (.one (.two (.draw 0 [.rd [0], .pure, .pure, .pure, .rd [1], .pure, .pure, .pure, .pure]) (.two (.draw 0 [.rd [2], .pure, .pure, .pure, .wr [2]]) .none))))))))) (.keep [5] 3 .none)) [(2, .ptr 0 0), (3, .ptr 1 0), (5, .ptr 2 0)] [.cells [.sl (.int .u32) _x1], .cells [.int .u32 _x2], .cells [.int .u32 (0 : Int)]] (canonR (fun _i _t _h => none) (finK (C_downs_ends _N) [.tmp 4] (finD Rk_downs_ends))) = downs_ends_10 _N _x1 _x2 :=
  (seq_frag (by kernel_rfl) rfl).trans ((downs_ends_8e _N _x1 _x2 (fun _t _h => exec (C_downs_ends _N) (cAt (bodyOf Tryd.f56) [1, 1, 1]) .none _t _h (canonR (fun _i _t _h => none) (finK (C_downs_ends _N) [.tmp 4] (finD Rk_downs_ends))))).trans (congrArg (fun _z => downs_ends_8 _N _x1 _x2 _z) (funext fun _v10 => downs_ends_9e _N _x1 _x2 _v10)))
noncomputable def downs_ends_11 (_N : Nat) (_x1 : List Int) (_x2 : Int) : Option Rt_downs_ends :=
  downs_ends_2 _N (downs_ends_10 _N _x1 _x2)
theorem downs_ends_11e (_N : Nat) (_x1 : List Int) (_x2 : Int) :
    exec (C_downs_ends _N) (cAt (bodyOf Tryd.f56) [1]) (.two .none (.keep [2, 3, 5] 3 (.two (.two .none (.keep [2, 3, 5, 8] 3 (.one (.keep [2, 3, 5, 8] 3 (.each 3 .none (.keep [2, 3, 5, 6] 3 (.one (.two (.draw 0 [.rd [0], .pure, .pure, .pure, .rd [1], .pure, .pure, .pure, .pure]) (.two (.draw 0 [.rd [2], .pure, .pure, .pure, .wr [2]]) .none))))))))) (.keep [5] 3 .none)))) [(2, .ptr 0 0), (3, .ptr 1 0)] [.cells [.sl (.int .u32) _x1], .cells [.int .u32 _x2]] (canonR (fun _i _t _h => none) (finK (C_downs_ends _N) [.tmp 4] (finD Rk_downs_ends))) = downs_ends_11 _N _x1 _x2 :=
  (seq_frag (by kernel_rfl) rfl).trans ((downs_ends_2e _N _x1 _x2 (fun _t _h => exec (C_downs_ends _N) (cAt (bodyOf Tryd.f56) [1, 1]) (.two (.two .none (.keep [2, 3, 5, 8] 3 (.one (.keep [2, 3, 5, 8] 3 (.each 3 .none (.keep [2, 3, 5, 6] 3 (.one (.two (.draw 0 [.rd [0], .pure, .pure, .pure, .rd [1], .pure, .pure, .pure, .pure]) (.two (.draw 0 [.rd [2], .pure, .pure, .pure, .wr [2]]) .none))))))))) (.keep [5] 3 .none)) _t _h (canonR (fun _i _t _h => none) (finK (C_downs_ends _N) [.tmp 4] (finD Rk_downs_ends))))).trans (congrArg (fun _z => downs_ends_2 _N _z) (downs_ends_10e _N _x1 _x2)))
noncomputable def downs_ends_12 (_N : Nat) (_x1 : List Int) (_x2 : Int) : Option Rt_downs_ends :=
  downs_ends_1 _N (downs_ends_11 _N _x1 _x2)
theorem downs_ends_12e (_N : Nat) (_x1 : List Int) (_x2 : Int) :
    exec (C_downs_ends _N) (cAt (bodyOf Tryd.f56) []) (.two .none (.keep [2, 3] 2 (.two .none (.keep [2, 3, 5] 3 (.two (.two .none (.keep [2, 3, 5, 8] 3 (.one (.keep [2, 3, 5, 8] 3 (.each 3 .none (.keep [2, 3, 5, 6] 3 (.one (.two (.draw 0 [.rd [0], .pure, .pure, .pure, .rd [1], .pure, .pure, .pure, .pure]) (.two (.draw 0 [.rd [2], .pure, .pure, .pure, .wr [2]]) .none))))))))) (.keep [5] 3 .none)))))) [(0, .sl (.int .u32) _x1), (1, .int .u32 _x2)] [] (canonR (fun _i _t _h => none) (finK (C_downs_ends _N) [.tmp 4] (finD Rk_downs_ends))) = downs_ends_12 _N _x1 _x2 :=
  (seq_frag (by kernel_rfl) rfl).trans ((downs_ends_1e _N _x1 _x2 (fun _t _h => exec (C_downs_ends _N) (cAt (bodyOf Tryd.f56) [1]) (.two .none (.keep [2, 3, 5] 3 (.two (.two .none (.keep [2, 3, 5, 8] 3 (.one (.keep [2, 3, 5, 8] 3 (.each 3 .none (.keep [2, 3, 5, 6] 3 (.one (.two (.draw 0 [.rd [0], .pure, .pure, .pure, .rd [1], .pure, .pure, .pure, .pure]) (.two (.draw 0 [.rd [2], .pure, .pure, .pure, .wr [2]]) .none))))))))) (.keep [5] 3 .none)))) _t _h (canonR (fun _i _t _h => none) (finK (C_downs_ends _N) [.tmp 4] (finD Rk_downs_ends))))).trans (congrArg (fun _z => downs_ends_1 _N _z) (downs_ends_11e _N _x1 _x2)))
noncomputable def D_downs_ends (_N : Nat) (x : Dens Ks_downs_ends) : Option Rt_downs_ends := downs_ends_12 _N x.1 x.2.1
theorem E_downs_ends (_N : Nat) (x : Dens Ks_downs_ends) : exec (C_downs_ends _N) (bodyOf Tryd.f56) (.two .none (.keep [2, 3] 2 (.two .none (.keep [2, 3, 5] 3 (.two (.two .none (.keep [2, 3, 5, 8] 3 (.one (.keep [2, 3, 5, 8] 3 (.each 3 .none (.keep [2, 3, 5, 6] 3 (.one (.two (.draw 0 [.rd [0], .pure, .pure, .pure, .rd [1], .pure, .pure, .pure, .pure]) (.two (.draw 0 [.rd [2], .pure, .pure, .pure, .wr [2]]) .none))))))))) (.keep [5] 3 .none)))))) (argS 0 (kvals Ks_downs_ends x)) [] (finK (C_downs_ends _N) [.tmp 4] (finD Rk_downs_ends)) = D_downs_ends _N x :=
  (congrArg (fun K => exec (C_downs_ends _N) (bodyOf Tryd.f56) (.two .none (.keep [2, 3] 2 (.two .none (.keep [2, 3, 5] 3 (.two (.two .none (.keep [2, 3, 5, 8] 3 (.one (.keep [2, 3, 5, 8] 3 (.each 3 .none (.keep [2, 3, 5, 6] 3 (.one (.two (.draw 0 [.rd [0], .pure, .pure, .pure, .rd [1], .pure, .pure, .pure, .pure]) (.two (.draw 0 [.rd [2], .pure, .pure, .pure, .wr [2]]) .none))))))))) (.keep [5] 3 .none)))))) (argS 0 (kvals Ks_downs_ends x)) [] K) canonR_fin).trans (downs_ends_12e _N x.1 x.2.1)
theorem ok_downs_ends (_N : Nat) : CtxOk Tryd.prog Gs Tryd.f56 (C_downs_ends _N) := ⟨rfl, by unfold TOk; kernel_rfl, gOk_of rfl rfl (List.forall_mem_cons.2 ⟨en_sets_Each_uint32 _N, (List.forall_mem_cons.2 ⟨en_sets_One _N, (List.forall_mem_nil _)⟩)⟩), iOk_of rfl rfl (List.forall_mem_cons.2 ⟨en_each, (List.forall_mem_nil _)⟩), rfl⟩
theorem hb_downs_ends : HasBody Tryd.prog 56 := ⟨Tryd.f56, bodyOf Tryd.f56, by kernel_rfl, by kernel_rfl, rfl⟩
theorem sp_downs_ends (_N : Nat) : SpecD Tryd.prog Gs 56 Ks_downs_ends Rk_downs_ends (D_downs_ends _N) := specD_of (c := bodyOf Tryd.f56) (by kernel_rfl) rfl (by kernel_rfl) (Nat.le_of_ble_eq_true (by kernel_rfl)) fun x y _h => ⟨C_downs_ends _N, (.two .none (.keep [2, 3] 2 (.two .none (.keep [2, 3, 5] 3 (.two (.two .none (.keep [2, 3, 5, 8] 3 (.one (.keep [2, 3, 5, 8] 3 (.each 3 .none (.keep [2, 3, 5, 6] 3 (.one (.two (.draw 0 [.rd [0], .pure, .pure, .pure, .rd [1], .pure, .pure, .pure, .pure]) (.two (.draw 0 [.rd [2], .pure, .pure, .pure, .wr [2]]) .none))))))))) (.keep [5] 3 .none)))))), ok_downs_ends _N, (E_downs_ends _N x).trans _h⟩
theorem en_downs_ends (_N : Nat) : EntOk Tryd.prog Gs (mkP 56 Ks_downs_ends Rk_downs_ends (D_downs_ends _N)) := entP hb_downs_ends (by kernel_rfl) (sp_downs_ends _N)
-- watershed/downs.Down
abbrev Ks_downs_Down : List Kd := [.dat (.pair (.int .i64) (.sl (.int .u32))), .dat (.int .u32)]
abbrev Rk_downs_Down : List Kd := [.dat (.int .u32), .dat (.int .i64)]
abbrev Rt_downs_Down : Type := Dens Rk_downs_Down
def T_downs_Down : List (Nat × TE) := [(34, ⟨.struct [(0, 3), (1, 22)], 2, 32, some (.pair (.int .i64) (.sl (.int .u32))), [.int .i64 (0 : Int), .nil]⟩)]
noncomputable def C_downs_Down (_N : Nat) : Ctx := { T := T_downs_Down, G := findE [mkP 54 Ks_downs_checked Rk_downs_checked (D_downs_checked _N), mkF 43 Ks_order_Down 25 (.int .u32) (D_order_Down _N), mkP 55 Ks_downs_under Rk_downs_under (D_downs_under _N)], I := findI [], N := _N, n := 17, fx := [], fl := 0, gs := Gs }
noncomputable def downs_Down_1 (_N : Nat) (_x1 : Int × List Int) (_x2 : Int) : Option Rt_downs_Down :=
  ((D_downs_checked _N ((_x1.1, _x1.2), _x2, ())).bind fun _y4 => (bif (_y4.1 != (0 : Int)) then (some ((0 : Int), _y4.1, ())) else ((D_order_Down _N ((_x1.1, _x1.2), ())).bind fun _y5 => ((D_downs_under _N (_y5, _x2, ())).bind fun _y6 => (some (_y6.1, (0 : Int), ()))))))
theorem downs_Down_1e (_N : Nat) (_x1 : Int × List Int) (_x2 : Int) :
    exec (C_downs_Down _N) (cAt (bodyOf Tryd.f32) []) .none [(0, .agg [.int .i64 _x1.1, .sl (.int .u32) _x1.2]), (1, .int .u32 _x2)] [] (canonR (fun _i _t _h => none) (finK (C_downs_Down _N) [.tmp 4, .tmp 5] (finD Rk_downs_Down))) = downs_Down_1 _N _x1 _x2 :=
  by kernel_rfl
noncomputable def D_downs_Down (_N : Nat) (x : Dens Ks_downs_Down) : Option Rt_downs_Down := downs_Down_1 _N x.1 x.2.1
theorem E_downs_Down (_N : Nat) (x : Dens Ks_downs_Down) : exec (C_downs_Down _N) (bodyOf Tryd.f32) .none (argS 0 (kvals Ks_downs_Down x)) [] (finK (C_downs_Down _N) [.tmp 4, .tmp 5] (finD Rk_downs_Down)) = D_downs_Down _N x :=
  (congrArg (fun K => exec (C_downs_Down _N) (bodyOf Tryd.f32) .none (argS 0 (kvals Ks_downs_Down x)) [] K) canonR_fin).trans (downs_Down_1e _N x.1 x.2.1)
theorem ok_downs_Down (_N : Nat) : CtxOk Tryd.prog Gs Tryd.f32 (C_downs_Down _N) := ⟨rfl, by unfold TOk; kernel_rfl, gOk_of rfl rfl (List.forall_mem_cons.2 ⟨en_downs_checked _N, (List.forall_mem_cons.2 ⟨en_order_Down _N, (List.forall_mem_cons.2 ⟨en_downs_under _N, (List.forall_mem_nil _)⟩)⟩)⟩), iOk_of rfl rfl (List.forall_mem_nil _), rfl⟩
theorem hb_downs_Down : HasBody Tryd.prog 32 := ⟨Tryd.f32, bodyOf Tryd.f32, by kernel_rfl, by kernel_rfl, rfl⟩
theorem sp_downs_Down (_N : Nat) : SpecD Tryd.prog Gs 32 Ks_downs_Down Rk_downs_Down (D_downs_Down _N) := specD_of (c := bodyOf Tryd.f32) (by kernel_rfl) rfl (by kernel_rfl) (Nat.le_of_ble_eq_true (by kernel_rfl)) fun x y _h => ⟨C_downs_Down _N, .none, ok_downs_Down _N, (E_downs_Down _N x).trans _h⟩
theorem en_downs_Down (_N : Nat) : EntOk Tryd.prog Gs (mkP 32 Ks_downs_Down Rk_downs_Down (D_downs_Down _N)) := entP hb_downs_Down (by kernel_rfl) (sp_downs_Down _N)
-- watershed/downs.Maximal
abbrev Ks_downs_Maximal : List Kd := [.dat (.pair (.int .i64) (.sl (.int .u32))), .dat (.int .u32)]
abbrev Rk_downs_Maximal : List Kd := [.dat (.int .u32), .dat (.int .i64)]
abbrev Rt_downs_Maximal : Type := Dens Rk_downs_Maximal
def T_downs_Maximal : List (Nat × TE) := [(22, ⟨.slice 25, 1, 24, some (.sl (.int .u32)), [.nil]⟩),
  (34, ⟨.struct [(0, 3), (1, 22)], 2, 32, some (.pair (.int .i64) (.sl (.int .u32))), [.int .i64 (0 : Int), .nil]⟩)]
noncomputable def C_downs_Maximal (_N : Nat) : Ctx := { T := T_downs_Maximal, G := findE [mkP 54 Ks_downs_checked Rk_downs_checked (D_downs_checked _N), mkP 56 Ks_downs_ends Rk_downs_ends (D_downs_ends _N)], I := findI [], N := _N, n := 17, fx := [], fl := 0, gs := Gs }
noncomputable def downs_Maximal_1 (_N : Nat) (_x1 : Int × List Int) (_x2 : Int) : Option Rt_downs_Maximal :=
  ((D_downs_checked _N ((_x1.1, _x1.2), _x2, ())).bind fun _y3 => (bif (_y3.1 != (0 : Int)) then (some ((0 : Int), _y3.1, ())) else ((D_downs_ends _N (_x1.2, _x2, ())).bind fun _y4 => (some (_y4.1, (0 : Int), ())))))
theorem downs_Maximal_1e (_N : Nat) (_x1 : Int × List Int) (_x2 : Int) :
    exec (C_downs_Maximal _N) (cAt (bodyOf Tryd.f33) []) .none [(0, .agg [.int .i64 _x1.1, .sl (.int .u32) _x1.2]), (1, .int .u32 _x2)] [] (canonR (fun _i _t _h => none) (finK (C_downs_Maximal _N) [.tmp 4, .tmp 5] (finD Rk_downs_Maximal))) = downs_Maximal_1 _N _x1 _x2 :=
  by kernel_rfl
noncomputable def D_downs_Maximal (_N : Nat) (x : Dens Ks_downs_Maximal) : Option Rt_downs_Maximal := downs_Maximal_1 _N x.1 x.2.1
theorem E_downs_Maximal (_N : Nat) (x : Dens Ks_downs_Maximal) : exec (C_downs_Maximal _N) (bodyOf Tryd.f33) .none (argS 0 (kvals Ks_downs_Maximal x)) [] (finK (C_downs_Maximal _N) [.tmp 4, .tmp 5] (finD Rk_downs_Maximal)) = D_downs_Maximal _N x :=
  (congrArg (fun K => exec (C_downs_Maximal _N) (bodyOf Tryd.f33) .none (argS 0 (kvals Ks_downs_Maximal x)) [] K) canonR_fin).trans (downs_Maximal_1e _N x.1 x.2.1)
theorem ok_downs_Maximal (_N : Nat) : CtxOk Tryd.prog Gs Tryd.f33 (C_downs_Maximal _N) := ⟨rfl, by unfold TOk; kernel_rfl, gOk_of rfl rfl (List.forall_mem_cons.2 ⟨en_downs_checked _N, (List.forall_mem_cons.2 ⟨en_downs_ends _N, (List.forall_mem_nil _)⟩)⟩), iOk_of rfl rfl (List.forall_mem_nil _), rfl⟩
theorem hb_downs_Maximal : HasBody Tryd.prog 33 := ⟨Tryd.f33, bodyOf Tryd.f33, by kernel_rfl, by kernel_rfl, rfl⟩
theorem sp_downs_Maximal (_N : Nat) : SpecD Tryd.prog Gs 33 Ks_downs_Maximal Rk_downs_Maximal (D_downs_Maximal _N) := specD_of (c := bodyOf Tryd.f33) (by kernel_rfl) rfl (by kernel_rfl) (Nat.le_of_ble_eq_true (by kernel_rfl)) fun x y _h => ⟨C_downs_Maximal _N, .none, ok_downs_Maximal _N, (E_downs_Maximal _N x).trans _h⟩
theorem en_downs_Maximal (_N : Nat) : EntOk Tryd.prog Gs (mkP 33 Ks_downs_Maximal Rk_downs_Maximal (D_downs_Maximal _N)) := entP hb_downs_Maximal (by kernel_rfl) (sp_downs_Maximal _N)
-- watershed/downs.Minimal
abbrev Ks_downs_Minimal : List Kd := [.dat (.pair (.int .i64) (.sl (.int .u32))), .dat (.int .u32)]
abbrev Rk_downs_Minimal : List Kd := [.dat (.int .u32), .dat (.int .i64)]
abbrev Rt_downs_Minimal : Type := Dens Rk_downs_Minimal
def T_downs_Minimal : List (Nat × TE) := [(34, ⟨.struct [(0, 3), (1, 22)], 2, 32, some (.pair (.int .i64) (.sl (.int .u32))), [.int .i64 (0 : Int), .nil]⟩)]
noncomputable def C_downs_Minimal (_N : Nat) : Ctx := { T := T_downs_Minimal, G := findE [mkP 54 Ks_downs_checked Rk_downs_checked (D_downs_checked _N), mkF 43 Ks_order_Down 25 (.int .u32) (D_order_Down _N), mkP 56 Ks_downs_ends Rk_downs_ends (D_downs_ends _N)], I := findI [], N := _N, n := 17, fx := [], fl := 0, gs := Gs }
noncomputable def downs_Minimal_1 (_N : Nat) (_x1 : Int × List Int) (_x2 : Int) : Option Rt_downs_Minimal :=
  ((D_downs_checked _N ((_x1.1, _x1.2), _x2, ())).bind fun _y4 => (bif (_y4.1 != (0 : Int)) then (some ((0 : Int), _y4.1, ())) else ((D_order_Down _N ((_x1.1, _x1.2), ())).bind fun _y5 => ((D_downs_ends _N (_y5, _x2, ())).bind fun _y6 => (some (_y6.1, (0 : Int), ()))))))
theorem downs_Minimal_1e (_N : Nat) (_x1 : Int × List Int) (_x2 : Int) :
    exec (C_downs_Minimal _N) (cAt (bodyOf Tryd.f34) []) .none [(0, .agg [.int .i64 _x1.1, .sl (.int .u32) _x1.2]), (1, .int .u32 _x2)] [] (canonR (fun _i _t _h => none) (finK (C_downs_Minimal _N) [.tmp 4, .tmp 5] (finD Rk_downs_Minimal))) = downs_Minimal_1 _N _x1 _x2 :=
  by kernel_rfl
noncomputable def D_downs_Minimal (_N : Nat) (x : Dens Ks_downs_Minimal) : Option Rt_downs_Minimal := downs_Minimal_1 _N x.1 x.2.1
theorem E_downs_Minimal (_N : Nat) (x : Dens Ks_downs_Minimal) : exec (C_downs_Minimal _N) (bodyOf Tryd.f34) .none (argS 0 (kvals Ks_downs_Minimal x)) [] (finK (C_downs_Minimal _N) [.tmp 4, .tmp 5] (finD Rk_downs_Minimal)) = D_downs_Minimal _N x :=
  (congrArg (fun K => exec (C_downs_Minimal _N) (bodyOf Tryd.f34) .none (argS 0 (kvals Ks_downs_Minimal x)) [] K) canonR_fin).trans (downs_Minimal_1e _N x.1 x.2.1)
theorem ok_downs_Minimal (_N : Nat) : CtxOk Tryd.prog Gs Tryd.f34 (C_downs_Minimal _N) := ⟨rfl, by unfold TOk; kernel_rfl, gOk_of rfl rfl (List.forall_mem_cons.2 ⟨en_downs_checked _N, (List.forall_mem_cons.2 ⟨en_order_Down _N, (List.forall_mem_cons.2 ⟨en_downs_ends _N, (List.forall_mem_nil _)⟩)⟩)⟩), iOk_of rfl rfl (List.forall_mem_nil _), rfl⟩
theorem hb_downs_Minimal : HasBody Tryd.prog 34 := ⟨Tryd.f34, bodyOf Tryd.f34, by kernel_rfl, by kernel_rfl, rfl⟩
theorem sp_downs_Minimal (_N : Nat) : SpecD Tryd.prog Gs 34 Ks_downs_Minimal Rk_downs_Minimal (D_downs_Minimal _N) := specD_of (c := bodyOf Tryd.f34) (by kernel_rfl) rfl (by kernel_rfl) (Nat.le_of_ble_eq_true (by kernel_rfl)) fun x y _h => ⟨C_downs_Minimal _N, .none, ok_downs_Minimal _N, (E_downs_Minimal _N x).trans _h⟩
theorem en_downs_Minimal (_N : Nat) : EntOk Tryd.prog Gs (mkP 34 Ks_downs_Minimal Rk_downs_Minimal (D_downs_Minimal _N)) := entP hb_downs_Minimal (by kernel_rfl) (sp_downs_Minimal _N)
end Go.Proofs.YtiepnpfjlknkoaaDoor
