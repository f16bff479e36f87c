/- order, and what the references and laws say of orders: the functions. -/
import Derived.Test.YtdbjfdjpmoackaaDoorIter
namespace Go.Proofs.YtdbjfdjpmoackaaDoor
open Go.Abs
-- watershed/watershedref.Bit
abbrev Ks_ref_Bit : List Kd := [.dat (.int .u32), .dat (.int .i64)]
abbrev Rk_ref_Bit : List Kd := [.dat (.bool)]
abbrev Rt_ref_Bit : Type := Dens Rk_ref_Bit
def T_ref_Bit : List (Nat × TE) := [(3, ⟨.int .i64, 1, 8, some (.int .i64), [.int .i64 (0 : Int)]⟩),
  (52, ⟨.int .u64, 1, 8, some (.int .u64), [.int .u64 (0 : Int)]⟩)]
noncomputable def C_ref_Bit (_N : Nat) : Ctx := { T := T_ref_Bit, G := findE [], I := findI [], N := _N, n := 11, fx := [], fl := 0, gs := Gs }
noncomputable def ref_Bit_1 (_N : Nat) (_x1 : Int) (_x2 : Int) : Option Rt_ref_Bit :=
  (bif (decide ((IntKind.u64.wrap _x2) < 0)) then none else (some (((iand .u32 _x1 (ishl .u32 (1 : Int) (IntKind.u64.wrap _x2))) != (0 : Int)), ())))
theorem ref_Bit_1e (_N : Nat) (_x1 : Int) (_x2 : Int) :
    exec (C_ref_Bit _N) (cAt (bodyOf Tryd.f28) []) .none [(0, .int .u32 _x1), (1, .int .i64 _x2)] [] (canonR (fun _i _t _h => none) (finK (C_ref_Bit _N) [.tmp 4] (finD Rk_ref_Bit))) = ref_Bit_1 _N _x1 _x2 :=
  by kernel_rfl
noncomputable def D_ref_Bit (_N : Nat) (x : Dens Ks_ref_Bit) : Option Rt_ref_Bit := ref_Bit_1 _N x.1 x.2.1
theorem E_ref_Bit (_N : Nat) (x : Dens Ks_ref_Bit) : exec (C_ref_Bit _N) (bodyOf Tryd.f28) .none (argS 0 (kvals Ks_ref_Bit x)) [] (finK (C_ref_Bit _N) [.tmp 4] (finD Rk_ref_Bit)) = D_ref_Bit _N x :=
  (congrArg (fun K => exec (C_ref_Bit _N) (bodyOf Tryd.f28) .none (argS 0 (kvals Ks_ref_Bit x)) [] K) canonR_fin).trans (ref_Bit_1e _N x.1 x.2.1)
theorem ok_ref_Bit (_N : Nat) : CtxOk Tryd.prog Gs Tryd.f28 (C_ref_Bit _N) := ⟨rfl, by unfold TOk; kernel_rfl, gOk_of rfl rfl (List.forall_mem_nil _), iOk_of rfl rfl (List.forall_mem_nil _), rfl⟩
theorem hb_ref_Bit : HasBody Tryd.prog 28 := ⟨Tryd.f28, bodyOf Tryd.f28, by kernel_rfl, by kernel_rfl, rfl⟩
theorem sp_ref_Bit (_N : Nat) : SpecD Tryd.prog Gs 28 Ks_ref_Bit Rk_ref_Bit (D_ref_Bit _N) := specD_of (c := bodyOf Tryd.f28) (by kernel_rfl) rfl (by kernel_rfl) (Nat.le_of_ble_eq_true (by kernel_rfl)) fun x y _h => ⟨C_ref_Bit _N, .none, ok_ref_Bit _N, (E_ref_Bit _N x).trans _h⟩
theorem en_ref_Bit (_N : Nat) : EntOk Tryd.prog Gs (mkP 28 Ks_ref_Bit Rk_ref_Bit (D_ref_Bit _N)) := entP hb_ref_Bit (by kernel_rfl) (sp_ref_Bit _N)
-- watershed/watershedref.Below
abbrev Ks_ref_Below : List Kd := [.dat (.pair (.int .i64) (.sl (.int .u32))), .dat (.int .i64), .dat (.int .i64)]
abbrev Rk_ref_Below : List Kd := [.dat (.bool)]
abbrev Rt_ref_Below : Type := Dens Rk_ref_Below
def T_ref_Below : List (Nat × TE) := [(22, ⟨.slice 49, 1, 24, some (.sl (.int .u32)), [.nil]⟩),
  (24, ⟨.struct [(0, 3), (1, 22)], 2, 32, some (.pair (.int .i64) (.sl (.int .u32))), [.int .i64 (0 : Int), .nil]⟩),
  (49, ⟨.int .u32, 1, 4, some (.int .u32), [.int .u32 (0 : Int)]⟩)]
noncomputable def C_ref_Below (_N : Nat) : Ctx := { T := T_ref_Below, G := findE [mkP 28 Ks_ref_Bit Rk_ref_Bit (D_ref_Bit _N)], I := findI [], N := _N, n := 14, fx := [], fl := 0, gs := Gs }
noncomputable def ref_Below_1 (_N : Nat) (_x1 : Int × List Int) (_x2 : Int) (_x3 : Int) : Option Rt_ref_Below :=
  (bif (decide (0 ≤ _x2) && decide (_x2 < (_x1.2.length : Int))) then ((D_ref_Bit _N ((nth (0 : Int) _x1.2 (_x2).toNat), _x3, ())).bind fun _y2 => (some (_y2.1, ()))) else none)
theorem ref_Below_1e (_N : Nat) (_x1 : Int × List Int) (_x2 : Int) (_x3 : Int) :
    exec (C_ref_Below _N) (cAt (bodyOf Tryd.f66) []) .none [(0, .agg [.int .i64 _x1.1, .sl (.int .u32) _x1.2]), (1, .int .i64 _x2), (2, .int .i64 _x3)] [] (canonR (fun _i _t _h => none) (finK (C_ref_Below _N) [.tmp 6] (finD Rk_ref_Below))) = ref_Below_1 _N _x1 _x2 _x3 :=
  by kernel_rfl
noncomputable def D_ref_Below (_N : Nat) (x : Dens Ks_ref_Below) : Option Rt_ref_Below := ref_Below_1 _N x.1 x.2.1 x.2.2.1
theorem E_ref_Below (_N : Nat) (x : Dens Ks_ref_Below) : exec (C_ref_Below _N) (bodyOf Tryd.f66) .none (argS 0 (kvals Ks_ref_Below x)) [] (finK (C_ref_Below _N) [.tmp 6] (finD Rk_ref_Below)) = D_ref_Below _N x :=
  (congrArg (fun K => exec (C_ref_Below _N) (bodyOf Tryd.f66) .none (argS 0 (kvals Ks_ref_Below x)) [] K) canonR_fin).trans (ref_Below_1e _N x.1 x.2.1 x.2.2.1)
theorem ok_ref_Below (_N : Nat) : CtxOk Tryd.prog Gs Tryd.f66 (C_ref_Below _N) := ⟨rfl, by unfold TOk; kernel_rfl, gOk_of rfl rfl (List.forall_mem_cons.2 ⟨en_ref_Bit _N, (List.forall_mem_nil _)⟩), iOk_of rfl rfl (List.forall_mem_nil _), rfl⟩
theorem hb_ref_Below : HasBody Tryd.prog 66 := ⟨Tryd.f66, bodyOf Tryd.f66, by kernel_rfl, by kernel_rfl, rfl⟩
theorem sp_ref_Below (_N : Nat) : SpecD Tryd.prog Gs 66 Ks_ref_Below Rk_ref_Below (D_ref_Below _N) := specD_of (c := bodyOf Tryd.f66) (by kernel_rfl) rfl (by kernel_rfl) (Nat.le_of_ble_eq_true (by kernel_rfl)) fun x y _h => ⟨C_ref_Below _N, .none, ok_ref_Below _N, (E_ref_Below _N x).trans _h⟩
theorem en_ref_Below (_N : Nat) : EntOk Tryd.prog Gs (mkP 66 Ks_ref_Below Rk_ref_Below (D_ref_Below _N)) := entP hb_ref_Below (by kernel_rfl) (sp_ref_Below _N)
-- watershed/watershedref.Outside
abbrev Ks_ref_Outside : List Kd := [.dat (.int .u32), .dat (.int .i64)]
abbrev Rk_ref_Outside : List Kd := [.dat (.bool)]
abbrev Rt_ref_Outside : Type := Dens Rk_ref_Outside
def T_ref_Outside : List (Nat × TE) := []
noncomputable def C_ref_Outside (_N : Nat) : Ctx := { T := T_ref_Outside, G := findE [mkP 28 Ks_ref_Bit Rk_ref_Bit (D_ref_Bit _N)], I := findI [], N := _N, n := 14, fx := [], fl := 0, gs := Gs }
noncomputable def ref_Outside_1 (_N : Nat) (_k5 : Option Rt_ref_Outside) : Option Rt_ref_Outside :=
  _k5
theorem ref_Outside_1e (_N : Nat) (_x1 : Int) (_x2 : Int) (_k5 : Ko Rt_ref_Outside) :
    exec (C_ref_Outside _N) (cAt (bodyOf Tryd.f27) [0]) .none [(0, .int .u32 _x1), (1, .int .i64 _x2)] [] (canonK [] _k5 [0, 1] 0 (fun _i _t _h => none) (fun _t _h => finK (C_ref_Outside _N) [.tmp 4] (finD Rk_ref_Outside) .ret _t _h)) = ref_Outside_1 _N (_k5 [(0, .int .u32 _x1), (1, .int .i64 _x2)] []) :=
  by kernel_rfl
noncomputable def ref_Outside_2 (_N : Nat) (_k7 : Option Rt_ref_Outside) : Option Rt_ref_Outside :=
  _k7
theorem ref_Outside_2e (_N : Nat) (_x1 : Int) (_x2 : Int) (_k7 : Ko Rt_ref_Outside) :
    exec (C_ref_Outside _N) (cAt (bodyOf Tryd.f27) [1, 0, 0]) .none [(0, .int .u32 _x1), (1, .int .i64 _x2)] [] (canonK [] _k7 [0, 5] 0 (fun _i _t _h => none) (fun _t _h => finK (C_ref_Outside _N) [.tmp 4] (finD Rk_ref_Outside) .ret _t _h)) = ref_Outside_2 _N (_k7 [(0, .int .u32 _x1), (5, .int .i64 _x2)] []) :=
  by kernel_rfl
noncomputable def ref_Outside_3 (_N : Nat) (_x1 : Int) (_v2 : Int) (_k8 : Int → Option Rt_ref_Outside) (_k6 : Option Rt_ref_Outside) : Option Rt_ref_Outside :=
  (bif (decide (_v2 < (32 : Int))) then ((D_ref_Bit _N (_x1, _v2, ())).bind fun _y9 => (bif _y9.1 then (some (true, ())) else (_k8 (IntKind.i64.wrap (_v2 + (1 : Int)))))) else _k6)
theorem ref_Outside_3e (_N : Nat) (_x1 : Int) (_x2 : Int) (_v2 : Int) (_k8 _k6 : Ko Rt_ref_Outside) :
    exec (C_ref_Outside _N) (cAt (bodyOf Tryd.f27) [1, 0, 1, 0, 0]) .none [(0, .int .u32 _x1), (5, .int .i64 _v2)] [] (canonK [] _k8 [0, 5] 0 (fun _i _t _h => wo 0 _k6 [] [] 0 _i _t _h none) (fun _t _h => finK (C_ref_Outside _N) [.tmp 4] (finD Rk_ref_Outside) .ret _t _h)) = ref_Outside_3 _N _x1 _v2 (fun _v2 => _k8 [(0, .int .u32 _x1), (5, .int .i64 _v2)] []) (_k6 [] []) :=
  by kernel_rfl
noncomputable def ref_Outside_4 (_N : Nat) (_x1 : Int) (_x2 : Int) (_k6 : Option Rt_ref_Outside) : Option Rt_ref_Outside :=
  loopD (fun (_s : Int) _kn => ref_Outside_3 _N _x1 _s (fun _v2 => _kn _v2) _k6) _N _x2
theorem ref_Outside_4e (_N : Nat) (_x1 : Int) (_x2 : Int) (_k6 : Ko Rt_ref_Outside) :
    exec (C_ref_Outside _N) (cAt (bodyOf Tryd.f27) [1, 0, 1, 0]) (.loop [0, 5] 0 .none) [(0, .int .u32 _x1), (5, .int .i64 _x2)] [] (canonK [] _k6 [] 0 (fun _i _t _h => wo 0 _k6 [] [] 0 _i _t _h none) (fun _t _h => finK (C_ref_Outside _N) [.tmp 4] (finD Rk_ref_Outside) .ret _t _h)) = ref_Outside_4 _N _x1 _x2 (_k6 [] []) :=
  (loop_frag (by kernel_rfl) rfl (by kernel_rfl) (by kernel_rfl)).trans (loopN_sim (S := Int) (fun _s => [(0, .int .u32 _x1), (5, .int .i64 _s)]) (fun _s => []) (fun _s _kn => ref_Outside_3e _N _x1 _x2 _s _kn _k6) _N _x2)
noncomputable def ref_Outside_5 (_N : Nat) (_x1 : Int) (_x2 : Int) (_k6 : Option Rt_ref_Outside) : Option Rt_ref_Outside :=
  ref_Outside_4 _N _x1 _x2 _k6
theorem ref_Outside_5e (_N : Nat) (_x1 : Int) (_x2 : Int) (_k6 : Ko Rt_ref_Outside) :
    exec (C_ref_Outside _N) (cAt (bodyOf Tryd.f27) [1, 0, 1]) (.one (.loop [0, 5] 0 .none)) [(0, .int .u32 _x1), (5, .int .i64 _x2)] [] (canonK [] _k6 [] 0 (fun _i _t _h => none) (fun _t _h => finK (C_ref_Outside _N) [.tmp 4] (finD Rk_ref_Outside) .ret _t _h)) = ref_Outside_5 _N _x1 _x2 (_k6 [] []) :=
  (block_canon (by kernel_rfl)).trans (ref_Outside_4e _N _x1 _x2 _k6)
noncomputable def ref_Outside_6 (_N : Nat) (_x1 : Int) (_x2 : Int) (_k6 : Option Rt_ref_Outside) : Option Rt_ref_Outside :=
  ref_Outside_2 _N (ref_Outside_5 _N _x1 _x2 _k6)
abbrev A_ref_Outside_6 : Ann := .two .none (.keep [0, 5] 0 (.one (.loop [0, 5] 0 .none)))
theorem ref_Outside_6e (_N : Nat) (_x1 : Int) (_x2 : Int) (_k6 : Ko Rt_ref_Outside) :
    exec (C_ref_Outside _N) (cAt (bodyOf Tryd.f27) [1, 0]) A_ref_Outside_6 [(0, .int .u32 _x1), (1, .int .i64 _x2)] [] (canonK [] _k6 [] 0 (fun _i _t _h => none) (fun _t _h => finK (C_ref_Outside _N) [.tmp 4] (finD Rk_ref_Outside) .ret _t _h)) = ref_Outside_6 _N _x1 _x2 (_k6 [] []) :=
  (seq_frag (by kernel_rfl) rfl).trans ((ref_Outside_2e _N _x1 _x2 _).trans (congrArg (fun _z => ref_Outside_2 _N _z) (ref_Outside_5e _N _x1 _x2 _k6)))
noncomputable def ref_Outside_7 (_N : Nat) : Option Rt_ref_Outside :=
  (some (false, ()))
theorem ref_Outside_7e (_N : Nat) (_x1 : Int) (_x2 : Int) :
    exec (C_ref_Outside _N) (cAt (bodyOf Tryd.f27) [1, 1]) .none [] [] (canonR (fun _i _t _h => none) (finK (C_ref_Outside _N) [.tmp 4] (finD Rk_ref_Outside))) = ref_Outside_7 _N :=
  by kernel_rfl
noncomputable def ref_Outside_8 (_N : Nat) (_x1 : Int) (_x2 : Int) : Option Rt_ref_Outside :=
  ref_Outside_6 _N _x1 _x2 (ref_Outside_7 _N)
abbrev A_ref_Outside_8 : Ann := .two A_ref_Outside_6 (.keep [] 0 .none)
theorem ref_Outside_8e (_N : Nat) (_x1 : Int) (_x2 : Int) :
    exec (C_ref_Outside _N) (cAt (bodyOf Tryd.f27) [1]) A_ref_Outside_8 [(0, .int .u32 _x1), (1, .int .i64 _x2)] [] (canonR (fun _i _t _h => none) (finK (C_ref_Outside _N) [.tmp 4] (finD Rk_ref_Outside))) = ref_Outside_8 _N _x1 _x2 :=
  (seq_frag (by kernel_rfl) rfl).trans ((ref_Outside_6e _N _x1 _x2 _).trans (congrArg (fun _z => ref_Outside_6 _N _x1 _x2 _z) (ref_Outside_7e _N _x1 _x2)))
noncomputable def ref_Outside_9 (_N : Nat) (_x1 : Int) (_x2 : Int) : Option Rt_ref_Outside :=
  ref_Outside_1 _N (ref_Outside_8 _N _x1 _x2)
abbrev A_ref_Outside_9 : Ann := .two .none (.keep [0, 1] 0 (.two A_ref_Outside_6 (.keep [] 0 .none)))
theorem ref_Outside_9e (_N : Nat) (_x1 : Int) (_x2 : Int) :
    exec (C_ref_Outside _N) (cAt (bodyOf Tryd.f27) []) A_ref_Outside_9 [(0, .int .u32 _x1), (1, .int .i64 _x2)] [] (canonR (fun _i _t _h => none) (finK (C_ref_Outside _N) [.tmp 4] (finD Rk_ref_Outside))) = ref_Outside_9 _N _x1 _x2 :=
  (seq_frag (by kernel_rfl) rfl).trans ((ref_Outside_1e _N _x1 _x2 _).trans (congrArg (fun _z => ref_Outside_1 _N _z) (ref_Outside_8e _N _x1 _x2)))
noncomputable def D_ref_Outside (_N : Nat) (x : Dens Ks_ref_Outside) : Option Rt_ref_Outside := ref_Outside_9 _N x.1 x.2.1
theorem E_ref_Outside (_N : Nat) (x : Dens Ks_ref_Outside) : exec (C_ref_Outside _N) (bodyOf Tryd.f27) (.two .none (.keep [0, 1] 0 (.two A_ref_Outside_6 (.keep [] 0 .none)))) (argS 0 (kvals Ks_ref_Outside x)) [] (finK (C_ref_Outside _N) [.tmp 4] (finD Rk_ref_Outside)) = D_ref_Outside _N x :=
  (congrArg (fun K => exec (C_ref_Outside _N) (bodyOf Tryd.f27) (.two .none (.keep [0, 1] 0 (.two A_ref_Outside_6 (.keep [] 0 .none)))) (argS 0 (kvals Ks_ref_Outside x)) [] K) canonR_fin).trans (ref_Outside_9e _N x.1 x.2.1)
theorem ok_ref_Outside (_N : Nat) : CtxOk Tryd.prog Gs Tryd.f27 (C_ref_Outside _N) := ⟨rfl, by unfold TOk; kernel_rfl, gOk_of rfl rfl (List.forall_mem_cons.2 ⟨en_ref_Bit _N, (List.forall_mem_nil _)⟩), iOk_of rfl rfl (List.forall_mem_nil _), rfl⟩
theorem hb_ref_Outside : HasBody Tryd.prog 27 := ⟨Tryd.f27, bodyOf Tryd.f27, by kernel_rfl, by kernel_rfl, rfl⟩
theorem sp_ref_Outside (_N : Nat) : SpecD Tryd.prog Gs 27 Ks_ref_Outside Rk_ref_Outside (D_ref_Outside _N) := specD_of (c := bodyOf Tryd.f27) (by kernel_rfl) rfl (by kernel_rfl) (Nat.le_of_ble_eq_true (by kernel_rfl)) fun x y _h => ⟨C_ref_Outside _N, (.two .none (.keep [0, 1] 0 (.two A_ref_Outside_6 (.keep [] 0 .none)))), ok_ref_Outside _N, (E_ref_Outside _N x).trans _h⟩
theorem en_ref_Outside (_N : Nat) : EntOk Tryd.prog Gs (mkP 27 Ks_ref_Outside Rk_ref_Outside (D_ref_Outside _N)) := entP hb_ref_Outside (by kernel_rfl) (sp_ref_Outside _N)
-- watershed/watershedref.OrderCheck
abbrev Ks_ref_OrderCheck : List Kd := [.dat (.pair (.int .i64) (.sl (.int .u32)))]
abbrev Rk_ref_OrderCheck : List Kd := [.dat (.int .i64)]
abbrev Rt_ref_OrderCheck : Type := Dens Rk_ref_OrderCheck
def T_ref_OrderCheck : List (Nat × TE) := [(3, ⟨.int .i64, 1, 8, some (.int .i64), [.int .i64 (0 : Int)]⟩),
  (22, ⟨.slice 49, 1, 24, some (.sl (.int .u32)), [.nil]⟩),
  (24, ⟨.struct [(0, 3), (1, 22)], 2, 32, some (.pair (.int .i64) (.sl (.int .u32))), [.int .i64 (0 : Int), .nil]⟩),
  (49, ⟨.int .u32, 1, 4, some (.int .u32), [.int .u32 (0 : Int)]⟩)]
noncomputable def C_ref_OrderCheck (_N : Nat) : Ctx := { T := T_ref_OrderCheck, G := findE [mkP 27 Ks_ref_Outside Rk_ref_Outside (D_ref_Outside _N), mkP 66 Ks_ref_Below Rk_ref_Below (D_ref_Below _N)], I := findI [], N := _N, n := 97, fx := [], fl := 0, gs := Gs }
noncomputable def ref_OrderCheck_1 (_N : Nat) (_k67 : Option Rt_ref_OrderCheck) : Option Rt_ref_OrderCheck :=
  _k67
theorem ref_OrderCheck_1e (_N : Nat) (_x1 : Int × List Int) (_k67 : Ko Rt_ref_OrderCheck) :
    exec (C_ref_OrderCheck _N) (cAt (bodyOf Tryd.f57) [0]) .none [(0, .agg [.int .i64 _x1.1, .sl (.int .u32) _x1.2])] [] (canonK [] _k67 [1] 1 (fun _i _t _h => none) (fun _t _h => finK (C_ref_OrderCheck _N) [.tmp 2] (finD Rk_ref_OrderCheck) .ret _t _h)) = ref_OrderCheck_1 _N (_k67 [(1, .ptr 0 0)] [.cells [.int .i64 _x1.1, .sl (.int .u32) _x1.2]]) :=
  by kernel_rfl
noncomputable def ref_OrderCheck_2 (_N : Nat) (_x1 : Int × List Int) (_k68 : Option Rt_ref_OrderCheck) : Option Rt_ref_OrderCheck :=
  (bif (decide (_x1.1 < (0 : Int))) then (some ((1 : Int), ())) else (bif (decide (_x1.1 > (16 : Int))) then (some ((1 : Int), ())) else _k68))
theorem ref_OrderCheck_2e (_N : Nat) (_x1 : Int × List Int) (_k68 : Ko Rt_ref_OrderCheck) :
    exec (C_ref_OrderCheck _N) (cAt (bodyOf Tryd.f57) [1, 0]) .none [(1, .ptr 0 0)] [.cells [.int .i64 _x1.1, .sl (.int .u32) _x1.2]] (canonK [] _k68 [1] 1 (fun _i _t _h => none) (fun _t _h => finK (C_ref_OrderCheck _N) [.tmp 2] (finD Rk_ref_OrderCheck) .ret _t _h)) = ref_OrderCheck_2 _N _x1 (_k68 [(1, .ptr 0 0)] [.cells [.int .i64 _x1.1, .sl (.int .u32) _x1.2]]) :=
  by kernel_rfl
noncomputable def ref_OrderCheck_3 (_N : Nat) (_x1 : Int × List Int) (_k69 : Option Rt_ref_OrderCheck) : Option Rt_ref_OrderCheck :=
  (bif ((_x1.2.length : Int) != _x1.1) then (some ((2 : Int), ())) else _k69)
theorem ref_OrderCheck_3e (_N : Nat) (_x1 : Int × List Int) (_k69 : Ko Rt_ref_OrderCheck) :
    exec (C_ref_OrderCheck _N) (cAt (bodyOf Tryd.f57) [1, 1, 0]) .none [(1, .ptr 0 0)] [.cells [.int .i64 _x1.1, .sl (.int .u32) _x1.2]] (canonK [] _k69 [1] 1 (fun _i _t _h => none) (fun _t _h => finK (C_ref_OrderCheck _N) [.tmp 2] (finD Rk_ref_OrderCheck) .ret _t _h)) = ref_OrderCheck_3 _N _x1 (_k69 [(1, .ptr 0 0)] [.cells [.int .i64 _x1.1, .sl (.int .u32) _x1.2]]) :=
  by kernel_rfl
noncomputable def ref_OrderCheck_4 (_N : Nat) (_k71 : Option Rt_ref_OrderCheck) : Option Rt_ref_OrderCheck :=
  _k71
theorem ref_OrderCheck_4e (_N : Nat) (_x1 : Int × List Int) (_k71 : Ko Rt_ref_OrderCheck) :
    exec (C_ref_OrderCheck _N) (cAt (bodyOf Tryd.f57) [1, 1, 1, 0, 0]) .none [(1, .ptr 0 0)] [.cells [.int .i64 _x1.1, .sl (.int .u32) _x1.2]] (canonK [] _k71 [1, 3] 1 (fun _i _t _h => none) (fun _t _h => finK (C_ref_OrderCheck _N) [.tmp 2] (finD Rk_ref_OrderCheck) .ret _t _h)) = ref_OrderCheck_4 _N (_k71 [(1, .ptr 0 0), (3, .int .i64 (0 : Int))] [.cells [.int .i64 _x1.1, .sl (.int .u32) _x1.2]]) :=
  by kernel_rfl
noncomputable def ref_OrderCheck_5 (_N : Nat) (_x1 : Int × List Int) (_v2 : Int) (_k72 : Int → Option Rt_ref_OrderCheck) (_k70 : Option Rt_ref_OrderCheck) : Option Rt_ref_OrderCheck :=
  (bif (decide (_v2 < _x1.1)) then (bif (decide (0 ≤ _v2) && decide (_v2 < (_x1.2.length : Int))) then ((D_ref_Outside _N ((nth (0 : Int) _x1.2 (_v2).toNat), _x1.1, ())).bind fun _y73 => (bif _y73.1 then (some ((2 : Int), ())) else (_k72 (IntKind.i64.wrap (_v2 + (1 : Int)))))) else none) else _k70)
abbrev A_ref_OrderCheck_5 : Ann := .two .none (.two (.one (.two (.draw 0 [.pure, .rd [0], .pure, .pure, .pure, .pure, .rd [0], .pure]) .none)) .none)
theorem ref_OrderCheck_5e (_N : Nat) (_x1 : Int × List Int) (_v2 : Int) (_k72 _k70 : Ko Rt_ref_OrderCheck) :
    exec (C_ref_OrderCheck _N) (cAt (bodyOf Tryd.f57) [1, 1, 1, 0, 1, 0, 0]) A_ref_OrderCheck_5 [(1, .ptr 0 0), (3, .int .i64 _v2)] [.cells [.int .i64 _x1.1, .sl (.int .u32) _x1.2]] (canonK [] _k72 [1, 3] 1 (fun _i _t _h => wo 0 _k70 [] [1] 1 _i _t _h none) (fun _t _h => finK (C_ref_OrderCheck _N) [.tmp 2] (finD Rk_ref_OrderCheck) .ret _t _h)) = ref_OrderCheck_5 _N _x1 _v2 (fun _v2 => _k72 [(1, .ptr 0 0), (3, .int .i64 _v2)] [.cells [.int .i64 _x1.1, .sl (.int .u32) _x1.2]]) (_k70 [(1, .ptr 0 0)] [.cells [.int .i64 _x1.1, .sl (.int .u32) _x1.2]]) :=
  by kernel_rfl
noncomputable def ref_OrderCheck_6 (_N : Nat) (_x1 : Int × List Int) (_k70 : Option Rt_ref_OrderCheck) : Option Rt_ref_OrderCheck :=
  loopD (fun (_s : Int) _kn => ref_OrderCheck_5 _N _x1 _s (fun _v2 => _kn _v2) _k70) _N (0 : Int)
theorem ref_OrderCheck_6e (_N : Nat) (_x1 : Int × List Int) (_k70 : Ko Rt_ref_OrderCheck) :
    exec (C_ref_OrderCheck _N) (cAt (bodyOf Tryd.f57) [1, 1, 1, 0, 1, 0]) (.loop [1, 3] 1 A_ref_OrderCheck_5) [(1, .ptr 0 0), (3, .int .i64 (0 : Int))] [.cells [.int .i64 _x1.1, .sl (.int .u32) _x1.2]] (canonK [] _k70 [1] 1 (fun _i _t _h => wo 0 _k70 [] [1] 1 _i _t _h none) (fun _t _h => finK (C_ref_OrderCheck _N) [.tmp 2] (finD Rk_ref_OrderCheck) .ret _t _h)) = ref_OrderCheck_6 _N _x1 (_k70 [(1, .ptr 0 0)] [.cells [.int .i64 _x1.1, .sl (.int .u32) _x1.2]]) :=
  (loop_frag (by kernel_rfl) rfl (by kernel_rfl) (by kernel_rfl)).trans (loopN_sim (S := Int) (fun _s => [(1, .ptr 0 0), (3, .int .i64 _s)]) (fun _s => [.cells [.int .i64 _x1.1, .sl (.int .u32) _x1.2]]) (fun _s _kn => ref_OrderCheck_5e _N _x1 _s _kn _k70) _N (0 : Int))
noncomputable def ref_OrderCheck_7 (_N : Nat) (_x1 : Int × List Int) (_k70 : Option Rt_ref_OrderCheck) : Option Rt_ref_OrderCheck :=
  ref_OrderCheck_6 _N _x1 _k70
abbrev A_ref_OrderCheck_7 : Ann := .one (.loop [1, 3] 1 A_ref_OrderCheck_5)
theorem ref_OrderCheck_7e (_N : Nat) (_x1 : Int × List Int) (_k70 : Ko Rt_ref_OrderCheck) :
    exec (C_ref_OrderCheck _N) (cAt (bodyOf Tryd.f57) [1, 1, 1, 0, 1]) A_ref_OrderCheck_7 [(1, .ptr 0 0), (3, .int .i64 (0 : Int))] [.cells [.int .i64 _x1.1, .sl (.int .u32) _x1.2]] (canonK [] _k70 [1] 1 (fun _i _t _h => none) (fun _t _h => finK (C_ref_OrderCheck _N) [.tmp 2] (finD Rk_ref_OrderCheck) .ret _t _h)) = ref_OrderCheck_7 _N _x1 (_k70 [(1, .ptr 0 0)] [.cells [.int .i64 _x1.1, .sl (.int .u32) _x1.2]]) :=
  (block_canon (by kernel_rfl)).trans (ref_OrderCheck_6e _N _x1 _k70)
noncomputable def ref_OrderCheck_8 (_N : Nat) (_x1 : Int × List Int) (_k70 : Option Rt_ref_OrderCheck) : Option Rt_ref_OrderCheck :=
  ref_OrderCheck_4 _N (ref_OrderCheck_7 _N _x1 _k70)
abbrev A_ref_OrderCheck_8 : Ann := .two .none (.keep [1, 3] 1 (.one (.loop [1, 3] 1 A_ref_OrderCheck_5)))
theorem ref_OrderCheck_8e (_N : Nat) (_x1 : Int × List Int) (_k70 : Ko Rt_ref_OrderCheck) :
    exec (C_ref_OrderCheck _N) (cAt (bodyOf Tryd.f57) [1, 1, 1, 0]) A_ref_OrderCheck_8 [(1, .ptr 0 0)] [.cells [.int .i64 _x1.1, .sl (.int .u32) _x1.2]] (canonK [] _k70 [1] 1 (fun _i _t _h => none) (fun _t _h => finK (C_ref_OrderCheck _N) [.tmp 2] (finD Rk_ref_OrderCheck) .ret _t _h)) = ref_OrderCheck_8 _N _x1 (_k70 [(1, .ptr 0 0)] [.cells [.int .i64 _x1.1, .sl (.int .u32) _x1.2]]) :=
  (seq_frag (by kernel_rfl) rfl).trans ((ref_OrderCheck_4e _N _x1 _).trans (congrArg (fun _z => ref_OrderCheck_4 _N _z) (ref_OrderCheck_7e _N _x1 _k70)))
noncomputable def ref_OrderCheck_9 (_N : Nat) (_k75 : Option Rt_ref_OrderCheck) : Option Rt_ref_OrderCheck :=
  _k75
theorem ref_OrderCheck_9e (_N : Nat) (_x1 : Int × List Int) (_k75 : Ko Rt_ref_OrderCheck) :
    exec (C_ref_OrderCheck _N) (cAt (bodyOf Tryd.f57) [1, 1, 1, 1, 0, 0]) .none [(1, .ptr 0 0)] [.cells [.int .i64 _x1.1, .sl (.int .u32) _x1.2]] (canonK [] _k75 [1, 4] 1 (fun _i _t _h => none) (fun _t _h => finK (C_ref_OrderCheck _N) [.tmp 2] (finD Rk_ref_OrderCheck) .ret _t _h)) = ref_OrderCheck_9 _N (_k75 [(1, .ptr 0 0), (4, .int .i64 (0 : Int))] [.cells [.int .i64 _x1.1, .sl (.int .u32) _x1.2]]) :=
  by kernel_rfl
noncomputable def ref_OrderCheck_10 (_N : Nat) (_x1 : Int × List Int) (_v35 : Int) (_k77 : Option Rt_ref_OrderCheck) (_k74 : Option Rt_ref_OrderCheck) : Option Rt_ref_OrderCheck :=
  (bif (decide (_v35 < _x1.1)) then _k77 else _k74)
theorem ref_OrderCheck_10e (_N : Nat) (_x1 : Int × List Int) (_v35 : Int) (_k77 _k74 : Ko Rt_ref_OrderCheck) :
    exec (C_ref_OrderCheck _N) (cAt (bodyOf Tryd.f57) [1, 1, 1, 1, 0, 1, 0, 0, 0]) .none [(1, .ptr 0 0), (4, .int .i64 _v35)] [.cells [.int .i64 _x1.1, .sl (.int .u32) _x1.2]] (canonK [] _k77 [1, 4] 1 (fun _i _t _h => wo 2 _k74 [] [] 1 _i _t _h none) (fun _t _h => finK (C_ref_OrderCheck _N) [.tmp 2] (finD Rk_ref_OrderCheck) .ret _t _h)) = ref_OrderCheck_10 _N _x1 _v35 (_k77 [(1, .ptr 0 0), (4, .int .i64 _v35)] [.cells [.int .i64 _x1.1, .sl (.int .u32) _x1.2]]) (_k74 [] [.cells [.int .i64 _x1.1, .sl (.int .u32) _x1.2]]) :=
  by kernel_rfl
noncomputable def ref_OrderCheck_11 (_N : Nat) (_k79 : Option Rt_ref_OrderCheck) : Option Rt_ref_OrderCheck :=
  _k79
theorem ref_OrderCheck_11e (_N : Nat) (_x1 : Int × List Int) (_v35 : Int) (_k79 _k78 _k74 : Ko Rt_ref_OrderCheck) :
    exec (C_ref_OrderCheck _N) (cAt (bodyOf Tryd.f57) [1, 1, 1, 1, 0, 1, 0, 0, 1, 0, 0, 0]) .none [(1, .ptr 0 0), (4, .int .i64 _v35)] [.cells [.int .i64 _x1.1, .sl (.int .u32) _x1.2]] (canonK [] _k79 [1, 4, 5] 1 (fun _i _t _h => wo 3 _k78 [] [1, 4] 1 _i _t _h (wo 2 _k74 [] [] 1 _i _t _h none)) (fun _t _h => finK (C_ref_OrderCheck _N) [.tmp 2] (finD Rk_ref_OrderCheck) .ret _t _h)) = ref_OrderCheck_11 _N (_k79 [(1, .ptr 0 0), (4, .int .i64 _v35), (5, .int .i64 (0 : Int))] [.cells [.int .i64 _x1.1, .sl (.int .u32) _x1.2]]) :=
  by kernel_rfl
noncomputable def ref_OrderCheck_12 (_N : Nat) (_x1 : Int × List Int) (_v50 : Int) (_k81 : Option Rt_ref_OrderCheck) (_k78 : Option Rt_ref_OrderCheck) : Option Rt_ref_OrderCheck :=
  (bif (decide (_v50 < _x1.1)) then _k81 else _k78)
theorem ref_OrderCheck_12e (_N : Nat) (_x1 : Int × List Int) (_v35 : Int) (_v50 : Int) (_k81 _k78 _k74 : Ko Rt_ref_OrderCheck) :
    exec (C_ref_OrderCheck _N) (cAt (bodyOf Tryd.f57) [1, 1, 1, 1, 0, 1, 0, 0, 1, 0, 0, 1, 0, 0, 0]) .none [(1, .ptr 0 0), (4, .int .i64 _v35), (5, .int .i64 _v50)] [.cells [.int .i64 _x1.1, .sl (.int .u32) _x1.2]] (canonK [] _k81 [1, 4, 5] 1 (fun _i _t _h => wo 4 _k78 [] [1, 4] 1 _i _t _h (wo 3 _k78 [] [1, 4] 1 _i _t _h (wo 2 _k74 [] [] 1 _i _t _h none))) (fun _t _h => finK (C_ref_OrderCheck _N) [.tmp 2] (finD Rk_ref_OrderCheck) .ret _t _h)) = ref_OrderCheck_12 _N _x1 _v50 (_k81 [(1, .ptr 0 0), (4, .int .i64 _v35), (5, .int .i64 _v50)] [.cells [.int .i64 _x1.1, .sl (.int .u32) _x1.2]]) (_k78 [(1, .ptr 0 0), (4, .int .i64 _v35)] [.cells [.int .i64 _x1.1, .sl (.int .u32) _x1.2]]) :=
  by kernel_rfl
noncomputable def ref_OrderCheck_13 (_N : Nat) (_x1 : Int × List Int) (_v35 : Int) (_v50 : Int) (_k84 : Bool → Option Rt_ref_OrderCheck) : Option Rt_ref_OrderCheck :=
  (bif (_v35 == _v50) then ((D_ref_Below _N ((_x1.1, _x1.2), _v35, _v35, ())).bind fun _y85 => (bif (!_y85.1) then (_k84 true) else (bif (_v35 != _v50) then ((D_ref_Below _N ((_x1.1, _x1.2), _v35, _v50, ())).bind fun _y86 => (bif _y86.1 then ((D_ref_Below _N ((_x1.1, _x1.2), _v50, _v35, ())).bind fun _y87 => (_k84 _y87.1)) else (_k84 false))) else (_k84 false)))) else (bif (_v35 != _v50) then ((D_ref_Below _N ((_x1.1, _x1.2), _v35, _v50, ())).bind fun _y88 => (bif _y88.1 then ((D_ref_Below _N ((_x1.1, _x1.2), _v50, _v35, ())).bind fun _y89 => (_k84 _y89.1)) else (_k84 false))) else (_k84 false)))
theorem ref_OrderCheck_13e (_N : Nat) (_x1 : Int × List Int) (_v35 : Int) (_v50 : Int) (_k84 _k82 _k78 _k74 : Ko Rt_ref_OrderCheck) :
    exec (C_ref_OrderCheck _N) (cAt (bodyOf Tryd.f57) [1, 1, 1, 1, 0, 1, 0, 0, 1, 0, 0, 1, 0, 0, 1, 0, 0, 0, 0]) .none [(1, .ptr 0 0), (4, .int .i64 _v35), (5, .int .i64 _v50)] [.cells [.int .i64 _x1.1, .sl (.int .u32) _x1.2]] (canonK [] _k84 [1, 4, 5, 73] 1 (fun _i _t _h => wo 5 _k82 [] [1, 4, 5] 1 _i _t _h (wo 4 _k78 [] [1, 4] 1 _i _t _h (wo 3 _k78 [] [1, 4] 1 _i _t _h (wo 2 _k74 [] [] 1 _i _t _h none)))) (fun _t _h => finK (C_ref_OrderCheck _N) [.tmp 2] (finD Rk_ref_OrderCheck) .ret _t _h)) = ref_OrderCheck_13 _N _x1 _v35 _v50 (fun _v56 => _k84 [(1, .ptr 0 0), (4, .int .i64 _v35), (5, .int .i64 _v50), (73, .bool _v56)] [.cells [.int .i64 _x1.1, .sl (.int .u32) _x1.2]]) :=
  by kernel_rfl
noncomputable def ref_OrderCheck_14 (_N : Nat) (_v56 : Bool) (_k83 : Option Rt_ref_OrderCheck) : Option Rt_ref_OrderCheck :=
  (bif _v56 then (some ((3 : Int), ())) else _k83)
theorem ref_OrderCheck_14e (_N : Nat) (_x1 : Int × List Int) (_v35 : Int) (_v50 : Int) (_v56 : Bool) (_k83 _k82 _k78 _k74 : Ko Rt_ref_OrderCheck) :
    exec (C_ref_OrderCheck _N) (cAt (bodyOf Tryd.f57) [1, 1, 1, 1, 0, 1, 0, 0, 1, 0, 0, 1, 0, 0, 1, 0, 0, 0, 1]) .none [(1, .ptr 0 0), (4, .int .i64 _v35), (5, .int .i64 _v50), (73, .bool _v56)] [.cells [.int .i64 _x1.1, .sl (.int .u32) _x1.2]] (canonK [] _k83 [1, 4, 5] 1 (fun _i _t _h => wo 5 _k82 [] [1, 4, 5] 1 _i _t _h (wo 4 _k78 [] [1, 4] 1 _i _t _h (wo 3 _k78 [] [1, 4] 1 _i _t _h (wo 2 _k74 [] [] 1 _i _t _h none)))) (fun _t _h => finK (C_ref_OrderCheck _N) [.tmp 2] (finD Rk_ref_OrderCheck) .ret _t _h)) = ref_OrderCheck_14 _N _v56 (_k83 [(1, .ptr 0 0), (4, .int .i64 _v35), (5, .int .i64 _v50)] [.cells [.int .i64 _x1.1, .sl (.int .u32) _x1.2]]) :=
  by kernel_rfl
noncomputable def ref_OrderCheck_15 (_N : Nat) (_x1 : Int × List Int) (_v35 : Int) (_v50 : Int) (_k83 : Option Rt_ref_OrderCheck) : Option Rt_ref_OrderCheck :=
  ref_OrderCheck_13 _N _x1 _v35 _v50 (fun _v56 => ref_OrderCheck_14 _N _v56 _k83)
abbrev A_ref_OrderCheck_15 : Ann := .two .none (.keep [1, 4, 5, 73] 1 .none)
theorem ref_OrderCheck_15e (_N : Nat) (_x1 : Int × List Int) (_v35 : Int) (_v50 : Int) (_k83 _k82 _k78 _k74 : Ko Rt_ref_OrderCheck) :
    exec (C_ref_OrderCheck _N) (cAt (bodyOf Tryd.f57) [1, 1, 1, 1, 0, 1, 0, 0, 1, 0, 0, 1, 0, 0, 1, 0, 0, 0]) A_ref_OrderCheck_15 [(1, .ptr 0 0), (4, .int .i64 _v35), (5, .int .i64 _v50)] [.cells [.int .i64 _x1.1, .sl (.int .u32) _x1.2]] (canonK [] _k83 [1, 4, 5] 1 (fun _i _t _h => wo 5 _k82 [] [1, 4, 5] 1 _i _t _h (wo 4 _k78 [] [1, 4] 1 _i _t _h (wo 3 _k78 [] [1, 4] 1 _i _t _h (wo 2 _k74 [] [] 1 _i _t _h none)))) (fun _t _h => finK (C_ref_OrderCheck _N) [.tmp 2] (finD Rk_ref_OrderCheck) .ret _t _h)) = ref_OrderCheck_15 _N _x1 _v35 _v50 (_k83 [(1, .ptr 0 0), (4, .int .i64 _v35), (5, .int .i64 _v50)] [.cells [.int .i64 _x1.1, .sl (.int .u32) _x1.2]]) :=
  (seq_frag (by kernel_rfl) rfl).trans ((ref_OrderCheck_13e _N _x1 _v35 _v50 _ _k82 _k78 _k74).trans (congrArg (fun _z => ref_OrderCheck_13 _N _x1 _v35 _v50 _z) (funext fun _v56 => ref_OrderCheck_14e _N _x1 _v35 _v50 _v56 _k83 _k82 _k78 _k74)))
noncomputable def ref_OrderCheck_16 (_N : Nat) (_k90 : Option Rt_ref_OrderCheck) : Option Rt_ref_OrderCheck :=
  _k90
theorem ref_OrderCheck_16e (_N : Nat) (_x1 : Int × List Int) (_v35 : Int) (_v50 : Int) (_k90 _k82 _k78 _k74 : Ko Rt_ref_OrderCheck) :
    exec (C_ref_OrderCheck _N) (cAt (bodyOf Tryd.f57) [1, 1, 1, 1, 0, 1, 0, 0, 1, 0, 0, 1, 0, 0, 1, 0, 0, 1, 0]) .none [(1, .ptr 0 0), (4, .int .i64 _v35), (5, .int .i64 _v50)] [.cells [.int .i64 _x1.1, .sl (.int .u32) _x1.2]] (canonK [] _k90 [1, 4, 5, 6] 1 (fun _i _t _h => wo 5 _k82 [] [1, 4, 5] 1 _i _t _h (wo 4 _k78 [] [1, 4] 1 _i _t _h (wo 3 _k78 [] [1, 4] 1 _i _t _h (wo 2 _k74 [] [] 1 _i _t _h none)))) (fun _t _h => finK (C_ref_OrderCheck _N) [.tmp 2] (finD Rk_ref_OrderCheck) .ret _t _h)) = ref_OrderCheck_16 _N (_k90 [(1, .ptr 0 0), (4, .int .i64 _v35), (5, .int .i64 _v50), (6, .int .i64 (0 : Int))] [.cells [.int .i64 _x1.1, .sl (.int .u32) _x1.2]]) :=
  by kernel_rfl
noncomputable def ref_OrderCheck_17 (_N : Nat) (_x1 : Int × List Int) (_v60 : Int) (_k92 : Option Rt_ref_OrderCheck) (_k82 : Option Rt_ref_OrderCheck) : Option Rt_ref_OrderCheck :=
  (bif (decide (_v60 < _x1.1)) then _k92 else _k82)
theorem ref_OrderCheck_17e (_N : Nat) (_x1 : Int × List Int) (_v35 : Int) (_v50 : Int) (_v60 : Int) (_k92 _k82 _k78 _k74 : Ko Rt_ref_OrderCheck) :
    exec (C_ref_OrderCheck _N) (cAt (bodyOf Tryd.f57) [1, 1, 1, 1, 0, 1, 0, 0, 1, 0, 0, 1, 0, 0, 1, 0, 0, 1, 1, 0, 0, 0]) .none [(1, .ptr 0 0), (4, .int .i64 _v35), (5, .int .i64 _v50), (6, .int .i64 _v60)] [.cells [.int .i64 _x1.1, .sl (.int .u32) _x1.2]] (canonK [] _k92 [1, 4, 5, 6] 1 (fun _i _t _h => wo 6 _k82 [] [1, 4, 5] 1 _i _t _h (wo 5 _k82 [] [1, 4, 5] 1 _i _t _h (wo 4 _k78 [] [1, 4] 1 _i _t _h (wo 3 _k78 [] [1, 4] 1 _i _t _h (wo 2 _k74 [] [] 1 _i _t _h none))))) (fun _t _h => finK (C_ref_OrderCheck _N) [.tmp 2] (finD Rk_ref_OrderCheck) .ret _t _h)) = ref_OrderCheck_17 _N _x1 _v60 (_k92 [(1, .ptr 0 0), (4, .int .i64 _v35), (5, .int .i64 _v50), (6, .int .i64 _v60)] [.cells [.int .i64 _x1.1, .sl (.int .u32) _x1.2]]) (_k82 [(1, .ptr 0 0), (4, .int .i64 _v35), (5, .int .i64 _v50)] [.cells [.int .i64 _x1.1, .sl (.int .u32) _x1.2]]) :=
  by kernel_rfl
noncomputable def ref_OrderCheck_18 (_N : Nat) (_x1 : Int × List Int) (_v35 : Int) (_v50 : Int) (_v60 : Int) (_k93 : Option Rt_ref_OrderCheck) : Option Rt_ref_OrderCheck :=
  ((D_ref_Below _N ((_x1.1, _x1.2), _v35, _v50, ())).bind fun _y94 => (bif _y94.1 then ((D_ref_Below _N ((_x1.1, _x1.2), _v50, _v60, ())).bind fun _y95 => (bif _y95.1 then ((D_ref_Below _N ((_x1.1, _x1.2), _v35, _v60, ())).bind fun _y96 => (bif (!_y96.1) then (some ((3 : Int), ())) else _k93)) else _k93)) else _k93))
theorem ref_OrderCheck_18e (_N : Nat) (_x1 : Int × List Int) (_v35 : Int) (_v50 : Int) (_v60 : Int) (_k93 _k82 _k78 _k74 : Ko Rt_ref_OrderCheck) :
    exec (C_ref_OrderCheck _N) (cAt (bodyOf Tryd.f57) [1, 1, 1, 1, 0, 1, 0, 0, 1, 0, 0, 1, 0, 0, 1, 0, 0, 1, 1, 0, 0, 1, 0, 0]) .none [(1, .ptr 0 0), (4, .int .i64 _v35), (5, .int .i64 _v50), (6, .int .i64 _v60)] [.cells [.int .i64 _x1.1, .sl (.int .u32) _x1.2]] (canonK [] _k93 [1, 4, 5, 6] 1 (fun _i _t _h => wo 7 _k93 [] [1, 4, 5, 6] 1 _i _t _h (wo 6 _k82 [] [1, 4, 5] 1 _i _t _h (wo 5 _k82 [] [1, 4, 5] 1 _i _t _h (wo 4 _k78 [] [1, 4] 1 _i _t _h (wo 3 _k78 [] [1, 4] 1 _i _t _h (wo 2 _k74 [] [] 1 _i _t _h none)))))) (fun _t _h => finK (C_ref_OrderCheck _N) [.tmp 2] (finD Rk_ref_OrderCheck) .ret _t _h)) = ref_OrderCheck_18 _N _x1 _v35 _v50 _v60 (_k93 [(1, .ptr 0 0), (4, .int .i64 _v35), (5, .int .i64 _v50), (6, .int .i64 _v60)] [.cells [.int .i64 _x1.1, .sl (.int .u32) _x1.2]]) :=
  by kernel_rfl
noncomputable def ref_OrderCheck_19 (_N : Nat) (_x1 : Int × List Int) (_v35 : Int) (_v50 : Int) (_v60 : Int) (_k93 : Option Rt_ref_OrderCheck) : Option Rt_ref_OrderCheck :=
  ref_OrderCheck_18 _N _x1 _v35 _v50 _v60 _k93
theorem ref_OrderCheck_19e (_N : Nat) (_x1 : Int × List Int) (_v35 : Int) (_v50 : Int) (_v60 : Int) (_k93 _k82 _k78 _k74 : Ko Rt_ref_OrderCheck) :
    exec (C_ref_OrderCheck _N) (cAt (bodyOf Tryd.f57) [1, 1, 1, 1, 0, 1, 0, 0, 1, 0, 0, 1, 0, 0, 1, 0, 0, 1, 1, 0, 0, 1, 0]) (.one .none) [(1, .ptr 0 0), (4, .int .i64 _v35), (5, .int .i64 _v50), (6, .int .i64 _v60)] [.cells [.int .i64 _x1.1, .sl (.int .u32) _x1.2]] (canonK [] _k93 [1, 4, 5, 6] 1 (fun _i _t _h => wo 6 _k82 [] [1, 4, 5] 1 _i _t _h (wo 5 _k82 [] [1, 4, 5] 1 _i _t _h (wo 4 _k78 [] [1, 4] 1 _i _t _h (wo 3 _k78 [] [1, 4] 1 _i _t _h (wo 2 _k74 [] [] 1 _i _t _h none))))) (fun _t _h => finK (C_ref_OrderCheck _N) [.tmp 2] (finD Rk_ref_OrderCheck) .ret _t _h)) = ref_OrderCheck_19 _N _x1 _v35 _v50 _v60 (_k93 [(1, .ptr 0 0), (4, .int .i64 _v35), (5, .int .i64 _v50), (6, .int .i64 _v60)] [.cells [.int .i64 _x1.1, .sl (.int .u32) _x1.2]]) :=
  (block_canon (by kernel_rfl)).trans (ref_OrderCheck_18e _N _x1 _v35 _v50 _v60 _k93 _k82 _k78 _k74)
noncomputable def ref_OrderCheck_20 (_N : Nat) (_v60 : Int) (_k91 : Int → Option Rt_ref_OrderCheck) : Option Rt_ref_OrderCheck :=
  (_k91 (IntKind.i64.wrap (_v60 + (1 : Int))))
theorem ref_OrderCheck_20e (_N : Nat) (_x1 : Int × List Int) (_v35 : Int) (_v50 : Int) (_v60 : Int) (_k91 _k82 _k78 _k74 : Ko Rt_ref_OrderCheck) :
    exec (C_ref_OrderCheck _N) (cAt (bodyOf Tryd.f57) [1, 1, 1, 1, 0, 1, 0, 0, 1, 0, 0, 1, 0, 0, 1, 0, 0, 1, 1, 0, 0, 1, 1]) .none [(1, .ptr 0 0), (4, .int .i64 _v35), (5, .int .i64 _v50), (6, .int .i64 _v60)] [.cells [.int .i64 _x1.1, .sl (.int .u32) _x1.2]] (canonK [] _k91 [1, 4, 5, 6] 1 (fun _i _t _h => wo 6 _k82 [] [1, 4, 5] 1 _i _t _h (wo 5 _k82 [] [1, 4, 5] 1 _i _t _h (wo 4 _k78 [] [1, 4] 1 _i _t _h (wo 3 _k78 [] [1, 4] 1 _i _t _h (wo 2 _k74 [] [] 1 _i _t _h none))))) (fun _t _h => finK (C_ref_OrderCheck _N) [.tmp 2] (finD Rk_ref_OrderCheck) .ret _t _h)) = ref_OrderCheck_20 _N _v60 (fun _v60 => _k91 [(1, .ptr 0 0), (4, .int .i64 _v35), (5, .int .i64 _v50), (6, .int .i64 _v60)] [.cells [.int .i64 _x1.1, .sl (.int .u32) _x1.2]]) :=
  by kernel_rfl
noncomputable def ref_OrderCheck_21 (_N : Nat) (_x1 : Int × List Int) (_v35 : Int) (_v50 : Int) (_v60 : Int) (_k91 : Int → Option Rt_ref_OrderCheck) : Option Rt_ref_OrderCheck :=
  ref_OrderCheck_19 _N _x1 _v35 _v50 _v60 (ref_OrderCheck_20 _N _v60 _k91)
abbrev A_ref_OrderCheck_21 : Ann := .two (.one .none) (.keep [1, 4, 5, 6] 1 .none)
theorem ref_OrderCheck_21e (_N : Nat) (_x1 : Int × List Int) (_v35 : Int) (_v50 : Int) (_v60 : Int) (_k91 _k82 _k78 _k74 : Ko Rt_ref_OrderCheck) :
    exec (C_ref_OrderCheck _N) (cAt (bodyOf Tryd.f57) [1, 1, 1, 1, 0, 1, 0, 0, 1, 0, 0, 1, 0, 0, 1, 0, 0, 1, 1, 0, 0, 1]) A_ref_OrderCheck_21 [(1, .ptr 0 0), (4, .int .i64 _v35), (5, .int .i64 _v50), (6, .int .i64 _v60)] [.cells [.int .i64 _x1.1, .sl (.int .u32) _x1.2]] (canonK [] _k91 [1, 4, 5, 6] 1 (fun _i _t _h => wo 6 _k82 [] [1, 4, 5] 1 _i _t _h (wo 5 _k82 [] [1, 4, 5] 1 _i _t _h (wo 4 _k78 [] [1, 4] 1 _i _t _h (wo 3 _k78 [] [1, 4] 1 _i _t _h (wo 2 _k74 [] [] 1 _i _t _h none))))) (fun _t _h => finK (C_ref_OrderCheck _N) [.tmp 2] (finD Rk_ref_OrderCheck) .ret _t _h)) = ref_OrderCheck_21 _N _x1 _v35 _v50 _v60 (fun _v60 => _k91 [(1, .ptr 0 0), (4, .int .i64 _v35), (5, .int .i64 _v50), (6, .int .i64 _v60)] [.cells [.int .i64 _x1.1, .sl (.int .u32) _x1.2]]) :=
  (seq_frag (by kernel_rfl) rfl).trans ((ref_OrderCheck_19e _N _x1 _v35 _v50 _v60 _ _k82 _k78 _k74).trans (congrArg (fun _z => ref_OrderCheck_19 _N _x1 _v35 _v50 _v60 _z) (ref_OrderCheck_20e _N _x1 _v35 _v50 _v60 _k91 _k82 _k78 _k74)))
noncomputable def ref_OrderCheck_22 (_N : Nat) (_x1 : Int × List Int) (_v35 : Int) (_v50 : Int) (_v60 : Int) (_k91 : Int → Option Rt_ref_OrderCheck) (_k82 : Option Rt_ref_OrderCheck) : Option Rt_ref_OrderCheck :=
  ref_OrderCheck_17 _N _x1 _v60 (ref_OrderCheck_21 _N _x1 _v35 _v50 _v60 _k91) _k82
abbrev A_ref_OrderCheck_22 : Ann := .two .none (.keep [1, 4, 5, 6] 1 A_ref_OrderCheck_21)
theorem ref_OrderCheck_22e (_N : Nat) (_x1 : Int × List Int) (_v35 : Int) (_v50 : Int) (_v60 : Int) (_k91 _k82 _k78 _k74 : Ko Rt_ref_OrderCheck) :
    exec (C_ref_OrderCheck _N) (cAt (bodyOf Tryd.f57) [1, 1, 1, 1, 0, 1, 0, 0, 1, 0, 0, 1, 0, 0, 1, 0, 0, 1, 1, 0, 0]) A_ref_OrderCheck_22 [(1, .ptr 0 0), (4, .int .i64 _v35), (5, .int .i64 _v50), (6, .int .i64 _v60)] [.cells [.int .i64 _x1.1, .sl (.int .u32) _x1.2]] (canonK [] _k91 [1, 4, 5, 6] 1 (fun _i _t _h => wo 6 _k82 [] [1, 4, 5] 1 _i _t _h (wo 5 _k82 [] [1, 4, 5] 1 _i _t _h (wo 4 _k78 [] [1, 4] 1 _i _t _h (wo 3 _k78 [] [1, 4] 1 _i _t _h (wo 2 _k74 [] [] 1 _i _t _h none))))) (fun _t _h => finK (C_ref_OrderCheck _N) [.tmp 2] (finD Rk_ref_OrderCheck) .ret _t _h)) = ref_OrderCheck_22 _N _x1 _v35 _v50 _v60 (fun _v60 => _k91 [(1, .ptr 0 0), (4, .int .i64 _v35), (5, .int .i64 _v50), (6, .int .i64 _v60)] [.cells [.int .i64 _x1.1, .sl (.int .u32) _x1.2]]) (_k82 [(1, .ptr 0 0), (4, .int .i64 _v35), (5, .int .i64 _v50)] [.cells [.int .i64 _x1.1, .sl (.int .u32) _x1.2]]) :=
  (seq_frag (by kernel_rfl) rfl).trans ((ref_OrderCheck_17e _N _x1 _v35 _v50 _v60 _ _k82 _k78 _k74).trans (congrArg (fun _z => ref_OrderCheck_17 _N _x1 _v60 _z (_k82 [(1, .ptr 0 0), (4, .int .i64 _v35), (5, .int .i64 _v50)] [.cells [.int .i64 _x1.1, .sl (.int .u32) _x1.2]])) (ref_OrderCheck_21e _N _x1 _v35 _v50 _v60 _k91 _k82 _k78 _k74)))
noncomputable def ref_OrderCheck_23 (_N : Nat) (_x1 : Int × List Int) (_v35 : Int) (_v50 : Int) (_k82 : Option Rt_ref_OrderCheck) : Option Rt_ref_OrderCheck :=
  loopD (fun (_s : Int) _kn => ref_OrderCheck_22 _N _x1 _v35 _v50 _s (fun _v60 => _kn _v60) _k82) _N (0 : Int)
abbrev A_ref_OrderCheck_23 : Ann := .loop [1, 4, 5, 6] 1 (.two .none (.keep [1, 4, 5, 6] 1 A_ref_OrderCheck_21))
theorem ref_OrderCheck_23e (_N : Nat) (_x1 : Int × List Int) (_v35 : Int) (_v50 : Int) (_k82 _k78 _k74 : Ko Rt_ref_OrderCheck) :
    exec (C_ref_OrderCheck _N) (cAt (bodyOf Tryd.f57) [1, 1, 1, 1, 0, 1, 0, 0, 1, 0, 0, 1, 0, 0, 1, 0, 0, 1, 1, 0]) A_ref_OrderCheck_23 [(1, .ptr 0 0), (4, .int .i64 _v35), (5, .int .i64 _v50), (6, .int .i64 (0 : Int))] [.cells [.int .i64 _x1.1, .sl (.int .u32) _x1.2]] (canonK [] _k82 [1, 4, 5] 1 (fun _i _t _h => wo 6 _k82 [] [1, 4, 5] 1 _i _t _h (wo 5 _k82 [] [1, 4, 5] 1 _i _t _h (wo 4 _k78 [] [1, 4] 1 _i _t _h (wo 3 _k78 [] [1, 4] 1 _i _t _h (wo 2 _k74 [] [] 1 _i _t _h none))))) (fun _t _h => finK (C_ref_OrderCheck _N) [.tmp 2] (finD Rk_ref_OrderCheck) .ret _t _h)) = ref_OrderCheck_23 _N _x1 _v35 _v50 (_k82 [(1, .ptr 0 0), (4, .int .i64 _v35), (5, .int .i64 _v50)] [.cells [.int .i64 _x1.1, .sl (.int .u32) _x1.2]]) :=
  (loop_frag (by kernel_rfl) rfl (by kernel_rfl) (by kernel_rfl)).trans (loopN_sim (S := Int) (fun _s => [(1, .ptr 0 0), (4, .int .i64 _v35), (5, .int .i64 _v50), (6, .int .i64 _s)]) (fun _s => [.cells [.int .i64 _x1.1, .sl (.int .u32) _x1.2]]) (fun _s _kn => ref_OrderCheck_22e _N _x1 _v35 _v50 _s _kn _k82 _k78 _k74) _N (0 : Int))
noncomputable def ref_OrderCheck_24 (_N : Nat) (_x1 : Int × List Int) (_v35 : Int) (_v50 : Int) (_k82 : Option Rt_ref_OrderCheck) : Option Rt_ref_OrderCheck :=
  ref_OrderCheck_23 _N _x1 _v35 _v50 _k82
abbrev A_ref_OrderCheck_24 : Ann := .one (.loop [1, 4, 5, 6] 1 (.two .none (.keep [1, 4, 5, 6] 1 A_ref_OrderCheck_21)))
theorem ref_OrderCheck_24e (_N : Nat) (_x1 : Int × List Int) (_v35 : Int) (_v50 : Int) (_k82 _k78 _k74 : Ko Rt_ref_OrderCheck) :
    exec (C_ref_OrderCheck _N) (cAt (bodyOf Tryd.f57) [1, 1, 1, 1, 0, 1, 0, 0, 1, 0, 0, 1, 0, 0, 1, 0, 0, 1, 1]) A_ref_OrderCheck_24 [(1, .ptr 0 0), (4, .int .i64 _v35), (5, .int .i64 _v50), (6, .int .i64 (0 : Int))] [.cells [.int .i64 _x1.1, .sl (.int .u32) _x1.2]] (canonK [] _k82 [1, 4, 5] 1 (fun _i _t _h => wo 5 _k82 [] [1, 4, 5] 1 _i _t _h (wo 4 _k78 [] [1, 4] 1 _i _t _h (wo 3 _k78 [] [1, 4] 1 _i _t _h (wo 2 _k74 [] [] 1 _i _t _h none)))) (fun _t _h => finK (C_ref_OrderCheck _N) [.tmp 2] (finD Rk_ref_OrderCheck) .ret _t _h)) = ref_OrderCheck_24 _N _x1 _v35 _v50 (_k82 [(1, .ptr 0 0), (4, .int .i64 _v35), (5, .int .i64 _v50)] [.cells [.int .i64 _x1.1, .sl (.int .u32) _x1.2]]) :=
  (block_canon (by kernel_rfl)).trans (ref_OrderCheck_23e _N _x1 _v35 _v50 _k82 _k78 _k74)
noncomputable def ref_OrderCheck_25 (_N : Nat) (_x1 : Int × List Int) (_v35 : Int) (_v50 : Int) (_k82 : Option Rt_ref_OrderCheck) : Option Rt_ref_OrderCheck :=
  ref_OrderCheck_16 _N (ref_OrderCheck_24 _N _x1 _v35 _v50 _k82)
abbrev A_ref_OrderCheck_25 : Ann := .two .none (.keep [1, 4, 5, 6] 1 (.one (.loop [1, 4, 5, 6] 1 (.two .none (.keep [1, 4, 5, 6] 1 A_ref_OrderCheck_21)))))
theorem ref_OrderCheck_25e (_N : Nat) (_x1 : Int × List Int) (_v35 : Int) (_v50 : Int) (_k82 _k78 _k74 : Ko Rt_ref_OrderCheck) :
    exec (C_ref_OrderCheck _N) (cAt (bodyOf Tryd.f57) [1, 1, 1, 1, 0, 1, 0, 0, 1, 0, 0, 1, 0, 0, 1, 0, 0, 1]) A_ref_OrderCheck_25 [(1, .ptr 0 0), (4, .int .i64 _v35), (5, .int .i64 _v50)] [.cells [.int .i64 _x1.1, .sl (.int .u32) _x1.2]] (canonK [] _k82 [1, 4, 5] 1 (fun _i _t _h => wo 5 _k82 [] [1, 4, 5] 1 _i _t _h (wo 4 _k78 [] [1, 4] 1 _i _t _h (wo 3 _k78 [] [1, 4] 1 _i _t _h (wo 2 _k74 [] [] 1 _i _t _h none)))) (fun _t _h => finK (C_ref_OrderCheck _N) [.tmp 2] (finD Rk_ref_OrderCheck) .ret _t _h)) = ref_OrderCheck_25 _N _x1 _v35 _v50 (_k82 [(1, .ptr 0 0), (4, .int .i64 _v35), (5, .int .i64 _v50)] [.cells [.int .i64 _x1.1, .sl (.int .u32) _x1.2]]) :=
  (seq_frag (by kernel_rfl) rfl).trans ((ref_OrderCheck_16e _N _x1 _v35 _v50 _ _k82 _k78 _k74).trans (congrArg (fun _z => ref_OrderCheck_16 _N _z) (ref_OrderCheck_24e _N _x1 _v35 _v50 _k82 _k78 _k74)))
noncomputable def ref_OrderCheck_26 (_N : Nat) (_x1 : Int × List Int) (_v35 : Int) (_v50 : Int) (_k82 : Option Rt_ref_OrderCheck) : Option Rt_ref_OrderCheck :=
  ref_OrderCheck_15 _N _x1 _v35 _v50 (ref_OrderCheck_25 _N _x1 _v35 _v50 _k82)
abbrev A_ref_OrderCheck_26 : Ann := .two A_ref_OrderCheck_15 (.keep [1, 4, 5] 1 (.two .none (.keep [1, 4, 5, 6] 1 (.one (.loop [1, 4, 5, 6] 1 (.two .none (.keep [1, 4, 5, 6] 1 A_ref_OrderCheck_21)))))))
theorem ref_OrderCheck_26e (_N : Nat) (_x1 : Int × List Int) (_v35 : Int) (_v50 : Int) (_k82 _k78 _k74 : Ko Rt_ref_OrderCheck) :
    exec (C_ref_OrderCheck _N) (cAt (bodyOf Tryd.f57) [1, 1, 1, 1, 0, 1, 0, 0, 1, 0, 0, 1, 0, 0, 1, 0, 0]) A_ref_OrderCheck_26 [(1, .ptr 0 0), (4, .int .i64 _v35), (5, .int .i64 _v50)] [.cells [.int .i64 _x1.1, .sl (.int .u32) _x1.2]] (canonK [] _k82 [1, 4, 5] 1 (fun _i _t _h => wo 5 _k82 [] [1, 4, 5] 1 _i _t _h (wo 4 _k78 [] [1, 4] 1 _i _t _h (wo 3 _k78 [] [1, 4] 1 _i _t _h (wo 2 _k74 [] [] 1 _i _t _h none)))) (fun _t _h => finK (C_ref_OrderCheck _N) [.tmp 2] (finD Rk_ref_OrderCheck) .ret _t _h)) = ref_OrderCheck_26 _N _x1 _v35 _v50 (_k82 [(1, .ptr 0 0), (4, .int .i64 _v35), (5, .int .i64 _v50)] [.cells [.int .i64 _x1.1, .sl (.int .u32) _x1.2]]) :=
  (seq_frag (by kernel_rfl) rfl).trans ((ref_OrderCheck_15e _N _x1 _v35 _v50 _ _k82 _k78 _k74).trans (congrArg (fun _z => ref_OrderCheck_15 _N _x1 _v35 _v50 _z) (ref_OrderCheck_25e _N _x1 _v35 _v50 _k82 _k78 _k74)))
noncomputable def ref_OrderCheck_27 (_N : Nat) (_x1 : Int × List Int) (_v35 : Int) (_v50 : Int) (_k82 : Option Rt_ref_OrderCheck) : Option Rt_ref_OrderCheck :=
  ref_OrderCheck_26 _N _x1 _v35 _v50 _k82
abbrev A_ref_OrderCheck_27 : Ann := .one (.two A_ref_OrderCheck_15 (.keep [1, 4, 5] 1 (.two .none (.keep [1, 4, 5, 6] 1 (.one (.loop [1, 4, 5, 6] 1 (.two .none (.keep [1, 4, 5, 6] 1 A_ref_OrderCheck_21))))))))
theorem ref_OrderCheck_27e (_N : Nat) (_x1 : Int × List Int) (_v35 : Int) (_v50 : Int) (_k82 _k78 _k74 : Ko Rt_ref_OrderCheck) :
    exec (C_ref_OrderCheck _N) (cAt (bodyOf Tryd.f57) [1, 1, 1, 1, 0, 1, 0, 0, 1, 0, 0, 1, 0, 0, 1, 0]) A_ref_OrderCheck_27 [(1, .ptr 0 0), (4, .int .i64 _v35), (5, .int .i64 _v50)] [.cells [.int .i64 _x1.1, .sl (.int .u32) _x1.2]] (canonK [] _k82 [1, 4, 5] 1 (fun _i _t _h => wo 4 _k78 [] [1, 4] 1 _i _t _h (wo 3 _k78 [] [1, 4] 1 _i _t _h (wo 2 _k74 [] [] 1 _i _t _h none))) (fun _t _h => finK (C_ref_OrderCheck _N) [.tmp 2] (finD Rk_ref_OrderCheck) .ret _t _h)) = ref_OrderCheck_27 _N _x1 _v35 _v50 (_k82 [(1, .ptr 0 0), (4, .int .i64 _v35), (5, .int .i64 _v50)] [.cells [.int .i64 _x1.1, .sl (.int .u32) _x1.2]]) :=
  (block_canon (by kernel_rfl)).trans (ref_OrderCheck_26e _N _x1 _v35 _v50 _k82 _k78 _k74)
noncomputable def ref_OrderCheck_28 (_N : Nat) (_v50 : Int) (_k80 : Int → Option Rt_ref_OrderCheck) : Option Rt_ref_OrderCheck :=
  (_k80 (IntKind.i64.wrap (_v50 + (1 : Int))))
theorem ref_OrderCheck_28e (_N : Nat) (_x1 : Int × List Int) (_v35 : Int) (_v50 : Int) (_k80 _k78 _k74 : Ko Rt_ref_OrderCheck) :
    exec (C_ref_OrderCheck _N) (cAt (bodyOf Tryd.f57) [1, 1, 1, 1, 0, 1, 0, 0, 1, 0, 0, 1, 0, 0, 1, 1]) .none [(1, .ptr 0 0), (4, .int .i64 _v35), (5, .int .i64 _v50)] [.cells [.int .i64 _x1.1, .sl (.int .u32) _x1.2]] (canonK [] _k80 [1, 4, 5] 1 (fun _i _t _h => wo 4 _k78 [] [1, 4] 1 _i _t _h (wo 3 _k78 [] [1, 4] 1 _i _t _h (wo 2 _k74 [] [] 1 _i _t _h none))) (fun _t _h => finK (C_ref_OrderCheck _N) [.tmp 2] (finD Rk_ref_OrderCheck) .ret _t _h)) = ref_OrderCheck_28 _N _v50 (fun _v50 => _k80 [(1, .ptr 0 0), (4, .int .i64 _v35), (5, .int .i64 _v50)] [.cells [.int .i64 _x1.1, .sl (.int .u32) _x1.2]]) :=
  by kernel_rfl
noncomputable def ref_OrderCheck_29 (_N : Nat) (_x1 : Int × List Int) (_v35 : Int) (_v50 : Int) (_k80 : Int → Option Rt_ref_OrderCheck) : Option Rt_ref_OrderCheck :=
  ref_OrderCheck_27 _N _x1 _v35 _v50 (ref_OrderCheck_28 _N _v50 _k80)
abbrev A_ref_OrderCheck_29 : Ann := .two (.one (.two A_ref_OrderCheck_15 (.keep [1, 4, 5] 1 (.two .none (.keep [1, 4, 5, 6] 1 (.one (.loop [1, 4, 5, 6] 1 (.two .none (.keep [1, 4, 5, 6] 1 A_ref_OrderCheck_21))))))))) (.keep [1, 4, 5] 1 .none)
theorem ref_OrderCheck_29e (_N : Nat) (_x1 : Int × List Int) (_v35 : Int) (_v50 : Int) (_k80 _k78 _k74 : Ko Rt_ref_OrderCheck) :
    exec (C_ref_OrderCheck _N) (cAt (bodyOf Tryd.f57) [1, 1, 1, 1, 0, 1, 0, 0, 1, 0, 0, 1, 0, 0, 1]) A_ref_OrderCheck_29 [(1, .ptr 0 0), (4, .int .i64 _v35), (5, .int .i64 _v50)] [.cells [.int .i64 _x1.1, .sl (.int .u32) _x1.2]] (canonK [] _k80 [1, 4, 5] 1 (fun _i _t _h => wo 4 _k78 [] [1, 4] 1 _i _t _h (wo 3 _k78 [] [1, 4] 1 _i _t _h (wo 2 _k74 [] [] 1 _i _t _h none))) (fun _t _h => finK (C_ref_OrderCheck _N) [.tmp 2] (finD Rk_ref_OrderCheck) .ret _t _h)) = ref_OrderCheck_29 _N _x1 _v35 _v50 (fun _v50 => _k80 [(1, .ptr 0 0), (4, .int .i64 _v35), (5, .int .i64 _v50)] [.cells [.int .i64 _x1.1, .sl (.int .u32) _x1.2]]) :=
  (seq_frag (by kernel_rfl) rfl).trans ((ref_OrderCheck_27e _N _x1 _v35 _v50 _ _k78 _k74).trans (congrArg (fun _z => ref_OrderCheck_27 _N _x1 _v35 _v50 _z) (ref_OrderCheck_28e _N _x1 _v35 _v50 _k80 _k78 _k74)))
noncomputable def ref_OrderCheck_30 (_N : Nat) (_x1 : Int × List Int) (_v35 : Int) (_v50 : Int) (_k80 : Int → Option Rt_ref_OrderCheck) (_k78 : Option Rt_ref_OrderCheck) : Option Rt_ref_OrderCheck :=
  ref_OrderCheck_12 _N _x1 _v50 (ref_OrderCheck_29 _N _x1 _v35 _v50 _k80) _k78
abbrev A_ref_OrderCheck_30 : Ann := .two .none (.keep [1, 4, 5] 1 (.two (.one (.two A_ref_OrderCheck_15 (.keep [1, 4, 5] 1 (.two .none (.keep [1, 4, 5, 6] 1 (.one (.loop [1, 4, 5, 6] 1 (.two .none (.keep [1, 4, 5, 6] 1 A_ref_OrderCheck_21))))))))) (.keep [1, 4, 5] 1 .none)))
theorem ref_OrderCheck_30e (_N : Nat) (_x1 : Int × List Int) (_v35 : Int) (_v50 : Int) (_k80 _k78 _k74 : Ko Rt_ref_OrderCheck) :
    exec (C_ref_OrderCheck _N) (cAt (bodyOf Tryd.f57) [1, 1, 1, 1, 0, 1, 0, 0, 1, 0, 0, 1, 0, 0]) A_ref_OrderCheck_30 [(1, .ptr 0 0), (4, .int .i64 _v35), (5, .int .i64 _v50)] [.cells [.int .i64 _x1.1, .sl (.int .u32) _x1.2]] (canonK [] _k80 [1, 4, 5] 1 (fun _i _t _h => wo 4 _k78 [] [1, 4] 1 _i _t _h (wo 3 _k78 [] [1, 4] 1 _i _t _h (wo 2 _k74 [] [] 1 _i _t _h none))) (fun _t _h => finK (C_ref_OrderCheck _N) [.tmp 2] (finD Rk_ref_OrderCheck) .ret _t _h)) = ref_OrderCheck_30 _N _x1 _v35 _v50 (fun _v50 => _k80 [(1, .ptr 0 0), (4, .int .i64 _v35), (5, .int .i64 _v50)] [.cells [.int .i64 _x1.1, .sl (.int .u32) _x1.2]]) (_k78 [(1, .ptr 0 0), (4, .int .i64 _v35)] [.cells [.int .i64 _x1.1, .sl (.int .u32) _x1.2]]) :=
  (seq_frag (by kernel_rfl) rfl).trans ((ref_OrderCheck_12e _N _x1 _v35 _v50 _ _k78 _k74).trans (congrArg (fun _z => ref_OrderCheck_12 _N _x1 _v50 _z (_k78 [(1, .ptr 0 0), (4, .int .i64 _v35)] [.cells [.int .i64 _x1.1, .sl (.int .u32) _x1.2]])) (ref_OrderCheck_29e _N _x1 _v35 _v50 _k80 _k78 _k74)))
noncomputable def ref_OrderCheck_31 (_N : Nat) (_x1 : Int × List Int) (_v35 : Int) (_k78 : Option Rt_ref_OrderCheck) : Option Rt_ref_OrderCheck :=
  loopD (fun (_s : Int) _kn => ref_OrderCheck_30 _N _x1 _v35 _s (fun _v50 => _kn _v50) _k78) _N (0 : Int)
abbrev A_ref_OrderCheck_31 : Ann := .loop [1, 4, 5] 1 (.two .none (.keep [1, 4, 5] 1 (.two (.one (.two A_ref_OrderCheck_15 (.keep [1, 4, 5] 1 (.two .none (.keep [1, 4, 5, 6] 1 (.one (.loop [1, 4, 5, 6] 1 (.two .none (.keep [1, 4, 5, 6] 1 A_ref_OrderCheck_21))))))))) (.keep [1, 4, 5] 1 .none))))
theorem ref_OrderCheck_31e (_N : Nat) (_x1 : Int × List Int) (_v35 : Int) (_k78 _k74 : Ko Rt_ref_OrderCheck) :
    exec (C_ref_OrderCheck _N) (cAt (bodyOf Tryd.f57) [1, 1, 1, 1, 0, 1, 0, 0, 1, 0, 0, 1, 0]) A_ref_OrderCheck_31 [(1, .ptr 0 0), (4, .int .i64 _v35), (5, .int .i64 (0 : Int))] [.cells [.int .i64 _x1.1, .sl (.int .u32) _x1.2]] (canonK [] _k78 [1, 4] 1 (fun _i _t _h => wo 4 _k78 [] [1, 4] 1 _i _t _h (wo 3 _k78 [] [1, 4] 1 _i _t _h (wo 2 _k74 [] [] 1 _i _t _h none))) (fun _t _h => finK (C_ref_OrderCheck _N) [.tmp 2] (finD Rk_ref_OrderCheck) .ret _t _h)) = ref_OrderCheck_31 _N _x1 _v35 (_k78 [(1, .ptr 0 0), (4, .int .i64 _v35)] [.cells [.int .i64 _x1.1, .sl (.int .u32) _x1.2]]) :=
  (loop_frag (by kernel_rfl) rfl (by kernel_rfl) (by kernel_rfl)).trans (loopN_sim (S := Int) (fun _s => [(1, .ptr 0 0), (4, .int .i64 _v35), (5, .int .i64 _s)]) (fun _s => [.cells [.int .i64 _x1.1, .sl (.int .u32) _x1.2]]) (fun _s _kn => ref_OrderCheck_30e _N _x1 _v35 _s _kn _k78 _k74) _N (0 : Int))
noncomputable def ref_OrderCheck_32 (_N : Nat) (_x1 : Int × List Int) (_v35 : Int) (_k78 : Option Rt_ref_OrderCheck) : Option Rt_ref_OrderCheck :=
  ref_OrderCheck_31 _N _x1 _v35 _k78
abbrev A_ref_OrderCheck_32 : Ann := .one (.loop [1, 4, 5] 1 (.two .none (.keep [1, 4, 5] 1 (.two (.one (.two A_ref_OrderCheck_15 (.keep [1, 4, 5] 1 (.two .none (.keep [1, 4, 5, 6] 1 (.one (.loop [1, 4, 5, 6] 1 (.two .none (.keep [1, 4, 5, 6] 1 A_ref_OrderCheck_21))))))))) (.keep [1, 4, 5] 1 .none)))))
theorem ref_OrderCheck_32e (_N : Nat) (_x1 : Int × List Int) (_v35 : Int) (_k78 _k74 : Ko Rt_ref_OrderCheck) :
    exec (C_ref_OrderCheck _N) (cAt (bodyOf Tryd.f57) [1, 1, 1, 1, 0, 1, 0, 0, 1, 0, 0, 1]) A_ref_OrderCheck_32 [(1, .ptr 0 0), (4, .int .i64 _v35), (5, .int .i64 (0 : Int))] [.cells [.int .i64 _x1.1, .sl (.int .u32) _x1.2]] (canonK [] _k78 [1, 4] 1 (fun _i _t _h => wo 3 _k78 [] [1, 4] 1 _i _t _h (wo 2 _k74 [] [] 1 _i _t _h none)) (fun _t _h => finK (C_ref_OrderCheck _N) [.tmp 2] (finD Rk_ref_OrderCheck) .ret _t _h)) = ref_OrderCheck_32 _N _x1 _v35 (_k78 [(1, .ptr 0 0), (4, .int .i64 _v35)] [.cells [.int .i64 _x1.1, .sl (.int .u32) _x1.2]]) :=
  (block_canon (by kernel_rfl)).trans (ref_OrderCheck_31e _N _x1 _v35 _k78 _k74)
noncomputable def ref_OrderCheck_33 (_N : Nat) (_x1 : Int × List Int) (_v35 : Int) (_k78 : Option Rt_ref_OrderCheck) : Option Rt_ref_OrderCheck :=
  ref_OrderCheck_11 _N (ref_OrderCheck_32 _N _x1 _v35 _k78)
abbrev A_ref_OrderCheck_33 : Ann := .two .none (.keep [1, 4, 5] 1 (.one (.loop [1, 4, 5] 1 (.two .none (.keep [1, 4, 5] 1 (.two (.one (.two A_ref_OrderCheck_15 (.keep [1, 4, 5] 1 (.two .none (.keep [1, 4, 5, 6] 1 (.one (.loop [1, 4, 5, 6] 1 (.two .none (.keep [1, 4, 5, 6] 1 A_ref_OrderCheck_21))))))))) (.keep [1, 4, 5] 1 .none)))))))
theorem ref_OrderCheck_33e (_N : Nat) (_x1 : Int × List Int) (_v35 : Int) (_k78 _k74 : Ko Rt_ref_OrderCheck) :
    exec (C_ref_OrderCheck _N) (cAt (bodyOf Tryd.f57) [1, 1, 1, 1, 0, 1, 0, 0, 1, 0, 0]) A_ref_OrderCheck_33 [(1, .ptr 0 0), (4, .int .i64 _v35)] [.cells [.int .i64 _x1.1, .sl (.int .u32) _x1.2]] (canonK [] _k78 [1, 4] 1 (fun _i _t _h => wo 3 _k78 [] [1, 4] 1 _i _t _h (wo 2 _k74 [] [] 1 _i _t _h none)) (fun _t _h => finK (C_ref_OrderCheck _N) [.tmp 2] (finD Rk_ref_OrderCheck) .ret _t _h)) = ref_OrderCheck_33 _N _x1 _v35 (_k78 [(1, .ptr 0 0), (4, .int .i64 _v35)] [.cells [.int .i64 _x1.1, .sl (.int .u32) _x1.2]]) :=
  (seq_frag (by kernel_rfl) rfl).trans ((ref_OrderCheck_11e _N _x1 _v35 _ _k78 _k74).trans (congrArg (fun _z => ref_OrderCheck_11 _N _z) (ref_OrderCheck_32e _N _x1 _v35 _k78 _k74)))
noncomputable def ref_OrderCheck_34 (_N : Nat) (_x1 : Int × List Int) (_v35 : Int) (_k78 : Option Rt_ref_OrderCheck) : Option Rt_ref_OrderCheck :=
  ref_OrderCheck_33 _N _x1 _v35 _k78
abbrev A_ref_OrderCheck_34 : Ann := .one (.two .none (.keep [1, 4, 5] 1 (.one (.loop [1, 4, 5] 1 (.two .none (.keep [1, 4, 5] 1 (.two (.one (.two A_ref_OrderCheck_15 (.keep [1, 4, 5] 1 (.two .none (.keep [1, 4, 5, 6] 1 (.one (.loop [1, 4, 5, 6] 1 (.two .none (.keep [1, 4, 5, 6] 1 A_ref_OrderCheck_21))))))))) (.keep [1, 4, 5] 1 .none))))))))
theorem ref_OrderCheck_34e (_N : Nat) (_x1 : Int × List Int) (_v35 : Int) (_k78 _k74 : Ko Rt_ref_OrderCheck) :
    exec (C_ref_OrderCheck _N) (cAt (bodyOf Tryd.f57) [1, 1, 1, 1, 0, 1, 0, 0, 1, 0]) A_ref_OrderCheck_34 [(1, .ptr 0 0), (4, .int .i64 _v35)] [.cells [.int .i64 _x1.1, .sl (.int .u32) _x1.2]] (canonK [] _k78 [1, 4] 1 (fun _i _t _h => wo 2 _k74 [] [] 1 _i _t _h none) (fun _t _h => finK (C_ref_OrderCheck _N) [.tmp 2] (finD Rk_ref_OrderCheck) .ret _t _h)) = ref_OrderCheck_34 _N _x1 _v35 (_k78 [(1, .ptr 0 0), (4, .int .i64 _v35)] [.cells [.int .i64 _x1.1, .sl (.int .u32) _x1.2]]) :=
  (block_canon (by kernel_rfl)).trans (ref_OrderCheck_33e _N _x1 _v35 _k78 _k74)
noncomputable def ref_OrderCheck_35 (_N : Nat) (_v35 : Int) (_k76 : Int → Option Rt_ref_OrderCheck) : Option Rt_ref_OrderCheck :=
  (_k76 (IntKind.i64.wrap (_v35 + (1 : Int))))
theorem ref_OrderCheck_35e (_N : Nat) (_x1 : Int × List Int) (_v35 : Int) (_k76 _k74 : Ko Rt_ref_OrderCheck) :
    exec (C_ref_OrderCheck _N) (cAt (bodyOf Tryd.f57) [1, 1, 1, 1, 0, 1, 0, 0, 1, 1]) .none [(1, .ptr 0 0), (4, .int .i64 _v35)] [.cells [.int .i64 _x1.1, .sl (.int .u32) _x1.2]] (canonK [] _k76 [1, 4] 1 (fun _i _t _h => wo 2 _k74 [] [] 1 _i _t _h none) (fun _t _h => finK (C_ref_OrderCheck _N) [.tmp 2] (finD Rk_ref_OrderCheck) .ret _t _h)) = ref_OrderCheck_35 _N _v35 (fun _v35 => _k76 [(1, .ptr 0 0), (4, .int .i64 _v35)] [.cells [.int .i64 _x1.1, .sl (.int .u32) _x1.2]]) :=
  by kernel_rfl
noncomputable def ref_OrderCheck_36 (_N : Nat) (_x1 : Int × List Int) (_v35 : Int) (_k76 : Int → Option Rt_ref_OrderCheck) : Option Rt_ref_OrderCheck :=
  ref_OrderCheck_34 _N _x1 _v35 (ref_OrderCheck_35 _N _v35 _k76)
abbrev A_ref_OrderCheck_36 : Ann := .two (.one (.two .none (.keep [1, 4, 5] 1 (.one (.loop [1, 4, 5] 1 (.two .none (.keep [1, 4, 5] 1 (.two (.one (.two A_ref_OrderCheck_15 (.keep [1, 4, 5] 1 (.two .none (.keep [1, 4, 5, 6] 1 (.one (.loop [1, 4, 5, 6] 1 (.two .none (.keep [1, 4, 5, 6] 1 A_ref_OrderCheck_21))))))))) (.keep [1, 4, 5] 1 .none))))))))) (.keep [1, 4] 1 .none)
theorem ref_OrderCheck_36e (_N : Nat) (_x1 : Int × List Int) (_v35 : Int) (_k76 _k74 : Ko Rt_ref_OrderCheck) :
    exec (C_ref_OrderCheck _N) (cAt (bodyOf Tryd.f57) [1, 1, 1, 1, 0, 1, 0, 0, 1]) A_ref_OrderCheck_36 [(1, .ptr 0 0), (4, .int .i64 _v35)] [.cells [.int .i64 _x1.1, .sl (.int .u32) _x1.2]] (canonK [] _k76 [1, 4] 1 (fun _i _t _h => wo 2 _k74 [] [] 1 _i _t _h none) (fun _t _h => finK (C_ref_OrderCheck _N) [.tmp 2] (finD Rk_ref_OrderCheck) .ret _t _h)) = ref_OrderCheck_36 _N _x1 _v35 (fun _v35 => _k76 [(1, .ptr 0 0), (4, .int .i64 _v35)] [.cells [.int .i64 _x1.1, .sl (.int .u32) _x1.2]]) :=
  (seq_frag (by kernel_rfl) rfl).trans ((ref_OrderCheck_34e _N _x1 _v35 _ _k74).trans (congrArg (fun _z => ref_OrderCheck_34 _N _x1 _v35 _z) (ref_OrderCheck_35e _N _x1 _v35 _k76 _k74)))
noncomputable def ref_OrderCheck_37 (_N : Nat) (_x1 : Int × List Int) (_v35 : Int) (_k76 : Int → Option Rt_ref_OrderCheck) (_k74 : Option Rt_ref_OrderCheck) : Option Rt_ref_OrderCheck :=
  ref_OrderCheck_10 _N _x1 _v35 (ref_OrderCheck_36 _N _x1 _v35 _k76) _k74
abbrev A_ref_OrderCheck_37 : Ann := .two .none (.keep [1, 4] 1 (.two (.one (.two .none (.keep [1, 4, 5] 1 (.one (.loop [1, 4, 5] 1 (.two .none (.keep [1, 4, 5] 1 (.two (.one (.two A_ref_OrderCheck_15 (.keep [1, 4, 5] 1 (.two .none (.keep [1, 4, 5, 6] 1 (.one (.loop [1, 4, 5, 6] 1 (.two .none (.keep [1, 4, 5, 6] 1 A_ref_OrderCheck_21))))))))) (.keep [1, 4, 5] 1 .none))))))))) (.keep [1, 4] 1 .none)))
theorem ref_OrderCheck_37e (_N : Nat) (_x1 : Int × List Int) (_v35 : Int) (_k76 _k74 : Ko Rt_ref_OrderCheck) :
    exec (C_ref_OrderCheck _N) (cAt (bodyOf Tryd.f57) [1, 1, 1, 1, 0, 1, 0, 0]) A_ref_OrderCheck_37 [(1, .ptr 0 0), (4, .int .i64 _v35)] [.cells [.int .i64 _x1.1, .sl (.int .u32) _x1.2]] (canonK [] _k76 [1, 4] 1 (fun _i _t _h => wo 2 _k74 [] [] 1 _i _t _h none) (fun _t _h => finK (C_ref_OrderCheck _N) [.tmp 2] (finD Rk_ref_OrderCheck) .ret _t _h)) = ref_OrderCheck_37 _N _x1 _v35 (fun _v35 => _k76 [(1, .ptr 0 0), (4, .int .i64 _v35)] [.cells [.int .i64 _x1.1, .sl (.int .u32) _x1.2]]) (_k74 [] [.cells [.int .i64 _x1.1, .sl (.int .u32) _x1.2]]) :=
  (seq_frag (by kernel_rfl) rfl).trans ((ref_OrderCheck_10e _N _x1 _v35 _ _k74).trans (congrArg (fun _z => ref_OrderCheck_10 _N _x1 _v35 _z (_k74 [] [.cells [.int .i64 _x1.1, .sl (.int .u32) _x1.2]])) (ref_OrderCheck_36e _N _x1 _v35 _k76 _k74)))
noncomputable def ref_OrderCheck_38 (_N : Nat) (_x1 : Int × List Int) (_k74 : Option Rt_ref_OrderCheck) : Option Rt_ref_OrderCheck :=
  loopD (fun (_s : Int) _kn => ref_OrderCheck_37 _N _x1 _s (fun _v35 => _kn _v35) _k74) _N (0 : Int)
abbrev A_ref_OrderCheck_38 : Ann := .loop [1, 4] 1 (.two .none (.keep [1, 4] 1 (.two (.one (.two .none (.keep [1, 4, 5] 1 (.one (.loop [1, 4, 5] 1 (.two .none (.keep [1, 4, 5] 1 (.two (.one (.two A_ref_OrderCheck_15 (.keep [1, 4, 5] 1 (.two .none (.keep [1, 4, 5, 6] 1 (.one (.loop [1, 4, 5, 6] 1 (.two .none (.keep [1, 4, 5, 6] 1 A_ref_OrderCheck_21))))))))) (.keep [1, 4, 5] 1 .none))))))))) (.keep [1, 4] 1 .none))))
theorem ref_OrderCheck_38e (_N : Nat) (_x1 : Int × List Int) (_k74 : Ko Rt_ref_OrderCheck) :
    exec (C_ref_OrderCheck _N) (cAt (bodyOf Tryd.f57) [1, 1, 1, 1, 0, 1, 0]) A_ref_OrderCheck_38 [(1, .ptr 0 0), (4, .int .i64 (0 : Int))] [.cells [.int .i64 _x1.1, .sl (.int .u32) _x1.2]] (canonK [] _k74 [] 1 (fun _i _t _h => wo 2 _k74 [] [] 1 _i _t _h none) (fun _t _h => finK (C_ref_OrderCheck _N) [.tmp 2] (finD Rk_ref_OrderCheck) .ret _t _h)) = ref_OrderCheck_38 _N _x1 (_k74 [] [.cells [.int .i64 _x1.1, .sl (.int .u32) _x1.2]]) :=
  (loop_frag (by kernel_rfl) rfl (by kernel_rfl) (by kernel_rfl)).trans (loopN_sim (S := Int) (fun _s => [(1, .ptr 0 0), (4, .int .i64 _s)]) (fun _s => [.cells [.int .i64 _x1.1, .sl (.int .u32) _x1.2]]) (fun _s _kn => ref_OrderCheck_37e _N _x1 _s _kn _k74) _N (0 : Int))
noncomputable def ref_OrderCheck_39 (_N : Nat) (_x1 : Int × List Int) (_k74 : Option Rt_ref_OrderCheck) : Option Rt_ref_OrderCheck :=
  ref_OrderCheck_38 _N _x1 _k74
abbrev A_ref_OrderCheck_39 : Ann := .one (.loop [1, 4] 1 (.two .none (.keep [1, 4] 1 (.two (.one (.two .none (.keep [1, 4, 5] 1 (.one (.loop [1, 4, 5] 1 (.two .none (.keep [1, 4, 5] 1 (.two (.one (.two A_ref_OrderCheck_15 (.keep [1, 4, 5] 1 (.two .none (.keep [1, 4, 5, 6] 1 (.one (.loop [1, 4, 5, 6] 1 (.two .none (.keep [1, 4, 5, 6] 1 A_ref_OrderCheck_21))))))))) (.keep [1, 4, 5] 1 .none))))))))) (.keep [1, 4] 1 .none)))))
theorem ref_OrderCheck_39e (_N : Nat) (_x1 : Int × List Int) (_k74 : Ko Rt_ref_OrderCheck) :
    exec (C_ref_OrderCheck _N) (cAt (bodyOf Tryd.f57) [1, 1, 1, 1, 0, 1]) A_ref_OrderCheck_39 [(1, .ptr 0 0), (4, .int .i64 (0 : Int))] [.cells [.int .i64 _x1.1, .sl (.int .u32) _x1.2]] (canonK [] _k74 [] 1 (fun _i _t _h => none) (fun _t _h => finK (C_ref_OrderCheck _N) [.tmp 2] (finD Rk_ref_OrderCheck) .ret _t _h)) = ref_OrderCheck_39 _N _x1 (_k74 [] [.cells [.int .i64 _x1.1, .sl (.int .u32) _x1.2]]) :=
  (block_canon (by kernel_rfl)).trans (ref_OrderCheck_38e _N _x1 _k74)
noncomputable def ref_OrderCheck_40 (_N : Nat) (_x1 : Int × List Int) (_k74 : Option Rt_ref_OrderCheck) : Option Rt_ref_OrderCheck :=
  ref_OrderCheck_9 _N (ref_OrderCheck_39 _N _x1 _k74)
abbrev A_ref_OrderCheck_40 : Ann := .two .none (.keep [1, 4] 1 (.one (.loop [1, 4] 1 (.two .none (.keep [1, 4] 1 (.two (.one (.two .none (.keep [1, 4, 5] 1 (.one (.loop [1, 4, 5] 1 (.two .none (.keep [1, 4, 5] 1 (.two (.one (.two A_ref_OrderCheck_15 (.keep [1, 4, 5] 1 (.two .none (.keep [1, 4, 5, 6] 1 (.one (.loop [1, 4, 5, 6] 1 (.two .none (.keep [1, 4, 5, 6] 1 A_ref_OrderCheck_21))))))))) (.keep [1, 4, 5] 1 .none))))))))) (.keep [1, 4] 1 .none)))))))
theorem ref_OrderCheck_40e (_N : Nat) (_x1 : Int × List Int) (_k74 : Ko Rt_ref_OrderCheck) :
    exec (C_ref_OrderCheck _N) (cAt (bodyOf Tryd.f57) [1, 1, 1, 1, 0]) A_ref_OrderCheck_40 [(1, .ptr 0 0)] [.cells [.int .i64 _x1.1, .sl (.int .u32) _x1.2]] (canonK [] _k74 [] 1 (fun _i _t _h => none) (fun _t _h => finK (C_ref_OrderCheck _N) [.tmp 2] (finD Rk_ref_OrderCheck) .ret _t _h)) = ref_OrderCheck_40 _N _x1 (_k74 [] [.cells [.int .i64 _x1.1, .sl (.int .u32) _x1.2]]) :=
  (seq_frag (by kernel_rfl) rfl).trans ((ref_OrderCheck_9e _N _x1 _).trans (congrArg (fun _z => ref_OrderCheck_9 _N _z) (ref_OrderCheck_39e _N _x1 _k74)))
noncomputable def ref_OrderCheck_41 (_N : Nat) : Option Rt_ref_OrderCheck :=
  (some ((0 : Int), ()))
theorem ref_OrderCheck_41e (_N : Nat) (_x1 : Int × List Int) :
    exec (C_ref_OrderCheck _N) (cAt (bodyOf Tryd.f57) [1, 1, 1, 1, 1]) .none [] [.cells [.int .i64 _x1.1, .sl (.int .u32) _x1.2]] (canonR (fun _i _t _h => none) (finK (C_ref_OrderCheck _N) [.tmp 2] (finD Rk_ref_OrderCheck))) = ref_OrderCheck_41 _N :=
  by kernel_rfl
noncomputable def ref_OrderCheck_42 (_N : Nat) (_x1 : Int × List Int) : Option Rt_ref_OrderCheck :=
  ref_OrderCheck_40 _N _x1 (ref_OrderCheck_41 _N)
abbrev A_ref_OrderCheck_42 : Ann := .two (.two .none (.keep [1, 4] 1 (.one (.loop [1, 4] 1 (.two .none (.keep [1, 4] 1 (.two (.one (.two .none (.keep [1, 4, 5] 1 (.one (.loop [1, 4, 5] 1 (.two .none (.keep [1, 4, 5] 1 (.two (.one (.two A_ref_OrderCheck_15 (.keep [1, 4, 5] 1 (.two .none (.keep [1, 4, 5, 6] 1 (.one (.loop [1, 4, 5, 6] 1 (.two .none (.keep [1, 4, 5, 6] 1 A_ref_OrderCheck_21))))))))) (.keep [1, 4, 5] 1 .none))))))))) (.keep [1, 4] 1 .none)))))))) (.keep [] 1 .none)
theorem ref_OrderCheck_42e (_N : Nat) (_x1 : Int × List Int) :
    exec (C_ref_OrderCheck _N) (cAt (bodyOf Tryd.f57) [1, 1, 1, 1]) A_ref_OrderCheck_42 [(1, .ptr 0 0)] [.cells [.int .i64 _x1.1, .sl (.int .u32) _x1.2]] (canonR (fun _i _t _h => none) (finK (C_ref_OrderCheck _N) [.tmp 2] (finD Rk_ref_OrderCheck))) = ref_OrderCheck_42 _N _x1 :=
  (seq_frag (by kernel_rfl) rfl).trans ((ref_OrderCheck_40e _N _x1 _).trans (congrArg (fun _z => ref_OrderCheck_40 _N _x1 _z) (ref_OrderCheck_41e _N _x1)))
noncomputable def ref_OrderCheck_43 (_N : Nat) (_x1 : Int × List Int) : Option Rt_ref_OrderCheck :=
  ref_OrderCheck_8 _N _x1 (ref_OrderCheck_42 _N _x1)
abbrev A_ref_OrderCheck_43 : Ann := .two (.two .none (.keep [1, 3] 1 (.one (.loop [1, 3] 1 A_ref_OrderCheck_5)))) (.keep [1] 1 (.two (.two .none (.keep [1, 4] 1 (.one (.loop [1, 4] 1 (.two .none (.keep [1, 4] 1 (.two (.one (.two .none (.keep [1, 4, 5] 1 (.one (.loop [1, 4, 5] 1 (.two .none (.keep [1, 4, 5] 1 (.two (.one (.two A_ref_OrderCheck_15 (.keep [1, 4, 5] 1 (.two .none (.keep [1, 4, 5, 6] 1 (.one (.loop [1, 4, 5, 6] 1 (.two .none (.keep [1, 4, 5, 6] 1 A_ref_OrderCheck_21))))))))) (.keep [1, 4, 5] 1 .none))))))))) (.keep [1, 4] 1 .none)))))))) (.keep [] 1 .none)))
theorem ref_OrderCheck_43e (_N : Nat) (_x1 : Int × List Int) :
    exec (C_ref_OrderCheck _N) (cAt (bodyOf Tryd.f57) [1, 1, 1]) A_ref_OrderCheck_43 [(1, .ptr 0 0)] [.cells [.int .i64 _x1.1, .sl (.int .u32) _x1.2]] (canonR (fun _i _t _h => none) (finK (C_ref_OrderCheck _N) [.tmp 2] (finD Rk_ref_OrderCheck))) = ref_OrderCheck_43 _N _x1 :=
  (seq_frag (by kernel_rfl) rfl).trans ((ref_OrderCheck_8e _N _x1 _).trans (congrArg (fun _z => ref_OrderCheck_8 _N _x1 _z) (ref_OrderCheck_42e _N _x1)))
noncomputable def ref_OrderCheck_44 (_N : Nat) (_x1 : Int × List Int) : Option Rt_ref_OrderCheck :=
  ref_OrderCheck_3 _N _x1 (ref_OrderCheck_43 _N _x1)
abbrev A_ref_OrderCheck_44 : Ann := .two .none (.keep [1] 1 (.two (.two .none (.keep [1, 3] 1 (.one (.loop [1, 3] 1 A_ref_OrderCheck_5)))) (.keep [1] 1 (.two (.two .none (.keep [1, 4] 1 (.one (.loop [1, 4] 1 (.two .none (.keep [1, 4] 1 (.two (.one (.two .none (.keep [1, 4, 5] 1 (.one (.loop [1, 4, 5] 1 (.two .none (.keep [1, 4, 5] 1 (.two (.one (.two A_ref_OrderCheck_15 (.keep [1, 4, 5] 1 (.two .none (.keep [1, 4, 5, 6] 1 (.one (.loop [1, 4, 5, 6] 1 (.two .none (.keep [1, 4, 5, 6] 1 A_ref_OrderCheck_21))))))))) (.keep [1, 4, 5] 1 .none))))))))) (.keep [1, 4] 1 .none)))))))) (.keep [] 1 .none)))))
theorem ref_OrderCheck_44e (_N : Nat) (_x1 : Int × List Int) :
    exec (C_ref_OrderCheck _N) (cAt (bodyOf Tryd.f57) [1, 1]) A_ref_OrderCheck_44 [(1, .ptr 0 0)] [.cells [.int .i64 _x1.1, .sl (.int .u32) _x1.2]] (canonR (fun _i _t _h => none) (finK (C_ref_OrderCheck _N) [.tmp 2] (finD Rk_ref_OrderCheck))) = ref_OrderCheck_44 _N _x1 :=
  (seq_frag (by kernel_rfl) rfl).trans ((ref_OrderCheck_3e _N _x1 _).trans (congrArg (fun _z => ref_OrderCheck_3 _N _x1 _z) (ref_OrderCheck_43e _N _x1)))
noncomputable def ref_OrderCheck_45 (_N : Nat) (_x1 : Int × List Int) : Option Rt_ref_OrderCheck :=
  ref_OrderCheck_2 _N _x1 (ref_OrderCheck_44 _N _x1)
abbrev A_ref_OrderCheck_45 : Ann := .two .none (.keep [1] 1 (.two .none (.keep [1] 1 (.two (.two .none (.keep [1, 3] 1 (.one (.loop [1, 3] 1 A_ref_OrderCheck_5)))) (.keep [1] 1 (.two (.two .none (.keep [1, 4] 1 (.one (.loop [1, 4] 1 (.two .none (.keep [1, 4] 1 (.two (.one (.two .none (.keep [1, 4, 5] 1 (.one (.loop [1, 4, 5] 1 (.two .none (.keep [1, 4, 5] 1 (.two (.one (.two A_ref_OrderCheck_15 (.keep [1, 4, 5] 1 (.two .none (.keep [1, 4, 5, 6] 1 (.one (.loop [1, 4, 5, 6] 1 (.two .none (.keep [1, 4, 5, 6] 1 A_ref_OrderCheck_21))))))))) (.keep [1, 4, 5] 1 .none))))))))) (.keep [1, 4] 1 .none)))))))) (.keep [] 1 .none)))))))
theorem ref_OrderCheck_45e (_N : Nat) (_x1 : Int × List Int) :
    exec (C_ref_OrderCheck _N) (cAt (bodyOf Tryd.f57) [1]) A_ref_OrderCheck_45 [(1, .ptr 0 0)] [.cells [.int .i64 _x1.1, .sl (.int .u32) _x1.2]] (canonR (fun _i _t _h => none) (finK (C_ref_OrderCheck _N) [.tmp 2] (finD Rk_ref_OrderCheck))) = ref_OrderCheck_45 _N _x1 :=
  (seq_frag (by kernel_rfl) rfl).trans ((ref_OrderCheck_2e _N _x1 _).trans (congrArg (fun _z => ref_OrderCheck_2 _N _x1 _z) (ref_OrderCheck_44e _N _x1)))
noncomputable def ref_OrderCheck_46 (_N : Nat) (_x1 : Int × List Int) : Option Rt_ref_OrderCheck :=
  ref_OrderCheck_1 _N (ref_OrderCheck_45 _N _x1)
abbrev A_ref_OrderCheck_46 : Ann := .two .none (.keep [1] 1 (.two .none (.keep [1] 1 (.two .none (.keep [1] 1 (.two (.two .none (.keep [1, 3] 1 (.one (.loop [1, 3] 1 A_ref_OrderCheck_5)))) (.keep [1] 1 (.two (.two .none (.keep [1, 4] 1 (.one (.loop [1, 4] 1 (.two .none (.keep [1, 4] 1 (.two (.one (.two .none (.keep [1, 4, 5] 1 (.one (.loop [1, 4, 5] 1 (.two .none (.keep [1, 4, 5] 1 (.two (.one (.two A_ref_OrderCheck_15 (.keep [1, 4, 5] 1 (.two .none (.keep [1, 4, 5, 6] 1 (.one (.loop [1, 4, 5, 6] 1 (.two .none (.keep [1, 4, 5, 6] 1 A_ref_OrderCheck_21))))))))) (.keep [1, 4, 5] 1 .none))))))))) (.keep [1, 4] 1 .none)))))))) (.keep [] 1 .none)))))))))
theorem ref_OrderCheck_46e (_N : Nat) (_x1 : Int × List Int) :
    exec (C_ref_OrderCheck _N) (cAt (bodyOf Tryd.f57) []) A_ref_OrderCheck_46 [(0, .agg [.int .i64 _x1.1, .sl (.int .u32) _x1.2])] [] (canonR (fun _i _t _h => none) (finK (C_ref_OrderCheck _N) [.tmp 2] (finD Rk_ref_OrderCheck))) = ref_OrderCheck_46 _N _x1 :=
  (seq_frag (by kernel_rfl) rfl).trans ((ref_OrderCheck_1e _N _x1 _).trans (congrArg (fun _z => ref_OrderCheck_1 _N _z) (ref_OrderCheck_45e _N _x1)))
noncomputable def D_ref_OrderCheck (_N : Nat) (x : Dens Ks_ref_OrderCheck) : Option Rt_ref_OrderCheck := ref_OrderCheck_46 _N x.1
theorem E_ref_OrderCheck (_N : Nat) (x : Dens Ks_ref_OrderCheck) : exec (C_ref_OrderCheck _N) (bodyOf Tryd.f57) (.two .none (.keep [1] 1 (.two .none (.keep [1] 1 (.two .none (.keep [1] 1 (.two (.two .none (.keep [1, 3] 1 (.one (.loop [1, 3] 1 A_ref_OrderCheck_5)))) (.keep [1] 1 (.two (.two .none (.keep [1, 4] 1 (.one (.loop [1, 4] 1 (.two .none (.keep [1, 4] 1 (.two (.one (.two .none (.keep [1, 4, 5] 1 (.one (.loop [1, 4, 5] 1 (.two .none (.keep [1, 4, 5] 1 (.two (.one (.two A_ref_OrderCheck_15 (.keep [1, 4, 5] 1 (.two .none (.keep [1, 4, 5, 6] 1 (.one (.loop [1, 4, 5, 6] 1 (.two .none (.keep [1, 4, 5, 6] 1 A_ref_OrderCheck_21))))))))) (.keep [1, 4, 5] 1 .none))))))))) (.keep [1, 4] 1 .none)))))))) (.keep [] 1 .none)))))))))) (argS 0 (kvals Ks_ref_OrderCheck x)) [] (finK (C_ref_OrderCheck _N) [.tmp 2] (finD Rk_ref_OrderCheck)) = D_ref_OrderCheck _N x :=
  (congrArg (fun K => exec (C_ref_OrderCheck _N) (bodyOf Tryd.f57) (.two .none (.keep [1] 1 (.two .none (.keep [1] 1 (.two .none (.keep [1] 1 (.two (.two .none (.keep [1, 3] 1 (.one (.loop [1, 3] 1 A_ref_OrderCheck_5)))) (.keep [1] 1 (.two (.two .none (.keep [1, 4] 1 (.one (.loop [1, 4] 1 (.two .none (.keep [1, 4] 1 (.two (.one (.two .none (.keep [1, 4, 5] 1 (.one (.loop [1, 4, 5] 1 (.two .none (.keep [1, 4, 5] 1 (.two (.one (.two A_ref_OrderCheck_15 (.keep [1, 4, 5] 1 (.two .none (.keep [1, 4, 5, 6] 1 (.one (.loop [1, 4, 5, 6] 1 (.two .none (.keep [1, 4, 5, 6] 1 A_ref_OrderCheck_21))))))))) (.keep [1, 4, 5] 1 .none))))))))) (.keep [1, 4] 1 .none)))))))) (.keep [] 1 .none)))))))))) (argS 0 (kvals Ks_ref_OrderCheck x)) [] K) canonR_fin).trans (ref_OrderCheck_46e _N x.1)
theorem ok_ref_OrderCheck (_N : Nat) : CtxOk Tryd.prog Gs Tryd.f57 (C_ref_OrderCheck _N) := ⟨rfl, by unfold TOk; kernel_rfl, gOk_of rfl rfl (List.forall_mem_cons.2 ⟨en_ref_Outside _N, (List.forall_mem_cons.2 ⟨en_ref_Below _N, (List.forall_mem_nil _)⟩)⟩), iOk_of rfl rfl (List.forall_mem_nil _), rfl⟩
theorem hb_ref_OrderCheck : HasBody Tryd.prog 57 := ⟨Tryd.f57, bodyOf Tryd.f57, by kernel_rfl, by kernel_rfl, rfl⟩
theorem sp_ref_OrderCheck (_N : Nat) : SpecD Tryd.prog Gs 57 Ks_ref_OrderCheck Rk_ref_OrderCheck (D_ref_OrderCheck _N) := specD_of (c := bodyOf Tryd.f57) (by kernel_rfl) rfl (by kernel_rfl) (Nat.le_of_ble_eq_true (by kernel_rfl)) fun x y _h => ⟨C_ref_OrderCheck _N, (.two .none (.keep [1] 1 (.two .none (.keep [1] 1 (.two .none (.keep [1] 1 (.two (.two .none (.keep [1, 3] 1 (.one (.loop [1, 3] 1 A_ref_OrderCheck_5)))) (.keep [1] 1 (.two (.two .none (.keep [1, 4] 1 (.one (.loop [1, 4] 1 (.two .none (.keep [1, 4] 1 (.two (.one (.two .none (.keep [1, 4, 5] 1 (.one (.loop [1, 4, 5] 1 (.two .none (.keep [1, 4, 5] 1 (.two (.one (.two A_ref_OrderCheck_15 (.keep [1, 4, 5] 1 (.two .none (.keep [1, 4, 5, 6] 1 (.one (.loop [1, 4, 5, 6] 1 (.two .none (.keep [1, 4, 5, 6] 1 A_ref_OrderCheck_21))))))))) (.keep [1, 4, 5] 1 .none))))))))) (.keep [1, 4] 1 .none)))))))) (.keep [] 1 .none)))))))))), ok_ref_OrderCheck _N, (E_ref_OrderCheck _N x).trans _h⟩
theorem en_ref_OrderCheck (_N : Nat) : EntOk Tryd.prog Gs (mkP 57 Ks_ref_OrderCheck Rk_ref_OrderCheck (D_ref_OrderCheck _N)) := entP hb_ref_OrderCheck (by kernel_rfl) (sp_ref_OrderCheck _N)
-- watershed/order.Check$1
abbrev Ks_order_Check_c1 : List Kd := [.dat (.int .u32), .ptr (.pair (.int .i64) (.sl (.int .u32)))]
abbrev Rk_order_Check_c1 : List Kd := [.dat (.bool)]
abbrev Rt_order_Check_c1 : Type := Dens Rk_order_Check_c1
def T_order_Check_c1 : List (Nat × TE) := [(3, ⟨.int .i64, 1, 8, some (.int .i64), [.int .i64 (0 : Int)]⟩),
  (24, ⟨.struct [(0, 3), (1, 22)], 2, 32, some (.pair (.int .i64) (.sl (.int .u32))), [.int .i64 (0 : Int), .nil]⟩)]
noncomputable def C_order_Check_c1 (_N : Nat) : Ctx := { T := T_order_Check_c1, G := findE [mkP 60 Ks_sets_All Rk_sets_All (D_sets_All _N)], I := findI [], N := _N, n := 10, fx := [], fl := 0, gs := Gs }
noncomputable def order_Check_c1_1 (_N : Nat) (_x1 : Int) (_x2 : Int × List Int) : Option Rt_order_Check_c1 :=
  ((D_sets_All _N (_x2.1, ())).bind fun _y2 => (some (((iandNot .u32 _x1 _y2.1) != (0 : Int)), ())))
theorem order_Check_c1_1e (_N : Nat) (_x1 : Int) (_x2 : Int × List Int) :
    exec (C_order_Check_c1 _N) (cAt (bodyOf Tryd.f59) []) .none [(0, .int .u32 _x1), (1, .fptr (.pair (.int .i64) (.sl (.int .u32))) _x2)] [] (canonR (fun _i _t _h => none) (finK (C_order_Check_c1 _N) [.tmp 3] (finD Rk_order_Check_c1))) = order_Check_c1_1 _N _x1 _x2 :=
  by kernel_rfl
noncomputable def D_order_Check_c1 (_N : Nat) (x : Dens Ks_order_Check_c1) : Option Rt_order_Check_c1 := order_Check_c1_1 _N x.1 x.2.1
theorem E_order_Check_c1 (_N : Nat) (x : Dens Ks_order_Check_c1) : exec (C_order_Check_c1 _N) (bodyOf Tryd.f59) .none (argS 0 (kvals Ks_order_Check_c1 x)) [] (finK (C_order_Check_c1 _N) [.tmp 3] (finD Rk_order_Check_c1)) = D_order_Check_c1 _N x :=
  (congrArg (fun K => exec (C_order_Check_c1 _N) (bodyOf Tryd.f59) .none (argS 0 (kvals Ks_order_Check_c1 x)) [] K) canonR_fin).trans (order_Check_c1_1e _N x.1 x.2.1)
theorem ok_order_Check_c1 (_N : Nat) : CtxOk Tryd.prog Gs Tryd.f59 (C_order_Check_c1 _N) := ⟨rfl, by unfold TOk; kernel_rfl, gOk_of rfl rfl (List.forall_mem_cons.2 ⟨en_sets_All _N, (List.forall_mem_nil _)⟩), iOk_of rfl rfl (List.forall_mem_nil _), rfl⟩
theorem hb_order_Check_c1 : HasBody Tryd.prog 59 := ⟨Tryd.f59, bodyOf Tryd.f59, by kernel_rfl, by kernel_rfl, rfl⟩
theorem sp_order_Check_c1 (_N : Nat) : SpecD Tryd.prog Gs 59 Ks_order_Check_c1 Rk_order_Check_c1 (D_order_Check_c1 _N) := specD_of (c := bodyOf Tryd.f59) (by kernel_rfl) rfl (by kernel_rfl) (Nat.le_of_ble_eq_true (by kernel_rfl)) fun x y _h => ⟨C_order_Check_c1 _N, .none, ok_order_Check_c1 _N, (E_order_Check_c1 _N x).trans _h⟩
theorem en_order_Check_c1 (_N : Nat) : EntOk Tryd.prog Gs (mkP 59 Ks_order_Check_c1 Rk_order_Check_c1 (D_order_Check_c1 _N)) := entP hb_order_Check_c1 (by kernel_rfl) (sp_order_Check_c1 _N)
-- slices.IndexFunc[[]uint32,uint32]
abbrev Ks_slices_IndexFunc_Luint32_uint32_order_Check_c1 : List Kd := [.dat (.sl (.int .u32)), .clo 59 [.pair (.int .i64) (.sl (.int .u32))]]
abbrev Rk_slices_IndexFunc_Luint32_uint32_order_Check_c1 : List Kd := [.dat (.int .i64)]
abbrev Rt_slices_IndexFunc_Luint32_uint32_order_Check_c1 : Type := Dens Rk_slices_IndexFunc_Luint32_uint32_order_Check_c1
def T_slices_IndexFunc_Luint32_uint32_order_Check_c1 : List (Nat × TE) := [(22, ⟨.slice 49, 1, 24, some (.sl (.int .u32)), [.nil]⟩),
  (49, ⟨.int .u32, 1, 4, some (.int .u32), [.int .u32 (0 : Int)]⟩)]
noncomputable def C_slices_IndexFunc_Luint32_uint32_order_Check_c1 (_N : Nat) : Ctx := { T := T_slices_IndexFunc_Luint32_uint32_order_Check_c1, G := findE [mkP 59 Ks_order_Check_c1 Rk_order_Check_c1 (D_order_Check_c1 _N)], I := findI [], N := _N, n := 19, fx := [], fl := 0, gs := Gs }
noncomputable def slices_IndexFunc_Luint32_uint32_order_Check_c1_1 (_N : Nat) (_k5 : Option Rt_slices_IndexFunc_Luint32_uint32_order_Check_c1) : Option Rt_slices_IndexFunc_Luint32_uint32_order_Check_c1 :=
  _k5
theorem slices_IndexFunc_Luint32_uint32_order_Check_c1_1e (_N : Nat) (_x1 : List Int) (_x2 : (Int × List Int) × Unit) (_k5 : Ko Rt_slices_IndexFunc_Luint32_uint32_order_Check_c1) :
    exec (C_slices_IndexFunc_Luint32_uint32_order_Check_c1 _N) (cAt (bodyOf Tryd.f70) [0]) .none [(0, .sl (.int .u32) _x1), (1, .clo 59 [.fptr (.pair (.int .i64) (.sl (.int .u32))) _x2.1])] [] (canonK [] _k5 [0, 1] 0 (fun _i _t _h => none) (fun _t _h => finK (C_slices_IndexFunc_Luint32_uint32_order_Check_c1 _N) [.tmp 4] (finD Rk_slices_IndexFunc_Luint32_uint32_order_Check_c1) .ret _t _h)) = slices_IndexFunc_Luint32_uint32_order_Check_c1_1 _N (_k5 [(0, .sl (.int .u32) _x1), (1, .clo 59 [.fptr (.pair (.int .i64) (.sl (.int .u32))) _x2.1])] []) :=
  by kernel_rfl
noncomputable def slices_IndexFunc_Luint32_uint32_order_Check_c1_2 (_N : Nat) (_k7 : Option Rt_slices_IndexFunc_Luint32_uint32_order_Check_c1) : Option Rt_slices_IndexFunc_Luint32_uint32_order_Check_c1 :=
  _k7
theorem slices_IndexFunc_Luint32_uint32_order_Check_c1_2e (_N : Nat) (_x1 : List Int) (_x2 : (Int × List Int) × Unit) (_k7 : Ko Rt_slices_IndexFunc_Luint32_uint32_order_Check_c1) :
    exec (C_slices_IndexFunc_Luint32_uint32_order_Check_c1 _N) (cAt (bodyOf Tryd.f70) [1, 0, 0]) .none [(0, .sl (.int .u32) _x1), (1, .clo 59 [.fptr (.pair (.int .i64) (.sl (.int .u32))) _x2.1])] [] (canonK [] _k7 [0, 1, 7, 8] 0 (fun _i _t _h => none) (fun _t _h => finK (C_slices_IndexFunc_Luint32_uint32_order_Check_c1 _N) [.tmp 4] (finD Rk_slices_IndexFunc_Luint32_uint32_order_Check_c1) .ret _t _h)) = slices_IndexFunc_Luint32_uint32_order_Check_c1_2 _N (_k7 [(0, .sl (.int .u32) _x1), (1, .clo 59 [.fptr (.pair (.int .i64) (.sl (.int .u32))) _x2.1]), (7, .int .i64 (_x1.length : Int)), (8, .int .i64 (0 : Int))] []) :=
  by kernel_rfl
noncomputable def slices_IndexFunc_Luint32_uint32_order_Check_c1_3 (_N : Nat) (_x1 : List Int) (_x2 : (Int × List Int) × Unit) (_v2 : Int) (_k8 : Int → Option Rt_slices_IndexFunc_Luint32_uint32_order_Check_c1) (_k6 : Option Rt_slices_IndexFunc_Luint32_uint32_order_Check_c1) : Option Rt_slices_IndexFunc_Luint32_uint32_order_Check_c1 :=
  (bif (decide (_v2 < (_x1.length : Int))) then (bif (decide (0 ≤ _v2) && decide (_v2 < (_x1.length : Int))) then ((D_order_Check_c1 _N ((nth (0 : Int) _x1 (_v2).toNat), _x2.1, ())).bind fun _y9 => (bif _y9.1 then (some (_v2, ())) else (_k8 (IntKind.i64.wrap (_v2 + (1 : Int)))))) else none) else _k6)
theorem slices_IndexFunc_Luint32_uint32_order_Check_c1_3e (_N : Nat) (_x1 : List Int) (_x2 : (Int × List Int) × Unit) (_v2 : Int) (_k8 _k6 : Ko Rt_slices_IndexFunc_Luint32_uint32_order_Check_c1) :
    exec (C_slices_IndexFunc_Luint32_uint32_order_Check_c1 _N) (cAt (bodyOf Tryd.f70) [1, 0, 1, 0, 0]) .none [(0, .sl (.int .u32) _x1), (1, .clo 59 [.fptr (.pair (.int .i64) (.sl (.int .u32))) _x2.1]), (7, .int .i64 (_x1.length : Int)), (8, .int .i64 _v2)] [] (canonK [] _k8 [0, 1, 7, 8] 0 (fun _i _t _h => wo 0 _k6 [] [] 0 _i _t _h none) (fun _t _h => finK (C_slices_IndexFunc_Luint32_uint32_order_Check_c1 _N) [.tmp 4] (finD Rk_slices_IndexFunc_Luint32_uint32_order_Check_c1) .ret _t _h)) = slices_IndexFunc_Luint32_uint32_order_Check_c1_3 _N _x1 _x2 _v2 (fun _v2 => _k8 [(0, .sl (.int .u32) _x1), (1, .clo 59 [.fptr (.pair (.int .i64) (.sl (.int .u32))) _x2.1]), (7, .int .i64 (_x1.length : Int)), (8, .int .i64 _v2)] []) (_k6 [] []) :=
  by kernel_rfl
noncomputable def slices_IndexFunc_Luint32_uint32_order_Check_c1_4 (_N : Nat) (_x1 : List Int) (_x2 : (Int × List Int) × Unit) (_k6 : Option Rt_slices_IndexFunc_Luint32_uint32_order_Check_c1) : Option Rt_slices_IndexFunc_Luint32_uint32_order_Check_c1 :=
  loopD (fun (_s : Int) _kn => slices_IndexFunc_Luint32_uint32_order_Check_c1_3 _N _x1 _x2 _s (fun _v2 => _kn _v2) _k6) _N (0 : Int)
theorem slices_IndexFunc_Luint32_uint32_order_Check_c1_4e (_N : Nat) (_x1 : List Int) (_x2 : (Int × List Int) × Unit) (_k6 : Ko Rt_slices_IndexFunc_Luint32_uint32_order_Check_c1) :
    exec (C_slices_IndexFunc_Luint32_uint32_order_Check_c1 _N) (cAt (bodyOf Tryd.f70) [1, 0, 1, 0]) (.loop [0, 1, 7, 8] 0 .none) [(0, .sl (.int .u32) _x1), (1, .clo 59 [.fptr (.pair (.int .i64) (.sl (.int .u32))) _x2.1]), (7, .int .i64 (_x1.length : Int)), (8, .int .i64 (0 : Int))] [] (canonK [] _k6 [] 0 (fun _i _t _h => wo 0 _k6 [] [] 0 _i _t _h none) (fun _t _h => finK (C_slices_IndexFunc_Luint32_uint32_order_Check_c1 _N) [.tmp 4] (finD Rk_slices_IndexFunc_Luint32_uint32_order_Check_c1) .ret _t _h)) = slices_IndexFunc_Luint32_uint32_order_Check_c1_4 _N _x1 _x2 (_k6 [] []) :=
  (loop_frag (by kernel_rfl) rfl (by kernel_rfl) (by kernel_rfl)).trans (loopN_sim (S := Int) (fun _s => [(0, .sl (.int .u32) _x1), (1, .clo 59 [.fptr (.pair (.int .i64) (.sl (.int .u32))) _x2.1]), (7, .int .i64 (_x1.length : Int)), (8, .int .i64 _s)]) (fun _s => []) (fun _s _kn => slices_IndexFunc_Luint32_uint32_order_Check_c1_3e _N _x1 _x2 _s _kn _k6) _N (0 : Int))
noncomputable def slices_IndexFunc_Luint32_uint32_order_Check_c1_5 (_N : Nat) (_x1 : List Int) (_x2 : (Int × List Int) × Unit) (_k6 : Option Rt_slices_IndexFunc_Luint32_uint32_order_Check_c1) : Option Rt_slices_IndexFunc_Luint32_uint32_order_Check_c1 :=
  slices_IndexFunc_Luint32_uint32_order_Check_c1_4 _N _x1 _x2 _k6
theorem slices_IndexFunc_Luint32_uint32_order_Check_c1_5e (_N : Nat) (_x1 : List Int) (_x2 : (Int × List Int) × Unit) (_k6 : Ko Rt_slices_IndexFunc_Luint32_uint32_order_Check_c1) :
    exec (C_slices_IndexFunc_Luint32_uint32_order_Check_c1 _N) (cAt (bodyOf Tryd.f70) [1, 0, 1]) (.one (.loop [0, 1, 7, 8] 0 .none)) [(0, .sl (.int .u32) _x1), (1, .clo 59 [.fptr (.pair (.int .i64) (.sl (.int .u32))) _x2.1]), (7, .int .i64 (_x1.length : Int)), (8, .int .i64 (0 : Int))] [] (canonK [] _k6 [] 0 (fun _i _t _h => none) (fun _t _h => finK (C_slices_IndexFunc_Luint32_uint32_order_Check_c1 _N) [.tmp 4] (finD Rk_slices_IndexFunc_Luint32_uint32_order_Check_c1) .ret _t _h)) = slices_IndexFunc_Luint32_uint32_order_Check_c1_5 _N _x1 _x2 (_k6 [] []) :=
  (block_canon (by kernel_rfl)).trans (slices_IndexFunc_Luint32_uint32_order_Check_c1_4e _N _x1 _x2 _k6)
noncomputable def slices_IndexFunc_Luint32_uint32_order_Check_c1_6 (_N : Nat) (_x1 : List Int) (_x2 : (Int × List Int) × Unit) (_k6 : Option Rt_slices_IndexFunc_Luint32_uint32_order_Check_c1) : Option Rt_slices_IndexFunc_Luint32_uint32_order_Check_c1 :=
  slices_IndexFunc_Luint32_uint32_order_Check_c1_2 _N (slices_IndexFunc_Luint32_uint32_order_Check_c1_5 _N _x1 _x2 _k6)
abbrev A_slices_IndexFunc_Luint32_uint32_order_Check_c1_6 : Ann := .two .none (.keep [0, 1, 7, 8] 0 (.one (.loop [0, 1, 7, 8] 0 .none)))
theorem slices_IndexFunc_Luint32_uint32_order_Check_c1_6e (_N : Nat) (_x1 : List Int) (_x2 : (Int × List Int) × Unit) (_k6 : Ko Rt_slices_IndexFunc_Luint32_uint32_order_Check_c1) :
    exec (C_slices_IndexFunc_Luint32_uint32_order_Check_c1 _N) (cAt (bodyOf Tryd.f70) [1, 0]) A_slices_IndexFunc_Luint32_uint32_order_Check_c1_6 [(0, .sl (.int .u32) _x1), (1, .clo 59 [.fptr (.pair (.int .i64) (.sl (.int .u32))) _x2.1])] [] (canonK [] _k6 [] 0 (fun _i _t _h => none) (fun _t _h => finK (C_slices_IndexFunc_Luint32_uint32_order_Check_c1 _N) [.tmp 4] (finD Rk_slices_IndexFunc_Luint32_uint32_order_Check_c1) .ret _t _h)) = slices_IndexFunc_Luint32_uint32_order_Check_c1_6 _N _x1 _x2 (_k6 [] []) :=
  (seq_frag (by kernel_rfl) rfl).trans ((slices_IndexFunc_Luint32_uint32_order_Check_c1_2e _N _x1 _x2 _).trans (congrArg (fun _z => slices_IndexFunc_Luint32_uint32_order_Check_c1_2 _N _z) (slices_IndexFunc_Luint32_uint32_order_Check_c1_5e _N _x1 _x2 _k6)))
noncomputable def slices_IndexFunc_Luint32_uint32_order_Check_c1_7 (_N : Nat) : Option Rt_slices_IndexFunc_Luint32_uint32_order_Check_c1 :=
  (some ((-1 : Int), ()))
theorem slices_IndexFunc_Luint32_uint32_order_Check_c1_7e (_N : Nat) (_x1 : List Int) (_x2 : (Int × List Int) × Unit) :
    exec (C_slices_IndexFunc_Luint32_uint32_order_Check_c1 _N) (cAt (bodyOf Tryd.f70) [1, 1]) .none [] [] (canonR (fun _i _t _h => none) (finK (C_slices_IndexFunc_Luint32_uint32_order_Check_c1 _N) [.tmp 4] (finD Rk_slices_IndexFunc_Luint32_uint32_order_Check_c1))) = slices_IndexFunc_Luint32_uint32_order_Check_c1_7 _N :=
  by kernel_rfl
noncomputable def slices_IndexFunc_Luint32_uint32_order_Check_c1_8 (_N : Nat) (_x1 : List Int) (_x2 : (Int × List Int) × Unit) : Option Rt_slices_IndexFunc_Luint32_uint32_order_Check_c1 :=
  slices_IndexFunc_Luint32_uint32_order_Check_c1_6 _N _x1 _x2 (slices_IndexFunc_Luint32_uint32_order_Check_c1_7 _N)
abbrev A_slices_IndexFunc_Luint32_uint32_order_Check_c1_8 : Ann := .two A_slices_IndexFunc_Luint32_uint32_order_Check_c1_6 (.keep [] 0 .none)
theorem slices_IndexFunc_Luint32_uint32_order_Check_c1_8e (_N : Nat) (_x1 : List Int) (_x2 : (Int × List Int) × Unit) :
    exec (C_slices_IndexFunc_Luint32_uint32_order_Check_c1 _N) (cAt (bodyOf Tryd.f70) [1]) A_slices_IndexFunc_Luint32_uint32_order_Check_c1_8 [(0, .sl (.int .u32) _x1), (1, .clo 59 [.fptr (.pair (.int .i64) (.sl (.int .u32))) _x2.1])] [] (canonR (fun _i _t _h => none) (finK (C_slices_IndexFunc_Luint32_uint32_order_Check_c1 _N) [.tmp 4] (finD Rk_slices_IndexFunc_Luint32_uint32_order_Check_c1))) = slices_IndexFunc_Luint32_uint32_order_Check_c1_8 _N _x1 _x2 :=
  (seq_frag (by kernel_rfl) rfl).trans ((slices_IndexFunc_Luint32_uint32_order_Check_c1_6e _N _x1 _x2 _).trans (congrArg (fun _z => slices_IndexFunc_Luint32_uint32_order_Check_c1_6 _N _x1 _x2 _z) (slices_IndexFunc_Luint32_uint32_order_Check_c1_7e _N _x1 _x2)))
noncomputable def slices_IndexFunc_Luint32_uint32_order_Check_c1_9 (_N : Nat) (_x1 : List Int) (_x2 : (Int × List Int) × Unit) : Option Rt_slices_IndexFunc_Luint32_uint32_order_Check_c1 :=
  slices_IndexFunc_Luint32_uint32_order_Check_c1_1 _N (slices_IndexFunc_Luint32_uint32_order_Check_c1_8 _N _x1 _x2)
abbrev A_slices_IndexFunc_Luint32_uint32_order_Check_c1_9 : Ann := .two .none (.keep [0, 1] 0 (.two A_slices_IndexFunc_Luint32_uint32_order_Check_c1_6 (.keep [] 0 .none)))
theorem slices_IndexFunc_Luint32_uint32_order_Check_c1_9e (_N : Nat) (_x1 : List Int) (_x2 : (Int × List Int) × Unit) :
    exec (C_slices_IndexFunc_Luint32_uint32_order_Check_c1 _N) (cAt (bodyOf Tryd.f70) []) A_slices_IndexFunc_Luint32_uint32_order_Check_c1_9 [(0, .sl (.int .u32) _x1), (1, .clo 59 [.fptr (.pair (.int .i64) (.sl (.int .u32))) _x2.1])] [] (canonR (fun _i _t _h => none) (finK (C_slices_IndexFunc_Luint32_uint32_order_Check_c1 _N) [.tmp 4] (finD Rk_slices_IndexFunc_Luint32_uint32_order_Check_c1))) = slices_IndexFunc_Luint32_uint32_order_Check_c1_9 _N _x1 _x2 :=
  (seq_frag (by kernel_rfl) rfl).trans ((slices_IndexFunc_Luint32_uint32_order_Check_c1_1e _N _x1 _x2 _).trans (congrArg (fun _z => slices_IndexFunc_Luint32_uint32_order_Check_c1_1 _N _z) (slices_IndexFunc_Luint32_uint32_order_Check_c1_8e _N _x1 _x2)))
noncomputable def D_slices_IndexFunc_Luint32_uint32_order_Check_c1 (_N : Nat) (x : Dens Ks_slices_IndexFunc_Luint32_uint32_order_Check_c1) : Option Rt_slices_IndexFunc_Luint32_uint32_order_Check_c1 := slices_IndexFunc_Luint32_uint32_order_Check_c1_9 _N x.1 x.2.1
theorem E_slices_IndexFunc_Luint32_uint32_order_Check_c1 (_N : Nat) (x : Dens Ks_slices_IndexFunc_Luint32_uint32_order_Check_c1) : exec (C_slices_IndexFunc_Luint32_uint32_order_Check_c1 _N) (bodyOf Tryd.f70) (.two .none (.keep [0, 1] 0 (.two A_slices_IndexFunc_Luint32_uint32_order_Check_c1_6 (.keep [] 0 .none)))) (argS 0 (kvals Ks_slices_IndexFunc_Luint32_uint32_order_Check_c1 x)) [] (finK (C_slices_IndexFunc_Luint32_uint32_order_Check_c1 _N) [.tmp 4] (finD Rk_slices_IndexFunc_Luint32_uint32_order_Check_c1)) = D_slices_IndexFunc_Luint32_uint32_order_Check_c1 _N x :=
  (congrArg (fun K => exec (C_slices_IndexFunc_Luint32_uint32_order_Check_c1 _N) (bodyOf Tryd.f70) (.two .none (.keep [0, 1] 0 (.two A_slices_IndexFunc_Luint32_uint32_order_Check_c1_6 (.keep [] 0 .none)))) (argS 0 (kvals Ks_slices_IndexFunc_Luint32_uint32_order_Check_c1 x)) [] K) canonR_fin).trans (slices_IndexFunc_Luint32_uint32_order_Check_c1_9e _N x.1 x.2.1)
theorem ok_slices_IndexFunc_Luint32_uint32_order_Check_c1 (_N : Nat) : CtxOk Tryd.prog Gs Tryd.f70 (C_slices_IndexFunc_Luint32_uint32_order_Check_c1 _N) := ⟨rfl, by unfold TOk; kernel_rfl, gOk_of rfl rfl (List.forall_mem_cons.2 ⟨en_order_Check_c1 _N, (List.forall_mem_nil _)⟩), iOk_of rfl rfl (List.forall_mem_nil _), rfl⟩
theorem hb_slices_IndexFunc_Luint32_uint32_order_Check_c1 : HasBody Tryd.prog 70 := ⟨Tryd.f70, bodyOf Tryd.f70, by kernel_rfl, by kernel_rfl, rfl⟩
theorem sp_slices_IndexFunc_Luint32_uint32_order_Check_c1 (_N : Nat) : SpecD Tryd.prog Gs 70 Ks_slices_IndexFunc_Luint32_uint32_order_Check_c1 Rk_slices_IndexFunc_Luint32_uint32_order_Check_c1 (D_slices_IndexFunc_Luint32_uint32_order_Check_c1 _N) := specD_of (c := bodyOf Tryd.f70) (by kernel_rfl) rfl (by kernel_rfl) (Nat.le_of_ble_eq_true (by kernel_rfl)) fun x y _h => ⟨C_slices_IndexFunc_Luint32_uint32_order_Check_c1 _N, (.two .none (.keep [0, 1] 0 (.two A_slices_IndexFunc_Luint32_uint32_order_Check_c1_6 (.keep [] 0 .none)))), ok_slices_IndexFunc_Luint32_uint32_order_Check_c1 _N, (E_slices_IndexFunc_Luint32_uint32_order_Check_c1 _N x).trans _h⟩
theorem en_slices_IndexFunc_Luint32_uint32_order_Check_c1 (_N : Nat) : EntOk Tryd.prog Gs (mkP 70 Ks_slices_IndexFunc_Luint32_uint32_order_Check_c1 Rk_slices_IndexFunc_Luint32_uint32_order_Check_c1 (D_slices_IndexFunc_Luint32_uint32_order_Check_c1 _N)) := entP hb_slices_IndexFunc_Luint32_uint32_order_Check_c1 (by kernel_rfl) (sp_slices_IndexFunc_Luint32_uint32_order_Check_c1 _N)
-- slices.ContainsFunc[[]uint32,uint32]
abbrev Ks_slices_ContainsFunc_Luint32_uint32_order_Check_c1 : List Kd := [.dat (.sl (.int .u32)), .clo 59 [.pair (.int .i64) (.sl (.int .u32))]]
abbrev Rk_slices_ContainsFunc_Luint32_uint32_order_Check_c1 : List Kd := [.dat (.bool)]
abbrev Rt_slices_ContainsFunc_Luint32_uint32_order_Check_c1 : Type := Dens Rk_slices_ContainsFunc_Luint32_uint32_order_Check_c1
def T_slices_ContainsFunc_Luint32_uint32_order_Check_c1 : List (Nat × TE) := []
noncomputable def C_slices_ContainsFunc_Luint32_uint32_order_Check_c1 (_N : Nat) : Ctx := { T := T_slices_ContainsFunc_Luint32_uint32_order_Check_c1, G := findE [mkP 70 Ks_slices_IndexFunc_Luint32_uint32_order_Check_c1 Rk_slices_IndexFunc_Luint32_uint32_order_Check_c1 (D_slices_IndexFunc_Luint32_uint32_order_Check_c1 _N)], I := findI [], N := _N, n := 9, fx := [], fl := 0, gs := Gs }
noncomputable def slices_ContainsFunc_Luint32_uint32_order_Check_c1_1 (_N : Nat) (_x1 : List Int) (_x2 : (Int × List Int) × Unit) : Option Rt_slices_ContainsFunc_Luint32_uint32_order_Check_c1 :=
  ((D_slices_IndexFunc_Luint32_uint32_order_Check_c1 _N (_x1, (_x2.1, ()), ())).bind fun _y2 => (some ((decide (_y2.1 ≥ (0 : Int))), ())))
theorem slices_ContainsFunc_Luint32_uint32_order_Check_c1_1e (_N : Nat) (_x1 : List Int) (_x2 : (Int × List Int) × Unit) :
    exec (C_slices_ContainsFunc_Luint32_uint32_order_Check_c1 _N) (cAt (bodyOf Tryd.f58) []) .none [(0, .sl (.int .u32) _x1), (1, .clo 59 [.fptr (.pair (.int .i64) (.sl (.int .u32))) _x2.1])] [] (canonR (fun _i _t _h => none) (finK (C_slices_ContainsFunc_Luint32_uint32_order_Check_c1 _N) [.tmp 4] (finD Rk_slices_ContainsFunc_Luint32_uint32_order_Check_c1))) = slices_ContainsFunc_Luint32_uint32_order_Check_c1_1 _N _x1 _x2 :=
  by kernel_rfl
noncomputable def D_slices_ContainsFunc_Luint32_uint32_order_Check_c1 (_N : Nat) (x : Dens Ks_slices_ContainsFunc_Luint32_uint32_order_Check_c1) : Option Rt_slices_ContainsFunc_Luint32_uint32_order_Check_c1 := slices_ContainsFunc_Luint32_uint32_order_Check_c1_1 _N x.1 x.2.1
theorem E_slices_ContainsFunc_Luint32_uint32_order_Check_c1 (_N : Nat) (x : Dens Ks_slices_ContainsFunc_Luint32_uint32_order_Check_c1) : exec (C_slices_ContainsFunc_Luint32_uint32_order_Check_c1 _N) (bodyOf Tryd.f58) .none (argS 0 (kvals Ks_slices_ContainsFunc_Luint32_uint32_order_Check_c1 x)) [] (finK (C_slices_ContainsFunc_Luint32_uint32_order_Check_c1 _N) [.tmp 4] (finD Rk_slices_ContainsFunc_Luint32_uint32_order_Check_c1)) = D_slices_ContainsFunc_Luint32_uint32_order_Check_c1 _N x :=
  (congrArg (fun K => exec (C_slices_ContainsFunc_Luint32_uint32_order_Check_c1 _N) (bodyOf Tryd.f58) .none (argS 0 (kvals Ks_slices_ContainsFunc_Luint32_uint32_order_Check_c1 x)) [] K) canonR_fin).trans (slices_ContainsFunc_Luint32_uint32_order_Check_c1_1e _N x.1 x.2.1)
theorem ok_slices_ContainsFunc_Luint32_uint32_order_Check_c1 (_N : Nat) : CtxOk Tryd.prog Gs Tryd.f58 (C_slices_ContainsFunc_Luint32_uint32_order_Check_c1 _N) := ⟨rfl, by unfold TOk; kernel_rfl, gOk_of rfl rfl (List.forall_mem_cons.2 ⟨en_slices_IndexFunc_Luint32_uint32_order_Check_c1 _N, (List.forall_mem_nil _)⟩), iOk_of rfl rfl (List.forall_mem_nil _), rfl⟩
theorem hb_slices_ContainsFunc_Luint32_uint32_order_Check_c1 : HasBody Tryd.prog 58 := ⟨Tryd.f58, bodyOf Tryd.f58, by kernel_rfl, by kernel_rfl, rfl⟩
theorem sp_slices_ContainsFunc_Luint32_uint32_order_Check_c1 (_N : Nat) : SpecD Tryd.prog Gs 58 Ks_slices_ContainsFunc_Luint32_uint32_order_Check_c1 Rk_slices_ContainsFunc_Luint32_uint32_order_Check_c1 (D_slices_ContainsFunc_Luint32_uint32_order_Check_c1 _N) := specD_of (c := bodyOf Tryd.f58) (by kernel_rfl) rfl (by kernel_rfl) (Nat.le_of_ble_eq_true (by kernel_rfl)) fun x y _h => ⟨C_slices_ContainsFunc_Luint32_uint32_order_Check_c1 _N, .none, ok_slices_ContainsFunc_Luint32_uint32_order_Check_c1 _N, (E_slices_ContainsFunc_Luint32_uint32_order_Check_c1 _N x).trans _h⟩
theorem en_slices_ContainsFunc_Luint32_uint32_order_Check_c1 (_N : Nat) : EntOk Tryd.prog Gs (mkP 58 Ks_slices_ContainsFunc_Luint32_uint32_order_Check_c1 Rk_slices_ContainsFunc_Luint32_uint32_order_Check_c1 (D_slices_ContainsFunc_Luint32_uint32_order_Check_c1 _N)) := entP hb_slices_ContainsFunc_Luint32_uint32_order_Check_c1 (by kernel_rfl) (sp_slices_ContainsFunc_Luint32_uint32_order_Check_c1 _N)
-- watershed/order.Check
abbrev Ks_order_Check : List Kd := [.dat (.pair (.int .i64) (.sl (.int .u32)))]
abbrev Rk_order_Check : List Kd := [.dat (.int .i64)]
abbrev Rt_order_Check : Type := Dens Rk_order_Check
def T_order_Check : List (Nat × TE) := [(3, ⟨.int .i64, 1, 8, some (.int .i64), [.int .i64 (0 : Int)]⟩),
  (22, ⟨.slice 49, 1, 24, some (.sl (.int .u32)), [.nil]⟩),
  (24, ⟨.struct [(0, 3), (1, 22)], 2, 32, some (.pair (.int .i64) (.sl (.int .u32))), [.int .i64 (0 : Int), .nil]⟩),
  (32, ⟨.int .i64, 1, 8, some (.int .i64), [.int .i64 (0 : Int)]⟩),
  (49, ⟨.int .u32, 1, 4, some (.int .u32), [.int .u32 (0 : Int)]⟩)]
noncomputable def C_order_Check (_N : Nat) : Ctx := { T := T_order_Check, G := findE [mkP 58 Ks_slices_ContainsFunc_Luint32_uint32_order_Check_c1 Rk_slices_ContainsFunc_Luint32_uint32_order_Check_c1 (D_slices_ContainsFunc_Luint32_uint32_order_Check_c1 _N), mkP 61 Ks_sets_Has_uint32 Rk_sets_Has_uint32 (D_sets_Has_uint32 _N), mkP 47 Ks_sets_One Rk_sets_One (D_sets_One _N), mkB 48 Ks_sets_Each_uint32 64 (.int .u32) (D_sets_Each_uint32 _N)], I := findI [mkI 64 Ks_each (.int .i64) eachXs], N := _N, n := 62, fx := [], fl := 0, gs := Gs }
noncomputable def order_Check_1 (_N : Nat) (_k15 : Option Rt_order_Check) : Option Rt_order_Check :=
  _k15
theorem order_Check_1e (_N : Nat) (_x1 : Int × List Int) (_k15 : Ko Rt_order_Check) :
    exec (C_order_Check _N) (cAt (bodyOf Tryd.f37) [0]) .none [(0, .agg [.int .i64 _x1.1, .sl (.int .u32) _x1.2])] [] (canonK [] _k15 [1, 2] 2 (fun _i _t _h => none) (fun _t _h => finK (C_order_Check _N) [.cell 2 32] (finD Rk_order_Check) .ret _t _h)) = order_Check_1 _N (_k15 [(1, .ptr 0 0), (2, .ptr 1 0)] [.cells [.int .i64 _x1.1, .sl (.int .u32) _x1.2], .cells [.int .i64 (0 : Int)]]) :=
  by kernel_rfl
noncomputable def order_Check_2 (_N : Nat) (_x1 : Int × List Int) (_k16 : Option Rt_order_Check) : Option Rt_order_Check :=
  (bif (decide (_x1.1 < (0 : Int))) then (some ((1 : Int), ())) else (bif (decide (_x1.1 > (16 : Int))) then (some ((1 : Int), ())) else _k16))
theorem order_Check_2e (_N : Nat) (_x1 : Int × List Int) (_k16 : Ko Rt_order_Check) :
    exec (C_order_Check _N) (cAt (bodyOf Tryd.f37) [1, 0]) .none [(1, .ptr 0 0), (2, .ptr 1 0)] [.cells [.int .i64 _x1.1, .sl (.int .u32) _x1.2], .cells [.int .i64 (0 : Int)]] (canonK [] _k16 [1, 2] 2 (fun _i _t _h => none) (fun _t _h => finK (C_order_Check _N) [.cell 2 32] (finD Rk_order_Check) .ret _t _h)) = order_Check_2 _N _x1 (_k16 [(1, .ptr 0 0), (2, .ptr 1 0)] [.cells [.int .i64 _x1.1, .sl (.int .u32) _x1.2], .cells [.int .i64 (0 : Int)]]) :=
  by kernel_rfl
noncomputable def order_Check_3 (_N : Nat) (_x1 : Int × List Int) (_k17 : Option Rt_order_Check) : Option Rt_order_Check :=
  (bif ((_x1.2.length : Int) != _x1.1) then (some ((2 : Int), ())) else ((D_slices_ContainsFunc_Luint32_uint32_order_Check_c1 _N (_x1.2, ((_x1.1, _x1.2), ()), ())).bind fun _y18 => (bif _y18.1 then (some ((2 : Int), ())) else _k17)))
theorem order_Check_3e (_N : Nat) (_x1 : Int × List Int) (_k17 : Ko Rt_order_Check) :
    exec (C_order_Check _N) (cAt (bodyOf Tryd.f37) [1, 1, 0]) .none [(1, .ptr 0 0), (2, .ptr 1 0)] [.cells [.int .i64 _x1.1, .sl (.int .u32) _x1.2], .cells [.int .i64 (0 : Int)]] (canonK [] _k17 [1, 2] 2 (fun _i _t _h => none) (fun _t _h => finK (C_order_Check _N) [.cell 2 32] (finD Rk_order_Check) .ret _t _h)) = order_Check_3 _N _x1 (_k17 [(1, .ptr 0 0), (2, .ptr 1 0)] [.cells [.int .i64 _x1.1, .sl (.int .u32) _x1.2], .cells [.int .i64 (0 : Int)]]) :=
  by kernel_rfl
noncomputable def order_Check_4 (_N : Nat) (_k20 : Option Rt_order_Check) : Option Rt_order_Check :=
  _k20
theorem order_Check_4e (_N : Nat) (_x1 : Int × List Int) (_k20 : Ko Rt_order_Check) :
    exec (C_order_Check _N) (cAt (bodyOf Tryd.f37) [1, 1, 1, 0, 0]) .none [(1, .ptr 0 0), (2, .ptr 1 0)] [.cells [.int .i64 _x1.1, .sl (.int .u32) _x1.2], .cells [.int .i64 (0 : Int)]] (canonK [] _k20 [1, 2, 27, 28, 29] 2 (fun _i _t _h => none) (fun _t _h => finK (C_order_Check _N) [.cell 2 32] (finD Rk_order_Check) .ret _t _h)) = order_Check_4 _N (_k20 [(1, .ptr 0 0), (2, .ptr 1 0), (27, .sl (.int .u32) _x1.2), (28, .int .i64 (_x1.2.length : Int)), (29, .int .i64 (0 : Int))] [.cells [.int .i64 _x1.1, .sl (.int .u32) _x1.2], .cells [.int .i64 (0 : Int)]]) :=
  by kernel_rfl
noncomputable def order_Check_5 (_N : Nat) (_k22 : Option Rt_order_Check) : Option Rt_order_Check :=
  _k22
theorem order_Check_5e (_N : Nat) (_x1 : Int × List Int) (_v8 : Int) (_k22 _k19 : Ko Rt_order_Check) :
    exec (C_order_Check _N) (cAt (bodyOf Tryd.f37) [1, 1, 1, 0, 1, 0, 0, 0]) .none [(1, .ptr 0 0), (2, .ptr 1 0), (27, .sl (.int .u32) _x1.2), (28, .int .i64 (_x1.2.length : Int)), (29, .int .i64 _v8)] [.cells [.int .i64 _x1.1, .sl (.int .u32) _x1.2], .cells [.int .i64 (0 : Int)]] (canonK [] _k22 [1, 2, 27, 28, 29, 30] 2 (fun _i _t _h => wo 0 _k19 [] [2] 2 _i _t _h none) (fun _t _h => finK (C_order_Check _N) [.cell 2 32] (finD Rk_order_Check) .ret _t _h)) = order_Check_5 _N (_k22 [(1, .ptr 0 0), (2, .ptr 1 0), (27, .sl (.int .u32) _x1.2), (28, .int .i64 (_x1.2.length : Int)), (29, .int .i64 _v8), (30, .bool (decide (_v8 < (_x1.2.length : Int))))] [.cells [.int .i64 _x1.1, .sl (.int .u32) _x1.2], .cells [.int .i64 (0 : Int)]]) :=
  by kernel_rfl
noncomputable def order_Check_6 (_N : Nat) (_x1 : Int × List Int) (_v8 : Int) (_k23 : Option Rt_order_Check) (_k19 : Option Rt_order_Check) : Option Rt_order_Check :=
  (bif (decide (_v8 < (_x1.2.length : Int))) then _k23 else _k19)
theorem order_Check_6e (_N : Nat) (_x1 : Int × List Int) (_v8 : Int) (_k23 _k19 : Ko Rt_order_Check) :
    exec (C_order_Check _N) (cAt (bodyOf Tryd.f37) [1, 1, 1, 0, 1, 0, 0, 1, 0]) .none [(1, .ptr 0 0), (2, .ptr 1 0), (27, .sl (.int .u32) _x1.2), (28, .int .i64 (_x1.2.length : Int)), (29, .int .i64 _v8), (30, .bool (decide (_v8 < (_x1.2.length : Int))))] [.cells [.int .i64 _x1.1, .sl (.int .u32) _x1.2], .cells [.int .i64 (0 : Int)]] (canonK [] _k23 [1, 2, 27, 28, 29] 2 (fun _i _t _h => wo 0 _k19 [] [2] 2 _i _t _h none) (fun _t _h => finK (C_order_Check _N) [.cell 2 32] (finD Rk_order_Check) .ret _t _h)) = order_Check_6 _N _x1 _v8 (_k23 [(1, .ptr 0 0), (2, .ptr 1 0), (27, .sl (.int .u32) _x1.2), (28, .int .i64 (_x1.2.length : Int)), (29, .int .i64 _v8)] [.cells [.int .i64 _x1.1, .sl (.int .u32) _x1.2], .cells [.int .i64 (0 : Int)]]) (_k19 [(2, .ptr 1 0)] [.cells [.int .i64 _x1.1, .sl (.int .u32) _x1.2], .cells [.int .i64 (0 : Int)]]) :=
  by kernel_rfl
noncomputable def order_Check_7 (_N : Nat) (_x1 : Int × List Int) (_v8 : Int) (_k25 : Option Rt_order_Check) : Option Rt_order_Check :=
  (bif (decide (0 ≤ _v8) && decide (_v8 < (_x1.2.length : Int))) then _k25 else none)
theorem order_Check_7e (_N : Nat) (_x1 : Int × List Int) (_v8 : Int) (_k25 _k24 _k19 : Ko Rt_order_Check) :
    exec (C_order_Check _N) (cAt (bodyOf Tryd.f37) [1, 1, 1, 0, 1, 0, 0, 1, 1, 0, 0, 0]) .none [(1, .ptr 0 0), (2, .ptr 1 0), (27, .sl (.int .u32) _x1.2), (28, .int .i64 (_x1.2.length : Int)), (29, .int .i64 _v8)] [.cells [.int .i64 _x1.1, .sl (.int .u32) _x1.2], .cells [.int .i64 (0 : Int)]] (canonK [] _k25 [1, 2, 3, 4, 27, 28, 29] 4 (fun _i _t _h => wo 1 _k24 [] [1, 2, 27, 28, 29] 4 _i _t _h (wo 0 _k19 [] [2] 2 _i _t _h none)) (fun _t _h => finK (C_order_Check _N) [.cell 2 32] (finD Rk_order_Check) .ret _t _h)) = order_Check_7 _N _x1 _v8 (_k25 [(1, .ptr 0 0), (2, .ptr 1 0), (3, .ptr 2 0), (4, .ptr 3 0), (27, .sl (.int .u32) _x1.2), (28, .int .i64 (_x1.2.length : Int)), (29, .int .i64 _v8)] [.cells [.int .i64 _x1.1, .sl (.int .u32) _x1.2], .cells [.int .i64 (0 : Int)], .cells [.int .i64 _v8], .cells [.int .u32 (nth (0 : Int) _x1.2 (_v8).toNat)]]) :=
  by kernel_rfl
noncomputable def order_Check_8 (_N : Nat) (_x1 : Int × List Int) (_v8 : Int) (_k26 : Option Rt_order_Check) : Option Rt_order_Check :=
  ((D_sets_Has_uint32 _N ((nth (0 : Int) _x1.2 (_v8).toNat), _v8, ())).bind fun _y27 => (bif (!_y27.1) then (some ((3 : Int), ())) else _k26))
theorem order_Check_8e (_N : Nat) (_x1 : Int × List Int) (_v8 : Int) (_k26 _k24 _k19 : Ko Rt_order_Check) :
    exec (C_order_Check _N) (cAt (bodyOf Tryd.f37) [1, 1, 1, 0, 1, 0, 0, 1, 1, 0, 0, 1, 0]) .none [(1, .ptr 0 0), (2, .ptr 1 0), (3, .ptr 2 0), (4, .ptr 3 0), (27, .sl (.int .u32) _x1.2), (28, .int .i64 (_x1.2.length : Int)), (29, .int .i64 _v8)] [.cells [.int .i64 _x1.1, .sl (.int .u32) _x1.2], .cells [.int .i64 (0 : Int)], .cells [.int .i64 _v8], .cells [.int .u32 (nth (0 : Int) _x1.2 (_v8).toNat)]] (canonK [] _k26 [1, 2, 3, 4, 27, 28, 29] 4 (fun _i _t _h => wo 1 _k24 [] [1, 2, 27, 28, 29] 4 _i _t _h (wo 0 _k19 [] [2] 2 _i _t _h none)) (fun _t _h => finK (C_order_Check _N) [.cell 2 32] (finD Rk_order_Check) .ret _t _h)) = order_Check_8 _N _x1 _v8 (_k26 [(1, .ptr 0 0), (2, .ptr 1 0), (3, .ptr 2 0), (4, .ptr 3 0), (27, .sl (.int .u32) _x1.2), (28, .int .i64 (_x1.2.length : Int)), (29, .int .i64 _v8)] [.cells [.int .i64 _x1.1, .sl (.int .u32) _x1.2], .cells [.int .i64 (0 : Int)], .cells [.int .i64 _v8], .cells [.int .u32 (nth (0 : Int) _x1.2 (_v8).toNat)]]) :=
  by kernel_rfl
noncomputable def order_Check_9 (_N : Nat) (_x1 : Int × List Int) (_v8 : Int) (_k28 : Int → Option Rt_order_Check) : Option Rt_order_Check :=
  ((D_sets_One _N (_v8, ())).bind fun _y29 => ((D_sets_Each_uint32 _N ((iandNot .u32 (nth (0 : Int) _x1.2 (_v8).toNat) _y29.1), ())).bind fun _y30 => (_k28 _y30)))
abbrev A_order_Check_9 : Ann := .draw 0 [.rd [3], .rd [2], .pure, .pure, .full]
theorem order_Check_9e (_N : Nat) (_x1 : Int × List Int) (_v8 : Int) (_k28 _k24 _k19 : Ko Rt_order_Check) :
    exec (C_order_Check _N) (cAt (bodyOf Tryd.f37) [1, 1, 1, 0, 1, 0, 0, 1, 1, 0, 0, 1, 1, 0]) A_order_Check_9 [(1, .ptr 0 0), (2, .ptr 1 0), (3, .ptr 2 0), (4, .ptr 3 0), (27, .sl (.int .u32) _x1.2), (28, .int .i64 (_x1.2.length : Int)), (29, .int .i64 _v8)] [.cells [.int .i64 _x1.1, .sl (.int .u32) _x1.2], .cells [.int .i64 (0 : Int)], .cells [.int .i64 _v8], .cells [.int .u32 (nth (0 : Int) _x1.2 (_v8).toNat)]] (canonK [] _k28 [1, 2, 3, 4, 27, 28, 29, 42] 4 (fun _i _t _h => wo 1 _k24 [] [1, 2, 27, 28, 29] 4 _i _t _h (wo 0 _k19 [] [2] 2 _i _t _h none)) (fun _t _h => finK (C_order_Check _N) [.cell 2 32] (finD Rk_order_Check) .ret _t _h)) = order_Check_9 _N _x1 _v8 (fun _v12 => _k28 [(1, .ptr 0 0), (2, .ptr 1 0), (3, .ptr 2 0), (4, .ptr 3 0), (27, .sl (.int .u32) _x1.2), (28, .int .i64 (_x1.2.length : Int)), (29, .int .i64 _v8), (42, .clo 64 [.fptr (.int .u32) _v12])] [.cells [.int .i64 _x1.1, .sl (.int .u32) _x1.2], .cells [.int .i64 (0 : Int)], .cells [.int .i64 _v8], .cells [.int .u32 (nth (0 : Int) _x1.2 (_v8).toNat)]]) :=
  by kernel_rfl
noncomputable def order_Check_10 (_N : Nat) (_k32 : Option Rt_order_Check) : Option Rt_order_Check :=
  _k32
theorem order_Check_10e (_N : Nat) (_x1 : Int × List Int) (_v8 : Int) (_v12 : Int) (_y6 : Int) (_k32 : Ko Rt_order_Check) :
    exec ((C_order_Check _N).low 4) (cAt (bodyOf Tryd.f37) [1, 1, 1, 0, 1, 0, 0, 1, 1, 0, 0, 1, 1, 1, 0, 0]) .none [(43, .int .i64 _y6), (1, .ptr 0 0), (2, .ptr 1 0), (3, .ptr 2 0), (4, .ptr 3 0), (27, .sl (.int .u32) _x1.2), (28, .int .i64 (_x1.2.length : Int)), (29, .int .i64 _v8), (42, .clo 64 [.fptr (.int .u32) _v12])] [.cells [.int .i64 _x1.1, .sl (.int .u32) _x1.2], .cells [.int .i64 (0 : Int)], .cells [.int .i64 _v8], .cells [.int .u32 (nth (0 : Int) _x1.2 (_v8).toNat)]] (canonK [] _k32 [1, 2, 3, 4, 5] 4 (fun _ _ _ => none) (fun _ _ => none)) = order_Check_10 _N (_k32 [(1, .ptr 0 0), (2, .ptr 1 0), (3, .ptr 2 0), (4, .ptr 3 0), (5, .int .i64 _y6)] [.cells [.int .i64 _x1.1, .sl (.int .u32) _x1.2], .cells [.int .i64 (0 : Int)], .cells [.int .i64 _v8], .cells [.int .u32 (nth (0 : Int) _x1.2 (_v8).toNat)]]) :=
  by kernel_rfl
noncomputable def order_Check_11 (_N : Nat) (_x1 : Int × List Int) (_v8 : Int) (_y6 : Int) (_k31 : Option Rt_order_Check) : Option Rt_order_Check :=
  (bif (decide (0 ≤ _y6) && decide (_y6 < (_x1.2.length : Int))) then ((D_sets_Has_uint32 _N ((nth (0 : Int) _x1.2 (_y6).toNat), _v8, ())).bind fun _y33 => (bif _y33.1 then (some ((3 : Int), ())) else (bif (decide (0 ≤ _y6) && decide (_y6 < (_x1.2.length : Int))) then (bif ((iandNot .u32 (nth (0 : Int) _x1.2 (_y6).toNat) (nth (0 : Int) _x1.2 (_v8).toNat)) != (0 : Int)) then (some ((3 : Int), ())) else _k31) else none))) else none)
abbrev A_order_Check_11 : Ann := .one (.two (.draw 0 [.pure, .rd [0], .pure, .pure, .pure, .rd [2], .pure, .pure, .pure, .rd [0], .pure, .pure, .pure, .rd [3], .pure, .pure, .pure]) .none)
theorem order_Check_11e (_N : Nat) (_x1 : Int × List Int) (_v8 : Int) (_v12 : Int) (_y6 : Int) (_k31 _k24 _k19 : Ko Rt_order_Check) :
    exec ((C_order_Check _N).low 4) (cAt (bodyOf Tryd.f37) [1, 1, 1, 0, 1, 0, 0, 1, 1, 0, 0, 1, 1, 1, 0, 1]) A_order_Check_11 [(1, .ptr 0 0), (2, .ptr 1 0), (3, .ptr 2 0), (4, .ptr 3 0), (5, .int .i64 _y6)] [.cells [.int .i64 _x1.1, .sl (.int .u32) _x1.2], .cells [.int .i64 (0 : Int)], .cells [.int .i64 _v8], .cells [.int .u32 (nth (0 : Int) _x1.2 (_v8).toNat)]] (canonK [] _k31 [] 4 (fun _i _t _h => wo 2 _k24 [] [1, 2, 27, 28, 29] 4 _i ([(1, .ptr 0 0), (2, .ptr 1 0), (3, .ptr 2 0), (4, .ptr 3 0), (27, .sl (.int .u32) _x1.2), (28, .int .i64 (_x1.2.length : Int)), (29, .int .i64 _v8), (42, .clo 64 [.fptr (.int .u32) _v12])]) _h (wo 1 _k24 [] [1, 2, 27, 28, 29] 4 _i ([(1, .ptr 0 0), (2, .ptr 1 0), (3, .ptr 2 0), (4, .ptr 3 0), (27, .sl (.int .u32) _x1.2), (28, .int .i64 (_x1.2.length : Int)), (29, .int .i64 _v8), (42, .clo 64 [.fptr (.int .u32) _v12])]) _h (wo 0 _k19 [] [2] 2 _i ([(1, .ptr 0 0), (2, .ptr 1 0), (3, .ptr 2 0), (4, .ptr 3 0), (27, .sl (.int .u32) _x1.2), (28, .int .i64 (_x1.2.length : Int)), (29, .int .i64 _v8), (42, .clo 64 [.fptr (.int .u32) _v12])]) _h none))) (fun _t _h => finK (C_order_Check _N) [.cell 2 32] (finD Rk_order_Check) .ret ([(1, .ptr 0 0), (2, .ptr 1 0), (3, .ptr 2 0), (4, .ptr 3 0), (27, .sl (.int .u32) _x1.2), (28, .int .i64 (_x1.2.length : Int)), (29, .int .i64 _v8), (42, .clo 64 [.fptr (.int .u32) _v12])]) _h)) = order_Check_11 _N _x1 _v8 _y6 (_k31 [] [.cells [.int .i64 _x1.1, .sl (.int .u32) _x1.2], .cells [.int .i64 (0 : Int)], .cells [.int .i64 _v8], .cells [.int .u32 (nth (0 : Int) _x1.2 (_v8).toNat)]]) :=
  by kernel_rfl
noncomputable def order_Check_12 (_N : Nat) (_x1 : Int × List Int) (_v8 : Int) (_v12 : Int) (_k24 : Option Rt_order_Check) : Option Rt_order_Check :=
  forD (fun (_y6 : Int) (_s : Unit) _kn => order_Check_10 _N (order_Check_11 _N _x1 _v8 _y6 (_kn ()))) (fun (_s : Unit) => _k24) (eachXs (_v12, ())) ()
abbrev A_order_Check_12 : Ann := .keep [1, 2, 3, 4, 27, 28, 29, 42] 4 (.each 4 .none (.keep [1, 2, 3, 4, 5] 4 A_order_Check_11))
theorem order_Check_12e (_N : Nat) (_x1 : Int × List Int) (_v8 : Int) (_v12 : Int) (_k24 _k19 : Ko Rt_order_Check) :
    exec (C_order_Check _N) (cAt (bodyOf Tryd.f37) [1, 1, 1, 0, 1, 0, 0, 1, 1, 0, 0, 1, 1, 1, 0]) A_order_Check_12 [(1, .ptr 0 0), (2, .ptr 1 0), (3, .ptr 2 0), (4, .ptr 3 0), (27, .sl (.int .u32) _x1.2), (28, .int .i64 (_x1.2.length : Int)), (29, .int .i64 _v8), (42, .clo 64 [.fptr (.int .u32) _v12])] [.cells [.int .i64 _x1.1, .sl (.int .u32) _x1.2], .cells [.int .i64 (0 : Int)], .cells [.int .i64 _v8], .cells [.int .u32 (nth (0 : Int) _x1.2 (_v8).toNat)]] (canonK [] _k24 [1, 2, 27, 28, 29] 4 (fun _i _t _h => wo 2 _k24 [] [1, 2, 27, 28, 29] 4 _i _t _h (wo 1 _k24 [] [1, 2, 27, 28, 29] 4 _i _t _h (wo 0 _k19 [] [2] 2 _i _t _h none))) (fun _t _h => finK (C_order_Check _N) [.cell 2 32] (finD Rk_order_Check) .ret _t _h)) = order_Check_12 _N _x1 _v8 _v12 (_k24 [(1, .ptr 0 0), (2, .ptr 1 0), (27, .sl (.int .u32) _x1.2), (28, .int .i64 (_x1.2.length : Int)), (29, .int .i64 _v8)] [.cells [.int .i64 _x1.1, .sl (.int .u32) _x1.2], .cells [.int .i64 (0 : Int)], .cells [.int .i64 _v8], .cells [.int .u32 (nth (0 : Int) _x1.2 (_v8).toNat)]]) :=
  (range_frag (f := .tmp 42) (ps := #[43]) (x := cAt (bodyOf Tryd.f37) [1, 1, 1, 0, 1, 0, 0, 1, 1, 0, 0, 1, 1, 1, 0, 0]) (b := cAt (bodyOf Tryd.f37) [1, 1, 1, 0, 1, 0, 0, 1, 1, 0, 0, 1, 1, 1, 0, 1]) (g := 64) (caps := [.fptr (.int .u32) _v12]) (t' := [(1, .ptr 0 0), (2, .ptr 1 0), (3, .ptr 2 0), (4, .ptr 3 0), (27, .sl (.int .u32) _x1.2), (28, .int .i64 (_x1.2.length : Int)), (29, .int .i64 _v8), (42, .clo 64 [.fptr (.int .u32) _v12])]) (h' := [.cells [.int .i64 _x1.1, .sl (.int .u32) _x1.2], .cells [.int .i64 (0 : Int)], .cells [.int .i64 _v8], .cells [.int .u32 (nth (0 : Int) _x1.2 (_v8).toNat)]]) (p := itP (.int .i64) (eachXs (_v12, ()))) (by kernel_rfl) rfl (by kernel_rfl) (by kernel_rfl) (by kernel_rfl) (by kernel_rfl) rfl (by kernel_rfl)).trans (forN_sim (S := Unit) (fun _s => [.cells [.int .i64 _x1.1, .sl (.int .u32) _x1.2], .cells [.int .i64 (0 : Int)], .cells [.int .i64 _v8], .cells [.int .u32 (nth (0 : Int) _x1.2 (_v8).toNat)]]) (fun _y6 _s _kn => (range_step (ke := (fun _i _t _h => wo 2 _k24 [] [1, 2, 27, 28, 29] 4 _i ([(1, .ptr 0 0), (2, .ptr 1 0), (3, .ptr 2 0), (4, .ptr 3 0), (27, .sl (.int .u32) _x1.2), (28, .int .i64 (_x1.2.length : Int)), (29, .int .i64 _v8), (42, .clo 64 [.fptr (.int .u32) _v12])]) _h (wo 1 _k24 [] [1, 2, 27, 28, 29] 4 _i ([(1, .ptr 0 0), (2, .ptr 1 0), (3, .ptr 2 0), (4, .ptr 3 0), (27, .sl (.int .u32) _x1.2), (28, .int .i64 (_x1.2.length : Int)), (29, .int .i64 _v8), (42, .clo 64 [.fptr (.int .u32) _v12])]) _h (wo 0 _k19 [] [2] 2 _i ([(1, .ptr 0 0), (2, .ptr 1 0), (3, .ptr 2 0), (4, .ptr 3 0), (27, .sl (.int .u32) _x1.2), (28, .int .i64 (_x1.2.length : Int)), (29, .int .i64 _v8), (42, .clo 64 [.fptr (.int .u32) _v12])]) _h none)))) (kr := (fun _t _h => finK (C_order_Check _N) [.cell 2 32] (finD Rk_order_Check) .ret ([(1, .ptr 0 0), (2, .ptr 1 0), (3, .ptr 2 0), (4, .ptr 3 0), (27, .sl (.int .u32) _x1.2), (28, .int .i64 (_x1.2.length : Int)), (29, .int .i64 _v8), (42, .clo 64 [.fptr (.int .u32) _v12])]) _h)) (by kernel_rfl) (fun _ _ _ => rfl) (fun _ _ => rfl)).trans ((exec2_frag rfl).trans ((order_Check_10e _N _x1 _v8 _v12 _y6 _).trans (congrArg (fun _z => order_Check_10 _N _z) (order_Check_11e _N _x1 _v8 _v12 _y6 (fun _ _h => _kn _h) _k24 _k19))))) (fun _s => by kernel_rfl) (eachXs (_v12, ())) ())
noncomputable def order_Check_13 (_N : Nat) (_x1 : Int × List Int) (_v8 : Int) (_v12 : Int) (_k24 : Option Rt_order_Check) : Option Rt_order_Check :=
  order_Check_12 _N _x1 _v8 _v12 _k24
abbrev A_order_Check_13 : Ann := .one (.keep [1, 2, 3, 4, 27, 28, 29, 42] 4 (.each 4 .none (.keep [1, 2, 3, 4, 5] 4 A_order_Check_11)))
theorem order_Check_13e (_N : Nat) (_x1 : Int × List Int) (_v8 : Int) (_v12 : Int) (_k24 _k19 : Ko Rt_order_Check) :
    exec (C_order_Check _N) (cAt (bodyOf Tryd.f37) [1, 1, 1, 0, 1, 0, 0, 1, 1, 0, 0, 1, 1, 1]) A_order_Check_13 [(1, .ptr 0 0), (2, .ptr 1 0), (3, .ptr 2 0), (4, .ptr 3 0), (27, .sl (.int .u32) _x1.2), (28, .int .i64 (_x1.2.length : Int)), (29, .int .i64 _v8), (42, .clo 64 [.fptr (.int .u32) _v12])] [.cells [.int .i64 _x1.1, .sl (.int .u32) _x1.2], .cells [.int .i64 (0 : Int)], .cells [.int .i64 _v8], .cells [.int .u32 (nth (0 : Int) _x1.2 (_v8).toNat)]] (canonK [] _k24 [1, 2, 27, 28, 29] 4 (fun _i _t _h => wo 1 _k24 [] [1, 2, 27, 28, 29] 4 _i _t _h (wo 0 _k19 [] [2] 2 _i _t _h none)) (fun _t _h => finK (C_order_Check _N) [.cell 2 32] (finD Rk_order_Check) .ret _t _h)) = order_Check_13 _N _x1 _v8 _v12 (_k24 [(1, .ptr 0 0), (2, .ptr 1 0), (27, .sl (.int .u32) _x1.2), (28, .int .i64 (_x1.2.length : Int)), (29, .int .i64 _v8)] [.cells [.int .i64 _x1.1, .sl (.int .u32) _x1.2], .cells [.int .i64 (0 : Int)], .cells [.int .i64 _v8], .cells [.int .u32 (nth (0 : Int) _x1.2 (_v8).toNat)]]) :=
  (block_canon (by kernel_rfl)).trans (order_Check_12e _N _x1 _v8 _v12 _k24 _k19)
noncomputable def order_Check_14 (_N : Nat) (_x1 : Int × List Int) (_v8 : Int) (_k24 : Option Rt_order_Check) : Option Rt_order_Check :=
  order_Check_9 _N _x1 _v8 (fun _v12 => order_Check_13 _N _x1 _v8 _v12 _k24)
abbrev A_order_Check_14 : Ann := .two A_order_Check_9 (.keep [1, 2, 3, 4, 27, 28, 29, 42] 4 (.one (.keep [1, 2, 3, 4, 27, 28, 29, 42] 4 (.each 4 .none (.keep [1, 2, 3, 4, 5] 4 A_order_Check_11)))))
theorem order_Check_14e (_N : Nat) (_x1 : Int × List Int) (_v8 : Int) (_k24 _k19 : Ko Rt_order_Check) :
    exec (C_order_Check _N) (cAt (bodyOf Tryd.f37) [1, 1, 1, 0, 1, 0, 0, 1, 1, 0, 0, 1, 1]) A_order_Check_14 [(1, .ptr 0 0), (2, .ptr 1 0), (3, .ptr 2 0), (4, .ptr 3 0), (27, .sl (.int .u32) _x1.2), (28, .int .i64 (_x1.2.length : Int)), (29, .int .i64 _v8)] [.cells [.int .i64 _x1.1, .sl (.int .u32) _x1.2], .cells [.int .i64 (0 : Int)], .cells [.int .i64 _v8], .cells [.int .u32 (nth (0 : Int) _x1.2 (_v8).toNat)]] (canonK [] _k24 [1, 2, 27, 28, 29] 4 (fun _i _t _h => wo 1 _k24 [] [1, 2, 27, 28, 29] 4 _i _t _h (wo 0 _k19 [] [2] 2 _i _t _h none)) (fun _t _h => finK (C_order_Check _N) [.cell 2 32] (finD Rk_order_Check) .ret _t _h)) = order_Check_14 _N _x1 _v8 (_k24 [(1, .ptr 0 0), (2, .ptr 1 0), (27, .sl (.int .u32) _x1.2), (28, .int .i64 (_x1.2.length : Int)), (29, .int .i64 _v8)] [.cells [.int .i64 _x1.1, .sl (.int .u32) _x1.2], .cells [.int .i64 (0 : Int)], .cells [.int .i64 _v8], .cells [.int .u32 (nth (0 : Int) _x1.2 (_v8).toNat)]]) :=
  (seq_frag (by kernel_rfl) rfl).trans ((order_Check_9e _N _x1 _v8 _ _k24 _k19).trans (congrArg (fun _z => order_Check_9 _N _x1 _v8 _z) (funext fun _v12 => order_Check_13e _N _x1 _v8 _v12 _k24 _k19)))
noncomputable def order_Check_15 (_N : Nat) (_x1 : Int × List Int) (_v8 : Int) (_k24 : Option Rt_order_Check) : Option Rt_order_Check :=
  order_Check_8 _N _x1 _v8 (order_Check_14 _N _x1 _v8 _k24)
abbrev A_order_Check_15 : Ann := .two .none (.keep [1, 2, 3, 4, 27, 28, 29] 4 (.two A_order_Check_9 (.keep [1, 2, 3, 4, 27, 28, 29, 42] 4 (.one (.keep [1, 2, 3, 4, 27, 28, 29, 42] 4 (.each 4 .none (.keep [1, 2, 3, 4, 5] 4 A_order_Check_11)))))))
theorem order_Check_15e (_N : Nat) (_x1 : Int × List Int) (_v8 : Int) (_k24 _k19 : Ko Rt_order_Check) :
    exec (C_order_Check _N) (cAt (bodyOf Tryd.f37) [1, 1, 1, 0, 1, 0, 0, 1, 1, 0, 0, 1]) A_order_Check_15 [(1, .ptr 0 0), (2, .ptr 1 0), (3, .ptr 2 0), (4, .ptr 3 0), (27, .sl (.int .u32) _x1.2), (28, .int .i64 (_x1.2.length : Int)), (29, .int .i64 _v8)] [.cells [.int .i64 _x1.1, .sl (.int .u32) _x1.2], .cells [.int .i64 (0 : Int)], .cells [.int .i64 _v8], .cells [.int .u32 (nth (0 : Int) _x1.2 (_v8).toNat)]] (canonK [] _k24 [1, 2, 27, 28, 29] 4 (fun _i _t _h => wo 1 _k24 [] [1, 2, 27, 28, 29] 4 _i _t _h (wo 0 _k19 [] [2] 2 _i _t _h none)) (fun _t _h => finK (C_order_Check _N) [.cell 2 32] (finD Rk_order_Check) .ret _t _h)) = order_Check_15 _N _x1 _v8 (_k24 [(1, .ptr 0 0), (2, .ptr 1 0), (27, .sl (.int .u32) _x1.2), (28, .int .i64 (_x1.2.length : Int)), (29, .int .i64 _v8)] [.cells [.int .i64 _x1.1, .sl (.int .u32) _x1.2], .cells [.int .i64 (0 : Int)], .cells [.int .i64 _v8], .cells [.int .u32 (nth (0 : Int) _x1.2 (_v8).toNat)]]) :=
  (seq_frag (by kernel_rfl) rfl).trans ((order_Check_8e _N _x1 _v8 _ _k24 _k19).trans (congrArg (fun _z => order_Check_8 _N _x1 _v8 _z) (order_Check_14e _N _x1 _v8 _k24 _k19)))
noncomputable def order_Check_16 (_N : Nat) (_x1 : Int × List Int) (_v8 : Int) (_k24 : Option Rt_order_Check) : Option Rt_order_Check :=
  order_Check_7 _N _x1 _v8 (order_Check_15 _N _x1 _v8 _k24)
abbrev A_order_Check_16 : Ann := .two .none (.keep [1, 2, 3, 4, 27, 28, 29] 4 (.two .none (.keep [1, 2, 3, 4, 27, 28, 29] 4 (.two A_order_Check_9 (.keep [1, 2, 3, 4, 27, 28, 29, 42] 4 (.one (.keep [1, 2, 3, 4, 27, 28, 29, 42] 4 (.each 4 .none (.keep [1, 2, 3, 4, 5] 4 A_order_Check_11)))))))))
theorem order_Check_16e (_N : Nat) (_x1 : Int × List Int) (_v8 : Int) (_k24 _k19 : Ko Rt_order_Check) :
    exec (C_order_Check _N) (cAt (bodyOf Tryd.f37) [1, 1, 1, 0, 1, 0, 0, 1, 1, 0, 0]) A_order_Check_16 [(1, .ptr 0 0), (2, .ptr 1 0), (27, .sl (.int .u32) _x1.2), (28, .int .i64 (_x1.2.length : Int)), (29, .int .i64 _v8)] [.cells [.int .i64 _x1.1, .sl (.int .u32) _x1.2], .cells [.int .i64 (0 : Int)]] (canonK [] _k24 [1, 2, 27, 28, 29] 4 (fun _i _t _h => wo 1 _k24 [] [1, 2, 27, 28, 29] 4 _i _t _h (wo 0 _k19 [] [2] 2 _i _t _h none)) (fun _t _h => finK (C_order_Check _N) [.cell 2 32] (finD Rk_order_Check) .ret _t _h)) = order_Check_16 _N _x1 _v8 (_k24 [(1, .ptr 0 0), (2, .ptr 1 0), (27, .sl (.int .u32) _x1.2), (28, .int .i64 (_x1.2.length : Int)), (29, .int .i64 _v8)] [.cells [.int .i64 _x1.1, .sl (.int .u32) _x1.2], .cells [.int .i64 (0 : Int)], .cells [.int .i64 _v8], .cells [.int .u32 (nth (0 : Int) _x1.2 (_v8).toNat)]]) :=
  (seq_frag (by kernel_rfl) rfl).trans ((order_Check_7e _N _x1 _v8 _ _k24 _k19).trans (congrArg (fun _z => order_Check_7 _N _x1 _v8 _z) (order_Check_15e _N _x1 _v8 _k24 _k19)))
noncomputable def order_Check_17 (_N : Nat) (_x1 : Int × List Int) (_v8 : Int) (_k24 : Option Rt_order_Check) : Option Rt_order_Check :=
  order_Check_16 _N _x1 _v8 _k24
abbrev A_order_Check_17 : Ann := .one (.two .none (.keep [1, 2, 3, 4, 27, 28, 29] 4 (.two .none (.keep [1, 2, 3, 4, 27, 28, 29] 4 (.two A_order_Check_9 (.keep [1, 2, 3, 4, 27, 28, 29, 42] 4 (.one (.keep [1, 2, 3, 4, 27, 28, 29, 42] 4 (.each 4 .none (.keep [1, 2, 3, 4, 5] 4 A_order_Check_11))))))))))
theorem order_Check_17e (_N : Nat) (_x1 : Int × List Int) (_v8 : Int) (_k24 _k19 : Ko Rt_order_Check) :
    exec (C_order_Check _N) (cAt (bodyOf Tryd.f37) [1, 1, 1, 0, 1, 0, 0, 1, 1, 0]) A_order_Check_17 [(1, .ptr 0 0), (2, .ptr 1 0), (27, .sl (.int .u32) _x1.2), (28, .int .i64 (_x1.2.length : Int)), (29, .int .i64 _v8)] [.cells [.int .i64 _x1.1, .sl (.int .u32) _x1.2], .cells [.int .i64 (0 : Int)]] (canonK [] _k24 [1, 2, 27, 28, 29] 4 (fun _i _t _h => wo 0 _k19 [] [2] 2 _i _t _h none) (fun _t _h => finK (C_order_Check _N) [.cell 2 32] (finD Rk_order_Check) .ret _t _h)) = order_Check_17 _N _x1 _v8 (_k24 [(1, .ptr 0 0), (2, .ptr 1 0), (27, .sl (.int .u32) _x1.2), (28, .int .i64 (_x1.2.length : Int)), (29, .int .i64 _v8)] [.cells [.int .i64 _x1.1, .sl (.int .u32) _x1.2], .cells [.int .i64 (0 : Int)], .cells [.int .i64 _v8], .cells [.int .u32 (nth (0 : Int) _x1.2 (_v8).toNat)]]) :=
  (block_canon (by kernel_rfl)).trans (order_Check_16e _N _x1 _v8 _k24 _k19)
noncomputable def order_Check_18 (_N : Nat) (_v8 : Int) (_k21 : Int → Option Rt_order_Check) : Option Rt_order_Check :=
  (_k21 (IntKind.i64.wrap (_v8 + (1 : Int))))
theorem order_Check_18e (_N : Nat) (_x1 : Int × List Int) (_v8 : Int) (_k21 _k19 : Ko Rt_order_Check) :
    exec (C_order_Check _N) (cAt (bodyOf Tryd.f37) [1, 1, 1, 0, 1, 0, 0, 1, 1, 1]) .none [(1, .ptr 0 0), (2, .ptr 1 0), (27, .sl (.int .u32) _x1.2), (28, .int .i64 (_x1.2.length : Int)), (29, .int .i64 _v8)] [.cells [.int .i64 _x1.1, .sl (.int .u32) _x1.2], .cells [.int .i64 (0 : Int)], .cells [.int .i64 _v8], .cells [.int .u32 (nth (0 : Int) _x1.2 (_v8).toNat)]] (canonK [] _k21 [1, 2, 27, 28, 29] 2 (fun _i _t _h => wo 0 _k19 [] [2] 2 _i _t _h none) (fun _t _h => finK (C_order_Check _N) [.cell 2 32] (finD Rk_order_Check) .ret _t _h)) = order_Check_18 _N _v8 (fun _v8 => _k21 [(1, .ptr 0 0), (2, .ptr 1 0), (27, .sl (.int .u32) _x1.2), (28, .int .i64 (_x1.2.length : Int)), (29, .int .i64 _v8)] [.cells [.int .i64 _x1.1, .sl (.int .u32) _x1.2], .cells [.int .i64 (0 : Int)]]) :=
  by kernel_rfl
noncomputable def order_Check_19 (_N : Nat) (_x1 : Int × List Int) (_v8 : Int) (_k21 : Int → Option Rt_order_Check) : Option Rt_order_Check :=
  order_Check_17 _N _x1 _v8 (order_Check_18 _N _v8 _k21)
abbrev A_order_Check_19 : Ann := .two (.one (.two .none (.keep [1, 2, 3, 4, 27, 28, 29] 4 (.two .none (.keep [1, 2, 3, 4, 27, 28, 29] 4 (.two A_order_Check_9 (.keep [1, 2, 3, 4, 27, 28, 29, 42] 4 (.one (.keep [1, 2, 3, 4, 27, 28, 29, 42] 4 (.each 4 .none (.keep [1, 2, 3, 4, 5] 4 A_order_Check_11))))))))))) (.keep [1, 2, 27, 28, 29] 4 .none)
theorem order_Check_19e (_N : Nat) (_x1 : Int × List Int) (_v8 : Int) (_k21 _k19 : Ko Rt_order_Check) :
    exec (C_order_Check _N) (cAt (bodyOf Tryd.f37) [1, 1, 1, 0, 1, 0, 0, 1, 1]) A_order_Check_19 [(1, .ptr 0 0), (2, .ptr 1 0), (27, .sl (.int .u32) _x1.2), (28, .int .i64 (_x1.2.length : Int)), (29, .int .i64 _v8)] [.cells [.int .i64 _x1.1, .sl (.int .u32) _x1.2], .cells [.int .i64 (0 : Int)]] (canonK [] _k21 [1, 2, 27, 28, 29] 2 (fun _i _t _h => wo 0 _k19 [] [2] 2 _i _t _h none) (fun _t _h => finK (C_order_Check _N) [.cell 2 32] (finD Rk_order_Check) .ret _t _h)) = order_Check_19 _N _x1 _v8 (fun _v8 => _k21 [(1, .ptr 0 0), (2, .ptr 1 0), (27, .sl (.int .u32) _x1.2), (28, .int .i64 (_x1.2.length : Int)), (29, .int .i64 _v8)] [.cells [.int .i64 _x1.1, .sl (.int .u32) _x1.2], .cells [.int .i64 (0 : Int)]]) :=
  (seq_frag (by kernel_rfl) rfl).trans ((order_Check_17e _N _x1 _v8 _ _k19).trans (congrArg (fun _z => order_Check_17 _N _x1 _v8 _z) (order_Check_18e _N _x1 _v8 _k21 _k19)))
noncomputable def order_Check_20 (_N : Nat) (_x1 : Int × List Int) (_v8 : Int) (_k21 : Int → Option Rt_order_Check) (_k19 : Option Rt_order_Check) : Option Rt_order_Check :=
  order_Check_6 _N _x1 _v8 (order_Check_19 _N _x1 _v8 _k21) _k19
abbrev A_order_Check_20 : Ann := .two .none (.keep [1, 2, 27, 28, 29] 2 (.two (.one (.two .none (.keep [1, 2, 3, 4, 27, 28, 29] 4 (.two .none (.keep [1, 2, 3, 4, 27, 28, 29] 4 (.two A_order_Check_9 (.keep [1, 2, 3, 4, 27, 28, 29, 42] 4 (.one (.keep [1, 2, 3, 4, 27, 28, 29, 42] 4 (.each 4 .none (.keep [1, 2, 3, 4, 5] 4 A_order_Check_11))))))))))) (.keep [1, 2, 27, 28, 29] 4 .none)))
theorem order_Check_20e (_N : Nat) (_x1 : Int × List Int) (_v8 : Int) (_k21 _k19 : Ko Rt_order_Check) :
    exec (C_order_Check _N) (cAt (bodyOf Tryd.f37) [1, 1, 1, 0, 1, 0, 0, 1]) A_order_Check_20 [(1, .ptr 0 0), (2, .ptr 1 0), (27, .sl (.int .u32) _x1.2), (28, .int .i64 (_x1.2.length : Int)), (29, .int .i64 _v8), (30, .bool (decide (_v8 < (_x1.2.length : Int))))] [.cells [.int .i64 _x1.1, .sl (.int .u32) _x1.2], .cells [.int .i64 (0 : Int)]] (canonK [] _k21 [1, 2, 27, 28, 29] 2 (fun _i _t _h => wo 0 _k19 [] [2] 2 _i _t _h none) (fun _t _h => finK (C_order_Check _N) [.cell 2 32] (finD Rk_order_Check) .ret _t _h)) = order_Check_20 _N _x1 _v8 (fun _v8 => _k21 [(1, .ptr 0 0), (2, .ptr 1 0), (27, .sl (.int .u32) _x1.2), (28, .int .i64 (_x1.2.length : Int)), (29, .int .i64 _v8)] [.cells [.int .i64 _x1.1, .sl (.int .u32) _x1.2], .cells [.int .i64 (0 : Int)]]) (_k19 [(2, .ptr 1 0)] [.cells [.int .i64 _x1.1, .sl (.int .u32) _x1.2], .cells [.int .i64 (0 : Int)]]) :=
  (seq_frag (by kernel_rfl) rfl).trans ((order_Check_6e _N _x1 _v8 _ _k19).trans (congrArg (fun _z => order_Check_6 _N _x1 _v8 _z (_k19 [(2, .ptr 1 0)] [.cells [.int .i64 _x1.1, .sl (.int .u32) _x1.2], .cells [.int .i64 (0 : Int)]])) (order_Check_19e _N _x1 _v8 _k21 _k19)))
noncomputable def order_Check_21 (_N : Nat) (_x1 : Int × List Int) (_v8 : Int) (_k21 : Int → Option Rt_order_Check) (_k19 : Option Rt_order_Check) : Option Rt_order_Check :=
  order_Check_5 _N (order_Check_20 _N _x1 _v8 _k21 _k19)
abbrev A_order_Check_21 : Ann := .two .none (.keep [1, 2, 27, 28, 29, 30] 2 (.two .none (.keep [1, 2, 27, 28, 29] 2 (.two (.one (.two .none (.keep [1, 2, 3, 4, 27, 28, 29] 4 (.two .none (.keep [1, 2, 3, 4, 27, 28, 29] 4 (.two A_order_Check_9 (.keep [1, 2, 3, 4, 27, 28, 29, 42] 4 (.one (.keep [1, 2, 3, 4, 27, 28, 29, 42] 4 (.each 4 .none (.keep [1, 2, 3, 4, 5] 4 A_order_Check_11))))))))))) (.keep [1, 2, 27, 28, 29] 4 .none)))))
theorem order_Check_21e (_N : Nat) (_x1 : Int × List Int) (_v8 : Int) (_k21 _k19 : Ko Rt_order_Check) :
    exec (C_order_Check _N) (cAt (bodyOf Tryd.f37) [1, 1, 1, 0, 1, 0, 0]) A_order_Check_21 [(1, .ptr 0 0), (2, .ptr 1 0), (27, .sl (.int .u32) _x1.2), (28, .int .i64 (_x1.2.length : Int)), (29, .int .i64 _v8)] [.cells [.int .i64 _x1.1, .sl (.int .u32) _x1.2], .cells [.int .i64 (0 : Int)]] (canonK [] _k21 [1, 2, 27, 28, 29] 2 (fun _i _t _h => wo 0 _k19 [] [2] 2 _i _t _h none) (fun _t _h => finK (C_order_Check _N) [.cell 2 32] (finD Rk_order_Check) .ret _t _h)) = order_Check_21 _N _x1 _v8 (fun _v8 => _k21 [(1, .ptr 0 0), (2, .ptr 1 0), (27, .sl (.int .u32) _x1.2), (28, .int .i64 (_x1.2.length : Int)), (29, .int .i64 _v8)] [.cells [.int .i64 _x1.1, .sl (.int .u32) _x1.2], .cells [.int .i64 (0 : Int)]]) (_k19 [(2, .ptr 1 0)] [.cells [.int .i64 _x1.1, .sl (.int .u32) _x1.2], .cells [.int .i64 (0 : Int)]]) :=
  (seq_frag (by kernel_rfl) rfl).trans ((order_Check_5e _N _x1 _v8 _ _k19).trans (congrArg (fun _z => order_Check_5 _N _z) (order_Check_20e _N _x1 _v8 _k21 _k19)))
noncomputable def order_Check_22 (_N : Nat) (_x1 : Int × List Int) (_k19 : Option Rt_order_Check) : Option Rt_order_Check :=
  loopD (fun (_s : Int) _kn => order_Check_21 _N _x1 _s (fun _v8 => _kn _v8) _k19) _N (0 : Int)
abbrev A_order_Check_22 : Ann := .loop [1, 2, 27, 28, 29] 2 (.two .none (.keep [1, 2, 27, 28, 29, 30] 2 (.two .none (.keep [1, 2, 27, 28, 29] 2 (.two (.one (.two .none (.keep [1, 2, 3, 4, 27, 28, 29] 4 (.two .none (.keep [1, 2, 3, 4, 27, 28, 29] 4 (.two A_order_Check_9 (.keep [1, 2, 3, 4, 27, 28, 29, 42] 4 (.one (.keep [1, 2, 3, 4, 27, 28, 29, 42] 4 (.each 4 .none (.keep [1, 2, 3, 4, 5] 4 A_order_Check_11))))))))))) (.keep [1, 2, 27, 28, 29] 4 .none))))))
theorem order_Check_22e (_N : Nat) (_x1 : Int × List Int) (_k19 : Ko Rt_order_Check) :
    exec (C_order_Check _N) (cAt (bodyOf Tryd.f37) [1, 1, 1, 0, 1, 0]) A_order_Check_22 [(1, .ptr 0 0), (2, .ptr 1 0), (27, .sl (.int .u32) _x1.2), (28, .int .i64 (_x1.2.length : Int)), (29, .int .i64 (0 : Int))] [.cells [.int .i64 _x1.1, .sl (.int .u32) _x1.2], .cells [.int .i64 (0 : Int)]] (canonK [] _k19 [2] 2 (fun _i _t _h => wo 0 _k19 [] [2] 2 _i _t _h none) (fun _t _h => finK (C_order_Check _N) [.cell 2 32] (finD Rk_order_Check) .ret _t _h)) = order_Check_22 _N _x1 (_k19 [(2, .ptr 1 0)] [.cells [.int .i64 _x1.1, .sl (.int .u32) _x1.2], .cells [.int .i64 (0 : Int)]]) :=
  (loop_frag (by kernel_rfl) rfl (by kernel_rfl) (by kernel_rfl)).trans (loopN_sim (S := Int) (fun _s => [(1, .ptr 0 0), (2, .ptr 1 0), (27, .sl (.int .u32) _x1.2), (28, .int .i64 (_x1.2.length : Int)), (29, .int .i64 _s)]) (fun _s => [.cells [.int .i64 _x1.1, .sl (.int .u32) _x1.2], .cells [.int .i64 (0 : Int)]]) (fun _s _kn => order_Check_21e _N _x1 _s _kn _k19) _N (0 : Int))
noncomputable def order_Check_23 (_N : Nat) (_x1 : Int × List Int) (_k19 : Option Rt_order_Check) : Option Rt_order_Check :=
  order_Check_22 _N _x1 _k19
abbrev A_order_Check_23 : Ann := .one (.loop [1, 2, 27, 28, 29] 2 (.two .none (.keep [1, 2, 27, 28, 29, 30] 2 (.two .none (.keep [1, 2, 27, 28, 29] 2 (.two (.one (.two .none (.keep [1, 2, 3, 4, 27, 28, 29] 4 (.two .none (.keep [1, 2, 3, 4, 27, 28, 29] 4 (.two A_order_Check_9 (.keep [1, 2, 3, 4, 27, 28, 29, 42] 4 (.one (.keep [1, 2, 3, 4, 27, 28, 29, 42] 4 (.each 4 .none (.keep [1, 2, 3, 4, 5] 4 A_order_Check_11))))))))))) (.keep [1, 2, 27, 28, 29] 4 .none)))))))
theorem order_Check_23e (_N : Nat) (_x1 : Int × List Int) (_k19 : Ko Rt_order_Check) :
    exec (C_order_Check _N) (cAt (bodyOf Tryd.f37) [1, 1, 1, 0, 1]) A_order_Check_23 [(1, .ptr 0 0), (2, .ptr 1 0), (27, .sl (.int .u32) _x1.2), (28, .int .i64 (_x1.2.length : Int)), (29, .int .i64 (0 : Int))] [.cells [.int .i64 _x1.1, .sl (.int .u32) _x1.2], .cells [.int .i64 (0 : Int)]] (canonK [] _k19 [2] 2 (fun _i _t _h => none) (fun _t _h => finK (C_order_Check _N) [.cell 2 32] (finD Rk_order_Check) .ret _t _h)) = order_Check_23 _N _x1 (_k19 [(2, .ptr 1 0)] [.cells [.int .i64 _x1.1, .sl (.int .u32) _x1.2], .cells [.int .i64 (0 : Int)]]) :=
  (block_canon (by kernel_rfl)).trans (order_Check_22e _N _x1 _k19)
noncomputable def order_Check_24 (_N : Nat) (_x1 : Int × List Int) (_k19 : Option Rt_order_Check) : Option Rt_order_Check :=
  order_Check_4 _N (order_Check_23 _N _x1 _k19)
abbrev A_order_Check_24 : Ann := .two .none (.keep [1, 2, 27, 28, 29] 2 (.one (.loop [1, 2, 27, 28, 29] 2 (.two .none (.keep [1, 2, 27, 28, 29, 30] 2 (.two .none (.keep [1, 2, 27, 28, 29] 2 (.two (.one (.two .none (.keep [1, 2, 3, 4, 27, 28, 29] 4 (.two .none (.keep [1, 2, 3, 4, 27, 28, 29] 4 (.two A_order_Check_9 (.keep [1, 2, 3, 4, 27, 28, 29, 42] 4 (.one (.keep [1, 2, 3, 4, 27, 28, 29, 42] 4 (.each 4 .none (.keep [1, 2, 3, 4, 5] 4 A_order_Check_11))))))))))) (.keep [1, 2, 27, 28, 29] 4 .none)))))))))
theorem order_Check_24e (_N : Nat) (_x1 : Int × List Int) (_k19 : Ko Rt_order_Check) :
    exec (C_order_Check _N) (cAt (bodyOf Tryd.f37) [1, 1, 1, 0]) A_order_Check_24 [(1, .ptr 0 0), (2, .ptr 1 0)] [.cells [.int .i64 _x1.1, .sl (.int .u32) _x1.2], .cells [.int .i64 (0 : Int)]] (canonK [] _k19 [2] 2 (fun _i _t _h => none) (fun _t _h => finK (C_order_Check _N) [.cell 2 32] (finD Rk_order_Check) .ret _t _h)) = order_Check_24 _N _x1 (_k19 [(2, .ptr 1 0)] [.cells [.int .i64 _x1.1, .sl (.int .u32) _x1.2], .cells [.int .i64 (0 : Int)]]) :=
  (seq_frag (by kernel_rfl) rfl).trans ((order_Check_4e _N _x1 _).trans (congrArg (fun _z => order_Check_4 _N _z) (order_Check_23e _N _x1 _k19)))
noncomputable def order_Check_25 (_N : Nat) : Option Rt_order_Check :=
  (some ((0 : Int), ()))
theorem order_Check_25e (_N : Nat) (_x1 : Int × List Int) :
    exec (C_order_Check _N) (cAt (bodyOf Tryd.f37) [1, 1, 1, 1]) .none [(2, .ptr 1 0)] [.cells [.int .i64 _x1.1, .sl (.int .u32) _x1.2], .cells [.int .i64 (0 : Int)]] (canonR (fun _i _t _h => none) (finK (C_order_Check _N) [.cell 2 32] (finD Rk_order_Check))) = order_Check_25 _N :=
  by kernel_rfl
noncomputable def order_Check_26 (_N : Nat) (_x1 : Int × List Int) : Option Rt_order_Check :=
  order_Check_24 _N _x1 (order_Check_25 _N)
abbrev A_order_Check_26 : Ann := .two (.two .none (.keep [1, 2, 27, 28, 29] 2 (.one (.loop [1, 2, 27, 28, 29] 2 (.two .none (.keep [1, 2, 27, 28, 29, 30] 2 (.two .none (.keep [1, 2, 27, 28, 29] 2 (.two (.one (.two .none (.keep [1, 2, 3, 4, 27, 28, 29] 4 (.two .none (.keep [1, 2, 3, 4, 27, 28, 29] 4 (.two A_order_Check_9 (.keep [1, 2, 3, 4, 27, 28, 29, 42] 4 (.one (.keep [1, 2, 3, 4, 27, 28, 29, 42] 4 (.each 4 .none (.keep [1, 2, 3, 4, 5] 4 A_order_Check_11))))))))))) (.keep [1, 2, 27, 28, 29] 4 .none)))))))))) (.keep [2] 2 .none)
theorem order_Check_26e (_N : Nat) (_x1 : Int × List Int) :
    exec (C_order_Check _N) (cAt (bodyOf Tryd.f37) [1, 1, 1]) A_order_Check_26 [(1, .ptr 0 0), (2, .ptr 1 0)] [.cells [.int .i64 _x1.1, .sl (.int .u32) _x1.2], .cells [.int .i64 (0 : Int)]] (canonR (fun _i _t _h => none) (finK (C_order_Check _N) [.cell 2 32] (finD Rk_order_Check))) = order_Check_26 _N _x1 :=
  (seq_frag (by kernel_rfl) rfl).trans ((order_Check_24e _N _x1 _).trans (congrArg (fun _z => order_Check_24 _N _x1 _z) (order_Check_25e _N _x1)))
noncomputable def order_Check_27 (_N : Nat) (_x1 : Int × List Int) : Option Rt_order_Check :=
  order_Check_3 _N _x1 (order_Check_26 _N _x1)
abbrev A_order_Check_27 : Ann := .two .none (.keep [1, 2] 2 (.two (.two .none (.keep [1, 2, 27, 28, 29] 2 (.one (.loop [1, 2, 27, 28, 29] 2 (.two .none (.keep [1, 2, 27, 28, 29, 30] 2 (.two .none (.keep [1, 2, 27, 28, 29] 2 (.two (.one (.two .none (.keep [1, 2, 3, 4, 27, 28, 29] 4 (.two .none (.keep [1, 2, 3, 4, 27, 28, 29] 4 (.two A_order_Check_9 (.keep [1, 2, 3, 4, 27, 28, 29, 42] 4 (.one (.keep [1, 2, 3, 4, 27, 28, 29, 42] 4 (.each 4 .none (.keep [1, 2, 3, 4, 5] 4 A_order_Check_11))))))))))) (.keep [1, 2, 27, 28, 29] 4 .none)))))))))) (.keep [2] 2 .none)))
theorem order_Check_27e (_N : Nat) (_x1 : Int × List Int) :
    exec (C_order_Check _N) (cAt (bodyOf Tryd.f37) [1, 1]) A_order_Check_27 [(1, .ptr 0 0), (2, .ptr 1 0)] [.cells [.int .i64 _x1.1, .sl (.int .u32) _x1.2], .cells [.int .i64 (0 : Int)]] (canonR (fun _i _t _h => none) (finK (C_order_Check _N) [.cell 2 32] (finD Rk_order_Check))) = order_Check_27 _N _x1 :=
  (seq_frag (by kernel_rfl) rfl).trans ((order_Check_3e _N _x1 _).trans (congrArg (fun _z => order_Check_3 _N _x1 _z) (order_Check_26e _N _x1)))
noncomputable def order_Check_28 (_N : Nat) (_x1 : Int × List Int) : Option Rt_order_Check :=
  order_Check_2 _N _x1 (order_Check_27 _N _x1)
abbrev A_order_Check_28 : Ann := .two .none (.keep [1, 2] 2 (.two .none (.keep [1, 2] 2 (.two (.two .none (.keep [1, 2, 27, 28, 29] 2 (.one (.loop [1, 2, 27, 28, 29] 2 (.two .none (.keep [1, 2, 27, 28, 29, 30] 2 (.two .none (.keep [1, 2, 27, 28, 29] 2 (.two (.one (.two .none (.keep [1, 2, 3, 4, 27, 28, 29] 4 (.two .none (.keep [1, 2, 3, 4, 27, 28, 29] 4 (.two A_order_Check_9 (.keep [1, 2, 3, 4, 27, 28, 29, 42] 4 (.one (.keep [1, 2, 3, 4, 27, 28, 29, 42] 4 (.each 4 .none (.keep [1, 2, 3, 4, 5] 4 A_order_Check_11))))))))))) (.keep [1, 2, 27, 28, 29] 4 .none)))))))))) (.keep [2] 2 .none)))))
theorem order_Check_28e (_N : Nat) (_x1 : Int × List Int) :
    exec (C_order_Check _N) (cAt (bodyOf Tryd.f37) [1]) A_order_Check_28 [(1, .ptr 0 0), (2, .ptr 1 0)] [.cells [.int .i64 _x1.1, .sl (.int .u32) _x1.2], .cells [.int .i64 (0 : Int)]] (canonR (fun _i _t _h => none) (finK (C_order_Check _N) [.cell 2 32] (finD Rk_order_Check))) = order_Check_28 _N _x1 :=
  (seq_frag (by kernel_rfl) rfl).trans ((order_Check_2e _N _x1 _).trans (congrArg (fun _z => order_Check_2 _N _x1 _z) (order_Check_27e _N _x1)))
noncomputable def order_Check_29 (_N : Nat) (_x1 : Int × List Int) : Option Rt_order_Check :=
  order_Check_1 _N (order_Check_28 _N _x1)
abbrev A_order_Check_29 : Ann := .two .none (.keep [1, 2] 2 (.two .none (.keep [1, 2] 2 (.two .none (.keep [1, 2] 2 (.two (.two .none (.keep [1, 2, 27, 28, 29] 2 (.one (.loop [1, 2, 27, 28, 29] 2 (.two .none (.keep [1, 2, 27, 28, 29, 30] 2 (.two .none (.keep [1, 2, 27, 28, 29] 2 (.two (.one (.two .none (.keep [1, 2, 3, 4, 27, 28, 29] 4 (.two .none (.keep [1, 2, 3, 4, 27, 28, 29] 4 (.two A_order_Check_9 (.keep [1, 2, 3, 4, 27, 28, 29, 42] 4 (.one (.keep [1, 2, 3, 4, 27, 28, 29, 42] 4 (.each 4 .none (.keep [1, 2, 3, 4, 5] 4 A_order_Check_11))))))))))) (.keep [1, 2, 27, 28, 29] 4 .none)))))))))) (.keep [2] 2 .none)))))))
theorem order_Check_29e (_N : Nat) (_x1 : Int × List Int) :
    exec (C_order_Check _N) (cAt (bodyOf Tryd.f37) []) A_order_Check_29 [(0, .agg [.int .i64 _x1.1, .sl (.int .u32) _x1.2])] [] (canonR (fun _i _t _h => none) (finK (C_order_Check _N) [.cell 2 32] (finD Rk_order_Check))) = order_Check_29 _N _x1 :=
  (seq_frag (by kernel_rfl) rfl).trans ((order_Check_1e _N _x1 _).trans (congrArg (fun _z => order_Check_1 _N _z) (order_Check_28e _N _x1)))
noncomputable def D_order_Check (_N : Nat) (x : Dens Ks_order_Check) : Option Rt_order_Check := order_Check_29 _N x.1
theorem E_order_Check (_N : Nat) (x : Dens Ks_order_Check) : exec (C_order_Check _N) (bodyOf Tryd.f37) (.two .none (.keep [1, 2] 2 (.two .none (.keep [1, 2] 2 (.two .none (.keep [1, 2] 2 (.two (.two .none (.keep [1, 2, 27, 28, 29] 2 (.one (.loop [1, 2, 27, 28, 29] 2 (.two .none (.keep [1, 2, 27, 28, 29, 30] 2 (.two .none (.keep [1, 2, 27, 28, 29] 2 (.two (.one (.two .none (.keep [1, 2, 3, 4, 27, 28, 29] 4 (.two .none (.keep [1, 2, 3, 4, 27, 28, 29] 4 (.two A_order_Check_9 (.keep [1, 2, 3, 4, 27, 28, 29, 42] 4 (.one (.keep [1, 2, 3, 4, 27, 28, 29, 42] 4 (.each 4 .none (.keep [1, 2, 3, 4, 5] 4 A_order_Check_11))))))))))) (.keep [1, 2, 27, 28, 29] 4 .none)))))))))) (.keep [2] 2 .none)))))))) (argS 0 (kvals Ks_order_Check x)) [] (finK (C_order_Check _N) [.cell 2 32] (finD Rk_order_Check)) = D_order_Check _N x :=
  (congrArg (fun K => exec (C_order_Check _N) (bodyOf Tryd.f37) (.two .none (.keep [1, 2] 2 (.two .none (.keep [1, 2] 2 (.two .none (.keep [1, 2] 2 (.two (.two .none (.keep [1, 2, 27, 28, 29] 2 (.one (.loop [1, 2, 27, 28, 29] 2 (.two .none (.keep [1, 2, 27, 28, 29, 30] 2 (.two .none (.keep [1, 2, 27, 28, 29] 2 (.two (.one (.two .none (.keep [1, 2, 3, 4, 27, 28, 29] 4 (.two .none (.keep [1, 2, 3, 4, 27, 28, 29] 4 (.two A_order_Check_9 (.keep [1, 2, 3, 4, 27, 28, 29, 42] 4 (.one (.keep [1, 2, 3, 4, 27, 28, 29, 42] 4 (.each 4 .none (.keep [1, 2, 3, 4, 5] 4 A_order_Check_11))))))))))) (.keep [1, 2, 27, 28, 29] 4 .none)))))))))) (.keep [2] 2 .none)))))))) (argS 0 (kvals Ks_order_Check x)) [] K) canonR_fin).trans (order_Check_29e _N x.1)
theorem ok_order_Check (_N : Nat) : CtxOk Tryd.prog Gs Tryd.f37 (C_order_Check _N) := ⟨rfl, by unfold TOk; kernel_rfl, gOk_of rfl rfl (List.forall_mem_cons.2 ⟨en_slices_ContainsFunc_Luint32_uint32_order_Check_c1 _N, (List.forall_mem_cons.2 ⟨en_sets_Has_uint32 _N, (List.forall_mem_cons.2 ⟨en_sets_One _N, (List.forall_mem_cons.2 ⟨en_sets_Each_uint32 _N, (List.forall_mem_nil _)⟩)⟩)⟩)⟩), iOk_of rfl rfl (List.forall_mem_cons.2 ⟨en_each, (List.forall_mem_nil _)⟩), rfl⟩
theorem hb_order_Check : HasBody Tryd.prog 37 := ⟨Tryd.f37, bodyOf Tryd.f37, by kernel_rfl, by kernel_rfl, rfl⟩
theorem sp_order_Check (_N : Nat) : SpecD Tryd.prog Gs 37 Ks_order_Check Rk_order_Check (D_order_Check _N) := specD_of (c := bodyOf Tryd.f37) (by kernel_rfl) rfl (by kernel_rfl) (Nat.le_of_ble_eq_true (by kernel_rfl)) fun x y _h => ⟨C_order_Check _N, (.two .none (.keep [1, 2] 2 (.two .none (.keep [1, 2] 2 (.two .none (.keep [1, 2] 2 (.two (.two .none (.keep [1, 2, 27, 28, 29] 2 (.one (.loop [1, 2, 27, 28, 29] 2 (.two .none (.keep [1, 2, 27, 28, 29, 30] 2 (.two .none (.keep [1, 2, 27, 28, 29] 2 (.two (.one (.two .none (.keep [1, 2, 3, 4, 27, 28, 29] 4 (.two .none (.keep [1, 2, 3, 4, 27, 28, 29] 4 (.two A_order_Check_9 (.keep [1, 2, 3, 4, 27, 28, 29, 42] 4 (.one (.keep [1, 2, 3, 4, 27, 28, 29, 42] 4 (.each 4 .none (.keep [1, 2, 3, 4, 5] 4 A_order_Check_11))))))))))) (.keep [1, 2, 27, 28, 29] 4 .none)))))))))) (.keep [2] 2 .none)))))))), ok_order_Check _N, (E_order_Check _N x).trans _h⟩
theorem en_order_Check (_N : Nat) : EntOk Tryd.prog Gs (mkP 37 Ks_order_Check Rk_order_Check (D_order_Check _N)) := entP hb_order_Check (by kernel_rfl) (sp_order_Check _N)
-- watershed/watershedkeep.sound
abbrev Ks_keep_sound : List Kd := [.dat (.pair (.int .i64) (.sl (.int .u32)))]
abbrev Rk_keep_sound : List Kd := [.dat (.bool)]
abbrev Rt_keep_sound : Type := Dens Rk_keep_sound
def T_keep_sound : List (Nat × TE) := [(24, ⟨.struct [(0, 3), (1, 22)], 2, 32, some (.pair (.int .i64) (.sl (.int .u32))), [.int .i64 (0 : Int), .nil]⟩)]
noncomputable def C_keep_sound (_N : Nat) : Ctx := { T := T_keep_sound, G := findE [mkP 57 Ks_ref_OrderCheck Rk_ref_OrderCheck (D_ref_OrderCheck _N)], I := findI [], N := _N, n := 6, fx := [], fl := 0, gs := Gs }
noncomputable def keep_sound_1 (_N : Nat) (_x1 : Int × List Int) : Option Rt_keep_sound :=
  ((D_ref_OrderCheck _N ((_x1.1, _x1.2), ())).bind fun _y2 => (some ((_y2.1 == (0 : Int)), ())))
theorem keep_sound_1e (_N : Nat) (_x1 : Int × List Int) :
    exec (C_keep_sound _N) (cAt (bodyOf Tryd.f35) []) .none [(0, .agg [.int .i64 _x1.1, .sl (.int .u32) _x1.2])] [] (canonR (fun _i _t _h => none) (finK (C_keep_sound _N) [.tmp 2] (finD Rk_keep_sound))) = keep_sound_1 _N _x1 :=
  by kernel_rfl
noncomputable def D_keep_sound (_N : Nat) (x : Dens Ks_keep_sound) : Option Rt_keep_sound := keep_sound_1 _N x.1
theorem E_keep_sound (_N : Nat) (x : Dens Ks_keep_sound) : exec (C_keep_sound _N) (bodyOf Tryd.f35) .none (argS 0 (kvals Ks_keep_sound x)) [] (finK (C_keep_sound _N) [.tmp 2] (finD Rk_keep_sound)) = D_keep_sound _N x :=
  (congrArg (fun K => exec (C_keep_sound _N) (bodyOf Tryd.f35) .none (argS 0 (kvals Ks_keep_sound x)) [] K) canonR_fin).trans (keep_sound_1e _N x.1)
theorem ok_keep_sound (_N : Nat) : CtxOk Tryd.prog Gs Tryd.f35 (C_keep_sound _N) := ⟨rfl, by unfold TOk; kernel_rfl, gOk_of rfl rfl (List.forall_mem_cons.2 ⟨en_ref_OrderCheck _N, (List.forall_mem_nil _)⟩), iOk_of rfl rfl (List.forall_mem_nil _), rfl⟩
theorem hb_keep_sound : HasBody Tryd.prog 35 := ⟨Tryd.f35, bodyOf Tryd.f35, by kernel_rfl, by kernel_rfl, rfl⟩
theorem sp_keep_sound (_N : Nat) : SpecD Tryd.prog Gs 35 Ks_keep_sound Rk_keep_sound (D_keep_sound _N) := specD_of (c := bodyOf Tryd.f35) (by kernel_rfl) rfl (by kernel_rfl) (Nat.le_of_ble_eq_true (by kernel_rfl)) fun x y _h => ⟨C_keep_sound _N, .none, ok_keep_sound _N, (E_keep_sound _N x).trans _h⟩
theorem en_keep_sound (_N : Nat) : EntOk Tryd.prog Gs (mkP 35 Ks_keep_sound Rk_keep_sound (D_keep_sound _N)) := entP hb_keep_sound (by kernel_rfl) (sp_keep_sound _N)
-- watershed/watershedkeep.within
abbrev Ks_keep_within : List Kd := [.dat (.int .i64), .dat (.sl (.int .i64))]
abbrev Rk_keep_within : List Kd := [.dat (.bool)]
abbrev Rt_keep_within : Type := Dens Rk_keep_within
def T_keep_within : List (Nat × TE) := [(3, ⟨.int .i64, 1, 8, some (.int .i64), [.int .i64 (0 : Int)]⟩),
  (25, ⟨.slice 3, 1, 24, some (.sl (.int .i64)), [.nil]⟩)]
noncomputable def C_keep_within (_N : Nat) : Ctx := { T := T_keep_within, G := findE [], I := findI [], N := _N, n := 21, fx := [], fl := 0, gs := Gs }
noncomputable def keep_within_1 (_N : Nat) (_k3 : Option Rt_keep_within) : Option Rt_keep_within :=
  _k3
theorem keep_within_1e (_N : Nat) (_x1 : Int) (_x2 : List Int) (_k3 : Ko Rt_keep_within) :
    exec (C_keep_within _N) (cAt (bodyOf Tryd.f20) [0]) .none [(0, .int .i64 _x1), (1, .sl (.int .i64) _x2)] [] (canonK [] _k3 [0, 1] 0 (fun _i _t _h => none) (fun _t _h => finK (C_keep_within _N) [.tmp 4] (finD Rk_keep_within) .ret _t _h)) = keep_within_1 _N (_k3 [(0, .int .i64 _x1), (1, .sl (.int .i64) _x2)] []) :=
  by kernel_rfl
noncomputable def keep_within_2 (_N : Nat) (_k5 : Option Rt_keep_within) : Option Rt_keep_within :=
  _k5
theorem keep_within_2e (_N : Nat) (_x1 : Int) (_x2 : List Int) (_k5 : Ko Rt_keep_within) :
    exec (C_keep_within _N) (cAt (bodyOf Tryd.f20) [1, 0, 0]) .none [(0, .int .i64 _x1), (1, .sl (.int .i64) _x2)] [] (canonK [] _k5 [0, 7, 8, 9] 0 (fun _i _t _h => none) (fun _t _h => finK (C_keep_within _N) [.tmp 4] (finD Rk_keep_within) .ret _t _h)) = keep_within_2 _N (_k5 [(0, .int .i64 _x1), (7, .sl (.int .i64) _x2), (8, .int .i64 (_x2.length : Int)), (9, .int .i64 (0 : Int))] []) :=
  by kernel_rfl
noncomputable def keep_within_3 (_N : Nat) (_x1 : Int) (_x2 : List Int) (_v1 : Int) (_k6 : Int → Option Rt_keep_within) (_k4 : Option Rt_keep_within) : Option Rt_keep_within :=
  (bif (decide (_v1 < (_x2.length : Int))) then (bif (decide (0 ≤ _v1) && decide (_v1 < (_x2.length : Int))) then (bif (decide ((nth (0 : Int) _x2 (_v1).toNat) < (0 : Int))) then (some (false, ())) else (bif (decide ((nth (0 : Int) _x2 (_v1).toNat) ≥ _x1)) then (some (false, ())) else (_k6 (IntKind.i64.wrap (_v1 + (1 : Int)))))) else none) else _k4)
theorem keep_within_3e (_N : Nat) (_x1 : Int) (_x2 : List Int) (_v1 : Int) (_k6 _k4 : Ko Rt_keep_within) :
    exec (C_keep_within _N) (cAt (bodyOf Tryd.f20) [1, 0, 1, 0, 0]) .none [(0, .int .i64 _x1), (7, .sl (.int .i64) _x2), (8, .int .i64 (_x2.length : Int)), (9, .int .i64 _v1)] [] (canonK [] _k6 [0, 7, 8, 9] 0 (fun _i _t _h => wo 0 _k4 [] [] 0 _i _t _h none) (fun _t _h => finK (C_keep_within _N) [.tmp 4] (finD Rk_keep_within) .ret _t _h)) = keep_within_3 _N _x1 _x2 _v1 (fun _v1 => _k6 [(0, .int .i64 _x1), (7, .sl (.int .i64) _x2), (8, .int .i64 (_x2.length : Int)), (9, .int .i64 _v1)] []) (_k4 [] []) :=
  by kernel_rfl
noncomputable def keep_within_4 (_N : Nat) (_x1 : Int) (_x2 : List Int) (_k4 : Option Rt_keep_within) : Option Rt_keep_within :=
  loopD (fun (_s : Int) _kn => keep_within_3 _N _x1 _x2 _s (fun _v1 => _kn _v1) _k4) _N (0 : Int)
theorem keep_within_4e (_N : Nat) (_x1 : Int) (_x2 : List Int) (_k4 : Ko Rt_keep_within) :
    exec (C_keep_within _N) (cAt (bodyOf Tryd.f20) [1, 0, 1, 0]) (.loop [0, 7, 8, 9] 0 .none) [(0, .int .i64 _x1), (7, .sl (.int .i64) _x2), (8, .int .i64 (_x2.length : Int)), (9, .int .i64 (0 : Int))] [] (canonK [] _k4 [] 0 (fun _i _t _h => wo 0 _k4 [] [] 0 _i _t _h none) (fun _t _h => finK (C_keep_within _N) [.tmp 4] (finD Rk_keep_within) .ret _t _h)) = keep_within_4 _N _x1 _x2 (_k4 [] []) :=
  (loop_frag (by kernel_rfl) rfl (by kernel_rfl) (by kernel_rfl)).trans (loopN_sim (S := Int) (fun _s => [(0, .int .i64 _x1), (7, .sl (.int .i64) _x2), (8, .int .i64 (_x2.length : Int)), (9, .int .i64 _s)]) (fun _s => []) (fun _s _kn => keep_within_3e _N _x1 _x2 _s _kn _k4) _N (0 : Int))
noncomputable def keep_within_5 (_N : Nat) (_x1 : Int) (_x2 : List Int) (_k4 : Option Rt_keep_within) : Option Rt_keep_within :=
  keep_within_4 _N _x1 _x2 _k4
theorem keep_within_5e (_N : Nat) (_x1 : Int) (_x2 : List Int) (_k4 : Ko Rt_keep_within) :
    exec (C_keep_within _N) (cAt (bodyOf Tryd.f20) [1, 0, 1]) (.one (.loop [0, 7, 8, 9] 0 .none)) [(0, .int .i64 _x1), (7, .sl (.int .i64) _x2), (8, .int .i64 (_x2.length : Int)), (9, .int .i64 (0 : Int))] [] (canonK [] _k4 [] 0 (fun _i _t _h => none) (fun _t _h => finK (C_keep_within _N) [.tmp 4] (finD Rk_keep_within) .ret _t _h)) = keep_within_5 _N _x1 _x2 (_k4 [] []) :=
  (block_canon (by kernel_rfl)).trans (keep_within_4e _N _x1 _x2 _k4)
noncomputable def keep_within_6 (_N : Nat) (_x1 : Int) (_x2 : List Int) (_k4 : Option Rt_keep_within) : Option Rt_keep_within :=
  keep_within_2 _N (keep_within_5 _N _x1 _x2 _k4)
abbrev A_keep_within_6 : Ann := .two .none (.keep [0, 7, 8, 9] 0 (.one (.loop [0, 7, 8, 9] 0 .none)))
theorem keep_within_6e (_N : Nat) (_x1 : Int) (_x2 : List Int) (_k4 : Ko Rt_keep_within) :
    exec (C_keep_within _N) (cAt (bodyOf Tryd.f20) [1, 0]) A_keep_within_6 [(0, .int .i64 _x1), (1, .sl (.int .i64) _x2)] [] (canonK [] _k4 [] 0 (fun _i _t _h => none) (fun _t _h => finK (C_keep_within _N) [.tmp 4] (finD Rk_keep_within) .ret _t _h)) = keep_within_6 _N _x1 _x2 (_k4 [] []) :=
  (seq_frag (by kernel_rfl) rfl).trans ((keep_within_2e _N _x1 _x2 _).trans (congrArg (fun _z => keep_within_2 _N _z) (keep_within_5e _N _x1 _x2 _k4)))
noncomputable def keep_within_7 (_N : Nat) : Option Rt_keep_within :=
  (some (true, ()))
theorem keep_within_7e (_N : Nat) (_x1 : Int) (_x2 : List Int) :
    exec (C_keep_within _N) (cAt (bodyOf Tryd.f20) [1, 1]) .none [] [] (canonR (fun _i _t _h => none) (finK (C_keep_within _N) [.tmp 4] (finD Rk_keep_within))) = keep_within_7 _N :=
  by kernel_rfl
noncomputable def keep_within_8 (_N : Nat) (_x1 : Int) (_x2 : List Int) : Option Rt_keep_within :=
  keep_within_6 _N _x1 _x2 (keep_within_7 _N)
abbrev A_keep_within_8 : Ann := .two A_keep_within_6 (.keep [] 0 .none)
theorem keep_within_8e (_N : Nat) (_x1 : Int) (_x2 : List Int) :
    exec (C_keep_within _N) (cAt (bodyOf Tryd.f20) [1]) A_keep_within_8 [(0, .int .i64 _x1), (1, .sl (.int .i64) _x2)] [] (canonR (fun _i _t _h => none) (finK (C_keep_within _N) [.tmp 4] (finD Rk_keep_within))) = keep_within_8 _N _x1 _x2 :=
  (seq_frag (by kernel_rfl) rfl).trans ((keep_within_6e _N _x1 _x2 _).trans (congrArg (fun _z => keep_within_6 _N _x1 _x2 _z) (keep_within_7e _N _x1 _x2)))
noncomputable def keep_within_9 (_N : Nat) (_x1 : Int) (_x2 : List Int) : Option Rt_keep_within :=
  keep_within_1 _N (keep_within_8 _N _x1 _x2)
abbrev A_keep_within_9 : Ann := .two .none (.keep [0, 1] 0 (.two A_keep_within_6 (.keep [] 0 .none)))
theorem keep_within_9e (_N : Nat) (_x1 : Int) (_x2 : List Int) :
    exec (C_keep_within _N) (cAt (bodyOf Tryd.f20) []) A_keep_within_9 [(0, .int .i64 _x1), (1, .sl (.int .i64) _x2)] [] (canonR (fun _i _t _h => none) (finK (C_keep_within _N) [.tmp 4] (finD Rk_keep_within))) = keep_within_9 _N _x1 _x2 :=
  (seq_frag (by kernel_rfl) rfl).trans ((keep_within_1e _N _x1 _x2 _).trans (congrArg (fun _z => keep_within_1 _N _z) (keep_within_8e _N _x1 _x2)))
noncomputable def D_keep_within (_N : Nat) (x : Dens Ks_keep_within) : Option Rt_keep_within := keep_within_9 _N x.1 x.2.1
theorem E_keep_within (_N : Nat) (x : Dens Ks_keep_within) : exec (C_keep_within _N) (bodyOf Tryd.f20) (.two .none (.keep [0, 1] 0 (.two A_keep_within_6 (.keep [] 0 .none)))) (argS 0 (kvals Ks_keep_within x)) [] (finK (C_keep_within _N) [.tmp 4] (finD Rk_keep_within)) = D_keep_within _N x :=
  (congrArg (fun K => exec (C_keep_within _N) (bodyOf Tryd.f20) (.two .none (.keep [0, 1] 0 (.two A_keep_within_6 (.keep [] 0 .none)))) (argS 0 (kvals Ks_keep_within x)) [] K) canonR_fin).trans (keep_within_9e _N x.1 x.2.1)
theorem ok_keep_within (_N : Nat) : CtxOk Tryd.prog Gs Tryd.f20 (C_keep_within _N) := ⟨rfl, by unfold TOk; kernel_rfl, gOk_of rfl rfl (List.forall_mem_nil _), iOk_of rfl rfl (List.forall_mem_nil _), rfl⟩
theorem hb_keep_within : HasBody Tryd.prog 20 := ⟨Tryd.f20, bodyOf Tryd.f20, by kernel_rfl, by kernel_rfl, rfl⟩
theorem sp_keep_within (_N : Nat) : SpecD Tryd.prog Gs 20 Ks_keep_within Rk_keep_within (D_keep_within _N) := specD_of (c := bodyOf Tryd.f20) (by kernel_rfl) rfl (by kernel_rfl) (Nat.le_of_ble_eq_true (by kernel_rfl)) fun x y _h => ⟨C_keep_within _N, (.two .none (.keep [0, 1] 0 (.two A_keep_within_6 (.keep [] 0 .none)))), ok_keep_within _N, (E_keep_within _N x).trans _h⟩
theorem en_keep_within (_N : Nat) : EntOk Tryd.prog Gs (mkP 20 Ks_keep_within Rk_keep_within (D_keep_within _N)) := entP hb_keep_within (by kernel_rfl) (sp_keep_within _N)
-- watershed/watershedkeep.below
abbrev Ks_keep_below : List Kd := [.dat (.pair (.int .i64) (.sl (.int .u32))), .dat (.int .i64), .dat (.int .i64)]
abbrev Rk_keep_below : List Kd := [.dat (.bool)]
abbrev Rt_keep_below : Type := Dens Rk_keep_below
def T_keep_below : List (Nat × TE) := [(22, ⟨.slice 49, 1, 24, some (.sl (.int .u32)), [.nil]⟩),
  (24, ⟨.struct [(0, 3), (1, 22)], 2, 32, some (.pair (.int .i64) (.sl (.int .u32))), [.int .i64 (0 : Int), .nil]⟩),
  (49, ⟨.int .u32, 1, 4, some (.int .u32), [.int .u32 (0 : Int)]⟩)]
noncomputable def C_keep_below (_N : Nat) : Ctx := { T := T_keep_below, G := findE [mkP 28 Ks_ref_Bit Rk_ref_Bit (D_ref_Bit _N)], I := findI [], N := _N, n := 14, fx := [], fl := 0, gs := Gs }
noncomputable def keep_below_1 (_N : Nat) (_x1 : Int × List Int) (_x2 : Int) (_x3 : Int) : Option Rt_keep_below :=
  (bif (decide (0 ≤ _x2) && decide (_x2 < (_x1.2.length : Int))) then ((D_ref_Bit _N ((nth (0 : Int) _x1.2 (_x2).toNat), _x3, ())).bind fun _y2 => (some (_y2.1, ()))) else none)
theorem keep_below_1e (_N : Nat) (_x1 : Int × List Int) (_x2 : Int) (_x3 : Int) :
    exec (C_keep_below _N) (cAt (bodyOf Tryd.f25) []) .none [(0, .agg [.int .i64 _x1.1, .sl (.int .u32) _x1.2]), (1, .int .i64 _x2), (2, .int .i64 _x3)] [] (canonR (fun _i _t _h => none) (finK (C_keep_below _N) [.tmp 6] (finD Rk_keep_below))) = keep_below_1 _N _x1 _x2 _x3 :=
  by kernel_rfl
noncomputable def D_keep_below (_N : Nat) (x : Dens Ks_keep_below) : Option Rt_keep_below := keep_below_1 _N x.1 x.2.1 x.2.2.1
theorem E_keep_below (_N : Nat) (x : Dens Ks_keep_below) : exec (C_keep_below _N) (bodyOf Tryd.f25) .none (argS 0 (kvals Ks_keep_below x)) [] (finK (C_keep_below _N) [.tmp 6] (finD Rk_keep_below)) = D_keep_below _N x :=
  (congrArg (fun K => exec (C_keep_below _N) (bodyOf Tryd.f25) .none (argS 0 (kvals Ks_keep_below x)) [] K) canonR_fin).trans (keep_below_1e _N x.1 x.2.1 x.2.2.1)
theorem ok_keep_below (_N : Nat) : CtxOk Tryd.prog Gs Tryd.f25 (C_keep_below _N) := ⟨rfl, by unfold TOk; kernel_rfl, gOk_of rfl rfl (List.forall_mem_cons.2 ⟨en_ref_Bit _N, (List.forall_mem_nil _)⟩), iOk_of rfl rfl (List.forall_mem_nil _), rfl⟩
theorem hb_keep_below : HasBody Tryd.prog 25 := ⟨Tryd.f25, bodyOf Tryd.f25, by kernel_rfl, by kernel_rfl, rfl⟩
theorem sp_keep_below (_N : Nat) : SpecD Tryd.prog Gs 25 Ks_keep_below Rk_keep_below (D_keep_below _N) := specD_of (c := bodyOf Tryd.f25) (by kernel_rfl) rfl (by kernel_rfl) (Nat.le_of_ble_eq_true (by kernel_rfl)) fun x y _h => ⟨C_keep_below _N, .none, ok_keep_below _N, (E_keep_below _N x).trans _h⟩
theorem en_keep_below (_N : Nat) : EntOk Tryd.prog Gs (mkP 25 Ks_keep_below Rk_keep_below (D_keep_below _N)) := entP hb_keep_below (by kernel_rfl) (sp_keep_below _N)
-- watershed/watershedkeep.under
abbrev Ks_keep_under : List Kd := [.dat (.pair (.int .i64) (.sl (.int .u32))), .dat (.int .i64), .dat (.int .i64)]
abbrev Rk_keep_under : List Kd := [.dat (.bool)]
abbrev Rt_keep_under : Type := Dens Rk_keep_under
def T_keep_under : List (Nat × TE) := [(24, ⟨.struct [(0, 3), (1, 22)], 2, 32, some (.pair (.int .i64) (.sl (.int .u32))), [.int .i64 (0 : Int), .nil]⟩)]
noncomputable def C_keep_under (_N : Nat) : Ctx := { T := T_keep_under, G := findE [mkP 25 Ks_keep_below Rk_keep_below (D_keep_below _N)], I := findI [], N := _N, n := 16, fx := [], fl := 0, gs := Gs }
noncomputable def keep_under_1 (_N : Nat) (_x1 : Int × List Int) (_x2 : Int) (_x3 : Int) : Option Rt_keep_under :=
  (bif (_x2 != _x3) then ((D_keep_below _N ((_x1.1, _x1.2), _x2, _x3, ())).bind fun _y2 => (some (_y2.1, ()))) else (some (false, ())))
theorem keep_under_1e (_N : Nat) (_x1 : Int × List Int) (_x2 : Int) (_x3 : Int) :
    exec (C_keep_under _N) (cAt (bodyOf Tryd.f23) []) .none [(0, .agg [.int .i64 _x1.1, .sl (.int .u32) _x1.2]), (1, .int .i64 _x2), (2, .int .i64 _x3)] [] (canonR (fun _i _t _h => none) (finK (C_keep_under _N) [.tmp 6] (finD Rk_keep_under))) = keep_under_1 _N _x1 _x2 _x3 :=
  by kernel_rfl
noncomputable def D_keep_under (_N : Nat) (x : Dens Ks_keep_under) : Option Rt_keep_under := keep_under_1 _N x.1 x.2.1 x.2.2.1
theorem E_keep_under (_N : Nat) (x : Dens Ks_keep_under) : exec (C_keep_under _N) (bodyOf Tryd.f23) .none (argS 0 (kvals Ks_keep_under x)) [] (finK (C_keep_under _N) [.tmp 6] (finD Rk_keep_under)) = D_keep_under _N x :=
  (congrArg (fun K => exec (C_keep_under _N) (bodyOf Tryd.f23) .none (argS 0 (kvals Ks_keep_under x)) [] K) canonR_fin).trans (keep_under_1e _N x.1 x.2.1 x.2.2.1)
theorem ok_keep_under (_N : Nat) : CtxOk Tryd.prog Gs Tryd.f23 (C_keep_under _N) := ⟨rfl, by unfold TOk; kernel_rfl, gOk_of rfl rfl (List.forall_mem_cons.2 ⟨en_keep_below _N, (List.forall_mem_nil _)⟩), iOk_of rfl rfl (List.forall_mem_nil _), rfl⟩
theorem hb_keep_under : HasBody Tryd.prog 23 := ⟨Tryd.f23, bodyOf Tryd.f23, by kernel_rfl, by kernel_rfl, rfl⟩
theorem sp_keep_under (_N : Nat) : SpecD Tryd.prog Gs 23 Ks_keep_under Rk_keep_under (D_keep_under _N) := specD_of (c := bodyOf Tryd.f23) (by kernel_rfl) rfl (by kernel_rfl) (Nat.le_of_ble_eq_true (by kernel_rfl)) fun x y _h => ⟨C_keep_under _N, .none, ok_keep_under _N, (E_keep_under _N x).trans _h⟩
theorem en_keep_under (_N : Nat) : EntOk Tryd.prog Gs (mkP 23 Ks_keep_under Rk_keep_under (D_keep_under _N)) := entP hb_keep_under (by kernel_rfl) (sp_keep_under _N)
end Go.Proofs.YtdbjfdjpmoackaaDoor
