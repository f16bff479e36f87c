/- sets: words as sets of numbers. -/
import Derived.Test.YtdbjfdjpmoackaaDoorAbsLp
import Derived.Test.YtdbjfdjpmoackaaDoorAbsOpn
import Derived.Test.YtdbjfdjpmoackaaDoorProg
import Derived.KernelRfl
namespace Go.Proofs.YtdbjfdjpmoackaaDoor
open Go.Abs
def bodyOf (f : Func) : Code := f.body.getD .skip
def tab : List Int := [0, 1, 56, 2, 57, 49, 28, 3, 61, 58, 42, 50, 38, 29, 17, 4, 62, 47, 59, 36, 45, 43, 51, 22, 53, 39, 33, 30, 24, 18, 12, 5, 63, 55, 48, 27, 60, 41, 37, 16, 46, 35, 44, 21, 52, 32, 23, 11, 54, 26, 40, 15, 34, 20, 31, 10, 25, 14, 19, 9, 13, 8, 7, 6]
def Gs : List (Nat × List Value) := [(0, tab.map fun z => .int .u8 z)]
-- watershed/sets.All
abbrev Ks_sets_All : List Kd := [.dat (.int .i64)]
abbrev Rk_sets_All : List Kd := [.dat (.int .u32)]
abbrev Rt_sets_All : Type := Dens Rk_sets_All
def T_sets_All : List (Nat × TE) := []
noncomputable def C_sets_All (_N : Nat) : Ctx := { T := T_sets_All, G := findE [], I := findI [], N := _N, n := 6, fx := [], fl := 0, gs := Gs }
noncomputable def sets_All_1 (_N : Nat) (_x1 : Int) : Option Rt_sets_All :=
  (bif (decide (_x1 < 0)) then none else (some ((IntKind.u32.wrap ((ishl .u32 (1 : Int) _x1) - (1 : Int))), ())))
theorem sets_All_1e (_N : Nat) (_x1 : Int) :
    exec (C_sets_All _N) (cAt (bodyOf Tryd.f60) []) .none [(0, .int .i64 _x1)] [] (canonR (fun _i _t _h => none) (finK (C_sets_All _N) [.tmp 2] (finD Rk_sets_All))) = sets_All_1 _N _x1 :=
  by kernel_rfl
noncomputable def D_sets_All (_N : Nat) (x : Dens Ks_sets_All) : Option Rt_sets_All := sets_All_1 _N x.1
theorem E_sets_All (_N : Nat) (x : Dens Ks_sets_All) : exec (C_sets_All _N) (bodyOf Tryd.f60) .none (argS 0 (kvals Ks_sets_All x)) [] (finK (C_sets_All _N) [.tmp 2] (finD Rk_sets_All)) = D_sets_All _N x :=
  (congrArg (fun K => exec (C_sets_All _N) (bodyOf Tryd.f60) .none (argS 0 (kvals Ks_sets_All x)) [] K) canonR_fin).trans (sets_All_1e _N x.1)
theorem ok_sets_All (_N : Nat) : CtxOk Tryd.prog Gs Tryd.f60 (C_sets_All _N) := ⟨rfl, by unfold TOk; kernel_rfl, gOk_of rfl rfl (List.forall_mem_nil _), iOk_of rfl rfl (List.forall_mem_nil _), rfl⟩
theorem hb_sets_All : HasBody Tryd.prog 60 := ⟨Tryd.f60, bodyOf Tryd.f60, by kernel_rfl, by kernel_rfl, rfl⟩
theorem sp_sets_All (_N : Nat) : SpecD Tryd.prog Gs 60 Ks_sets_All Rk_sets_All (D_sets_All _N) := specD_of (c := bodyOf Tryd.f60) (by kernel_rfl) rfl (by kernel_rfl) (Nat.le_of_ble_eq_true (by kernel_rfl)) fun x y _h => ⟨C_sets_All _N, .none, ok_sets_All _N, (E_sets_All _N x).trans _h⟩
theorem en_sets_All (_N : Nat) : EntOk Tryd.prog Gs (mkP 60 Ks_sets_All Rk_sets_All (D_sets_All _N)) := entP hb_sets_All (by kernel_rfl) (sp_sets_All _N)
-- watershed/sets.One
abbrev Ks_sets_One : List Kd := [.dat (.int .i64)]
abbrev Rk_sets_One : List Kd := [.dat (.int .u32)]
abbrev Rt_sets_One : Type := Dens Rk_sets_One
def T_sets_One : List (Nat × TE) := []
noncomputable def C_sets_One (_N : Nat) : Ctx := { T := T_sets_One, G := findE [], I := findI [], N := _N, n := 5, fx := [], fl := 0, gs := Gs }
noncomputable def sets_One_1 (_N : Nat) (_x1 : Int) : Option Rt_sets_One :=
  (bif (decide (_x1 < 0)) then none else (some ((ishl .u32 (1 : Int) _x1), ())))
theorem sets_One_1e (_N : Nat) (_x1 : Int) :
    exec (C_sets_One _N) (cAt (bodyOf Tryd.f47) []) .none [(0, .int .i64 _x1)] [] (canonR (fun _i _t _h => none) (finK (C_sets_One _N) [.tmp 2] (finD Rk_sets_One))) = sets_One_1 _N _x1 :=
  by kernel_rfl
noncomputable def D_sets_One (_N : Nat) (x : Dens Ks_sets_One) : Option Rt_sets_One := sets_One_1 _N x.1
theorem E_sets_One (_N : Nat) (x : Dens Ks_sets_One) : exec (C_sets_One _N) (bodyOf Tryd.f47) .none (argS 0 (kvals Ks_sets_One x)) [] (finK (C_sets_One _N) [.tmp 2] (finD Rk_sets_One)) = D_sets_One _N x :=
  (congrArg (fun K => exec (C_sets_One _N) (bodyOf Tryd.f47) .none (argS 0 (kvals Ks_sets_One x)) [] K) canonR_fin).trans (sets_One_1e _N x.1)
theorem ok_sets_One (_N : Nat) : CtxOk Tryd.prog Gs Tryd.f47 (C_sets_One _N) := ⟨rfl, by unfold TOk; kernel_rfl, gOk_of rfl rfl (List.forall_mem_nil _), iOk_of rfl rfl (List.forall_mem_nil _), rfl⟩
theorem hb_sets_One : HasBody Tryd.prog 47 := ⟨Tryd.f47, bodyOf Tryd.f47, by kernel_rfl, by kernel_rfl, rfl⟩
theorem sp_sets_One (_N : Nat) : SpecD Tryd.prog Gs 47 Ks_sets_One Rk_sets_One (D_sets_One _N) := specD_of (c := bodyOf Tryd.f47) (by kernel_rfl) rfl (by kernel_rfl) (Nat.le_of_ble_eq_true (by kernel_rfl)) fun x y _h => ⟨C_sets_One _N, .none, ok_sets_One _N, (E_sets_One _N x).trans _h⟩
theorem en_sets_One (_N : Nat) : EntOk Tryd.prog Gs (mkP 47 Ks_sets_One Rk_sets_One (D_sets_One _N)) := entP hb_sets_One (by kernel_rfl) (sp_sets_One _N)
-- watershed/sets.Has[uint32]
abbrev Ks_sets_Has_uint32 : List Kd := [.dat (.int .u32), .dat (.int .i64)]
abbrev Rk_sets_Has_uint32 : List Kd := [.dat (.bool)]
abbrev Rt_sets_Has_uint32 : Type := Dens Rk_sets_Has_uint32
def T_sets_Has_uint32 : List (Nat × TE) := []
noncomputable def C_sets_Has_uint32 (_N : Nat) : Ctx := { T := T_sets_Has_uint32, G := findE [], I := findI [], N := _N, n := 10, fx := [], fl := 0, gs := Gs }
noncomputable def sets_Has_uint32_1 (_N : Nat) (_x1 : Int) (_x2 : Int) : Option Rt_sets_Has_uint32 :=
  (bif (decide (_x2 < 0)) then none else (some (((iand .u32 (ishr .u32 _x1 _x2) (1 : Int)) == (1 : Int)), ())))
theorem sets_Has_uint32_1e (_N : Nat) (_x1 : Int) (_x2 : Int) :
    exec (C_sets_Has_uint32 _N) (cAt (bodyOf Tryd.f61) []) .none [(0, .int .u32 _x1), (1, .int .i64 _x2)] [] (canonR (fun _i _t _h => none) (finK (C_sets_Has_uint32 _N) [.tmp 4] (finD Rk_sets_Has_uint32))) = sets_Has_uint32_1 _N _x1 _x2 :=
  by kernel_rfl
noncomputable def D_sets_Has_uint32 (_N : Nat) (x : Dens Ks_sets_Has_uint32) : Option Rt_sets_Has_uint32 := sets_Has_uint32_1 _N x.1 x.2.1
theorem E_sets_Has_uint32 (_N : Nat) (x : Dens Ks_sets_Has_uint32) : exec (C_sets_Has_uint32 _N) (bodyOf Tryd.f61) .none (argS 0 (kvals Ks_sets_Has_uint32 x)) [] (finK (C_sets_Has_uint32 _N) [.tmp 4] (finD Rk_sets_Has_uint32)) = D_sets_Has_uint32 _N x :=
  (congrArg (fun K => exec (C_sets_Has_uint32 _N) (bodyOf Tryd.f61) .none (argS 0 (kvals Ks_sets_Has_uint32 x)) [] K) canonR_fin).trans (sets_Has_uint32_1e _N x.1 x.2.1)
theorem ok_sets_Has_uint32 (_N : Nat) : CtxOk Tryd.prog Gs Tryd.f61 (C_sets_Has_uint32 _N) := ⟨rfl, by unfold TOk; kernel_rfl, gOk_of rfl rfl (List.forall_mem_nil _), iOk_of rfl rfl (List.forall_mem_nil _), rfl⟩
theorem hb_sets_Has_uint32 : HasBody Tryd.prog 61 := ⟨Tryd.f61, bodyOf Tryd.f61, by kernel_rfl, by kernel_rfl, rfl⟩
theorem sp_sets_Has_uint32 (_N : Nat) : SpecD Tryd.prog Gs 61 Ks_sets_Has_uint32 Rk_sets_Has_uint32 (D_sets_Has_uint32 _N) := specD_of (c := bodyOf Tryd.f61) (by kernel_rfl) rfl (by kernel_rfl) (Nat.le_of_ble_eq_true (by kernel_rfl)) fun x y _h => ⟨C_sets_Has_uint32 _N, .none, ok_sets_Has_uint32 _N, (E_sets_Has_uint32 _N x).trans _h⟩
theorem en_sets_Has_uint32 (_N : Nat) : EntOk Tryd.prog Gs (mkP 61 Ks_sets_Has_uint32 Rk_sets_Has_uint32 (D_sets_Has_uint32 _N)) := entP hb_sets_Has_uint32 (by kernel_rfl) (sp_sets_Has_uint32 _N)
-- watershed/sets.Each[uint32]
abbrev Ks_sets_Each_uint32 : List Kd := [.dat (.int .u32)]
abbrev Rt_sets_Each_uint32 : Type := Int
def T_sets_Each_uint32 : List (Nat × TE) := []
noncomputable def C_sets_Each_uint32 (_N : Nat) : Ctx := { T := T_sets_Each_uint32, G := findE [], I := findI [], N := _N, n := 4, fx := [], fl := 0, gs := Gs }
noncomputable def sets_Each_uint32_1 (_N : Nat) (_x1 : Int) : Option Rt_sets_Each_uint32 :=
  (some _x1)
theorem sets_Each_uint32_1e (_N : Nat) (_x1 : Int) :
    exec (C_sets_Each_uint32 _N) (cAt (bodyOf Tryd.f48) []) .none [(0, .int .u32 _x1)] [] (canonR (fun _i _t _h => none) (finK (C_sets_Each_uint32 _N) [.tmp 2] (finB 64 (.int .u32)))) = sets_Each_uint32_1 _N _x1 :=
  by kernel_rfl
noncomputable def D_sets_Each_uint32 (_N : Nat) (x : Dens Ks_sets_Each_uint32) : Option Rt_sets_Each_uint32 := sets_Each_uint32_1 _N x.1
theorem E_sets_Each_uint32 (_N : Nat) (x : Dens Ks_sets_Each_uint32) : exec (C_sets_Each_uint32 _N) (bodyOf Tryd.f48) .none (argS 0 (kvals Ks_sets_Each_uint32 x)) [] (finK (C_sets_Each_uint32 _N) [.tmp 2] (finB 64 (.int .u32))) = D_sets_Each_uint32 _N x :=
  (congrArg (fun K => exec (C_sets_Each_uint32 _N) (bodyOf Tryd.f48) .none (argS 0 (kvals Ks_sets_Each_uint32 x)) [] K) canonR_fin).trans (sets_Each_uint32_1e _N x.1)
theorem ok_sets_Each_uint32 (_N : Nat) : CtxOk Tryd.prog Gs Tryd.f48 (C_sets_Each_uint32 _N) := ⟨rfl, by unfold TOk; kernel_rfl, gOk_of rfl rfl (List.forall_mem_nil _), iOk_of rfl rfl (List.forall_mem_nil _), rfl⟩
theorem hb_sets_Each_uint32 : HasBody Tryd.prog 48 := ⟨Tryd.f48, bodyOf Tryd.f48, by kernel_rfl, by kernel_rfl, rfl⟩
theorem sp_sets_Each_uint32 (_N : Nat) : SpecB Tryd.prog Gs 48 Ks_sets_Each_uint32 64 (.int .u32) (D_sets_Each_uint32 _N) := specB_of (c := bodyOf Tryd.f48) (by kernel_rfl) rfl (by kernel_rfl) (Nat.le_of_ble_eq_true (by kernel_rfl)) fun x y _h => ⟨C_sets_Each_uint32 _N, .none, ok_sets_Each_uint32 _N, (E_sets_Each_uint32 _N x).trans _h⟩
theorem en_sets_Each_uint32 (_N : Nat) : EntOk Tryd.prog Gs (mkB 48 Ks_sets_Each_uint32 64 (.int .u32) (D_sets_Each_uint32 _N)) := entB hb_sets_Each_uint32 (sp_sets_Each_uint32 _N)
end Go.Proofs.YtdbjfdjpmoackaaDoor
