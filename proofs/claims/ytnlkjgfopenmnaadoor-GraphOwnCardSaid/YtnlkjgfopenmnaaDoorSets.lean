/- sets: words as sets of numbers. -/
import Derived.Test.YtnlkjgfopenmnaaDoorAbsLp
import Derived.Test.YtnlkjgfopenmnaaDoorAbsOpn
import Derived.Test.YtnlkjgfopenmnaaDoorProg
import Derived.KernelRfl
namespace Go.Proofs.YtnlkjgfopenmnaaDoor
open Go.Abs
def bodyOf (f : Func) : Code := f.body.getD .skip
def tab : List Int := [0, 1, 56, 2, 57, 49, 28, 3, 61, 58, 42, 50, 38, 29, 17, 4, 62, 47, 59, 36, 45, 43, 51, 22, 53, 39, 33, 30, 24, 18, 12, 5, 63, 55, 48, 27, 60, 41, 37, 16, 46, 35, 44, 21, 52, 32, 23, 11, 54, 26, 40, 15, 34, 20, 31, 10, 25, 14, 19, 9, 13, 8, 7, 6]
def Gs : List (Nat × List Value) := [(0, tab.map fun z => .int .u8 z)]
-- watershed/sets.One
abbrev Ks_sets_One : List Kd := [.dat (.int .i64)]
abbrev Rk_sets_One : List Kd := [.dat (.int .u32)]
abbrev Rt_sets_One : Type := Dens Rk_sets_One
noncomputable def C_sets_One (_N : Nat) : Ctx := { T := [], G := findE [], I := findI [], N := _N, n := 5, fx := [], fl := 0, gs := Gs }
noncomputable def sets_One_1 (_N : Nat) (_x1 : Int) : Option Rt_sets_One :=
  (bif (decide (_x1 < 0)) then none else (some ((ishl .u32 (1 : Int) _x1), ())))
noncomputable def D_sets_One (_N : Nat) (_x : Dens Ks_sets_One) : Option Rt_sets_One := sets_One_1 _N _x.1
theorem sp_sets_One (_N : Nat) : SpecD Tryd.prog Gs 9 Ks_sets_One Rk_sets_One (D_sets_One _N) := mkSpD (fn := Tryd.f9) (c := bodyOf Tryd.f9) (C := C_sets_One _N)
    (a := .none)
    (by kernel_rfl) rfl (by kernel_rfl) (by kernel_rfl) ⟨rfl, by unfold TOk; kernel_rfl, gOk_of rfl rfl (List.forall_mem_nil _), iOk_of rfl rfl (List.forall_mem_nil _), rfl⟩ (fun _x => by kernel_rfl)
theorem en_sets_One (_N : Nat) : EntOk Tryd.prog Gs (mkP 9 Ks_sets_One Rk_sets_One (D_sets_One _N)) := entP ⟨Tryd.f9, bodyOf Tryd.f9, by kernel_rfl, by kernel_rfl, rfl⟩ (by kernel_rfl) (sp_sets_One _N)
-- watershed/sets.Has[uint32]
abbrev Ks_sets_Has_uint32 : List Kd := [.dat (.int .u32), .dat (.int .i64)]
abbrev Rk_sets_Has_uint32 : List Kd := [.dat (.bool)]
abbrev Rt_sets_Has_uint32 : Type := Dens Rk_sets_Has_uint32
noncomputable def C_sets_Has_uint32 (_N : Nat) : Ctx := { T := [], G := findE [], I := findI [], N := _N, n := 10, fx := [], fl := 0, gs := Gs }
noncomputable def sets_Has_uint32_1 (_N : Nat) (_x1 : Int) (_x2 : Int) : Option Rt_sets_Has_uint32 :=
  (bif (decide (_x2 < 0)) then none else (some (((iand .u32 (ishr .u32 _x1 _x2) (1 : Int)) == (1 : Int)), ())))
noncomputable def D_sets_Has_uint32 (_N : Nat) (_x : Dens Ks_sets_Has_uint32) : Option Rt_sets_Has_uint32 := sets_Has_uint32_1 _N _x.1 _x.2.1
theorem sp_sets_Has_uint32 (_N : Nat) : SpecD Tryd.prog Gs 28 Ks_sets_Has_uint32 Rk_sets_Has_uint32 (D_sets_Has_uint32 _N) := mkSpD (fn := Tryd.f28) (c := bodyOf Tryd.f28) (C := C_sets_Has_uint32 _N)
    (a := .none)
    (by kernel_rfl) rfl (by kernel_rfl) (by kernel_rfl) ⟨rfl, by unfold TOk; kernel_rfl, gOk_of rfl rfl (List.forall_mem_nil _), iOk_of rfl rfl (List.forall_mem_nil _), rfl⟩ (fun _x => by kernel_rfl)
theorem en_sets_Has_uint32 (_N : Nat) : EntOk Tryd.prog Gs (mkP 28 Ks_sets_Has_uint32 Rk_sets_Has_uint32 (D_sets_Has_uint32 _N)) := entP ⟨Tryd.f28, bodyOf Tryd.f28, by kernel_rfl, by kernel_rfl, rfl⟩ (by kernel_rfl) (sp_sets_Has_uint32 _N)
-- watershed/sets.Each[uint32]
abbrev Ks_sets_Each_uint32 : List Kd := [.dat (.int .u32)]
abbrev Rt_sets_Each_uint32 : Type := Int
noncomputable def C_sets_Each_uint32 (_N : Nat) : Ctx := { T := [], G := findE [], I := findI [], N := _N, n := 4, fx := [], fl := 0, gs := Gs }
noncomputable def sets_Each_uint32_1 (_N : Nat) (_x1 : Int) : Option Rt_sets_Each_uint32 :=
  (some _x1)
noncomputable def D_sets_Each_uint32 (_N : Nat) (_x : Dens Ks_sets_Each_uint32) : Option Rt_sets_Each_uint32 := sets_Each_uint32_1 _N _x.1
theorem sp_sets_Each_uint32 (_N : Nat) : SpecB Tryd.prog Gs 26 Ks_sets_Each_uint32 29 (.int .u32) (D_sets_Each_uint32 _N) := mkSpB (fn := Tryd.f26) (c := bodyOf Tryd.f26) (C := C_sets_Each_uint32 _N)
    (a := .none)
    (by kernel_rfl) rfl (by kernel_rfl) (by kernel_rfl) ⟨rfl, by unfold TOk; kernel_rfl, gOk_of rfl rfl (List.forall_mem_nil _), iOk_of rfl rfl (List.forall_mem_nil _), rfl⟩ (fun _x => by kernel_rfl)
theorem en_sets_Each_uint32 (_N : Nat) : EntOk Tryd.prog Gs (mkB 26 Ks_sets_Each_uint32 29 (.int .u32) (D_sets_Each_uint32 _N)) := entB ⟨Tryd.f26, bodyOf Tryd.f26, by kernel_rfl, by kernel_rfl, rfl⟩ (sp_sets_Each_uint32 _N)
end Go.Proofs.YtnlkjgfopenmnaaDoor
