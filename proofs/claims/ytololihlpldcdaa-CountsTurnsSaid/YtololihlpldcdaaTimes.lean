/- times: the functions. -/
import Derived.Test.YtololihlpldcdaaAbsSort
import Derived.Test.YtololihlpldcdaaAbsSubF
import Derived.Test.YtololihlpldcdaaAbsOrd
import Derived.Test.YtololihlpldcdaaAbsOpn
import Derived.Test.YtololihlpldcdaaProg
import Derived.KernelRfl
import Derived.Shelf.SlGeneric
import Derived.Ground.SlsfProg
namespace Go.Proofs.Ytololihlpldcdaa
open Go.Abs
def bodyOf (f : Func) : Code := f.body.getD .skip
-- watershed/times.Check
abbrev Ks_times_Check : List Kd := [.dat (.sl (.int .i64))]
abbrev Rk_times_Check : List Kd := [.dat (.int .i64)]
abbrev Rt_times_Check : Type := Dens Rk_times_Check
noncomputable def C_times_Check (_N : Nat) : Ctx := { T := [(3, ⟨.int .i64, 1, 8, some (.int .i64), [.int .i64 (0 : Int)], false, []⟩), (26, ⟨.slice 3, 1, 24, some (.sl (.int .i64)), [.nil], false, []⟩)], G := findE [], I := findI [], N := _N, n := 26, fx := [], fl := 0, gs := [] }
noncomputable def times_Check_1 (_N : Nat) : Option Rt_times_Check :=
  (some ((0 : Int), ()))
noncomputable def times_Check_2 (_N : Nat) (_k4 : Unit → Option Rt_times_Check) (_v1 : List Int) (_v2 : Int) (_v3 : Int) (_kn5 : (List Int × Int) × Int → Option Rt_times_Check) : Option Rt_times_Check :=
  (bif (decide (_v3 < _v2)) then (bif (decide (0 ≤ _v3) && decide (_v3 < (_v1.length : Int))) then (bif (decide ((nth (0 : Int) _v1 (_v3).toNat) < (0 : Int))) then (some ((2 : Int), ())) else (bif (decide ((nth (0 : Int) _v1 (_v3).toNat) > (1048576 : Int))) then (some ((2 : Int), ())) else (_kn5 ((_v1, _v2), (IntKind.i64.wrap (_v3 + (1 : Int))))))) else none) else (_k4 ()))
noncomputable def times_Check_3 (_N : Nat) (_x1 : List Int) : Option Rt_times_Check :=
  (bif ((_x1.length : Int) == (0 : Int)) then (some ((1 : Int), ())) else (bif (decide ((_x1.length : Int) > (4 : Int))) then (some ((1 : Int), ())) else (joinD (fun (_s : Unit) => times_Check_1 _N) fun _k4 => (loopE (fun (_c : List Int × Int) (_s : Int) _kn => times_Check_2 _N _k4 _c.1 _c.2 _s _kn) _N (_x1, (_x1.length : Int)) (0 : Int)))))
noncomputable def D_times_Check (_N : Nat) (_x : Dens Ks_times_Check) : Option Rt_times_Check := times_Check_3 _N _x.1
theorem sp_times_Check (_N : Nat) : SpecD Try.prog [] 62 Ks_times_Check Rk_times_Check (D_times_Check _N) := mkSpD (fn := Try.f62) (c := bodyOf Try.f62) (C := C_times_Check _N)
    (a := .two .none (.two .none (.join 0 ⟨[], []⟩ (.two .none (.one (.loop 0 ⟨[(13, .sl (.int .i64)), (14, .int .i64), (15, .int .i64)], []⟩ [2] .none))) .none)))
    (by kernel_rfl) rfl (by kernel_rfl) (by kernel_rfl) ⟨rfl, by unfold TOk; kernel_rfl, gOk_of rfl rfl (List.forall_mem_nil _), iOk_of rfl rfl (List.forall_mem_nil _), rfl⟩ (fun _x => by kernel_rfl)
theorem en_times_Check (_N : Nat) : EntOk Try.prog [] (mkP 62 Ks_times_Check Rk_times_Check (D_times_Check _N)) := entP ⟨Try.f62, bodyOf Try.f62, by kernel_rfl, by kernel_rfl, rfl⟩ (by kernel_rfl) (sp_times_Check _N)
-- watershed/times.alike
abbrev Ks_times_alike : List Kd := [.dat (.sl (.int .i64)), .dat (.sl (.int .i64))]
abbrev Rk_times_alike : List Kd := [.dat (.bool)]
abbrev Rt_times_alike : Type := Dens Rk_times_alike
noncomputable def C_times_alike (_N : Nat) : Ctx := { T := [(26, ⟨.slice 3, 1, 24, some (.sl (.int .i64)), [.nil], false, []⟩)], G := findE [mkP 62 Ks_times_Check Rk_times_Check (D_times_Check _N)], I := findI [], N := _N, n := 20, fx := [], fl := 0, gs := [] }
noncomputable def times_alike_1 (_N : Nat) (_x1 : List Int) (_x2 : List Int) : Option Rt_times_alike :=
  (bif ((_x1.length : Int) == (_x2.length : Int)) then ((D_times_Check _N (_x1, ())).bind fun _y3 => (bif (_y3.1 == (0 : Int)) then ((D_times_Check _N (_x2, ())).bind fun _y4 => (some ((_y4.1 == (0 : Int)), ()))) else (some (false, ())))) else (some (false, ())))
noncomputable def D_times_alike (_N : Nat) (_x : Dens Ks_times_alike) : Option Rt_times_alike := times_alike_1 _N _x.1 _x.2.1
theorem sp_times_alike (_N : Nat) : SpecD Try.prog [] 42 Ks_times_alike Rk_times_alike (D_times_alike _N) := mkSpD (fn := Try.f42) (c := bodyOf Try.f42) (C := C_times_alike _N)
    (a := .none)
    (by kernel_rfl) rfl (by kernel_rfl) (by kernel_rfl) ⟨rfl, by unfold TOk; kernel_rfl, gOk_of rfl rfl (List.forall_mem_cons.2 ⟨en_times_Check _N, (List.forall_mem_nil _)⟩), iOk_of rfl rfl (List.forall_mem_nil _), rfl⟩ (fun _x => by kernel_rfl)
theorem en_times_alike (_N : Nat) : EntOk Try.prog [] (mkP 42 Ks_times_alike Rk_times_alike (D_times_alike _N)) := entP ⟨Try.f42, bodyOf Try.f42, by kernel_rfl, by kernel_rfl, rfl⟩ (by kernel_rfl) (sp_times_alike _N)
-- watershed/times.Under
abbrev Ks_times_Under : List Kd := [.dat (.sl (.int .i64)), .dat (.sl (.int .i64))]
abbrev Rk_times_Under : List Kd := [.dat (.bool)]
abbrev Rt_times_Under : Type := Dens Rk_times_Under
noncomputable def C_times_Under (_N : Nat) : Ctx := { T := [(3, ⟨.int .i64, 1, 8, some (.int .i64), [.int .i64 (0 : Int)], false, []⟩), (26, ⟨.slice 3, 1, 24, some (.sl (.int .i64)), [.nil], false, []⟩)], G := findE [], I := findI [], N := _N, n := 21, fx := [], fl := 0, gs := [] }
noncomputable def times_Under_1 (_N : Nat) : Option Rt_times_Under :=
  (some (true, ()))
noncomputable def times_Under_2 (_N : Nat) (_k5 : Unit → Option Rt_times_Under) (_v1 : List Int) (_v2 : List Int) (_v3 : Int) (_v4 : Int) (_kn6 : (List Int × List Int × Int) × Int → Option Rt_times_Under) : Option Rt_times_Under :=
  (bif (decide (_v4 < _v3)) then (bif (decide (0 ≤ _v4) && decide (_v4 < (_v1.length : Int))) then (bif (decide (0 ≤ _v4) && decide (_v4 < (_v2.length : Int))) then (bif (decide ((nth (0 : Int) _v1 (_v4).toNat) > (nth (0 : Int) _v2 (_v4).toNat))) then (some (false, ())) else (_kn6 ((_v1, _v2, _v3), (IntKind.i64.wrap (_v4 + (1 : Int)))))) else none) else none) else (_k5 ()))
noncomputable def times_Under_3 (_N : Nat) (_x1 : List Int) (_x2 : List Int) : Option Rt_times_Under :=
  (joinD (fun (_s : Unit) => times_Under_1 _N) fun _k5 => (loopE (fun (_c : List Int × List Int × Int) (_s : Int) _kn => times_Under_2 _N _k5 _c.1 _c.2.1 _c.2.2 _s _kn) _N (_x1, _x2, (_x1.length : Int)) (0 : Int)))
noncomputable def D_times_Under (_N : Nat) (_x : Dens Ks_times_Under) : Option Rt_times_Under := times_Under_3 _N _x.1 _x.2.1
theorem sp_times_Under (_N : Nat) : SpecD Try.prog [] 43 Ks_times_Under Rk_times_Under (D_times_Under _N) := mkSpD (fn := Try.f43) (c := bodyOf Try.f43) (C := C_times_Under _N)
    (a := .two .none (.join 0 ⟨[], []⟩ (.two .none (.one (.loop 0 ⟨[(0, .sl (.int .i64)), (1, .sl (.int .i64)), (7, .int .i64), (8, .int .i64)], []⟩ [3] (.two .none (.two .none (.two (.one (.two .none (.two (.draw 0 [.pure, .pure, .pure, .pure, .pure, .pure, .pure, .pure, .pure]) .none))) .none)))))) .none))
    (by kernel_rfl) rfl (by kernel_rfl) (by kernel_rfl) ⟨rfl, by unfold TOk; kernel_rfl, gOk_of rfl rfl (List.forall_mem_nil _), iOk_of rfl rfl (List.forall_mem_nil _), rfl⟩ (fun _x => by kernel_rfl)
theorem en_times_Under (_N : Nat) : EntOk Try.prog [] (mkP 43 Ks_times_Under Rk_times_Under (D_times_Under _N)) := entP ⟨Try.f43, bodyOf Try.f43, by kernel_rfl, by kernel_rfl, rfl⟩ (by kernel_rfl) (sp_times_Under _N)
-- watershed/times.Leq
abbrev Ks_times_Leq : List Kd := [.dat (.sl (.int .i64)), .dat (.sl (.int .i64))]
abbrev Rk_times_Leq : List Kd := [.dat (.bool)]
abbrev Rt_times_Leq : Type := Dens Rk_times_Leq
noncomputable def C_times_Leq (_N : Nat) : Ctx := { T := [], G := findE [mkP 42 Ks_times_alike Rk_times_alike (D_times_alike _N), mkP 43 Ks_times_Under Rk_times_Under (D_times_Under _N)], I := findI [], N := _N, n := 13, fx := [], fl := 0, gs := [] }
noncomputable def times_Leq_1 (_N : Nat) (_x1 : List Int) (_x2 : List Int) : Option Rt_times_Leq :=
  ((D_times_alike _N (_x1, _x2, ())).bind fun _y3 => (bif _y3.1 then ((D_times_Under _N (_x1, _x2, ())).bind fun _y4 => (some (_y4.1, ()))) else (some (false, ()))))
noncomputable def D_times_Leq (_N : Nat) (_x : Dens Ks_times_Leq) : Option Rt_times_Leq := times_Leq_1 _N _x.1 _x.2.1
theorem sp_times_Leq (_N : Nat) : SpecD Try.prog [] 18 Ks_times_Leq Rk_times_Leq (D_times_Leq _N) := mkSpD (fn := Try.f18) (c := bodyOf Try.f18) (C := C_times_Leq _N)
    (a := .none)
    (by kernel_rfl) rfl (by kernel_rfl) (by kernel_rfl) ⟨rfl, by unfold TOk; kernel_rfl, gOk_of rfl rfl (List.forall_mem_cons.2 ⟨en_times_alike _N, (List.forall_mem_cons.2 ⟨en_times_Under _N, (List.forall_mem_nil _)⟩)⟩), iOk_of rfl rfl (List.forall_mem_nil _), rfl⟩ (fun _x => by kernel_rfl)
theorem en_times_Leq (_N : Nat) : EntOk Try.prog [] (mkP 18 Ks_times_Leq Rk_times_Leq (D_times_Leq _N)) := entP ⟨Try.f18, bodyOf Try.f18, by kernel_rfl, by kernel_rfl, rfl⟩ (by kernel_rfl) (sp_times_Leq _N)
-- watershed/times.List
abbrev Ks_times_List : List Kd := [.dat (.sl (.sl (.int .i64)))]
abbrev Rk_times_List : List Kd := [.dat (.int .i64)]
abbrev Rt_times_List : Type := Dens Rk_times_List
noncomputable def C_times_List (_N : Nat) : Ctx := { T := [(22, ⟨.slice 26, 1, 24, some (.sl (.sl (.int .i64))), [.nil], false, []⟩), (26, ⟨.slice 3, 1, 24, some (.sl (.int .i64)), [.nil], false, []⟩)], G := findE [mkP 62 Ks_times_Check Rk_times_Check (D_times_Check _N)], I := findI [], N := _N, n := 37, fx := [], fl := 0, gs := [] }
noncomputable def times_List_1 (_N : Nat) : Option Rt_times_List :=
  (some ((0 : Int), ()))
noncomputable def times_List_2 (_N : Nat) (_k12 : Unit → Option Rt_times_List) (_v8 : List (List Int)) (_v9 : List (List Int)) (_v10 : Int) (_v11 : Int) (_kn13 : (List (List Int) × List (List Int) × Int) × Int → Option Rt_times_List) : Option Rt_times_List :=
  (bif (decide (_v11 < _v10)) then (bif (decide (0 ≤ _v11) && decide (_v11 < (_v9.length : Int))) then (bif (decide (0 ≤ (0 : Int)) && decide ((0 : Int) < (_v8.length : Int))) then (bif (((nth ([]) _v9 (_v11).toNat).length : Int) != ((nth ([]) _v8 (0 : Int).toNat).length : Int)) then (some ((3 : Int), ())) else (_kn13 ((_v8, _v9, _v10), (IntKind.i64.wrap (_v11 + (1 : Int)))))) else none) else none) else (_k12 ()))
noncomputable def times_List_3 (_N : Nat) (_v7 : List (List Int)) : Option Rt_times_List :=
  (joinD (fun (_s : Unit) => times_List_1 _N) fun _k12 => (loopE (fun (_c : List (List Int) × List (List Int) × Int) (_s : Int) _kn => times_List_2 _N _k12 _c.1 _c.2.1 _c.2.2 _s _kn) _N (_v7, _v7, (_v7.length : Int)) (0 : Int)))
noncomputable def times_List_4 (_N : Nat) (_k14 : (List (List Int)) → Option Rt_times_List) (_v1 : List (List Int)) (_v2 : List (List Int)) (_v3 : Int) (_v4 : Int) (_kn15 : (List (List Int) × List (List Int) × Int) × Int → Option Rt_times_List) : Option Rt_times_List :=
  (bif (decide (_v4 < _v3)) then (bif (decide (0 ≤ _v4) && decide (_v4 < (_v2.length : Int))) then ((D_times_Check _N ((nth ([]) _v2 (_v4).toNat), ())).bind fun _y16 => (bif (_y16.1 != (0 : Int)) then (some (_y16.1, ())) else (_kn15 ((_v1, _v2, _v3), (IntKind.i64.wrap (_v4 + (1 : Int))))))) else none) else (_k14 _v1))
noncomputable def times_List_5 (_N : Nat) (_x1 : List (List Int)) : Option Rt_times_List :=
  (bif (decide ((_x1.length : Int) > (64 : Int))) then (some ((1 : Int), ())) else (joinD (fun (_s : List (List Int)) => times_List_3 _N _s) fun _k14 => (loopE (fun (_c : List (List Int) × List (List Int) × Int) (_s : Int) _kn => times_List_4 _N _k14 _c.1 _c.2.1 _c.2.2 _s _kn) _N (_x1, _x1, (_x1.length : Int)) (0 : Int))))
noncomputable def D_times_List (_N : Nat) (_x : Dens Ks_times_List) : Option Rt_times_List := times_List_5 _N _x.1
theorem sp_times_List (_N : Nat) : SpecD Try.prog [] 38 Ks_times_List Rk_times_List (D_times_List _N) := mkSpD (fn := Try.f38) (c := bodyOf Try.f38) (C := C_times_List _N)
    (a := .two .none (.two .none (.join 0 ⟨[(0, .sl (.sl (.int .i64)))], []⟩ (.two .none (.one (.loop 0 ⟨[(0, .sl (.sl (.int .i64))), (11, .sl (.sl (.int .i64))), (12, .int .i64), (13, .int .i64)], []⟩ [3] .none))) (.join 0 ⟨[], []⟩ (.two .none (.one (.loop 0 ⟨[(0, .sl (.sl (.int .i64))), (23, .sl (.sl (.int .i64))), (24, .int .i64), (25, .int .i64)], []⟩ [3] .none))) .none))))
    (by kernel_rfl) rfl (by kernel_rfl) (by kernel_rfl) ⟨rfl, by unfold TOk; kernel_rfl, gOk_of rfl rfl (List.forall_mem_cons.2 ⟨en_times_Check _N, (List.forall_mem_nil _)⟩), iOk_of rfl rfl (List.forall_mem_nil _), rfl⟩ (fun _x => by kernel_rfl)
theorem en_times_List (_N : Nat) : EntOk Try.prog [] (mkP 38 Ks_times_List Rk_times_List (D_times_List _N)) := entP ⟨Try.f38, bodyOf Try.f38, by kernel_rfl, by kernel_rfl, rfl⟩ (by kernel_rfl) (sp_times_List _N)
-- cmp.isNaN[int]
abbrev Ks_cmp_isNaN_int : List Kd := [.dat (.int .i64)]
abbrev Rk_cmp_isNaN_int : List Kd := [.dat (.bool)]
abbrev Rt_cmp_isNaN_int : Type := Dens Rk_cmp_isNaN_int
noncomputable def C_cmp_isNaN_int (_N : Nat) : Ctx := { T := [], G := findE [], I := findI [], N := _N, n := 6, fx := [], fl := 0, gs := [] }
noncomputable def cmp_isNaN_int_1 (_N : Nat) (_x1 : Int) : Option Rt_cmp_isNaN_int :=
  (some ((_x1 != _x1), ()))
noncomputable def D_cmp_isNaN_int (_N : Nat) (_x : Dens Ks_cmp_isNaN_int) : Option Rt_cmp_isNaN_int := cmp_isNaN_int_1 _N _x.1
theorem sp_cmp_isNaN_int (_N : Nat) : SpecD Try.prog [] 95 Ks_cmp_isNaN_int Rk_cmp_isNaN_int (D_cmp_isNaN_int _N) := mkSpD (fn := Try.f95) (c := bodyOf Try.f95) (C := C_cmp_isNaN_int _N)
    (a := .none)
    (by kernel_rfl) rfl (by kernel_rfl) (by kernel_rfl) ⟨rfl, by unfold TOk; kernel_rfl, gOk_of rfl rfl (List.forall_mem_nil _), iOk_of rfl rfl (List.forall_mem_nil _), rfl⟩ (fun _x => by kernel_rfl)
theorem en_cmp_isNaN_int (_N : Nat) : EntOk Try.prog [] (mkP 95 Ks_cmp_isNaN_int Rk_cmp_isNaN_int (D_cmp_isNaN_int _N)) := entP ⟨Try.f95, bodyOf Try.f95, by kernel_rfl, by kernel_rfl, rfl⟩ (by kernel_rfl) (sp_cmp_isNaN_int _N)
-- cmp.Compare[int]
abbrev Ks_cmp_Compare_int : List Kd := [.dat (.int .i64), .dat (.int .i64)]
abbrev Rk_cmp_Compare_int : List Kd := [.dat (.int .i64)]
abbrev Rt_cmp_Compare_int : Type := Dens Rk_cmp_Compare_int
noncomputable def C_cmp_Compare_int (_N : Nat) : Ctx := { T := [], G := findE [mkP 95 Ks_cmp_isNaN_int Rk_cmp_isNaN_int (D_cmp_isNaN_int _N)], I := findI [], N := _N, n := 20, fx := [], fl := 0, gs := [] }
noncomputable def cmp_Compare_int_1 (_N : Nat) (_x1 : Int) (_x2 : Int) : Option Rt_cmp_Compare_int :=
  ((D_cmp_isNaN_int _N (_x1, ())).bind fun _y3 => ((D_cmp_isNaN_int _N (_x2, ())).bind fun _y4 => (bif _y3.1 then (bif _y4.1 then (some ((0 : Int), ())) else (some ((-1 : Int), ()))) else (bif _y4.1 then (some ((1 : Int), ())) else (bif (decide (_x1 < _x2)) then (some ((-1 : Int), ())) else (bif (decide (_x1 > _x2)) then (some ((1 : Int), ())) else (some ((0 : Int), ()))))))))
noncomputable def D_cmp_Compare_int (_N : Nat) (_x : Dens Ks_cmp_Compare_int) : Option Rt_cmp_Compare_int := cmp_Compare_int_1 _N _x.1 _x.2.1
theorem sp_cmp_Compare_int (_N : Nat) : SpecD Try.prog [] 79 Ks_cmp_Compare_int Rk_cmp_Compare_int (D_cmp_Compare_int _N) := mkSpD (fn := Try.f79) (c := bodyOf Try.f79) (C := C_cmp_Compare_int _N)
    (a := .none)
    (by kernel_rfl) rfl (by kernel_rfl) (by kernel_rfl) ⟨rfl, by unfold TOk; kernel_rfl, gOk_of rfl rfl (List.forall_mem_cons.2 ⟨en_cmp_isNaN_int _N, (List.forall_mem_nil _)⟩), iOk_of rfl rfl (List.forall_mem_nil _), rfl⟩ (fun _x => by kernel_rfl)
theorem en_cmp_Compare_int (_N : Nat) : EntOk Try.prog [] (mkP 79 Ks_cmp_Compare_int Rk_cmp_Compare_int (D_cmp_Compare_int _N)) := entP ⟨Try.f79, bodyOf Try.f79, by kernel_rfl, by kernel_rfl, rfl⟩ (by kernel_rfl) (sp_cmp_Compare_int _N)
-- slices.Compare[[]int,int]
abbrev Ks_slices_Compare_Lint_int : List Kd := [.dat (.sl (.int .i64)), .dat (.sl (.int .i64))]
abbrev Rk_slices_Compare_Lint_int : List Kd := [.dat (.int .i64)]
abbrev Rt_slices_Compare_Lint_int : Type := Dens Rk_slices_Compare_Lint_int
noncomputable def C_slices_Compare_Lint_int (_N : Nat) : Ctx := { T := [(3, ⟨.int .i64, 1, 8, some (.int .i64), [.int .i64 (0 : Int)], false, []⟩), (26, ⟨.slice 3, 1, 24, some (.sl (.int .i64)), [.nil], false, []⟩)], G := findE [mkP 79 Ks_cmp_Compare_int Rk_cmp_Compare_int (D_cmp_Compare_int _N)], I := findI [], N := _N, n := 36, fx := [], fl := 0, gs := [] }
noncomputable def slices_Compare_Lint_int_1 (_N : Nat) (_v8 : List Int) (_v9 : List Int) : Option Rt_slices_Compare_Lint_int :=
  (bif (decide ((_v8.length : Int) < (_v9.length : Int))) then (some ((-1 : Int), ())) else (some ((0 : Int), ())))
noncomputable def slices_Compare_Lint_int_2 (_N : Nat) (_k10 : (List Int × List Int) → Option Rt_slices_Compare_Lint_int) (_v1 : List Int) (_v2 : List Int) (_v3 : List Int) (_v4 : Int) (_v5 : Int) (_kn11 : (List Int × List Int × List Int × Int) × Int → Option Rt_slices_Compare_Lint_int) : Option Rt_slices_Compare_Lint_int :=
  (bif (decide (_v5 < _v4)) then (bif (decide (0 ≤ _v5) && decide (_v5 < (_v3.length : Int))) then (bif (decide (_v5 ≥ (_v2.length : Int))) then (some ((1 : Int), ())) else (bif (decide (0 ≤ _v5) && decide (_v5 < (_v2.length : Int))) then ((D_cmp_Compare_int _N ((nth (0 : Int) _v3 (_v5).toNat), (nth (0 : Int) _v2 (_v5).toNat), ())).bind fun _y12 => (bif (_y12.1 != (0 : Int)) then (some (_y12.1, ())) else (_kn11 ((_v1, _v2, _v3, _v4), (IntKind.i64.wrap (_v5 + (1 : Int))))))) else none)) else none) else (_k10 (_v1, _v2)))
noncomputable def slices_Compare_Lint_int_3 (_N : Nat) (_x1 : List Int) (_x2 : List Int) : Option Rt_slices_Compare_Lint_int :=
  (joinD (fun (_s : List Int × List Int) => slices_Compare_Lint_int_1 _N _s.1 _s.2) fun _k10 => (loopE (fun (_c : List Int × List Int × List Int × Int) (_s : Int) _kn => slices_Compare_Lint_int_2 _N _k10 _c.1 _c.2.1 _c.2.2.1 _c.2.2.2 _s _kn) _N (_x1, _x2, _x1, (_x1.length : Int)) (0 : Int)))
noncomputable def D_slices_Compare_Lint_int (_N : Nat) (_x : Dens Ks_slices_Compare_Lint_int) : Option Rt_slices_Compare_Lint_int := slices_Compare_Lint_int_3 _N _x.1 _x.2.1
theorem sp_slices_Compare_Lint_int (_N : Nat) : SpecD Try.prog [] 44 Ks_slices_Compare_Lint_int Rk_slices_Compare_Lint_int (D_slices_Compare_Lint_int _N) := mkSpD (fn := Try.f44) (c := bodyOf Try.f44) (C := C_slices_Compare_Lint_int _N)
    (a := .two .none (.join 0 ⟨[(0, .sl (.int .i64)), (1, .sl (.int .i64))], []⟩ (.two .none (.one (.loop 0 ⟨[(0, .sl (.int .i64)), (1, .sl (.int .i64)), (9, .sl (.int .i64)), (10, .int .i64), (11, .int .i64)], []⟩ [4] .none))) .none))
    (by kernel_rfl) rfl (by kernel_rfl) (by kernel_rfl) ⟨rfl, by unfold TOk; kernel_rfl, gOk_of rfl rfl (List.forall_mem_cons.2 ⟨en_cmp_Compare_int _N, (List.forall_mem_nil _)⟩), iOk_of rfl rfl (List.forall_mem_nil _), rfl⟩ (fun _x => by kernel_rfl)
theorem en_slices_Compare_Lint_int (_N : Nat) : EntOk Try.prog [] (mkP 44 Ks_slices_Compare_Lint_int Rk_slices_Compare_Lint_int (D_slices_Compare_Lint_int _N)) := entP ⟨Try.f44, bodyOf Try.f44, by kernel_rfl, by kernel_rfl, rfl⟩ (by kernel_rfl) (sp_slices_Compare_Lint_int _N)
shelf_lay_g SlLaysF.n6 Slsf 6 at Try 76 as lay_sortT
theorem hb_sortT : HasBody Try.prog 76 := ⟨Try.f76, bodyOf Try.f76, by kernel_rfl, by kernel_rfl, rfl⟩
theorem hg_sortT : HasBody Try.prog 44 := ⟨Try.f44, bodyOf Try.f44, by kernel_rfl, by kernel_rfl, rfl⟩
theorem en_sortT (_N : Nat) : EntOk Try.prog [] (mkS 76 26 (.sl (.int .i64)) 44 (fun p q => (D_slices_Compare_Lint_int _N (p, q, ())).map (·.1))) := entS1 lay_sortT hb_sortT hg_sortT (by kernel_rfl) rfl rfl (sp_slices_Compare_Lint_int _N)
-- slices.Clone[[]int,int]
abbrev Ks_slices_Clone_Lint_int : List Kd := [.dat (.sl (.int .i64))]
abbrev Rt_slices_Clone_Lint_int : Type := List Int
noncomputable def C_slices_Clone_Lint_int (_N : Nat) : Ctx := { T := [(3, ⟨.int .i64, 1, 8, some (.int .i64), [.int .i64 (0 : Int)], false, []⟩), (26, ⟨.slice 3, 1, 24, some (.sl (.int .i64)), [.nil], false, []⟩)], G := findE [], I := findI [], N := _N, n := 8, fx := [], fl := 0, gs := [] }
noncomputable def slices_Clone_Lint_int_1 (_N : Nat) (_x1 : List Int) : Option Rt_slices_Clone_Lint_int :=
  (bif _x1.isEmpty then (dem2 (some []) (bif (decide ((([] : List Int).length + _x1.length) * 8 ≤ 140737488355328) && Nat.ble 1 8) then (some (([] : List Int) ++ _x1)) else none)) else (bif (decide ((([] : List Int).length + _x1.length) * 8 ≤ 140737488355328) && Nat.ble 1 8) then (some (([] : List Int) ++ _x1)) else none))
noncomputable def D_slices_Clone_Lint_int (_N : Nat) (_x : Dens Ks_slices_Clone_Lint_int) : Option Rt_slices_Clone_Lint_int := slices_Clone_Lint_int_1 _N _x.1
theorem sp_slices_Clone_Lint_int (_N : Nat) : SpecF Try.prog [] 56 Ks_slices_Clone_Lint_int 3 (.int .i64) (D_slices_Clone_Lint_int _N) := mkSpF (fn := Try.f56) (c := bodyOf Try.f56) (C := C_slices_Clone_Lint_int _N)
    (a := .none)
    (by kernel_rfl) rfl (by kernel_rfl) (by kernel_rfl) ⟨rfl, by unfold TOk; kernel_rfl, gOk_of rfl rfl (List.forall_mem_nil _), iOk_of rfl rfl (List.forall_mem_nil _), rfl⟩ (fun _x => by kernel_rfl)
theorem en_slices_Clone_Lint_int (_N : Nat) : EntOk Try.prog [] (mkF 56 Ks_slices_Clone_Lint_int 3 (.int .i64) (D_slices_Clone_Lint_int _N)) := entF ⟨Try.f56, bodyOf Try.f56, by kernel_rfl, by kernel_rfl, rfl⟩ (by kernel_rfl) (Nat.le_of_ble_eq_true (by kernel_rfl)) (sp_slices_Clone_Lint_int _N)
theorem qen_slices_Clone_Lint_int (_N : Nat) : EntOk Try.prog [] (mkQ 56 Ks_slices_Clone_Lint_int [.dat (.sl (.int .i64))] (fun _x => (D_slices_Clone_Lint_int _N _x).map fun _y => (_y, ()))) := entQ ⟨Try.f56, bodyOf Try.f56, by kernel_rfl, by kernel_rfl, rfl⟩ (specD_of_F (sp_slices_Clone_Lint_int _N))
-- slices.Clone[[][]int,[]int]
abbrev Ks_slices_Clone_LLint_Lint : List Kd := [.dat (.sl (.sl (.int .i64)))]
abbrev Rt_slices_Clone_LLint_Lint : Type := List (List Int)
noncomputable def C_slices_Clone_LLint_Lint (_N : Nat) : Ctx := { T := [(22, ⟨.slice 26, 1, 24, some (.sl (.sl (.int .i64))), [.nil], false, []⟩), (26, ⟨.slice 3, 1, 24, some (.sl (.int .i64)), [.nil], false, []⟩)], G := findE [], I := findI [], N := _N, n := 8, fx := [], fl := 0, gs := [] }
noncomputable def slices_Clone_LLint_Lint_1 (_N : Nat) (_x1 : List (List Int)) : Option Rt_slices_Clone_LLint_Lint :=
  (bif _x1.isEmpty then (dem2 (some []) (bif (decide ((([] : List (List Int)).length + _x1.length) * 24 ≤ 140737488355328) && Nat.ble 1 24) then (some (([] : List (List Int)) ++ _x1)) else none)) else (bif (decide ((([] : List (List Int)).length + _x1.length) * 24 ≤ 140737488355328) && Nat.ble 1 24) then (some (([] : List (List Int)) ++ _x1)) else none))
noncomputable def D_slices_Clone_LLint_Lint (_N : Nat) (_x : Dens Ks_slices_Clone_LLint_Lint) : Option Rt_slices_Clone_LLint_Lint := slices_Clone_LLint_Lint_1 _N _x.1
theorem sp_slices_Clone_LLint_Lint (_N : Nat) : SpecF Try.prog [] 75 Ks_slices_Clone_LLint_Lint 26 (.sl (.int .i64)) (D_slices_Clone_LLint_Lint _N) := mkSpF (fn := Try.f75) (c := bodyOf Try.f75) (C := C_slices_Clone_LLint_Lint _N)
    (a := .none)
    (by kernel_rfl) rfl (by kernel_rfl) (by kernel_rfl) ⟨rfl, by unfold TOk; kernel_rfl, gOk_of rfl rfl (List.forall_mem_nil _), iOk_of rfl rfl (List.forall_mem_nil _), rfl⟩ (fun _x => by kernel_rfl)
theorem en_slices_Clone_LLint_Lint (_N : Nat) : EntOk Try.prog [] (mkG 75 Ks_slices_Clone_LLint_Lint 26 (.sl (.int .i64)) (D_slices_Clone_LLint_Lint _N)) := entG ⟨Try.f75, bodyOf Try.f75, by kernel_rfl, by kernel_rfl, rfl⟩ (Nat.le_of_ble_eq_true (by kernel_rfl)) (sp_slices_Clone_LLint_Lint _N)
theorem qen_slices_Clone_LLint_Lint (_N : Nat) : EntOk Try.prog [] (mkQ 75 Ks_slices_Clone_LLint_Lint [.dat (.sl (.sl (.int .i64)))] (fun _x => (D_slices_Clone_LLint_Lint _N _x).map fun _y => (_y, ()))) := entQ ⟨Try.f75, bodyOf Try.f75, by kernel_rfl, by kernel_rfl, rfl⟩ (specD_of_F (sp_slices_Clone_LLint_Lint _N))
-- (with objects) watershed/times.Least$1
abbrev Sg_times_Least_c1_h : Sig := ⟨[.dat false (.sl (.int .i64)), .form (.ptr 0 0)], [.cells [.sl (.int .i64)]],
  [.dat false .bool], [.cells [.sl (.int .i64)]], []⟩
abbrev Rt_times_Least_c1_h : Type := Bool × List Int
noncomputable def C_times_Least_c1_h (_N : Nat) : Ctx := { T := [(26, ⟨.slice 3, 1, 24, some (.sl (.int .i64)), [.nil], false, []⟩)], G := findE [mkP 43 Ks_times_Under Rk_times_Under (D_times_Under _N)], I := findI [], N := _N, n := 7, fx := [], fl := 1, gs := [] }
noncomputable def times_Least_c1_h_1 (_N : Nat) (_x1 : List Int) (_x2 : List Int) : Option Rt_times_Least_c1_h :=
  ((D_times_Under _N (_x1, _x2, ())).bind fun _y2 => (some (_y2.1, _x2)))
noncomputable def D_times_Least_c1_h (_N : Nat) (_x : List Int × List Int) : Option Rt_times_Least_c1_h := times_Least_c1_h_1 _N _x.1 _x.2
theorem sp_times_Least_c1_h (_N : Nat) : SpecH Try.prog [] 77 Sg_times_Least_c1_h (D_times_Least_c1_h _N) := mkSpH (fn := Try.f77) (c := bodyOf Try.f77) (C := (C_times_Least_c1_h _N))
    (a := .none)
    (by kernel_rfl) rfl (by kernel_rfl) (by kernel_rfl) (by kernel_rfl) rfl ⟨rfl, by unfold TOk; kernel_rfl, gOk_of rfl rfl (List.forall_mem_cons.2 ⟨en_times_Under _N, (List.forall_mem_nil _)⟩), iOk_of rfl rfl (List.forall_mem_nil _), rfl⟩ (fun _x => by kernel_rfl)
theorem en_times_Least_c1_h (_N : Nat) : EntOk Try.prog [] (mkHe 77 Sg_times_Least_c1_h (D_times_Least_c1_h _N)) := entH ⟨Try.f77, bodyOf Try.f77, by kernel_rfl, by kernel_rfl, rfl⟩ (sp_times_Least_c1_h _N)
-- (with objects) slices.IndexFunc[[][]int,[]int]
abbrev Sg_slices_IndexFunc_LLint_Lint_h : Sig := ⟨[.dat false (.sl (.sl (.int .i64))), .form (.clo 77 [.ptr 0 0])], [.cells [.sl (.int .i64)]],
  [.dat false (.int .i64)], [.cells [.sl (.int .i64)]], []⟩
abbrev Rt_slices_IndexFunc_LLint_Lint_h : Type := Int × List Int
noncomputable def C_slices_IndexFunc_LLint_Lint_h (_N : Nat) : Ctx := { T := [(22, ⟨.slice 26, 1, 24, some (.sl (.sl (.int .i64))), [.nil], false, []⟩), (26, ⟨.slice 3, 1, 24, some (.sl (.int .i64)), [.nil], false, []⟩)], G := findE [mkHe 77 Sg_times_Least_c1_h (D_times_Least_c1_h _N)], I := findI [], N := _N, n := 19, fx := [], fl := 1, gs := [] }
noncomputable def slices_IndexFunc_LLint_Lint_h_1 (_N : Nat) (_v7 : List Int) : Option Rt_slices_IndexFunc_LLint_Lint_h :=
  (some ((-1 : Int), _v7))
noncomputable def slices_IndexFunc_LLint_Lint_h_2 (_N : Nat) (_k8 : (List Int) → Option Rt_slices_IndexFunc_LLint_Lint_h) (_v1 : List (List Int)) (_v2 : Int) (_v3 : Int) (_v4 : List Int) (_kn9 : (List (List Int) × Int) × (Int × List Int) → Option Rt_slices_IndexFunc_LLint_Lint_h) : Option Rt_slices_IndexFunc_LLint_Lint_h :=
  (bif (decide (_v3 < _v2)) then (bif (decide (0 ≤ _v3) && decide (_v3 < (_v1.length : Int))) then ((D_times_Least_c1_h _N ((nth ([]) _v1 (_v3).toNat), _v4)).bind fun _y10 => (bif _y10.1 then (some (_v3, _y10.2)) else (_kn9 ((_v1, _v2), ((IntKind.i64.wrap (_v3 + (1 : Int))), _y10.2))))) else none) else (_k8 _v4))
noncomputable def slices_IndexFunc_LLint_Lint_h_3 (_N : Nat) (_x1 : List (List Int)) (_x2 : List Int) : Option Rt_slices_IndexFunc_LLint_Lint_h :=
  (joinD (fun (_s : List Int) => slices_IndexFunc_LLint_Lint_h_1 _N _s) fun _k8 => (loopE (fun (_c : List (List Int) × Int) (_s : Int × List Int) _kn => slices_IndexFunc_LLint_Lint_h_2 _N _k8 _c.1 _c.2 _s.1 _s.2 _kn) _N (_x1, (_x1.length : Int)) ((0 : Int), _x2)))
noncomputable def D_slices_IndexFunc_LLint_Lint_h (_N : Nat) (_x : List (List Int) × List Int) : Option Rt_slices_IndexFunc_LLint_Lint_h := slices_IndexFunc_LLint_Lint_h_3 _N _x.1 _x.2
theorem sp_slices_IndexFunc_LLint_Lint_h (_N : Nat) : SpecH Try.prog [] 78 Sg_slices_IndexFunc_LLint_Lint_h (D_slices_IndexFunc_LLint_Lint_h _N) := mkSpH (fn := Try.f78) (c := bodyOf Try.f78) (C := (C_slices_IndexFunc_LLint_Lint_h _N))
    (a := .two .none (.join 1 ⟨[], [.cells [.sl (.int .i64)]]⟩ (.two .none (.one (.loop 1 ⟨[(0, .sl (.sl (.int .i64))), (1, .clo 77 [.ptr 0 0]), (7, .int .i64), (8, .int .i64)], [.cells [.sl (.int .i64)]]⟩ [2, 3] .none))) .none))
    (by kernel_rfl) rfl (by kernel_rfl) (by kernel_rfl) (by kernel_rfl) rfl ⟨rfl, by unfold TOk; kernel_rfl, gOk_of rfl rfl (List.forall_mem_cons.2 ⟨en_times_Least_c1_h _N, (List.forall_mem_nil _)⟩), iOk_of rfl rfl (List.forall_mem_nil _), rfl⟩ (fun _x => by kernel_rfl)
theorem en_slices_IndexFunc_LLint_Lint_h (_N : Nat) : EntOk Try.prog [] (mkHe 78 Sg_slices_IndexFunc_LLint_Lint_h (D_slices_IndexFunc_LLint_Lint_h _N)) := entH ⟨Try.f78, bodyOf Try.f78, by kernel_rfl, by kernel_rfl, rfl⟩ (sp_slices_IndexFunc_LLint_Lint_h _N)
-- (with objects) slices.ContainsFunc[[][]int,[]int]
abbrev Sg_slices_ContainsFunc_LLint_Lint_h : Sig := ⟨[.dat false (.sl (.sl (.int .i64))), .form (.clo 77 [.ptr 0 0])], [.cells [.sl (.int .i64)]],
  [.dat false .bool], [.cells [.sl (.int .i64)]], []⟩
abbrev Rt_slices_ContainsFunc_LLint_Lint_h : Type := Bool × List Int
noncomputable def C_slices_ContainsFunc_LLint_Lint_h (_N : Nat) : Ctx := { T := [], G := findE [mkHe 78 Sg_slices_IndexFunc_LLint_Lint_h (D_slices_IndexFunc_LLint_Lint_h _N)], I := findI [], N := _N, n := 9, fx := [], fl := 1, gs := [] }
noncomputable def slices_ContainsFunc_LLint_Lint_h_1 (_N : Nat) (_x1 : List (List Int)) (_x2 : List Int) : Option Rt_slices_ContainsFunc_LLint_Lint_h :=
  ((D_slices_IndexFunc_LLint_Lint_h _N (_x1, _x2)).bind fun _y2 => (some ((decide (_y2.1 ≥ (0 : Int))), _y2.2)))
noncomputable def D_slices_ContainsFunc_LLint_Lint_h (_N : Nat) (_x : List (List Int) × List Int) : Option Rt_slices_ContainsFunc_LLint_Lint_h := slices_ContainsFunc_LLint_Lint_h_1 _N _x.1 _x.2
theorem sp_slices_ContainsFunc_LLint_Lint_h (_N : Nat) : SpecH Try.prog [] 40 Sg_slices_ContainsFunc_LLint_Lint_h (D_slices_ContainsFunc_LLint_Lint_h _N) := mkSpH (fn := Try.f40) (c := bodyOf Try.f40) (C := (C_slices_ContainsFunc_LLint_Lint_h _N))
    (a := .none)
    (by kernel_rfl) rfl (by kernel_rfl) (by kernel_rfl) (by kernel_rfl) rfl ⟨rfl, by unfold TOk; kernel_rfl, gOk_of rfl rfl (List.forall_mem_cons.2 ⟨en_slices_IndexFunc_LLint_Lint_h _N, (List.forall_mem_nil _)⟩), iOk_of rfl rfl (List.forall_mem_nil _), rfl⟩ (fun _x => by kernel_rfl)
theorem en_slices_ContainsFunc_LLint_Lint_h (_N : Nat) : EntOk Try.prog [] (mkHe 40 Sg_slices_ContainsFunc_LLint_Lint_h (D_slices_ContainsFunc_LLint_Lint_h _N)) := entH ⟨Try.f40, bodyOf Try.f40, by kernel_rfl, by kernel_rfl, rfl⟩ (sp_slices_ContainsFunc_LLint_Lint_h _N)
-- (with objects) slices.IndexFunc[[][]int,[]int]
abbrev Sg_slices_IndexFunc_LLint_Lint_h2 : Sig := ⟨[.form (.slc 0 0), .form (.clo 77 [.ptr 1 0])], [.row false 0 26 (.sl (.int .i64)), .cells [.sl (.int .i64)]],
  [.dat false (.int .i64)], [.row false 0 26 (.sl (.int .i64)), .cells [.sl (.int .i64)]], []⟩
abbrev Rt_slices_IndexFunc_LLint_Lint_h2 : Type := Int × List (List Int) × List Int
noncomputable def C_slices_IndexFunc_LLint_Lint_h2 (_N : Nat) : Ctx := { T := [(22, ⟨.slice 26, 1, 24, some (.sl (.sl (.int .i64))), [.nil], false, []⟩), (26, ⟨.slice 3, 1, 24, some (.sl (.int .i64)), [.nil], false, []⟩)], G := findE [mkHe 77 Sg_times_Least_c1_h (D_times_Least_c1_h _N)], I := findI [], N := _N, n := 19, fx := [], fl := 2, gs := [] }
noncomputable def slices_IndexFunc_LLint_Lint_h2_1 (_N : Nat) (_v7 : List (List Int)) (_v8 : List Int) : Option Rt_slices_IndexFunc_LLint_Lint_h2 :=
  (some ((-1 : Int), _v7, _v8))
noncomputable def slices_IndexFunc_LLint_Lint_h2_2 (_N : Nat) (_k9 : (List (List Int) × List Int) → Option Rt_slices_IndexFunc_LLint_Lint_h2) (_v1 : Int) (_v3 : List (List Int)) (_v2 : Int) (_v4 : List Int) (_kn10 : (Int × List (List Int)) × (Int × List Int) → Option Rt_slices_IndexFunc_LLint_Lint_h2) : Option Rt_slices_IndexFunc_LLint_Lint_h2 :=
  (bif (decide (_v2 < _v1)) then (bif (decide (0 ≤ _v2) && decide (_v2 < (_v3.length : Int))) then ((D_times_Least_c1_h _N ((nth ([]) _v3 ((_v2).toNat)), _v4)).bind fun _y11 => (bif _y11.1 then (some (_v2, _v3, _y11.2)) else (_kn10 ((_v1, _v3), ((IntKind.i64.wrap (_v2 + (1 : Int))), _y11.2))))) else none) else (_k9 (_v3, _v4)))
noncomputable def slices_IndexFunc_LLint_Lint_h2_3 (_N : Nat) (_x1 : List (List Int)) (_x2 : List Int) : Option Rt_slices_IndexFunc_LLint_Lint_h2 :=
  (joinD (fun (_s : List (List Int) × List Int) => slices_IndexFunc_LLint_Lint_h2_1 _N _s.1 _s.2) fun _k9 => (loopE (fun (_c : Int × List (List Int)) (_s : Int × List Int) _kn => slices_IndexFunc_LLint_Lint_h2_2 _N _k9 _c.1 _c.2 _s.1 _s.2 _kn) _N ((_x1.length : Int), _x1) ((0 : Int), _x2)))
noncomputable def D_slices_IndexFunc_LLint_Lint_h2 (_N : Nat) (_x : List (List Int) × List Int) : Option Rt_slices_IndexFunc_LLint_Lint_h2 := slices_IndexFunc_LLint_Lint_h2_3 _N _x.1 _x.2
theorem sp_slices_IndexFunc_LLint_Lint_h2 (_N : Nat) : SpecH Try.prog [] 78 Sg_slices_IndexFunc_LLint_Lint_h2 (D_slices_IndexFunc_LLint_Lint_h2 _N) := mkSpH (fn := Try.f78) (c := bodyOf Try.f78) (C := (C_slices_IndexFunc_LLint_Lint_h2 _N))
    (a := .two .none (.join 2 ⟨[], [.row false 0 26 (.sl (.int .i64)), .cells [.sl (.int .i64)]]⟩ (.two .none (.one (.loop 2 ⟨[(0, .slc 0 0), (1, .clo 77 [.ptr 1 0]), (7, .int .i64), (8, .int .i64)], [.row false 0 26 (.sl (.int .i64)), .cells [.sl (.int .i64)]]⟩ [1, 3] .none))) .none))
    (by kernel_rfl) rfl (by kernel_rfl) (by kernel_rfl) (by kernel_rfl) rfl ⟨rfl, by unfold TOk; kernel_rfl, gOk_of rfl rfl (List.forall_mem_cons.2 ⟨en_times_Least_c1_h _N, (List.forall_mem_nil _)⟩), iOk_of rfl rfl (List.forall_mem_nil _), rfl⟩ (fun _x => by kernel_rfl)
theorem en_slices_IndexFunc_LLint_Lint_h2 (_N : Nat) : EntOk Try.prog [] (mkHe 78 Sg_slices_IndexFunc_LLint_Lint_h2 (D_slices_IndexFunc_LLint_Lint_h2 _N)) := entH ⟨Try.f78, bodyOf Try.f78, by kernel_rfl, by kernel_rfl, rfl⟩ (sp_slices_IndexFunc_LLint_Lint_h2 _N)
-- (with objects) slices.ContainsFunc[[][]int,[]int]
abbrev Sg_slices_ContainsFunc_LLint_Lint_h2 : Sig := ⟨[.form (.slc 0 0), .form (.clo 77 [.ptr 1 0])], [.row false 0 26 (.sl (.int .i64)), .cells [.sl (.int .i64)]],
  [.dat false .bool], [.row false 0 26 (.sl (.int .i64)), .cells [.sl (.int .i64)]], []⟩
abbrev Rt_slices_ContainsFunc_LLint_Lint_h2 : Type := Bool × List (List Int) × List Int
noncomputable def C_slices_ContainsFunc_LLint_Lint_h2 (_N : Nat) : Ctx := { T := [], G := findE [mkHe 78 Sg_slices_IndexFunc_LLint_Lint_h2 (D_slices_IndexFunc_LLint_Lint_h2 _N)], I := findI [], N := _N, n := 9, fx := [], fl := 2, gs := [] }
noncomputable def slices_ContainsFunc_LLint_Lint_h2_1 (_N : Nat) (_x1 : List (List Int)) (_x2 : List Int) : Option Rt_slices_ContainsFunc_LLint_Lint_h2 :=
  ((D_slices_IndexFunc_LLint_Lint_h2 _N (_x1, _x2)).bind fun _y2 => (some ((decide (_y2.1 ≥ (0 : Int))), _y2.2.1, _y2.2.2)))
noncomputable def D_slices_ContainsFunc_LLint_Lint_h2 (_N : Nat) (_x : List (List Int) × List Int) : Option Rt_slices_ContainsFunc_LLint_Lint_h2 := slices_ContainsFunc_LLint_Lint_h2_1 _N _x.1 _x.2
theorem sp_slices_ContainsFunc_LLint_Lint_h2 (_N : Nat) : SpecH Try.prog [] 40 Sg_slices_ContainsFunc_LLint_Lint_h2 (D_slices_ContainsFunc_LLint_Lint_h2 _N) := mkSpH (fn := Try.f40) (c := bodyOf Try.f40) (C := (C_slices_ContainsFunc_LLint_Lint_h2 _N))
    (a := .none)
    (by kernel_rfl) rfl (by kernel_rfl) (by kernel_rfl) (by kernel_rfl) rfl ⟨rfl, by unfold TOk; kernel_rfl, gOk_of rfl rfl (List.forall_mem_cons.2 ⟨en_slices_IndexFunc_LLint_Lint_h2 _N, (List.forall_mem_nil _)⟩), iOk_of rfl rfl (List.forall_mem_nil _), rfl⟩ (fun _x => by kernel_rfl)
theorem en_slices_ContainsFunc_LLint_Lint_h2 (_N : Nat) : EntOk Try.prog [] (mkHe 40 Sg_slices_ContainsFunc_LLint_Lint_h2 (D_slices_ContainsFunc_LLint_Lint_h2 _N)) := entH ⟨Try.f40, bodyOf Try.f40, by kernel_rfl, by kernel_rfl, rfl⟩ (sp_slices_ContainsFunc_LLint_Lint_h2 _N)
-- watershed/times.Least
abbrev Ks_times_Least : List Kd := [.dat (.sl (.sl (.int .i64)))]
abbrev Rt_times_Least : Type := List (List Int)
noncomputable def C_times_Least (_N : Nat) : Ctx := { T := [(22, ⟨.slice 26, 1, 24, some (.sl (.sl (.int .i64))), [.nil], false, []⟩), (26, ⟨.slice 3, 1, 24, some (.sl (.int .i64)), [.nil], false, []⟩)], G := findE [mkG 75 Ks_slices_Clone_LLint_Lint 26 (.sl (.int .i64)) (D_slices_Clone_LLint_Lint _N), mkS 76 26 (.sl (.int .i64)) 44 (fun p q => (D_slices_Compare_Lint_int _N (p, q, ())).map (·.1)), mkHe 40 Sg_slices_ContainsFunc_LLint_Lint_h2 (D_slices_ContainsFunc_LLint_Lint_h2 _N), mkF 56 Ks_slices_Clone_Lint_int 3 (.int .i64) (D_slices_Clone_Lint_int _N)], I := findI [], N := _N, n := 28, fx := [1], fl := 0, gs := [] }
noncomputable def times_Least_1 (_N : Nat) (_v14 : List (List Int)) : Option Rt_times_Least :=
  (some _v14)
noncomputable def times_Least_2 (_N : Nat) (_k17 : (List (List Int) × List (List Int)) → Option Rt_times_Least) (_v3 : Int) (_v5 : List (List Int)) (_v4 : Int) (_v8 : List (List Int)) (_kn18 : (Int × List (List Int)) × (Int × List (List Int)) → Option Rt_times_Least) : Option Rt_times_Least :=
  (bif (decide (_v4 < _v3)) then (bif (decide (0 ≤ _v4) && decide (_v4 < (_v5.length : Int))) then ((D_slices_ContainsFunc_LLint_Lint_h2 _N (_v8, (nth ([]) _v5 ((_v4).toNat)))).bind fun _y19 => (bif (!_y19.1) then ((D_slices_Clone_Lint_int _N (_y19.2.2, ())).bind fun _y20 => (bif (decide ((_y19.2.1.length + ([_y20]).length) * 24 ≤ 140737488355328) && Nat.ble 1 24) then (_kn18 ((_v3, _v5), ((IntKind.i64.wrap (_v4 + (1 : Int))), (_y19.2.1 ++ [_y20])))) else none)) else (_kn18 ((_v3, _v5), ((IntKind.i64.wrap (_v4 + (1 : Int))), _y19.2.1))))) else none) else (_k17 (_v5, _v8)))
noncomputable def times_Least_3 (_N : Nat) (_x1 : List (List Int)) : Option Rt_times_Least :=
  ((D_slices_Clone_LLint_Lint _N (_x1, ())).bind fun _y15 => ((sortR (fun p q => (D_slices_Compare_Lint_int _N (p, q, ())).map (·.1)) _y15).bind fun _y16 => (joinD (fun (_s : List (List Int) × List (List Int)) => times_Least_1 _N _s.2) fun _k17 => (loopE (fun (_c : Int × List (List Int)) (_s : Int × List (List Int)) _kn => times_Least_2 _N _k17 _c.1 _c.2 _s.1 _s.2 _kn) _N ((_y16.length : Int), _y16) ((0 : Int), [])))))
noncomputable def D_times_Least (_N : Nat) (_x : Dens Ks_times_Least) : Option Rt_times_Least := times_Least_3 _N _x.1
theorem sp_times_Least (_N : Nat) : SpecF Try.prog [] 39 Ks_times_Least 26 (.sl (.int .i64)) (D_times_Least _N) := mkSpF (fn := Try.f39) (c := bodyOf Try.f39) (C := C_times_Least _N)
    (a := .two .none (.two .none (.two .none (.two .none (.join 2 ⟨[(4, .slc 1 0)], [.row false 0 26 (.sl (.int .i64)), .row false 0 26 (.sl (.int .i64))]⟩ (.two .none (.one (.obj 4 26 (.sl (.int .i64)) (.loop 2 ⟨[(4, .slc 1 0), (11, .slc 0 0), (12, .int .i64), (13, .int .i64)], [.row false 0 26 (.sl (.int .i64)), .row false 0 26 (.sl (.int .i64))]⟩ [1, 3] .none)))) .none)))))
    (by kernel_rfl) rfl (by kernel_rfl) (by kernel_rfl) ⟨rfl, by unfold TOk; kernel_rfl, gOk_of rfl rfl (List.forall_mem_cons.2 ⟨en_slices_Clone_LLint_Lint _N, (List.forall_mem_cons.2 ⟨en_sortT _N, (List.forall_mem_cons.2 ⟨en_slices_ContainsFunc_LLint_Lint_h2 _N, (List.forall_mem_cons.2 ⟨en_slices_Clone_Lint_int _N, (List.forall_mem_nil _)⟩)⟩)⟩)⟩), iOk_of rfl rfl (List.forall_mem_nil _), rfl⟩ (fun _x => by kernel_rfl)
theorem en_times_Least (_N : Nat) : EntOk Try.prog [] (mkG 39 Ks_times_Least 26 (.sl (.int .i64)) (D_times_Least _N)) := entG ⟨Try.f39, bodyOf Try.f39, by kernel_rfl, by kernel_rfl, rfl⟩ (Nat.le_of_ble_eq_true (by kernel_rfl)) (sp_times_Least _N)
theorem qen_times_Least (_N : Nat) : EntOk Try.prog [] (mkQ 39 Ks_times_Least [.dat (.sl (.sl (.int .i64)))] (fun _x => (D_times_Least _N _x).map fun _y => (_y, ()))) := entQ ⟨Try.f39, bodyOf Try.f39, by kernel_rfl, by kernel_rfl, rfl⟩ (specD_of_F (sp_times_Least _N))
-- watershed/times.Front
abbrev Ks_times_Front : List Kd := [.dat (.sl (.sl (.int .i64)))]
abbrev Rk_times_Front : List Kd := [.dat (.sl (.sl (.int .i64))), .dat (.int .i64)]
abbrev Rt_times_Front : Type := Dens Rk_times_Front
noncomputable def C_times_Front (_N : Nat) : Ctx := { T := [], G := findE [mkP 38 Ks_times_List Rk_times_List (D_times_List _N), mkG 39 Ks_times_Least 26 (.sl (.int .i64)) (D_times_Least _N)], I := findI [], N := _N, n := 12, fx := [], fl := 0, gs := [] }
noncomputable def times_Front_1 (_N : Nat) (_x1 : List (List Int)) : Option Rt_times_Front :=
  ((D_times_List _N (_x1, ())).bind fun _y3 => (bif (_y3.1 != (0 : Int)) then (some ([], _y3.1, ())) else ((D_times_Least _N (_x1, ())).bind fun _y4 => (some (_y4, (0 : Int), ())))))
noncomputable def D_times_Front (_N : Nat) (_x : Dens Ks_times_Front) : Option Rt_times_Front := times_Front_1 _N _x.1
theorem sp_times_Front (_N : Nat) : SpecD Try.prog [] 15 Ks_times_Front Rk_times_Front (D_times_Front _N) := mkSpD (fn := Try.f15) (c := bodyOf Try.f15) (C := C_times_Front _N)
    (a := .none)
    (by kernel_rfl) rfl (by kernel_rfl) (by kernel_rfl) ⟨rfl, by unfold TOk; kernel_rfl, gOk_of rfl rfl (List.forall_mem_cons.2 ⟨en_times_List _N, (List.forall_mem_cons.2 ⟨en_times_Least _N, (List.forall_mem_nil _)⟩)⟩), iOk_of rfl rfl (List.forall_mem_nil _), rfl⟩ (fun _x => by kernel_rfl)
theorem en_times_Front (_N : Nat) : EntOk Try.prog [] (mkD 15 Ks_times_Front Rk_times_Front (D_times_Front _N)) := entD ⟨Try.f15, bodyOf Try.f15, by kernel_rfl, by kernel_rfl, rfl⟩ (sp_times_Front _N)
theorem qen_times_Front (_N : Nat) : EntOk Try.prog [] (mkQ 15 Ks_times_Front Rk_times_Front (D_times_Front _N)) := entQ ⟨Try.f15, bodyOf Try.f15, by kernel_rfl, by kernel_rfl, rfl⟩ (sp_times_Front _N)
-- watershed/times.Open$1
abbrev Ks_times_Open_c1 : List Kd := [.dat (.sl (.int .i64)), .ptr (.sl (.int .i64))]
abbrev Rk_times_Open_c1 : List Kd := [.dat (.bool)]
abbrev Rt_times_Open_c1 : Type := Dens Rk_times_Open_c1
noncomputable def C_times_Open_c1 (_N : Nat) : Ctx := { T := [(26, ⟨.slice 3, 1, 24, some (.sl (.int .i64)), [.nil], false, []⟩)], G := findE [mkP 18 Ks_times_Leq Rk_times_Leq (D_times_Leq _N)], I := findI [], N := _N, n := 7, fx := [], fl := 0, gs := [] }
noncomputable def times_Open_c1_1 (_N : Nat) (_x1 : List Int) (_x2 : List Int) : Option Rt_times_Open_c1 :=
  ((D_times_Leq _N (_x1, _x2, ())).bind fun _y2 => (some (_y2.1, ())))
noncomputable def D_times_Open_c1 (_N : Nat) (_x : Dens Ks_times_Open_c1) : Option Rt_times_Open_c1 := times_Open_c1_1 _N _x.1 _x.2.1
theorem sp_times_Open_c1 (_N : Nat) : SpecD Try.prog [] 41 Ks_times_Open_c1 Rk_times_Open_c1 (D_times_Open_c1 _N) := mkSpD (fn := Try.f41) (c := bodyOf Try.f41) (C := C_times_Open_c1 _N)
    (a := .none)
    (by kernel_rfl) rfl (by kernel_rfl) (by kernel_rfl) ⟨rfl, by unfold TOk; kernel_rfl, gOk_of rfl rfl (List.forall_mem_cons.2 ⟨en_times_Leq _N, (List.forall_mem_nil _)⟩), iOk_of rfl rfl (List.forall_mem_nil _), rfl⟩ (fun _x => by kernel_rfl)
theorem en_times_Open_c1 (_N : Nat) : EntOk Try.prog [] (mkP 41 Ks_times_Open_c1 Rk_times_Open_c1 (D_times_Open_c1 _N)) := entP ⟨Try.f41, bodyOf Try.f41, by kernel_rfl, by kernel_rfl, rfl⟩ (by kernel_rfl) (sp_times_Open_c1 _N)
-- slices.IndexFunc[[][]int,[]int]
abbrev Ks_slices_IndexFunc_LLint_Lint_times_Open_c1 : List Kd := [.dat (.sl (.sl (.int .i64))), .clo 41 [.sl (.int .i64)]]
abbrev Rk_slices_IndexFunc_LLint_Lint_times_Open_c1 : List Kd := [.dat (.int .i64)]
abbrev Rt_slices_IndexFunc_LLint_Lint_times_Open_c1 : Type := Dens Rk_slices_IndexFunc_LLint_Lint_times_Open_c1
noncomputable def C_slices_IndexFunc_LLint_Lint_times_Open_c1 (_N : Nat) : Ctx := { T := [(22, ⟨.slice 26, 1, 24, some (.sl (.sl (.int .i64))), [.nil], false, []⟩), (26, ⟨.slice 3, 1, 24, some (.sl (.int .i64)), [.nil], false, []⟩)], G := findE [mkP 41 Ks_times_Open_c1 Rk_times_Open_c1 (D_times_Open_c1 _N)], I := findI [], N := _N, n := 19, fx := [], fl := 0, gs := [] }
noncomputable def slices_IndexFunc_LLint_Lint_times_Open_c1_1 (_N : Nat) : Option Rt_slices_IndexFunc_LLint_Lint_times_Open_c1 :=
  (some ((-1 : Int), ()))
noncomputable def slices_IndexFunc_LLint_Lint_times_Open_c1_2 (_N : Nat) (_k7 : Unit → Option Rt_slices_IndexFunc_LLint_Lint_times_Open_c1) (_v1 : List (List Int)) (_v2 : List Int) (_v3 : Int) (_v4 : Int) (_kn8 : (List (List Int) × List Int × Int) × Int → Option Rt_slices_IndexFunc_LLint_Lint_times_Open_c1) : Option Rt_slices_IndexFunc_LLint_Lint_times_Open_c1 :=
  (bif (decide (_v4 < _v3)) then (bif (decide (0 ≤ _v4) && decide (_v4 < (_v1.length : Int))) then ((D_times_Open_c1 _N ((nth ([]) _v1 (_v4).toNat), _v2, ())).bind fun _y9 => (bif _y9.1 then (some (_v4, ())) else (_kn8 ((_v1, _v2, _v3), (IntKind.i64.wrap (_v4 + (1 : Int))))))) else none) else (_k7 ()))
noncomputable def slices_IndexFunc_LLint_Lint_times_Open_c1_3 (_N : Nat) (_x1 : List (List Int)) (_x2 : List Int × Unit) : Option Rt_slices_IndexFunc_LLint_Lint_times_Open_c1 :=
  (joinD (fun (_s : Unit) => slices_IndexFunc_LLint_Lint_times_Open_c1_1 _N) fun _k7 => (loopE (fun (_c : List (List Int) × List Int × Int) (_s : Int) _kn => slices_IndexFunc_LLint_Lint_times_Open_c1_2 _N _k7 _c.1 _c.2.1 _c.2.2 _s _kn) _N (_x1, _x2.1, (_x1.length : Int)) (0 : Int)))
noncomputable def D_slices_IndexFunc_LLint_Lint_times_Open_c1 (_N : Nat) (_x : Dens Ks_slices_IndexFunc_LLint_Lint_times_Open_c1) : Option Rt_slices_IndexFunc_LLint_Lint_times_Open_c1 := slices_IndexFunc_LLint_Lint_times_Open_c1_3 _N _x.1 _x.2.1
theorem sp_slices_IndexFunc_LLint_Lint_times_Open_c1 (_N : Nat) : SpecD Try.prog [] 78 Ks_slices_IndexFunc_LLint_Lint_times_Open_c1 Rk_slices_IndexFunc_LLint_Lint_times_Open_c1 (D_slices_IndexFunc_LLint_Lint_times_Open_c1 _N) := mkSpD (fn := Try.f78) (c := bodyOf Try.f78) (C := C_slices_IndexFunc_LLint_Lint_times_Open_c1 _N)
    (a := .two .none (.join 0 ⟨[], []⟩ (.two .none (.one (.loop 0 ⟨[(0, .sl (.sl (.int .i64))), (1, .clo 41 [.fptr (.sl (.int .i64))]), (7, .int .i64), (8, .int .i64)], []⟩ [3] .none))) .none))
    (by kernel_rfl) rfl (by kernel_rfl) (by kernel_rfl) ⟨rfl, by unfold TOk; kernel_rfl, gOk_of rfl rfl (List.forall_mem_cons.2 ⟨en_times_Open_c1 _N, (List.forall_mem_nil _)⟩), iOk_of rfl rfl (List.forall_mem_nil _), rfl⟩ (fun _x => by kernel_rfl)
theorem en_slices_IndexFunc_LLint_Lint_times_Open_c1 (_N : Nat) : EntOk Try.prog [] (mkP 78 Ks_slices_IndexFunc_LLint_Lint_times_Open_c1 Rk_slices_IndexFunc_LLint_Lint_times_Open_c1 (D_slices_IndexFunc_LLint_Lint_times_Open_c1 _N)) := entP ⟨Try.f78, bodyOf Try.f78, by kernel_rfl, by kernel_rfl, rfl⟩ (by kernel_rfl) (sp_slices_IndexFunc_LLint_Lint_times_Open_c1 _N)
-- slices.ContainsFunc[[][]int,[]int]
abbrev Ks_slices_ContainsFunc_LLint_Lint_times_Open_c1 : List Kd := [.dat (.sl (.sl (.int .i64))), .clo 41 [.sl (.int .i64)]]
abbrev Rk_slices_ContainsFunc_LLint_Lint_times_Open_c1 : List Kd := [.dat (.bool)]
abbrev Rt_slices_ContainsFunc_LLint_Lint_times_Open_c1 : Type := Dens Rk_slices_ContainsFunc_LLint_Lint_times_Open_c1
noncomputable def C_slices_ContainsFunc_LLint_Lint_times_Open_c1 (_N : Nat) : Ctx := { T := [], G := findE [mkP 78 Ks_slices_IndexFunc_LLint_Lint_times_Open_c1 Rk_slices_IndexFunc_LLint_Lint_times_Open_c1 (D_slices_IndexFunc_LLint_Lint_times_Open_c1 _N)], I := findI [], N := _N, n := 9, fx := [], fl := 0, gs := [] }
noncomputable def slices_ContainsFunc_LLint_Lint_times_Open_c1_1 (_N : Nat) (_x1 : List (List Int)) (_x2 : List Int × Unit) : Option Rt_slices_ContainsFunc_LLint_Lint_times_Open_c1 :=
  ((D_slices_IndexFunc_LLint_Lint_times_Open_c1 _N (_x1, (_x2.1, ()), ())).bind fun _y2 => (some ((decide (_y2.1 ≥ (0 : Int))), ())))
noncomputable def D_slices_ContainsFunc_LLint_Lint_times_Open_c1 (_N : Nat) (_x : Dens Ks_slices_ContainsFunc_LLint_Lint_times_Open_c1) : Option Rt_slices_ContainsFunc_LLint_Lint_times_Open_c1 := slices_ContainsFunc_LLint_Lint_times_Open_c1_1 _N _x.1 _x.2.1
theorem sp_slices_ContainsFunc_LLint_Lint_times_Open_c1 (_N : Nat) : SpecD Try.prog [] 40 Ks_slices_ContainsFunc_LLint_Lint_times_Open_c1 Rk_slices_ContainsFunc_LLint_Lint_times_Open_c1 (D_slices_ContainsFunc_LLint_Lint_times_Open_c1 _N) := mkSpD (fn := Try.f40) (c := bodyOf Try.f40) (C := C_slices_ContainsFunc_LLint_Lint_times_Open_c1 _N)
    (a := .none)
    (by kernel_rfl) rfl (by kernel_rfl) (by kernel_rfl) ⟨rfl, by unfold TOk; kernel_rfl, gOk_of rfl rfl (List.forall_mem_cons.2 ⟨en_slices_IndexFunc_LLint_Lint_times_Open_c1 _N, (List.forall_mem_nil _)⟩), iOk_of rfl rfl (List.forall_mem_nil _), rfl⟩ (fun _x => by kernel_rfl)
theorem en_slices_ContainsFunc_LLint_Lint_times_Open_c1 (_N : Nat) : EntOk Try.prog [] (mkP 40 Ks_slices_ContainsFunc_LLint_Lint_times_Open_c1 Rk_slices_ContainsFunc_LLint_Lint_times_Open_c1 (D_slices_ContainsFunc_LLint_Lint_times_Open_c1 _N)) := entP ⟨Try.f40, bodyOf Try.f40, by kernel_rfl, by kernel_rfl, rfl⟩ (by kernel_rfl) (sp_slices_ContainsFunc_LLint_Lint_times_Open_c1 _N)
-- watershed/times.Open
abbrev Ks_times_Open : List Kd := [.dat (.sl (.sl (.int .i64))), .dat (.sl (.int .i64))]
abbrev Rk_times_Open : List Kd := [.dat (.bool)]
abbrev Rt_times_Open : Type := Dens Rk_times_Open
noncomputable def C_times_Open (_N : Nat) : Ctx := { T := [], G := findE [mkP 40 Ks_slices_ContainsFunc_LLint_Lint_times_Open_c1 Rk_slices_ContainsFunc_LLint_Lint_times_Open_c1 (D_slices_ContainsFunc_LLint_Lint_times_Open_c1 _N)], I := findI [], N := _N, n := 8, fx := [], fl := 0, gs := [] }
noncomputable def times_Open_1 (_N : Nat) (_x1 : List (List Int)) (_x2 : List Int) : Option Rt_times_Open :=
  ((D_slices_ContainsFunc_LLint_Lint_times_Open_c1 _N (_x1, (_x2, ()), ())).bind fun _y2 => (some (_y2.1, ())))
noncomputable def D_times_Open (_N : Nat) (_x : Dens Ks_times_Open) : Option Rt_times_Open := times_Open_1 _N _x.1 _x.2.1
theorem sp_times_Open (_N : Nat) : SpecD Try.prog [] 17 Ks_times_Open Rk_times_Open (D_times_Open _N) := mkSpD (fn := Try.f17) (c := bodyOf Try.f17) (C := C_times_Open _N)
    (a := .none)
    (by kernel_rfl) rfl (by kernel_rfl) (by kernel_rfl) ⟨rfl, by unfold TOk; kernel_rfl, gOk_of rfl rfl (List.forall_mem_cons.2 ⟨en_slices_ContainsFunc_LLint_Lint_times_Open_c1 _N, (List.forall_mem_nil _)⟩), iOk_of rfl rfl (List.forall_mem_nil _), rfl⟩ (fun _x => by kernel_rfl)
theorem en_times_Open (_N : Nat) : EntOk Try.prog [] (mkP 17 Ks_times_Open Rk_times_Open (D_times_Open _N)) := entP ⟨Try.f17, bodyOf Try.f17, by kernel_rfl, by kernel_rfl, rfl⟩ (by kernel_rfl) (sp_times_Open _N)
-- watershed/watershedref.TimesSame
abbrev Ks_ref_TimesSame : List Kd := [.dat (.sl (.int .i64)), .dat (.sl (.int .i64))]
abbrev Rk_ref_TimesSame : List Kd := [.dat (.bool)]
abbrev Rt_ref_TimesSame : Type := Dens Rk_ref_TimesSame
noncomputable def C_ref_TimesSame (_N : Nat) : Ctx := { T := [(3, ⟨.int .i64, 1, 8, some (.int .i64), [.int .i64 (0 : Int)], false, []⟩), (26, ⟨.slice 3, 1, 24, some (.sl (.int .i64)), [.nil], false, []⟩)], G := findE [], I := findI [], N := _N, n := 26, fx := [], fl := 0, gs := [] }
noncomputable def ref_TimesSame_1 (_N : Nat) : Option Rt_ref_TimesSame :=
  (some (true, ()))
noncomputable def ref_TimesSame_2 (_N : Nat) (_k4 : Unit → Option Rt_ref_TimesSame) (_v1 : List Int) (_v2 : List Int) (_v3 : Int) (_kn5 : (List Int × List Int) × Int → Option Rt_ref_TimesSame) : Option Rt_ref_TimesSame :=
  (bif (decide (_v3 < (_v1.length : Int))) then (bif (decide (0 ≤ _v3) && decide (_v3 < (_v1.length : Int))) then (bif (decide (0 ≤ _v3) && decide (_v3 < (_v2.length : Int))) then (bif ((nth (0 : Int) _v1 (_v3).toNat) != (nth (0 : Int) _v2 (_v3).toNat)) then (some (false, ())) else (_kn5 ((_v1, _v2), (IntKind.i64.wrap (_v3 + (1 : Int)))))) else none) else none) else (_k4 ()))
noncomputable def ref_TimesSame_3 (_N : Nat) (_x1 : List Int) (_x2 : List Int) : Option Rt_ref_TimesSame :=
  (bif ((_x1.length : Int) != (_x2.length : Int)) then (some (false, ())) else (joinD (fun (_s : Unit) => ref_TimesSame_1 _N) fun _k4 => (loopE (fun (_c : List Int × List Int) (_s : Int) _kn => ref_TimesSame_2 _N _k4 _c.1 _c.2 _s _kn) _N (_x1, _x2) (0 : Int))))
noncomputable def D_ref_TimesSame (_N : Nat) (_x : Dens Ks_ref_TimesSame) : Option Rt_ref_TimesSame := ref_TimesSame_3 _N _x.1 _x.2.1
theorem sp_ref_TimesSame (_N : Nat) : SpecD Try.prog [] 31 Ks_ref_TimesSame Rk_ref_TimesSame (D_ref_TimesSame _N) := mkSpD (fn := Try.f31) (c := bodyOf Try.f31) (C := C_ref_TimesSame _N)
    (a := .two .none (.two .none (.join 0 ⟨[], []⟩ (.two .none (.one (.loop 0 ⟨[(0, .sl (.int .i64)), (1, .sl (.int .i64)), (5, .int .i64)], []⟩ [2] (.two .none (.two (.one (.two (.draw 0 [.pure, .pure, .pure, .pure, .pure, .pure, .pure, .pure, .pure]) .none)) .none))))) .none)))
    (by kernel_rfl) rfl (by kernel_rfl) (by kernel_rfl) ⟨rfl, by unfold TOk; kernel_rfl, gOk_of rfl rfl (List.forall_mem_nil _), iOk_of rfl rfl (List.forall_mem_nil _), rfl⟩ (fun _x => by kernel_rfl)
theorem en_ref_TimesSame (_N : Nat) : EntOk Try.prog [] (mkP 31 Ks_ref_TimesSame Rk_ref_TimesSame (D_ref_TimesSame _N)) := entP ⟨Try.f31, bodyOf Try.f31, by kernel_rfl, by kernel_rfl, rfl⟩ (by kernel_rfl) (sp_ref_TimesSame _N)
-- watershed/watershedref.Lists
abbrev Ks_ref_Lists : List Kd := [.dat (.sl (.sl (.int .i64))), .dat (.sl (.sl (.int .i64)))]
abbrev Rk_ref_Lists : List Kd := [.dat (.bool)]
abbrev Rt_ref_Lists : Type := Dens Rk_ref_Lists
noncomputable def C_ref_Lists (_N : Nat) : Ctx := { T := [(22, ⟨.slice 26, 1, 24, some (.sl (.sl (.int .i64))), [.nil], false, []⟩), (26, ⟨.slice 3, 1, 24, some (.sl (.int .i64)), [.nil], false, []⟩)], G := findE [mkP 31 Ks_ref_TimesSame Rk_ref_TimesSame (D_ref_TimesSame _N)], I := findI [], N := _N, n := 27, fx := [], fl := 0, gs := [] }
noncomputable def ref_Lists_1 (_N : Nat) : Option Rt_ref_Lists :=
  (some (true, ()))
noncomputable def ref_Lists_2 (_N : Nat) (_k6 : Unit → Option Rt_ref_Lists) (_v1 : List (List Int)) (_v2 : List (List Int)) (_v3 : Int) (_kn7 : (List (List Int) × List (List Int)) × Int → Option Rt_ref_Lists) : Option Rt_ref_Lists :=
  (bif (decide (_v3 < (_v1.length : Int))) then (bif (decide (0 ≤ _v3) && decide (_v3 < (_v1.length : Int))) then (bif (decide (0 ≤ _v3) && decide (_v3 < (_v2.length : Int))) then ((D_ref_TimesSame _N ((nth ([]) _v1 (_v3).toNat), (nth ([]) _v2 (_v3).toNat), ())).bind fun _y8 => (bif (!_y8.1) then (some (false, ())) else (_kn7 ((_v1, _v2), (IntKind.i64.wrap (_v3 + (1 : Int))))))) else none) else none) else (_k6 ()))
noncomputable def ref_Lists_3 (_N : Nat) (_x1 : List (List Int)) (_x2 : List (List Int)) : Option Rt_ref_Lists :=
  (bif ((_x1.length : Int) != (_x2.length : Int)) then (some (false, ())) else (joinD (fun (_s : Unit) => ref_Lists_1 _N) fun _k6 => (loopE (fun (_c : List (List Int) × List (List Int)) (_s : Int) _kn => ref_Lists_2 _N _k6 _c.1 _c.2 _s _kn) _N (_x1, _x2) (0 : Int))))
noncomputable def D_ref_Lists (_N : Nat) (_x : Dens Ks_ref_Lists) : Option Rt_ref_Lists := ref_Lists_3 _N _x.1 _x.2.1
theorem sp_ref_Lists (_N : Nat) : SpecD Try.prog [] 16 Ks_ref_Lists Rk_ref_Lists (D_ref_Lists _N) := mkSpD (fn := Try.f16) (c := bodyOf Try.f16) (C := C_ref_Lists _N)
    (a := .two .none (.two .none (.join 0 ⟨[], []⟩ (.two .none (.one (.loop 0 ⟨[(0, .sl (.sl (.int .i64))), (1, .sl (.sl (.int .i64))), (5, .int .i64)], []⟩ [2] (.two .none (.two (.one (.two (.draw 0 [.pure, .pure, .pure, .pure, .pure, .pure, .pure, .pure, .pure, .pure]) .none)) .none))))) .none)))
    (by kernel_rfl) rfl (by kernel_rfl) (by kernel_rfl) ⟨rfl, by unfold TOk; kernel_rfl, gOk_of rfl rfl (List.forall_mem_cons.2 ⟨en_ref_TimesSame _N, (List.forall_mem_nil _)⟩), iOk_of rfl rfl (List.forall_mem_nil _), rfl⟩ (fun _x => by kernel_rfl)
theorem en_ref_Lists (_N : Nat) : EntOk Try.prog [] (mkP 16 Ks_ref_Lists Rk_ref_Lists (D_ref_Lists _N)) := entP ⟨Try.f16, bodyOf Try.f16, by kernel_rfl, by kernel_rfl, rfl⟩ (by kernel_rfl) (sp_ref_Lists _N)
-- watershed/times.Less
abbrev Ks_times_Less : List Kd := [.dat (.sl (.int .i64)), .dat (.sl (.int .i64))]
abbrev Rk_times_Less : List Kd := [.dat (.bool)]
abbrev Rt_times_Less : Type := Dens Rk_times_Less
noncomputable def C_times_Less (_N : Nat) : Ctx := { T := [], G := findE [mkP 42 Ks_times_alike Rk_times_alike (D_times_alike _N), mkP 44 Ks_slices_Compare_Lint_int Rk_slices_Compare_Lint_int (D_slices_Compare_Lint_int _N)], I := findI [], N := _N, n := 14, fx := [], fl := 0, gs := [] }
noncomputable def times_Less_1 (_N : Nat) (_x1 : List Int) (_x2 : List Int) : Option Rt_times_Less :=
  ((D_times_alike _N (_x1, _x2, ())).bind fun _y3 => (bif _y3.1 then ((D_slices_Compare_Lint_int _N (_x1, _x2, ())).bind fun _y4 => (some ((decide (_y4.1 < (0 : Int))), ()))) else (some (false, ()))))
noncomputable def D_times_Less (_N : Nat) (_x : Dens Ks_times_Less) : Option Rt_times_Less := times_Less_1 _N _x.1 _x.2.1
theorem sp_times_Less (_N : Nat) : SpecD Try.prog [] 19 Ks_times_Less Rk_times_Less (D_times_Less _N) := mkSpD (fn := Try.f19) (c := bodyOf Try.f19) (C := C_times_Less _N)
    (a := .none)
    (by kernel_rfl) rfl (by kernel_rfl) (by kernel_rfl) ⟨rfl, by unfold TOk; kernel_rfl, gOk_of rfl rfl (List.forall_mem_cons.2 ⟨en_times_alike _N, (List.forall_mem_cons.2 ⟨en_slices_Compare_Lint_int _N, (List.forall_mem_nil _)⟩)⟩), iOk_of rfl rfl (List.forall_mem_nil _), rfl⟩ (fun _x => by kernel_rfl)
theorem en_times_Less (_N : Nat) : EntOk Try.prog [] (mkP 19 Ks_times_Less Rk_times_Less (D_times_Less _N)) := entP ⟨Try.f19, bodyOf Try.f19, by kernel_rfl, by kernel_rfl, rfl⟩ (by kernel_rfl) (sp_times_Less _N)
end Go.Proofs.Ytololihlpldcdaa
