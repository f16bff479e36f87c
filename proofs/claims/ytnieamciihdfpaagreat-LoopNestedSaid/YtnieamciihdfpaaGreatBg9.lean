import Derived.Test.YtnieamciihdfpaaGreatAbsSubF
import Derived.Test.YtnieamciihdfpaaGreatAbsRo
import Derived.Test.YtnieamciihdfpaaGreatAbsSort
import Derived.Test.YtnieamciihdfpaaGreatAbsOrd
import Derived.Test.YtnieamciihdfpaaGreatAbsLat
import Derived.Test.YtnieamciihdfpaaGreatProg
import Derived.Shelf.SlGeneric
import Derived.Ground.SlsfProg
import Derived.KernelRfl
namespace Go.Proofs.YtnieamciihdfpaaGreat
open Go.Abs
def bodyOf (f : Func) : Code := f.body.getD .skip
abbrev Ks_cmp_isNaN_int64 : List Kd := [.dat (.int .i64)]
abbrev Rk_cmp_isNaN_int64 : List Kd := [.dat (.bool)]
abbrev Rt_cmp_isNaN_int64 : Type := Dens Rk_cmp_isNaN_int64
noncomputable def C_cmp_isNaN_int64 (_N : Nat) : Ctx := { T := [], G := findE [], I := findI [], N := _N, n := 6, fx := [], fl := 0, gs := [] }
noncomputable def cmp_isNaN_int64_1 (_N : Nat) (_x1 : Int) : Option Rt_cmp_isNaN_int64 :=
 (some ((_x1 != _x1), ()))
noncomputable def D_cmp_isNaN_int64 (_N : Nat) (_x : Dens Ks_cmp_isNaN_int64) : Option Rt_cmp_isNaN_int64 := cmp_isNaN_int64_1 _N _x.1
theorem sp_cmp_isNaN_int64 (_N : Nat) : SpecD Tryz.prog [] 95 Ks_cmp_isNaN_int64 Rk_cmp_isNaN_int64 (D_cmp_isNaN_int64 _N) := mkSpD (fn := Tryz.f95) (c := bodyOf Tryz.f95) (C := C_cmp_isNaN_int64 _N)
  (a := .none)
  (by kernel_rfl) rfl (by kernel_rfl) (by kernel_rfl) ⟨rfl, by unfold TOk; kernel_rfl, gOk_of rfl rfl (List.forall_mem_nil _), iOk_of rfl rfl (List.forall_mem_nil _), rfl⟩ (fun _x => by kernel_rfl)
theorem en_cmp_isNaN_int64 (_N : Nat) : EntOk Tryz.prog [] (mkP 95 Ks_cmp_isNaN_int64 Rk_cmp_isNaN_int64 (D_cmp_isNaN_int64 _N)) := entP ⟨Tryz.f95, bodyOf Tryz.f95, by kernel_rfl, by kernel_rfl, rfl⟩ (by kernel_rfl) (sp_cmp_isNaN_int64 _N)
abbrev Ks_cmp_Compare_int64 : List Kd := [.dat (.int .i64), .dat (.int .i64)]
abbrev Rk_cmp_Compare_int64 : List Kd := [.dat (.int .i64)]
abbrev Rt_cmp_Compare_int64 : Type := Dens Rk_cmp_Compare_int64
noncomputable def C_cmp_Compare_int64 (_N : Nat) : Ctx := { T := [], G := findE [mkP 95 Ks_cmp_isNaN_int64 Rk_cmp_isNaN_int64 (D_cmp_isNaN_int64 _N)], I := findI [], N := _N, n := 20, fx := [], fl := 0, gs := [] }
noncomputable def cmp_Compare_int64_1 (_N : Nat) (_x1 : Int) (_x2 : Int) : Option Rt_cmp_Compare_int64 :=
 ((D_cmp_isNaN_int64 _N (_x1, ())).bind fun _y3 => ((D_cmp_isNaN_int64 _N (_x2, ())).bind fun _y4 => (bif _y3.1 then (bif _y4.1 then (some ((0 : Int), ())) else (some ((-1 : Int), ()))) else (bif _y4.1 then (some ((1 : Int), ())) else (bif (decide (_x1 < _x2)) then (some ((-1 : Int), ())) else (bif (decide (_x1 > _x2)) then (some ((1 : Int), ())) else (some ((0 : Int), ()))))))))
noncomputable def D_cmp_Compare_int64 (_N : Nat) (_x : Dens Ks_cmp_Compare_int64) : Option Rt_cmp_Compare_int64 := cmp_Compare_int64_1 _N _x.1 _x.2.1
theorem sp_cmp_Compare_int64 (_N : Nat) : SpecD Tryz.prog [] 69 Ks_cmp_Compare_int64 Rk_cmp_Compare_int64 (D_cmp_Compare_int64 _N) := mkSpD (fn := Tryz.f69) (c := bodyOf Tryz.f69) (C := C_cmp_Compare_int64 _N)
  (a := .none)
  (by kernel_rfl) rfl (by kernel_rfl) (by kernel_rfl) ⟨rfl, by unfold TOk; kernel_rfl, gOk_of rfl rfl (List.forall_mem_cons.2 ⟨en_cmp_isNaN_int64 _N, (List.forall_mem_nil _)⟩), iOk_of rfl rfl (List.forall_mem_nil _), rfl⟩ (fun _x => by kernel_rfl)
theorem en_cmp_Compare_int64 (_N : Nat) : EntOk Tryz.prog [] (mkP 69 Ks_cmp_Compare_int64 Rk_cmp_Compare_int64 (D_cmp_Compare_int64 _N)) := entP ⟨Tryz.f69, bodyOf Tryz.f69, by kernel_rfl, by kernel_rfl, rfl⟩ (by kernel_rfl) (sp_cmp_Compare_int64 _N)
abbrev Ks_cmp_Or_int : List Kd := [.dat (.sl (.int .i64))]
abbrev Rk_cmp_Or_int : List Kd := [.dat (.int .i64)]
abbrev Rt_cmp_Or_int : Type := Dens Rk_cmp_Or_int
noncomputable def C_cmp_Or_int (_N : Nat) : Ctx := { T := [(3, ⟨.int .i64, 1, 8, some (.int .i64), [.int .i64 (0 : Int)], false, []⟩), (25, ⟨.slice 3, 1, 24, some (.sl (.int .i64)), [.nil], false, []⟩)], G := findE [], I := findI [], N := _N, n := 18, fx := [], fl := 0, gs := [] }
noncomputable def cmp_Or_int_1 (_N : Nat) (_v5 : Int) : Option Rt_cmp_Or_int :=
 (some (_v5, ()))
noncomputable def cmp_Or_int_2 (_N : Nat) (_k6 : Int → Option Rt_cmp_Or_int) (_v1 : Int) (_v2 : List Int) (_v3 : Int) (_v4 : Int) (_kn7 : (Int × List Int × Int) × Int → Option Rt_cmp_Or_int) : Option Rt_cmp_Or_int :=
 (bif (decide (_v4 < _v3)) then (bif (decide (0 ≤ _v4) && decide (_v4 < (_v2.length : Int))) then (bif ((nth (0 : Int) _v2 (_v4).toNat) != _v1) then (some ((nth (0 : Int) _v2 (_v4).toNat), ())) else (_kn7 ((_v1, _v2, _v3), (IntKind.i64.wrap (_v4 + (1 : Int)))))) else none) else (_k6 _v1))
noncomputable def cmp_Or_int_3 (_N : Nat) (_x1 : List Int) : Option Rt_cmp_Or_int :=
 (joinD (fun (_s : Int) => cmp_Or_int_1 _N _s) fun _k6 => (loopE (fun (_c : Int × List Int × Int) (_s : Int) _kn => cmp_Or_int_2 _N _k6 _c.1 _c.2.1 _c.2.2 _s _kn) _N ((0 : Int), _x1, (_x1.length : Int)) (0 : Int)))
noncomputable def D_cmp_Or_int (_N : Nat) (_x : Dens Ks_cmp_Or_int) : Option Rt_cmp_Or_int := cmp_Or_int_3 _N _x.1
theorem sp_cmp_Or_int (_N : Nat) : SpecD Tryz.prog [] 68 Ks_cmp_Or_int Rk_cmp_Or_int (D_cmp_Or_int _N) := mkSpD (fn := Tryz.f68) (c := bodyOf Tryz.f68) (C := C_cmp_Or_int _N)
  (a := .two .none (.two .none (.join 0 ⟨[(3, .int .i64)], []⟩ (.two .none (.one (.loop 0 ⟨[(3, .int .i64), (6, .sl (.int .i64)), (7, .int .i64), (8, .int .i64)], []⟩ [3] .none))) .none)))
  (by kernel_rfl) rfl (by kernel_rfl) (by kernel_rfl) ⟨rfl, by unfold TOk; kernel_rfl, gOk_of rfl rfl (List.forall_mem_nil _), iOk_of rfl rfl (List.forall_mem_nil _), rfl⟩ (fun _x => by kernel_rfl)
theorem en_cmp_Or_int (_N : Nat) : EntOk Tryz.prog [] (mkP 68 Ks_cmp_Or_int Rk_cmp_Or_int (D_cmp_Or_int _N)) := entP ⟨Tryz.f68, bodyOf Tryz.f68, by kernel_rfl, by kernel_rfl, rfl⟩ (by kernel_rfl) (sp_cmp_Or_int _N)
abbrev Ks_bags_Bag_Rows_c1 : List Kd := [.dat (.pair (.int .i64) (.pair (.int .i64) (.int .i64))), .dat (.pair (.int .i64) (.pair (.int .i64) (.int .i64)))]
abbrev Rk_bags_Bag_Rows_c1 : List Kd := [.dat (.int .i64)]
abbrev Rt_bags_Bag_Rows_c1 : Type := Dens Rk_bags_Bag_Rows_c1
noncomputable def C_bags_Bag_Rows_c1 (_N : Nat) : Ctx := { T := [(2, ⟨.int .i64, 1, 8, some (.int .i64), [.int .i64 (0 : Int)], false, []⟩), (3, ⟨.int .i64, 1, 8, some (.int .i64), [.int .i64 (0 : Int)], false, []⟩), (25, ⟨.slice 3, 1, 24, some (.sl (.int .i64)), [.nil], false, []⟩), (58, ⟨.struct [(0, 2), (1, 2), (2, 2)], 3, 24, some (.pair (.int .i64) (.pair (.int .i64) (.int .i64))), [.int .i64 (0 : Int), .int .i64 (0 : Int), .int .i64 (0 : Int)], true, []⟩)], G := findE [mkP 69 Ks_cmp_Compare_int64 Rk_cmp_Compare_int64 (D_cmp_Compare_int64 _N), mkP 68 Ks_cmp_Or_int Rk_cmp_Or_int (D_cmp_Or_int _N)], I := findI [], N := _N, n := 17, fx := [], fl := 0, gs := [] }
noncomputable def bags_Bag_Rows_c1_1 (_N : Nat) (_x1 : Int × Int × Int) (_x2 : Int × Int × Int) : Option Rt_bags_Bag_Rows_c1 :=
 ((D_cmp_Compare_int64 _N (_x1.1, _x2.1, ())).bind fun _y4 => ((D_cmp_Compare_int64 _N (_x1.2.1, _x2.2.1, ())).bind fun _y5 => ((D_cmp_Or_int _N ([_y4.1, _y5.1], ())).bind fun _y6 => (some (_y6.1, ())))))
noncomputable def D_bags_Bag_Rows_c1 (_N : Nat) (_x : Dens Ks_bags_Bag_Rows_c1) : Option Rt_bags_Bag_Rows_c1 := bags_Bag_Rows_c1_1 _N _x.1 _x.2.1
theorem sp_bags_Bag_Rows_c1 (_N : Nat) : SpecD Tryz.prog [] 67 Ks_bags_Bag_Rows_c1 Rk_bags_Bag_Rows_c1 (D_bags_Bag_Rows_c1 _N) := mkSpD (fn := Tryz.f67) (c := bodyOf Tryz.f67) (C := C_bags_Bag_Rows_c1 _N)
  (a := .two .none (.two (.draw 1 [.pure, .rd [0], .pure, .rd [1], .pure, .pure, .rd [0], .pure, .rd [1], .pure, .new 2, .rd [2], .pure]) .none))
  (by kernel_rfl) rfl (by kernel_rfl) (by kernel_rfl) ⟨rfl, by unfold TOk; kernel_rfl, gOk_of rfl rfl (List.forall_mem_cons.2 ⟨en_cmp_Compare_int64 _N, (List.forall_mem_cons.2 ⟨en_cmp_Or_int _N, (List.forall_mem_nil _)⟩)⟩), iOk_of rfl rfl (List.forall_mem_nil _), rfl⟩ (fun _x => by kernel_rfl)
shelf_lay_g SlLaysF0.n6 Slsf 6 at Tryz 66 as lay_sortRow
theorem hb_sortRow : HasBody Tryz.prog 66 := ⟨Tryz.f66, bodyOf Tryz.f66, by kernel_rfl, by kernel_rfl, rfl⟩
theorem hg_sortRow : HasBody Tryz.prog 67 := ⟨Tryz.f67, bodyOf Tryz.f67, by kernel_rfl, by kernel_rfl, rfl⟩
theorem en_sortRow (_N : Nat) : EntOk Tryz.prog [] (mkS 66 58 (.pair (.int .i64) (.pair (.int .i64) (.int .i64))) 67 (fun p q => (D_bags_Bag_Rows_c1 _N (p, q, ())).map (·.1))) := entSK lay_sortRow Tryz.isAgg58 Tryz.sizeOf58 hb_sortRow hg_sortRow (by kernel_rfl) rfl (sp_bags_Bag_Rows_c1 _N)
abbrev Sg_bags_Bag_Rows_h : Sig := ⟨[.form (.ptr 0 1000000)], [.oth false ⟨false, 107, 2, .pair (.int .i64) (.int .i64), .int .i64, false⟩],
 [.dat false (.sl (.pair (.int .i64) (.pair (.int .i64) (.int .i64))))], [.oth true ⟨false, 107, 2, .pair (.int .i64) (.int .i64), .int .i64, false⟩], []⟩
abbrev Rt_bags_Bag_Rows_h : Type := (List (Int × Int × Int)) × (Int × List (Int × (Int × Int) × Int))
noncomputable def C_bags_Bag_Rows_h (_N : Nat) : Ctx := { T := [(2, ⟨.int .i64, 1, 8, some (.int .i64), [.int .i64 (0 : Int)], false, []⟩), (26, ⟨.slice 58, 1, 24, some (.sl (.pair (.int .i64) (.pair (.int .i64) (.int .i64)))), [.nil], false, []⟩), (54, ⟨.map 107 2 (.pair (.int .i64) (.int .i64)) (.int .i64), 1, 8, none, [.nl .map], false, []⟩), (58, ⟨.struct [(0, 2), (1, 2), (2, 2)], 3, 24, some (.pair (.int .i64) (.pair (.int .i64) (.int .i64))), [.int .i64 (0 : Int), .int .i64 (0 : Int), .int .i64 (0 : Int)], true, []⟩), (107, ⟨.struct [(0, 2), (1, 2)], 2, 16, some (.pair (.int .i64) (.int .i64)), [.int .i64 (0 : Int), .int .i64 (0 : Int)], true, []⟩)], G := findE [mkS 66 58 (.pair (.int .i64) (.pair (.int .i64) (.int .i64))) 67 (fun p q => (D_bags_Bag_Rows_c1 _N (p, q, ())).map (·.1))], I := findI [], N := _N, n := 25, fx := [2], fl := 1, gs := [] }
noncomputable def bags_Bag_Rows_h_1 (_N : Nat) (_v10 : Int × List (Int × (Int × Int) × Int)) (_v11 : List (Int × Int × Int)) : Option Rt_bags_Bag_Rows_h :=
 ((sortR (fun p q => (D_bags_Bag_Rows_c1 _N (p, q, ())).map (·.1)) _v11).bind fun _y13 => (some (_y13, _v10)))
noncomputable def bags_Bag_Rows_h_2 (_N : Nat) (_k14 : ((Int × List (Int × (Int × Int) × Int)) × (List (Int × Int × Int))) → Option Rt_bags_Bag_Rows_h) (_v1 : Int × List (Int × (Int × Int) × Int)) (_v2 : Int × List (Int × (Int × Int) × Int)) (_v5 : List (Int × Int × Int)) (_kn15 : (Int × List (Int × (Int × Int) × Int)) × ((Int × List (Int × (Int × Int) × Int)) × (List (Int × Int × Int))) → Option Rt_bags_Bag_Rows_h) : Option Rt_bags_Bag_Rows_h :=
 (nextE (k := .pair (.int .i64) (.int .i64)) (v := .int .i64) _v2 (_k14 (_v1, _v5)) (fun _y16 => fun _y17 => (bif (decide ((_v5.length + ([(_y16.2.1.1, (_y16.2.1.2, _y16.2.2))]).length) * 24 ≤ 140737488355328) && Nat.ble 1 24) then (_kn15 (_v1, (((1 : Int), _y16 :: _y17), (_v5 ++ [(_y16.2.1.1, (_y16.2.1.2, _y16.2.2))])))) else none)))
noncomputable def bags_Bag_Rows_h_3 (_N : Nat) (_x1 : Int × List (Int × (Int × Int) × Int)) : Option Rt_bags_Bag_Rows_h :=
 (joinD (fun (_s : (Int × List (Int × (Int × Int) × Int)) × (List (Int × Int × Int))) => bags_Bag_Rows_h_1 _N _s.1 _s.2) fun _k14 => (loopE (fun (_c : (Int × List (Int × (Int × Int) × Int))) (_s : (Int × List (Int × (Int × Int) × Int)) × (List (Int × Int × Int))) _kn => bags_Bag_Rows_h_2 _N _k14 _c _s.1 _s.2 _kn) _N _x1 (((0 : Int), _x1.2), [])))
noncomputable def D_bags_Bag_Rows_h (_N : Nat) (_x : (Int × List (Int × (Int × Int) × Int))) : Option Rt_bags_Bag_Rows_h := bags_Bag_Rows_h_3 _N _x
theorem sp_bags_Bag_Rows_h (_N : Nat) : SpecH Tryz.prog [] 46 Sg_bags_Bag_Rows_h (D_bags_Bag_Rows_h _N) := mkSpH (fn := Tryz.f46) (c := bodyOf Tryz.f46) (C := (C_bags_Bag_Rows_h _N))
  (a := .two .none (.two .none (.join 3 ⟨[(3, .slc 2 0)], [.oth true ⟨false, 107, 2, .pair (.int .i64) (.int .i64), .int .i64, false⟩, .none, .row false 0 58 (.pair (.int .i64) (.pair (.int .i64) (.int .i64)))]⟩ (.two .none (.one (.obj 3 58 (.pair (.int .i64) (.pair (.int .i64) (.int .i64))) (.loop 3 ⟨[(3, .slc 2 0), (7, .ptr 1 1000000)], [.oth true ⟨false, 107, 2, .pair (.int .i64) (.int .i64), .int .i64, false⟩, .oth false ⟨true, 107, 2, .pair (.int .i64) (.int .i64), .int .i64, false⟩, .row false 0 58 (.pair (.int .i64) (.pair (.int .i64) (.int .i64)))]⟩ [1, 2] (.two .nx .none))))) .none)))
  (by kernel_rfl) rfl (by kernel_rfl) (by kernel_rfl) (by kernel_rfl) rfl ⟨rfl, by unfold TOk; kernel_rfl, gOk_of rfl rfl (List.forall_mem_cons.2 ⟨en_sortRow _N, (List.forall_mem_nil _)⟩), iOk_of rfl rfl (List.forall_mem_nil _), rfl⟩ (fun _x => by kernel_rfl)
abbrev Q_bags_Rows : Oth := ⟨false, 107, 2, .pair (.int .i64) (.int .i64), .int .i64, false⟩
theorem en_bags_Rows (N : Nat) : EntOk Tryz.prog [] (mkRo 46 ⟨false, 107, 2, .pair (.int .i64) (.int .i64), .int .i64, false⟩ (.sl (.pair (.int .i64) (.pair (.int .i64) (.int .i64)))) (D_bags_Bag_Rows_h N)) := entRo ⟨Tryz.f46, bodyOf Tryz.f46, by kernel_rfl, by kernel_rfl, rfl⟩ rfl (by kernel_rfl) (by kernel_rfl) (by kernel_rfl) (by kernel_rfl) (sp_bags_Bag_Rows_h N)
abbrev Sg_bags_Bag_Add_h : Sig := ⟨[.form (.ptr 0 1000000), .dat false (.pair (.int .i64) (.int .i64)), .dat false (.int .i64)], [.oth false ⟨false, 107, 2, .pair (.int .i64) (.int .i64), .int .i64, false⟩],
 [], [.oth false ⟨false, 107, 2, .pair (.int .i64) (.int .i64), .int .i64, false⟩], []⟩
abbrev Rt_bags_Bag_Add_h : Type := (Int × List (Int × (Int × Int) × Int))
noncomputable def C_bags_Bag_Add_h (_N : Nat) : Ctx := { T := [(54, ⟨.map 107 2 (.pair (.int .i64) (.int .i64)) (.int .i64), 1, 8, none, [.nl .map], false, []⟩), (107, ⟨.struct [(0, 2), (1, 2)], 2, 16, some (.pair (.int .i64) (.int .i64)), [.int .i64 (0 : Int), .int .i64 (0 : Int)], true, []⟩)], G := findE [], I := findI [], N := _N, n := 19, fx := [], fl := 1, gs := [] }
noncomputable def bags_Bag_Add_h_1 (_N : Nat) (_x1 : Int × Int) (_x2 : Int) (_x3 : Int × List (Int × (Int × Int) × Int)) : Option Rt_bags_Bag_Add_h :=
 (bif (mpStands (.pair (.int .i64) (.int .i64)) (.int .i64) (mpEnt (.pair (.int .i64) (.int .i64)) (.int .i64) _x3 (_x1.1, _x1.2)) (mpWhen (.pair (.int .i64) (.int .i64)) (.int .i64) _x3 (_x1.1, _x1.2))) then (bif ((mpGet (.pair (.int .i64) (.int .i64)) (.int .i64) (mpAt (.pair (.int .i64) (.int .i64)) (.int .i64) (mpEnt (.pair (.int .i64) (.int .i64)) (.int .i64) _x3 (_x1.1, _x1.2)) (mpWhen (.pair (.int .i64) (.int .i64)) (.int .i64) _x3 (_x1.1, _x1.2)) (IntKind.i64.wrap ((mpGet (.pair (.int .i64) (.int .i64)) (.int .i64) _x3 (_x1.1, _x1.2)) + _x2))) (_x1.1, _x1.2)) == (0 : Int)) then (some (mpDel (.pair (.int .i64) (.int .i64)) (.int .i64) (mpAt (.pair (.int .i64) (.int .i64)) (.int .i64) (mpEnt (.pair (.int .i64) (.int .i64)) (.int .i64) _x3 (_x1.1, _x1.2)) (mpWhen (.pair (.int .i64) (.int .i64)) (.int .i64) _x3 (_x1.1, _x1.2)) (IntKind.i64.wrap ((mpGet (.pair (.int .i64) (.int .i64)) (.int .i64) _x3 (_x1.1, _x1.2)) + _x2))) (_x1.1, _x1.2))) else (some (mpAt (.pair (.int .i64) (.int .i64)) (.int .i64) (mpEnt (.pair (.int .i64) (.int .i64)) (.int .i64) _x3 (_x1.1, _x1.2)) (mpWhen (.pair (.int .i64) (.int .i64)) (.int .i64) _x3 (_x1.1, _x1.2)) (IntKind.i64.wrap ((mpGet (.pair (.int .i64) (.int .i64)) (.int .i64) _x3 (_x1.1, _x1.2)) + _x2))))) else none)
noncomputable def D_bags_Bag_Add_h (_N : Nat) (_x : (Int × Int) × Int × (Int × List (Int × (Int × Int) × Int))) : Option Rt_bags_Bag_Add_h := bags_Bag_Add_h_1 _N _x.1 _x.2.1 _x.2.2
theorem sp_bags_Bag_Add_h (_N : Nat) : SpecH Tryz.prog [] 59 Sg_bags_Bag_Add_h (D_bags_Bag_Add_h _N) := mkSpH (fn := Tryz.f59) (c := bodyOf Tryz.f59) (C := (C_bags_Bag_Add_h _N))
  (a := .two .none (.two (.draw 0 [.pure, .rd [1], .rd [0], .pure, .pure, .wr [0], .pure, .wr [0]]) .none))
  (by kernel_rfl) rfl (by kernel_rfl) (by kernel_rfl) (by kernel_rfl) rfl ⟨rfl, by unfold TOk; kernel_rfl, gOk_of rfl rfl (List.forall_mem_nil _), iOk_of rfl rfl (List.forall_mem_nil _), rfl⟩ (fun _x => by kernel_rfl)
theorem en_bags_Bag_Add_h (_N : Nat) : EntOk Tryz.prog [] (mkHe 59 Sg_bags_Bag_Add_h (D_bags_Bag_Add_h _N)) := entH ⟨Tryz.f59, bodyOf Tryz.f59, by kernel_rfl, by kernel_rfl, rfl⟩ (sp_bags_Bag_Add_h _N)
abbrev Sg_bags_Bag_Pour_h : Sig := ⟨[.form (.ptr 0 1000000), .dat false (.sl (.pair (.int .i64) (.pair (.int .i64) (.int .i64)))), .dat false (.int .i64)], [.oth false ⟨false, 107, 2, .pair (.int .i64) (.int .i64), .int .i64, false⟩],
 [], [.oth false ⟨false, 107, 2, .pair (.int .i64) (.int .i64), .int .i64, false⟩], []⟩
abbrev Rt_bags_Bag_Pour_h : Type := (Int × List (Int × (Int × Int) × Int))
noncomputable def C_bags_Bag_Pour_h (_N : Nat) : Ctx := { T := [(2, ⟨.int .i64, 1, 8, some (.int .i64), [.int .i64 (0 : Int)], false, []⟩), (26, ⟨.slice 58, 1, 24, some (.sl (.pair (.int .i64) (.pair (.int .i64) (.int .i64)))), [.nil], false, []⟩), (58, ⟨.struct [(0, 2), (1, 2), (2, 2)], 3, 24, some (.pair (.int .i64) (.pair (.int .i64) (.int .i64))), [.int .i64 (0 : Int), .int .i64 (0 : Int), .int .i64 (0 : Int)], true, []⟩), (107, ⟨.struct [(0, 2), (1, 2)], 2, 16, some (.pair (.int .i64) (.int .i64)), [.int .i64 (0 : Int), .int .i64 (0 : Int)], true, []⟩)], G := findE [mkHe 59 Sg_bags_Bag_Add_h (D_bags_Bag_Add_h _N)], I := findI [], N := _N, n := 26, fx := [], fl := 1, gs := [] }
noncomputable def bags_Bag_Pour_h_1 (_N : Nat) (_v1 : Int) (_v2 : List (Int × Int × Int)) (_v3 : Int) (_v4 : Int) (_v5 : Int × List (Int × (Int × Int) × Int)) (_kn8 : (Int × (List (Int × Int × Int)) × Int) × (Int × (Int × List (Int × (Int × Int) × Int))) → Option Rt_bags_Bag_Pour_h) : Option Rt_bags_Bag_Pour_h :=
 (bif (decide (_v4 < _v3)) then (bif (decide (0 ≤ _v4) && decide (_v4 < (_v2.length : Int))) then ((D_bags_Bag_Add_h _N (((nth ((0 : Int), ((0 : Int), (0 : Int))) _v2 (_v4).toNat).1, ((nth ((0 : Int), ((0 : Int), (0 : Int))) _v2 (_v4).toNat).2).1), (IntKind.i64.wrap (_v1 * (((nth ((0 : Int), ((0 : Int), (0 : Int))) _v2 (_v4).toNat).2).2))), _v5)).bind fun _y9 => (_kn8 ((_v1, _v2, _v3), ((IntKind.i64.wrap (_v4 + (1 : Int))), _y9)))) else none) else (some _v5))
noncomputable def bags_Bag_Pour_h_2 (_N : Nat) (_x1 : List (Int × Int × Int)) (_x2 : Int) (_x3 : Int × List (Int × (Int × Int) × Int)) : Option Rt_bags_Bag_Pour_h :=
 (loopE (fun (_c : Int × (List (Int × Int × Int)) × Int) (_s : Int × (Int × List (Int × (Int × Int) × Int))) _kn => bags_Bag_Pour_h_1 _N _c.1 _c.2.1 _c.2.2 _s.1 _s.2 _kn) _N (_x2, _x1, (_x1.length : Int)) ((0 : Int), _x3))
noncomputable def D_bags_Bag_Pour_h (_N : Nat) (_x : (List (Int × Int × Int)) × Int × (Int × List (Int × (Int × Int) × Int))) : Option Rt_bags_Bag_Pour_h := bags_Bag_Pour_h_2 _N _x.1 _x.2.1 _x.2.2
theorem sp_bags_Bag_Pour_h (_N : Nat) : SpecH Tryz.prog [] 52 Sg_bags_Bag_Pour_h (D_bags_Bag_Pour_h _N) := mkSpH (fn := Tryz.f52) (c := bodyOf Tryz.f52) (C := (C_bags_Bag_Pour_h _N))
  (a := .two .none (.one (.loop 1 ⟨[(0, .ptr 0 1000000), (2, .int .i64), (8, .sl (.pair (.int .i64) (.pair (.int .i64) (.int .i64)))), (9, .int .i64), (10, .int .i64)], [.oth false ⟨false, 107, 2, .pair (.int .i64) (.int .i64), .int .i64, false⟩]⟩ [3, 4] .none)))
  (by kernel_rfl) rfl (by kernel_rfl) (by kernel_rfl) (by kernel_rfl) rfl ⟨rfl, by unfold TOk; kernel_rfl, gOk_of rfl rfl (List.forall_mem_cons.2 ⟨en_bags_Bag_Add_h _N, (List.forall_mem_nil _)⟩), iOk_of rfl rfl (List.forall_mem_nil _), rfl⟩ (fun _x => by kernel_rfl)
theorem en_bags_Bag_Pour_h (_N : Nat) : EntOk Tryz.prog [] (mkHe 52 Sg_bags_Bag_Pour_h (D_bags_Bag_Pour_h _N)) := entH ⟨Tryz.f52, bodyOf Tryz.f52, by kernel_rfl, by kernel_rfl, rfl⟩ (sp_bags_Bag_Pour_h _N)
abbrev Sg_bags_Bag_Tells_h : Sig := ⟨[.form (.ptr 0 1000000)], [.oth false ⟨false, 107, 2, .pair (.int .i64) (.int .i64), .int .i64, false⟩],
 [.dat false (.sl (.pair (.int .i64) (.pair (.int .i64) (.int .i64)))), .dat false (.int .i64)], [.oth false ⟨false, 107, 2, .pair (.int .i64) (.int .i64), .int .i64, false⟩], []⟩
abbrev Rt_bags_Bag_Tells_h : Type := (List (Int × Int × Int)) × Int × (Int × List (Int × (Int × Int) × Int))
noncomputable def C_bags_Bag_Tells_h (_N : Nat) : Ctx := { T := [(54, ⟨.map 107 2 (.pair (.int .i64) (.int .i64)) (.int .i64), 1, 8, none, [.nl .map], false, []⟩)], G := findE [mkRo 46 ⟨false, 107, 2, .pair (.int .i64) (.int .i64), .int .i64, false⟩ (.sl (.pair (.int .i64) (.pair (.int .i64) (.int .i64)))) (D_bags_Bag_Rows_h _N)], I := findI [], N := _N, n := 9, fx := [], fl := 1, gs := [] }
noncomputable def bags_Bag_Tells_h_1 (_N : Nat) (_x1 : Int × List (Int × (Int × Int) × Int)) : Option Rt_bags_Bag_Tells_h :=
 (bif (decide ((_x1.2.length : Int) > (128 : Int))) then (some ([], (1 : Int), _x1)) else ((@roR ⟨false, 107, 2, .pair (.int .i64) (.int .i64), .int .i64, false⟩ (.sl (.pair (.int .i64) (.pair (.int .i64) (.int .i64)))) (D_bags_Bag_Rows_h _N) _x1).bind fun _y2 => (some (_y2, (0 : Int), _x1))))
noncomputable def D_bags_Bag_Tells_h (_N : Nat) (_x : (Int × List (Int × (Int × Int) × Int))) : Option Rt_bags_Bag_Tells_h := bags_Bag_Tells_h_1 _N _x
theorem sp_bags_Bag_Tells_h (_N : Nat) : SpecH Tryz.prog [] 26 Sg_bags_Bag_Tells_h (D_bags_Bag_Tells_h _N) := mkSpH (fn := Tryz.f26) (c := bodyOf Tryz.f26) (C := (C_bags_Bag_Tells_h _N))
  (a := .none)
  (by kernel_rfl) rfl (by kernel_rfl) (by kernel_rfl) (by kernel_rfl) rfl ⟨rfl, by unfold TOk; kernel_rfl, gOk_of rfl rfl (List.forall_mem_cons.2 ⟨en_bags_Rows _N, (List.forall_mem_nil _)⟩), iOk_of rfl rfl (List.forall_mem_nil _), rfl⟩ (fun _x => by kernel_rfl)
theorem en_bags_Bag_Tells_h (_N : Nat) : EntOk Tryz.prog [] (mkHe 26 Sg_bags_Bag_Tells_h (D_bags_Bag_Tells_h _N)) := entH ⟨Tryz.f26, bodyOf Tryz.f26, by kernel_rfl, by kernel_rfl, rfl⟩ (sp_bags_Bag_Tells_h _N)
abbrev Ks_bags_Large_c1 : List Kd := [.dat (.sl (.pair (.int .i64) (.pair (.int .i64) (.int .i64))))]
abbrev Rk_bags_Large_c1 : List Kd := [.dat (.bool)]
abbrev Rt_bags_Large_c1 : Type := Dens Rk_bags_Large_c1
noncomputable def C_bags_Large_c1 (_N : Nat) : Ctx := { T := [(26, ⟨.slice 58, 1, 24, some (.sl (.pair (.int .i64) (.pair (.int .i64) (.int .i64)))), [.nil], false, []⟩)], G := findE [], I := findI [], N := _N, n := 6, fx := [], fl := 0, gs := [] }
noncomputable def bags_Large_c1_1 (_N : Nat) (_x1 : List (Int × Int × Int)) : Option Rt_bags_Large_c1 :=
 (some ((decide ((_x1.length : Int) > (128 : Int))), ()))
noncomputable def D_bags_Large_c1 (_N : Nat) (_x : Dens Ks_bags_Large_c1) : Option Rt_bags_Large_c1 := bags_Large_c1_1 _N _x.1
theorem sp_bags_Large_c1 (_N : Nat) : SpecD Tryz.prog [] 75 Ks_bags_Large_c1 Rk_bags_Large_c1 (D_bags_Large_c1 _N) := mkSpD (fn := Tryz.f75) (c := bodyOf Tryz.f75) (C := C_bags_Large_c1 _N)
  (a := .none)
  (by kernel_rfl) rfl (by kernel_rfl) (by kernel_rfl) ⟨rfl, by unfold TOk; kernel_rfl, gOk_of rfl rfl (List.forall_mem_nil _), iOk_of rfl rfl (List.forall_mem_nil _), rfl⟩ (fun _x => by kernel_rfl)
theorem en_bags_Large_c1 (_N : Nat) : EntOk Tryz.prog [] (mkP 75 Ks_bags_Large_c1 Rk_bags_Large_c1 (D_bags_Large_c1 _N)) := entP ⟨Tryz.f75, bodyOf Tryz.f75, by kernel_rfl, by kernel_rfl, rfl⟩ (by kernel_rfl) (sp_bags_Large_c1 _N)
abbrev Ks_slices_IndexFunc_LLapi_Row_Lapi_Row_bags_Large_c1 : List Kd := [.dat (.sl (.sl (.pair (.int .i64) (.pair (.int .i64) (.int .i64))))), .clo 75 []]
abbrev Rk_slices_IndexFunc_LLapi_Row_Lapi_Row_bags_Large_c1 : List Kd := [.dat (.int .i64)]
abbrev Rt_slices_IndexFunc_LLapi_Row_Lapi_Row_bags_Large_c1 : Type := Dens Rk_slices_IndexFunc_LLapi_Row_Lapi_Row_bags_Large_c1
noncomputable def C_slices_IndexFunc_LLapi_Row_Lapi_Row_bags_Large_c1 (_N : Nat) : Ctx := { T := [(26, ⟨.slice 58, 1, 24, some (.sl (.pair (.int .i64) (.pair (.int .i64) (.int .i64)))), [.nil], false, []⟩), (104, ⟨.slice 26, 1, 24, some (.sl (.sl (.pair (.int .i64) (.pair (.int .i64) (.int .i64))))), [.nil], false, []⟩)], G := findE [mkP 75 Ks_bags_Large_c1 Rk_bags_Large_c1 (D_bags_Large_c1 _N)], I := findI [], N := _N, n := 19, fx := [], fl := 0, gs := [] }
noncomputable def slices_IndexFunc_LLapi_Row_Lapi_Row_bags_Large_c1_1 (_N : Nat) : Option Rt_slices_IndexFunc_LLapi_Row_Lapi_Row_bags_Large_c1 :=
 (some ((-1 : Int), ()))
noncomputable def slices_IndexFunc_LLapi_Row_Lapi_Row_bags_Large_c1_2 (_N : Nat) (_k6 : Unit → Option Rt_slices_IndexFunc_LLapi_Row_Lapi_Row_bags_Large_c1) (_v1 : List (List (Int × Int × Int))) (_v2 : Int) (_v3 : Int) (_kn7 : ((List (List (Int × Int × Int))) × Int) × Int → Option Rt_slices_IndexFunc_LLapi_Row_Lapi_Row_bags_Large_c1) : Option Rt_slices_IndexFunc_LLapi_Row_Lapi_Row_bags_Large_c1 :=
 (bif (decide (_v3 < _v2)) then (bif (decide (0 ≤ _v3) && decide (_v3 < (_v1.length : Int))) then ((D_bags_Large_c1 _N ((nth ([]) _v1 (_v3).toNat), ())).bind fun _y8 => (bif _y8.1 then (some (_v3, ())) else (_kn7 ((_v1, _v2), (IntKind.i64.wrap (_v3 + (1 : Int))))))) else none) else (_k6 ()))
noncomputable def slices_IndexFunc_LLapi_Row_Lapi_Row_bags_Large_c1_3 (_N : Nat) (_x1 : List (List (Int × Int × Int))) : Option Rt_slices_IndexFunc_LLapi_Row_Lapi_Row_bags_Large_c1 :=
 (joinD (fun (_s : Unit) => slices_IndexFunc_LLapi_Row_Lapi_Row_bags_Large_c1_1 _N) fun _k6 => (loopE (fun (_c : (List (List (Int × Int × Int))) × Int) (_s : Int) _kn => slices_IndexFunc_LLapi_Row_Lapi_Row_bags_Large_c1_2 _N _k6 _c.1 _c.2 _s _kn) _N (_x1, (_x1.length : Int)) (0 : Int)))
noncomputable def D_slices_IndexFunc_LLapi_Row_Lapi_Row_bags_Large_c1 (_N : Nat) (_x : Dens Ks_slices_IndexFunc_LLapi_Row_Lapi_Row_bags_Large_c1) : Option Rt_slices_IndexFunc_LLapi_Row_Lapi_Row_bags_Large_c1 := slices_IndexFunc_LLapi_Row_Lapi_Row_bags_Large_c1_3 _N _x.1
theorem sp_slices_IndexFunc_LLapi_Row_Lapi_Row_bags_Large_c1 (_N : Nat) : SpecD Tryz.prog [] 97 Ks_slices_IndexFunc_LLapi_Row_Lapi_Row_bags_Large_c1 Rk_slices_IndexFunc_LLapi_Row_Lapi_Row_bags_Large_c1 (D_slices_IndexFunc_LLapi_Row_Lapi_Row_bags_Large_c1 _N) := mkSpD (fn := Tryz.f97) (c := bodyOf Tryz.f97) (C := C_slices_IndexFunc_LLapi_Row_Lapi_Row_bags_Large_c1 _N)
  (a := .two .none (.join 0 ⟨[], []⟩ (.two .none (.one (.loop 0 ⟨[(0, .sl (.sl (.pair (.int .i64) (.pair (.int .i64) (.int .i64))))), (1, .clo 75 []), (7, .int .i64), (8, .int .i64)], []⟩ [2] .none))) .none))
  (by kernel_rfl) rfl (by kernel_rfl) (by kernel_rfl) ⟨rfl, by unfold TOk; kernel_rfl, gOk_of rfl rfl (List.forall_mem_cons.2 ⟨en_bags_Large_c1 _N, (List.forall_mem_nil _)⟩), iOk_of rfl rfl (List.forall_mem_nil _), rfl⟩ (fun _x => by kernel_rfl)
theorem en_slices_IndexFunc_LLapi_Row_Lapi_Row_bags_Large_c1 (_N : Nat) : EntOk Tryz.prog [] (mkP 97 Ks_slices_IndexFunc_LLapi_Row_Lapi_Row_bags_Large_c1 Rk_slices_IndexFunc_LLapi_Row_Lapi_Row_bags_Large_c1 (D_slices_IndexFunc_LLapi_Row_Lapi_Row_bags_Large_c1 _N)) := entP ⟨Tryz.f97, bodyOf Tryz.f97, by kernel_rfl, by kernel_rfl, rfl⟩ (by kernel_rfl) (sp_slices_IndexFunc_LLapi_Row_Lapi_Row_bags_Large_c1 _N)
abbrev Ks_slices_ContainsFunc_LLapi_Row_Lapi_Row_bags_Large_c1 : List Kd := [.dat (.sl (.sl (.pair (.int .i64) (.pair (.int .i64) (.int .i64))))), .clo 75 []]
abbrev Rk_slices_ContainsFunc_LLapi_Row_Lapi_Row_bags_Large_c1 : List Kd := [.dat (.bool)]
abbrev Rt_slices_ContainsFunc_LLapi_Row_Lapi_Row_bags_Large_c1 : Type := Dens Rk_slices_ContainsFunc_LLapi_Row_Lapi_Row_bags_Large_c1
noncomputable def C_slices_ContainsFunc_LLapi_Row_Lapi_Row_bags_Large_c1 (_N : Nat) : Ctx := { T := [], G := findE [mkP 97 Ks_slices_IndexFunc_LLapi_Row_Lapi_Row_bags_Large_c1 Rk_slices_IndexFunc_LLapi_Row_Lapi_Row_bags_Large_c1 (D_slices_IndexFunc_LLapi_Row_Lapi_Row_bags_Large_c1 _N)], I := findI [], N := _N, n := 9, fx := [], fl := 0, gs := [] }
noncomputable def slices_ContainsFunc_LLapi_Row_Lapi_Row_bags_Large_c1_1 (_N : Nat) (_x1 : List (List (Int × Int × Int))) : Option Rt_slices_ContainsFunc_LLapi_Row_Lapi_Row_bags_Large_c1 :=
 ((D_slices_IndexFunc_LLapi_Row_Lapi_Row_bags_Large_c1 _N (_x1, (), ())).bind fun _y2 => (some ((decide (_y2.1 ≥ (0 : Int))), ())))
noncomputable def D_slices_ContainsFunc_LLapi_Row_Lapi_Row_bags_Large_c1 (_N : Nat) (_x : Dens Ks_slices_ContainsFunc_LLapi_Row_Lapi_Row_bags_Large_c1) : Option Rt_slices_ContainsFunc_LLapi_Row_Lapi_Row_bags_Large_c1 := slices_ContainsFunc_LLapi_Row_Lapi_Row_bags_Large_c1_1 _N _x.1
theorem sp_slices_ContainsFunc_LLapi_Row_Lapi_Row_bags_Large_c1 (_N : Nat) : SpecD Tryz.prog [] 74 Ks_slices_ContainsFunc_LLapi_Row_Lapi_Row_bags_Large_c1 Rk_slices_ContainsFunc_LLapi_Row_Lapi_Row_bags_Large_c1 (D_slices_ContainsFunc_LLapi_Row_Lapi_Row_bags_Large_c1 _N) := mkSpD (fn := Tryz.f74) (c := bodyOf Tryz.f74) (C := C_slices_ContainsFunc_LLapi_Row_Lapi_Row_bags_Large_c1 _N)
  (a := .none)
  (by kernel_rfl) rfl (by kernel_rfl) (by kernel_rfl) ⟨rfl, by unfold TOk; kernel_rfl, gOk_of rfl rfl (List.forall_mem_cons.2 ⟨en_slices_IndexFunc_LLapi_Row_Lapi_Row_bags_Large_c1 _N, (List.forall_mem_nil _)⟩), iOk_of rfl rfl (List.forall_mem_nil _), rfl⟩ (fun _x => by kernel_rfl)
theorem en_slices_ContainsFunc_LLapi_Row_Lapi_Row_bags_Large_c1 (_N : Nat) : EntOk Tryz.prog [] (mkP 74 Ks_slices_ContainsFunc_LLapi_Row_Lapi_Row_bags_Large_c1 Rk_slices_ContainsFunc_LLapi_Row_Lapi_Row_bags_Large_c1 (D_slices_ContainsFunc_LLapi_Row_Lapi_Row_bags_Large_c1 _N)) := entP ⟨Tryz.f74, bodyOf Tryz.f74, by kernel_rfl, by kernel_rfl, rfl⟩ (by kernel_rfl) (sp_slices_ContainsFunc_LLapi_Row_Lapi_Row_bags_Large_c1 _N)
abbrev Ks_bags_Large : List Kd := [.dat (.sl (.sl (.pair (.int .i64) (.pair (.int .i64) (.int .i64)))))]
abbrev Rk_bags_Large : List Kd := [.dat (.bool)]
abbrev Rt_bags_Large : Type := Dens Rk_bags_Large
noncomputable def C_bags_Large (_N : Nat) : Ctx := { T := [], G := findE [mkP 74 Ks_slices_ContainsFunc_LLapi_Row_Lapi_Row_bags_Large_c1 Rk_slices_ContainsFunc_LLapi_Row_Lapi_Row_bags_Large_c1 (D_slices_ContainsFunc_LLapi_Row_Lapi_Row_bags_Large_c1 _N)], I := findI [], N := _N, n := 5, fx := [], fl := 0, gs := [] }
noncomputable def bags_Large_1 (_N : Nat) (_x1 : List (List (Int × Int × Int))) : Option Rt_bags_Large :=
 ((D_slices_ContainsFunc_LLapi_Row_Lapi_Row_bags_Large_c1 _N (_x1, (), ())).bind fun _y2 => (some (_y2.1, ())))
noncomputable def D_bags_Large (_N : Nat) (_x : Dens Ks_bags_Large) : Option Rt_bags_Large := bags_Large_1 _N _x.1
theorem sp_bags_Large (_N : Nat) : SpecD Tryz.prog [] 49 Ks_bags_Large Rk_bags_Large (D_bags_Large _N) := mkSpD (fn := Tryz.f49) (c := bodyOf Tryz.f49) (C := C_bags_Large _N)
  (a := .none)
  (by kernel_rfl) rfl (by kernel_rfl) (by kernel_rfl) ⟨rfl, by unfold TOk; kernel_rfl, gOk_of rfl rfl (List.forall_mem_cons.2 ⟨en_slices_ContainsFunc_LLapi_Row_Lapi_Row_bags_Large_c1 _N, (List.forall_mem_nil _)⟩), iOk_of rfl rfl (List.forall_mem_nil _), rfl⟩ (fun _x => by kernel_rfl)
theorem en_bags_Large (_N : Nat) : EntOk Tryz.prog [] (mkP 49 Ks_bags_Large Rk_bags_Large (D_bags_Large _N)) := entP ⟨Tryz.f49, bodyOf Tryz.f49, by kernel_rfl, by kernel_rfl, rfl⟩ (by kernel_rfl) (sp_bags_Large _N)
abbrev Ks_ref_BagsSame : List Kd := [.dat (.sl (.pair (.int .i64) (.pair (.int .i64) (.int .i64)))), .dat (.sl (.pair (.int .i64) (.pair (.int .i64) (.int .i64))))]
abbrev Rk_ref_BagsSame : List Kd := [.dat (.bool)]
abbrev Rt_ref_BagsSame : Type := Dens Rk_ref_BagsSame
noncomputable def C_ref_BagsSame (_N : Nat) : Ctx := { T := [(26, ⟨.slice 58, 1, 24, some (.sl (.pair (.int .i64) (.pair (.int .i64) (.int .i64)))), [.nil], false, []⟩), (58, ⟨.struct [(0, 2), (1, 2), (2, 2)], 3, 24, some (.pair (.int .i64) (.pair (.int .i64) (.int .i64))), [.int .i64 (0 : Int), .int .i64 (0 : Int), .int .i64 (0 : Int)], true, []⟩)], G := findE [], I := findI [], N := _N, n := 26, fx := [], fl := 0, gs := [] }
noncomputable def ref_BagsSame_1 (_N : Nat) : Option Rt_ref_BagsSame :=
 (some (true, ()))
noncomputable def ref_BagsSame_2 (_N : Nat) (_k4 : Unit → Option Rt_ref_BagsSame) (_v1 : List (Int × Int × Int)) (_v2 : List (Int × Int × Int)) (_v3 : Int) (_kn5 : ((List (Int × Int × Int)) × (List (Int × Int × Int))) × Int → Option Rt_ref_BagsSame) : Option Rt_ref_BagsSame :=
 (bif (decide (_v3 < (_v1.length : Int))) then (bif (decide (0 ≤ _v3) && decide (_v3 < (_v1.length : Int))) then (bif (decide (0 ≤ _v3) && decide (_v3 < (_v2.length : Int))) then (bif (!(eqD (.pair (.int .i64) (.pair (.int .i64) (.int .i64))) ((nth ((0 : Int), ((0 : Int), (0 : Int))) _v1 (_v3).toNat).1, (((nth ((0 : Int), ((0 : Int), (0 : Int))) _v1 (_v3).toNat).2).1, ((nth ((0 : Int), ((0 : Int), (0 : Int))) _v1 (_v3).toNat).2).2)) ((nth ((0 : Int), ((0 : Int), (0 : Int))) _v2 (_v3).toNat).1, (((nth ((0 : Int), ((0 : Int), (0 : Int))) _v2 (_v3).toNat).2).1, ((nth ((0 : Int), ((0 : Int), (0 : Int))) _v2 (_v3).toNat).2).2)))) then (some (false, ())) else (_kn5 ((_v1, _v2), (IntKind.i64.wrap (_v3 + (1 : Int)))))) else none) else none) else (_k4 ()))
noncomputable def ref_BagsSame_3 (_N : Nat) (_x1 : List (Int × Int × Int)) (_x2 : List (Int × Int × Int)) : Option Rt_ref_BagsSame :=
 (bif ((_x1.length : Int) != (_x2.length : Int)) then (some (false, ())) else (joinD (fun (_s : Unit) => ref_BagsSame_1 _N) fun _k4 => (loopE (fun (_c : (List (Int × Int × Int)) × (List (Int × Int × Int))) (_s : Int) _kn => ref_BagsSame_2 _N _k4 _c.1 _c.2 _s _kn) _N (_x1, _x2) (0 : Int))))
noncomputable def D_ref_BagsSame (_N : Nat) (_x : Dens Ks_ref_BagsSame) : Option Rt_ref_BagsSame := ref_BagsSame_3 _N _x.1 _x.2.1
theorem sp_ref_BagsSame (_N : Nat) : SpecD Tryz.prog [] 14 Ks_ref_BagsSame Rk_ref_BagsSame (D_ref_BagsSame _N) := mkSpD (fn := Tryz.f14) (c := bodyOf Tryz.f14) (C := C_ref_BagsSame _N)
  (a := .two .none (.two .none (.join 0 ⟨[], []⟩ (.two .none (.one (.loop 0 ⟨[(0, .sl (.pair (.int .i64) (.pair (.int .i64) (.int .i64)))), (1, .sl (.pair (.int .i64) (.pair (.int .i64) (.int .i64)))), (5, .int .i64)], []⟩ [2] (.two .none (.two (.one (.two (.draw 0 [.pure, .pure, .pure, .pure, .pure, .pure, .pure, .pure, .pure]) .none)) .none))))) .none)))
  (by kernel_rfl) rfl (by kernel_rfl) (by kernel_rfl) ⟨rfl, by unfold TOk; kernel_rfl, gOk_of rfl rfl (List.forall_mem_nil _), iOk_of rfl rfl (List.forall_mem_nil _), rfl⟩ (fun _x => by kernel_rfl)
theorem en_ref_BagsSame (_N : Nat) : EntOk Tryz.prog [] (mkP 14 Ks_ref_BagsSame Rk_ref_BagsSame (D_ref_BagsSame _N)) := entP ⟨Tryz.f14, bodyOf Tryz.f14, by kernel_rfl, by kernel_rfl, rfl⟩ (by kernel_rfl) (sp_ref_BagsSame _N)
abbrev Ks_keep_total : List Kd := [.dat (.sl (.pair (.int .i64) (.pair (.int .i64) (.int .i64))))]
abbrev Rk_keep_total : List Kd := [.dat (.int .i64)]
abbrev Rt_keep_total : Type := Dens Rk_keep_total
noncomputable def C_keep_total (_N : Nat) : Ctx := { T := [(2, ⟨.int .i64, 1, 8, some (.int .i64), [.int .i64 (0 : Int)], false, []⟩), (26, ⟨.slice 58, 1, 24, some (.sl (.pair (.int .i64) (.pair (.int .i64) (.int .i64)))), [.nil], false, []⟩), (58, ⟨.struct [(0, 2), (1, 2), (2, 2)], 3, 24, some (.pair (.int .i64) (.pair (.int .i64) (.int .i64))), [.int .i64 (0 : Int), .int .i64 (0 : Int), .int .i64 (0 : Int)], true, []⟩)], G := findE [], I := findI [], N := _N, n := 18, fx := [], fl := 0, gs := [] }
noncomputable def keep_total_1 (_N : Nat) (_v5 : Int) : Option Rt_keep_total :=
 (some (_v5, ()))
noncomputable def keep_total_2 (_N : Nat) (_k6 : Int → Option Rt_keep_total) (_v2 : List (Int × Int × Int)) (_v3 : Int) (_v1 : Int) (_v4 : Int) (_kn7 : ((List (Int × Int × Int)) × Int) × (Int × Int) → Option Rt_keep_total) : Option Rt_keep_total :=
 (bif (decide (_v4 < _v3)) then (bif (decide (0 ≤ _v4) && decide (_v4 < (_v2.length : Int))) then (_kn7 ((_v2, _v3), ((IntKind.i64.wrap (_v1 + (((nth ((0 : Int), ((0 : Int), (0 : Int))) _v2 (_v4).toNat).2).2))), (IntKind.i64.wrap (_v4 + (1 : Int)))))) else none) else (_k6 _v1))
noncomputable def keep_total_3 (_N : Nat) (_x1 : List (Int × Int × Int)) : Option Rt_keep_total :=
 (joinD (fun (_s : Int) => keep_total_1 _N _s) fun _k6 => (loopE (fun (_c : (List (Int × Int × Int)) × Int) (_s : Int × Int) _kn => keep_total_2 _N _k6 _c.1 _c.2 _s.1 _s.2 _kn) _N (_x1, (_x1.length : Int)) ((0 : Int), (0 : Int))))
noncomputable def D_keep_total (_N : Nat) (_x : Dens Ks_keep_total) : Option Rt_keep_total := keep_total_3 _N _x.1
theorem sp_keep_total (_N : Nat) : SpecD Tryz.prog [] 10 Ks_keep_total Rk_keep_total (D_keep_total _N) := mkSpD (fn := Tryz.f10) (c := bodyOf Tryz.f10) (C := C_keep_total _N)
  (a := .two .none (.two .none (.join 0 ⟨[(3, .int .i64)], []⟩ (.two .none (.one (.loop 0 ⟨[(3, .int .i64), (6, .sl (.pair (.int .i64) (.pair (.int .i64) (.int .i64)))), (7, .int .i64), (8, .int .i64)], []⟩ [0, 3] .none))) .none)))
  (by kernel_rfl) rfl (by kernel_rfl) (by kernel_rfl) ⟨rfl, by unfold TOk; kernel_rfl, gOk_of rfl rfl (List.forall_mem_nil _), iOk_of rfl rfl (List.forall_mem_nil _), rfl⟩ (fun _x => by kernel_rfl)
theorem en_keep_total (_N : Nat) : EntOk Tryz.prog [] (mkP 10 Ks_keep_total Rk_keep_total (D_keep_total _N)) := entP ⟨Tryz.f10, bodyOf Tryz.f10, by kernel_rfl, by kernel_rfl, rfl⟩ (by kernel_rfl) (sp_keep_total _N)
end Go.Proofs.YtnieamciihdfpaaGreat
