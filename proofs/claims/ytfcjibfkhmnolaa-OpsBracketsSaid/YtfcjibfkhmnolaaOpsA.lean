/- ops: the functions. -/
import Derived.Test.YtfcjibfkhmnolaaOpsI
namespace Go.Proofs.Ytfcjibfkhmnolaa
open Go.Abs
-- watershed/ops.Ports
abbrev Ks_ops_Ports : List Kd := [.dat (.pair (.int .i64) (.pair (.int .i64) (.int .i64)))]
abbrev Rk_ops_Ports : List Kd := [.dat (.int .i64)]
abbrev Rt_ops_Ports : Type := Dens Rk_ops_Ports
noncomputable def C_ops_Ports (_N : Nat) : Ctx := { T := [(3, ⟨.int .i64, 1, 8, some (.int .i64), [.int .i64 (0 : Int)], false, []⟩), (71, ⟨.struct [(0, 3), (1, 2), (2, 2)], 3, 24, some (.pair (.int .i64) (.pair (.int .i64) (.int .i64))), [.int .i64 (0 : Int), .int .i64 (0 : Int), .int .i64 (0 : Int)], true, []⟩)], G := findE [], I := findI [], N := _N, n := 21, fx := [], fl := 0, gs := [] }
noncomputable def ops_Ports_1 (_N : Nat) (_x1 : Int × Int × Int) : Option Rt_ops_Ports :=
  (bif (decide (_x1.1 ≥ (1 : Int))) then (bif (decide (_x1.1 ≤ (8 : Int))) then (some ((1 : Int), ())) else (bif (_x1.1 == (9 : Int)) then (some ((2 : Int), ())) else (bif (_x1.1 == (10 : Int)) then (some ((2 : Int), ())) else (some ((0 : Int), ()))))) else (bif (_x1.1 == (9 : Int)) then (some ((2 : Int), ())) else (bif (_x1.1 == (10 : Int)) then (some ((2 : Int), ())) else (some ((0 : Int), ())))))
noncomputable def D_ops_Ports (_N : Nat) (_x : Dens Ks_ops_Ports) : Option Rt_ops_Ports := ops_Ports_1 _N _x.1
theorem sp_ops_Ports (_N : Nat) : SpecD Try.prog [] 86 Ks_ops_Ports Rk_ops_Ports (D_ops_Ports _N) := mkSpD (fn := Try.f86) (c := bodyOf Try.f86) (C := C_ops_Ports _N)
    (a := .none)
    (by kernel_rfl) rfl (by kernel_rfl) (by kernel_rfl) ⟨rfl, by unfold TOk; kernel_rfl, gOk_of rfl rfl (List.forall_mem_nil _), iOk_of rfl rfl (List.forall_mem_nil _), rfl⟩ (fun _x => by kernel_rfl)
theorem en_ops_Ports (_N : Nat) : EntOk Try.prog [] (mkP 86 Ks_ops_Ports Rk_ops_Ports (D_ops_Ports _N)) := entP ⟨Try.f86, bodyOf Try.f86, by kernel_rfl, by kernel_rfl, rfl⟩ (by kernel_rfl) (sp_ops_Ports _N)
-- watershed/ops.check
abbrev Ks_ops_check : List Kd := [.dat (.pair (.int .i64) (.pair (.int .i64) (.int .i64))), .dat (.int .i64), .dat (.sl (.sl (.pair (.int .i64) (.pair (.int .i64) (.int .i64)))))]
abbrev Rk_ops_check : List Kd := [.dat (.int .i64)]
abbrev Rt_ops_check : Type := Dens Rk_ops_check
noncomputable def C_ops_check (_N : Nat) : Ctx := { T := [(71, ⟨.struct [(0, 3), (1, 2), (2, 2)], 3, 24, some (.pair (.int .i64) (.pair (.int .i64) (.int .i64))), [.int .i64 (0 : Int), .int .i64 (0 : Int), .int .i64 (0 : Int)], true, []⟩)], G := findE [mkP 86 Ks_ops_Ports Rk_ops_Ports (D_ops_Ports _N), mkP 61 Ks_bags_Large Rk_bags_Large (D_bags_Large _N)], I := findI [], N := _N, n := 13, fx := [], fl := 0, gs := [] }
noncomputable def ops_check_1 (_N : Nat) (_x1 : Int × Int × Int) (_x2 : Int) (_x3 : List (List (Int × Int × Int))) : Option Rt_ops_check :=
  ((D_ops_Ports _N ((_x1.1, (_x1.2.1, _x1.2.2)), ())).bind fun _y3 => (bif (_y3.1 != _x2) then (some ((17 : Int), ())) else ((D_bags_Large _N (_x3, ())).bind fun _y4 => (bif _y4.1 then (some ((1 : Int), ())) else (some ((0 : Int), ()))))))
noncomputable def D_ops_check (_N : Nat) (_x : Dens Ks_ops_check) : Option Rt_ops_check := ops_check_1 _N _x.1 _x.2.1 _x.2.2.1
theorem sp_ops_check (_N : Nat) : SpecD Try.prog [] 56 Ks_ops_check Rk_ops_check (D_ops_check _N) := mkSpD (fn := Try.f56) (c := bodyOf Try.f56) (C := C_ops_check _N)
    (a := .none)
    (by kernel_rfl) rfl (by kernel_rfl) (by kernel_rfl) ⟨rfl, by unfold TOk; kernel_rfl, gOk_of rfl rfl (List.forall_mem_cons.2 ⟨en_ops_Ports _N, (List.forall_mem_cons.2 ⟨en_bags_Large _N, (List.forall_mem_nil _)⟩)⟩), iOk_of rfl rfl (List.forall_mem_nil _), rfl⟩ (fun _x => by kernel_rfl)
theorem en_ops_check (_N : Nat) : EntOk Try.prog [] (mkP 56 Ks_ops_check Rk_ops_check (D_ops_check _N)) := entP ⟨Try.f56, bodyOf Try.f56, by kernel_rfl, by kernel_rfl, rfl⟩ (by kernel_rfl) (sp_ops_check _N)
-- watershed/ops.heap$1
-- slices.IndexFunc[[]watershed/api.Row,watershed/api.Row]
-- watershed/ops.heap
-- (with objects) watershed/bags.Of
abbrev Sg_bags_Of_h : Sig := ⟨[.dat false (.sl (.pair (.int .i64) (.pair (.int .i64) (.int .i64))))], [],
  [.form (.ptr 0 1000000)], [.oth false ⟨false, 132, 2, .pair (.int .i64) (.int .i64), .int .i64, false⟩], []⟩
abbrev Rt_bags_Of_h : Type := (Int × List (Int × (Int × Int) × Int))
noncomputable def C_bags_Of_h (_N : Nat) : Ctx := { T := [(2, ⟨.int .i64, 1, 8, some (.int .i64), [.int .i64 (0 : Int)], false, []⟩), (46, ⟨.slice 51, 1, 24, some (.sl (.pair (.int .i64) (.pair (.int .i64) (.int .i64)))), [.nil], false, []⟩), (51, ⟨.struct [(0, 2), (1, 2), (2, 2)], 3, 24, some (.pair (.int .i64) (.pair (.int .i64) (.int .i64))), [.int .i64 (0 : Int), .int .i64 (0 : Int), .int .i64 (0 : Int)], true, []⟩), (103, ⟨.map 132 2 (.pair (.int .i64) (.int .i64)) (.int .i64), 1, 8, none, [.nl .map], false, []⟩), (132, ⟨.struct [(0, 2), (1, 2)], 2, 16, some (.pair (.int .i64) (.int .i64)), [.int .i64 (0 : Int), .int .i64 (0 : Int)], true, []⟩)], G := findE [mkHe 68 Sg_bags_Bag_Add_h (D_bags_Bag_Add_h _N)], I := findI [], N := _N, n := 24, fx := [], fl := 0, gs := [] }
noncomputable def bags_Of_h_1 (_N : Nat) (_v7 : Int × List (Int × (Int × Int) × Int)) : Option Rt_bags_Of_h :=
  (some _v7)
noncomputable def bags_Of_h_2 (_N : Nat) (_k8 : (Int × List (Int × (Int × Int) × Int)) → Option Rt_bags_Of_h) (_v1 : List (Int × Int × Int)) (_v2 : Int) (_v3 : Int) (_v4 : Int × List (Int × (Int × Int) × Int)) (_kn9 : ((List (Int × Int × Int)) × Int) × (Int × (Int × List (Int × (Int × Int) × Int))) → Option Rt_bags_Of_h) : Option Rt_bags_Of_h :=
  (bif (decide (_v3 < _v2)) then (bif (decide (0 ≤ _v3) && decide (_v3 < (_v1.length : Int))) then ((D_bags_Bag_Add_h _N (((nth ((0 : Int), ((0 : Int), (0 : Int))) _v1 (_v3).toNat).1, ((nth ((0 : Int), ((0 : Int), (0 : Int))) _v1 (_v3).toNat).2).1), ((nth ((0 : Int), ((0 : Int), (0 : Int))) _v1 (_v3).toNat).2).2, _v4)).bind fun _y10 => (_kn9 ((_v1, _v2), ((IntKind.i64.wrap (_v3 + (1 : Int))), _y10)))) else none) else (_k8 _v4))
noncomputable def bags_Of_h_3 (_N : Nat) (_x1 : List (Int × Int × Int)) : Option Rt_bags_Of_h :=
  (joinD (fun (_s : (Int × List (Int × (Int × Int) × Int))) => bags_Of_h_1 _N _s) fun _k8 => (loopE (fun (_c : (List (Int × Int × Int)) × Int) (_s : Int × (Int × List (Int × (Int × Int) × Int))) _kn => bags_Of_h_2 _N _k8 _c.1 _c.2 _s.1 _s.2 _kn) _N (_x1, (_x1.length : Int)) ((0 : Int), ((0 : Int), ([] : List (Int × (Int × Int) × Int))))))
noncomputable def D_bags_Of_h (_N : Nat) (_x : (List (Int × Int × Int))) : Option Rt_bags_Of_h := bags_Of_h_3 _N _x
theorem sp_bags_Of_h (_N : Nat) : SpecH Try.prog [] 58 Sg_bags_Of_h (D_bags_Of_h _N) := mkSpH (fn := Try.f58) (c := bodyOf Try.f58) (C := (C_bags_Of_h _N))
    (a := .two .none (.two .none (.join 1 ⟨[(3, .ptr 0 1000000)], [.oth false ⟨false, 132, 2, .pair (.int .i64) (.int .i64), .int .i64, false⟩]⟩ (.two .none (.one (.loop 1 ⟨[(3, .ptr 0 1000000), (7, .sl (.pair (.int .i64) (.pair (.int .i64) (.int .i64)))), (8, .int .i64), (9, .int .i64)], [.oth false ⟨false, 132, 2, .pair (.int .i64) (.int .i64), .int .i64, false⟩]⟩ [2, 3] .none))) .none)))
    (by kernel_rfl) rfl (by kernel_rfl) (by kernel_rfl) (by kernel_rfl) rfl ⟨rfl, by unfold TOk; kernel_rfl, gOk_of rfl rfl (List.forall_mem_cons.2 ⟨en_bags_Bag_Add_h _N, (List.forall_mem_nil _)⟩), iOk_of rfl rfl (List.forall_mem_nil _), rfl⟩ (fun _x => by kernel_rfl)
theorem en_bags_Of_h (_N : Nat) : EntOk Try.prog [] (mkHe 58 Sg_bags_Of_h (D_bags_Of_h _N)) := entH ⟨Try.f58, bodyOf Try.f58, by kernel_rfl, by kernel_rfl, rfl⟩ (sp_bags_Of_h _N)
-- (with objects) watershed/ops.linear
-- (with objects) (watershed/ops.shift).row
-- (with objects) (watershed/ops.turn).row
-- (with objects) (watershed/ops.sieve).row
-- (with objects) (watershed/ops.mirror).row
-- (with objects) watershed/ops.group
-- (with objects) watershed/ops.Make
-- watershed/ops.One
end Go.Proofs.Ytfcjibfkhmnolaa
