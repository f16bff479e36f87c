/- bits.OnesCount32, sets.Size, lattice.Irreducible: the functions. -/
import Derived.Test.YtagghgmpdjoknaaDoorLattice
namespace Go.Proofs.YtagghgmpdjoknaaDoor
open Go.Abs
-- math/bits.OnesCount32
def str_85a303e3 : List Int := [0, 1, 1, 2, 1, 2, 2, 3, 1, 2, 2, 3, 2, 3, 3, 4] ++
  [1, 2, 2, 3, 2, 3, 3, 4, 2, 3, 3, 4, 3, 4, 4, 5] ++
  [1, 2, 2, 3, 2, 3, 3, 4, 2, 3, 3, 4, 3, 4, 4, 5] ++
  [2, 3, 3, 4, 3, 4, 4, 5, 3, 4, 4, 5, 4, 5, 5, 6] ++
  [1, 2, 2, 3, 2, 3, 3, 4, 2, 3, 3, 4, 3, 4, 4, 5] ++
  [2, 3, 3, 4, 3, 4, 4, 5, 3, 4, 4, 5, 4, 5, 5, 6] ++
  [2, 3, 3, 4, 3, 4, 4, 5, 3, 4, 4, 5, 4, 5, 5, 6] ++
  [3, 4, 4, 5, 4, 5, 5, 6, 4, 5, 5, 6, 5, 6, 6, 7] ++
  [1, 2, 2, 3, 2, 3, 3, 4, 2, 3, 3, 4, 3, 4, 4, 5] ++
  [2, 3, 3, 4, 3, 4, 4, 5, 3, 4, 4, 5, 4, 5, 5, 6] ++
  [2, 3, 3, 4, 3, 4, 4, 5, 3, 4, 4, 5, 4, 5, 5, 6] ++
  [3, 4, 4, 5, 4, 5, 5, 6, 4, 5, 5, 6, 5, 6, 6, 7] ++
  [2, 3, 3, 4, 3, 4, 4, 5, 3, 4, 4, 5, 4, 5, 5, 6] ++
  [3, 4, 4, 5, 4, 5, 5, 6, 4, 5, 5, 6, 5, 6, 6, 7] ++
  [3, 4, 4, 5, 4, 5, 5, 6, 4, 5, 5, 6, 5, 6, 6, 7] ++
  [4, 5, 5, 6, 5, 6, 6, 7, 5, 6, 6, 7, 6, 7, 7, 8]
abbrev Ks_math_bits_OnesCount32 : List Kd := [.dat (.int .u32)]
abbrev Rk_math_bits_OnesCount32 : List Kd := [.dat (.int .i64)]
abbrev Rt_math_bits_OnesCount32 : Type := Dens Rk_math_bits_OnesCount32
noncomputable def C_math_bits_OnesCount32 (_N : Nat) : Ctx := { T := [(3, ⟨.int .i64, 1, 8, some (.int .i64), [.int .i64 (0 : Int)]⟩), (5, ⟨.int .u8, 1, 1, some (.int .u8), [.int .u8 (0 : Int)]⟩), (9, ⟨.str, 1, 16, none, [.bad]⟩)], G := findE [], I := findI [], N := _N, n := 21, fx := [], fl := 0, gs := Gs }
noncomputable def math_bits_OnesCount32_1 (_N : Nat) (_x1 : Int) : Option Rt_math_bits_OnesCount32 :=
  (bif (decide ((24 : Int) < 0)) then none else (bif (decide (0 ≤ (ishr .u32 _x1 (24 : Int))) && decide ((ishr .u32 _x1 (24 : Int)) < (str_85a303e3.length : Int))) then (bif (decide ((16 : Int) < 0)) then none else (bif (decide (0 ≤ (iand .u32 (ishr .u32 _x1 (16 : Int)) (255 : Int))) && decide ((iand .u32 (ishr .u32 _x1 (16 : Int)) (255 : Int)) < (str_85a303e3.length : Int))) then (bif (decide ((8 : Int) < 0)) then none else (bif (decide (0 ≤ (iand .u32 (ishr .u32 _x1 (8 : Int)) (255 : Int))) && decide ((iand .u32 (ishr .u32 _x1 (8 : Int)) (255 : Int)) < (str_85a303e3.length : Int))) then (bif (decide (0 ≤ (iand .u32 _x1 (255 : Int))) && decide ((iand .u32 _x1 (255 : Int)) < (str_85a303e3.length : Int))) then (some ((IntKind.i64.wrap (IntKind.u8.wrap ((IntKind.u8.wrap ((IntKind.u8.wrap ((nth (0 : Int) str_85a303e3 (ishr .u32 _x1 (24 : Int)).toNat) + (nth (0 : Int) str_85a303e3 (iand .u32 (ishr .u32 _x1 (16 : Int)) (255 : Int)).toNat))) + (nth (0 : Int) str_85a303e3 (iand .u32 (ishr .u32 _x1 (8 : Int)) (255 : Int)).toNat))) + (nth (0 : Int) str_85a303e3 (iand .u32 _x1 (255 : Int)).toNat)))), ())) else none) else none)) else none)) else none))
noncomputable def D_math_bits_OnesCount32 (_N : Nat) (_x : Dens Ks_math_bits_OnesCount32) : Option Rt_math_bits_OnesCount32 := math_bits_OnesCount32_1 _N _x.1
theorem sp_math_bits_OnesCount32 (_N : Nat) : SpecD Tryd.prog Gs 94 Ks_math_bits_OnesCount32 Rk_math_bits_OnesCount32 (D_math_bits_OnesCount32 _N) := mkSpD (fn := Tryd.f94) (c := bodyOf Tryd.f94) (C := C_math_bits_OnesCount32 _N)
    (a := .two .none (.two (.draw 0 [.pure, .pure, .pure, .pure, .pure, .pure, .pure, .pure, .pure, .pure, .pure, .pure, .pure, .pure, .pure, .pure, .pure, .pure, .pure]) .none))
    (by kernel_rfl) rfl (by kernel_rfl) (by kernel_rfl) ⟨rfl, by unfold TOk; kernel_rfl, gOk_of rfl rfl (List.forall_mem_nil _), iOk_of rfl rfl (List.forall_mem_nil _), rfl⟩ (fun _x => by kernel_rfl)
theorem en_math_bits_OnesCount32 (_N : Nat) : EntOk Tryd.prog Gs (mkP 94 Ks_math_bits_OnesCount32 Rk_math_bits_OnesCount32 (D_math_bits_OnesCount32 _N)) := entP ⟨Tryd.f94, bodyOf Tryd.f94, by kernel_rfl, by kernel_rfl, rfl⟩ (by kernel_rfl) (sp_math_bits_OnesCount32 _N)
-- watershed/sets.Size
abbrev Ks_sets_Size : List Kd := [.dat (.int .u32)]
abbrev Rk_sets_Size : List Kd := [.dat (.int .i64)]
abbrev Rt_sets_Size : Type := Dens Rk_sets_Size
noncomputable def C_sets_Size (_N : Nat) : Ctx := { T := [], G := findE [mkP 94 Ks_math_bits_OnesCount32 Rk_math_bits_OnesCount32 (D_math_bits_OnesCount32 _N)], I := findI [], N := _N, n := 5, fx := [], fl := 0, gs := Gs }
noncomputable def sets_Size_1 (_N : Nat) (_x1 : Int) : Option Rt_sets_Size :=
  ((D_math_bits_OnesCount32 _N (_x1, ())).bind fun _y2 => (some (_y2.1, ())))
noncomputable def D_sets_Size (_N : Nat) (_x : Dens Ks_sets_Size) : Option Rt_sets_Size := sets_Size_1 _N _x.1
theorem sp_sets_Size (_N : Nat) : SpecD Tryd.prog Gs 63 Ks_sets_Size Rk_sets_Size (D_sets_Size _N) := mkSpD (fn := Tryd.f63) (c := bodyOf Tryd.f63) (C := C_sets_Size _N)
    (a := .none)
    (by kernel_rfl) rfl (by kernel_rfl) (by kernel_rfl) ⟨rfl, by unfold TOk; kernel_rfl, gOk_of rfl rfl (List.forall_mem_cons.2 ⟨en_math_bits_OnesCount32 _N, (List.forall_mem_nil _)⟩), iOk_of rfl rfl (List.forall_mem_nil _), rfl⟩ (fun _x => by kernel_rfl)
theorem en_sets_Size (_N : Nat) : EntOk Tryd.prog Gs (mkP 63 Ks_sets_Size Rk_sets_Size (D_sets_Size _N)) := entP ⟨Tryd.f63, bodyOf Tryd.f63, by kernel_rfl, by kernel_rfl, rfl⟩ (by kernel_rfl) (sp_sets_Size _N)
-- watershed/lattice.Irreducible$1
abbrev Ks_lattice_Irreducible_c1 : List Kd := [.dat (.pair (.int .i64) (.sl (.int .u32)))]
abbrev Rt_lattice_Irreducible_c1 : Type := List Int
noncomputable def C_lattice_Irreducible_c1 (_N : Nat) : Ctx := { T := [(3, ⟨.int .i64, 1, 8, some (.int .i64), [.int .i64 (0 : Int)]⟩), (24, ⟨.struct [(0, 3), (1, 22)], 2, 32, some (.pair (.int .i64) (.sl (.int .u32))), [.int .i64 (0 : Int), .nil]⟩), (38, ⟨.slice 3, 1, 24, some (.sl (.int .i64)), [.nil]⟩)], G := findE [mkP 64 Ks_order_Above Rk_order_Above (D_order_Above _N), mkP 63 Ks_sets_Size Rk_sets_Size (D_sets_Size _N)], I := findI [], N := _N, n := 21, fx := [1], fl := 0, gs := Gs }
noncomputable def lattice_Irreducible_c1_1 (_N : Nat) (_v14 : List Int) : Option Rt_lattice_Irreducible_c1 :=
  (some _v14)
noncomputable def lattice_Irreducible_c1_2 (_N : Nat) (_k15 : (Int × List Int × List Int) → Option Rt_lattice_Irreducible_c1) (_v1 : Int) (_v3 : Int) (_v4 : List Int) (_v2 : Int) (_v7 : List Int) (_kn16 : (Int × Int × List Int) × (Int × List Int) → Option Rt_lattice_Irreducible_c1) : Option Rt_lattice_Irreducible_c1 :=
  (bif (decide (_v2 < _v1)) then ((D_order_Above _N ((_v3, _v4), _v2, ())).bind fun _y17 => ((D_sets_Size _N (_y17.1, ())).bind fun _y18 => (bif (_y18.1 == (1 : Int)) then (bif (decide ((_v7.length + ([_v2]).length) * 8 ≤ 70368744177664) && Nat.ble 1 8) then (_kn16 ((_v1, _v3, _v4), ((IntKind.i64.wrap (_v2 + (1 : Int))), (_v7 ++ [_v2])))) else none) else (_kn16 ((_v1, _v3, _v4), ((IntKind.i64.wrap (_v2 + (1 : Int))), _v7)))))) else (_k15 (_v3, _v4, _v7)))
noncomputable def lattice_Irreducible_c1_3 (_N : Nat) (_x1 : Int × List Int) : Option Rt_lattice_Irreducible_c1 :=
  (joinD (fun (_s : Int × List Int × List Int) => lattice_Irreducible_c1_1 _N _s.2.2) fun _k15 => (loopE (fun (_c : Int × Int × List Int) (_s : Int × List Int) _kn => lattice_Irreducible_c1_2 _N _k15 _c.1 _c.2.1 _c.2.2 _s.1 _s.2 _kn) _N (_x1.1, _x1.1, _x1.2) ((0 : Int), [])))
noncomputable def D_lattice_Irreducible_c1 (_N : Nat) (_x : Dens Ks_lattice_Irreducible_c1) : Option Rt_lattice_Irreducible_c1 := lattice_Irreducible_c1_3 _N _x.1
theorem sp_lattice_Irreducible_c1 (_N : Nat) : SpecF Tryd.prog Gs 62 Ks_lattice_Irreducible_c1 3 (.int .i64) (D_lattice_Irreducible_c1 _N) := mkSpF (fn := Tryd.f62) (c := bodyOf Tryd.f62) (C := C_lattice_Irreducible_c1 _N)
    (a := .two .none (.two .none (.join 2 ⟨[(3, .slc 1 0)], [.cells [.int .i64, .sl (.int .u32)], .row false 0 3 (.int .i64)]⟩ (.two .none (.one (.obj 3 3 (.int .i64) (.loop 2 ⟨[(1, .ptr 0 0), (3, .slc 1 0), (6, .int .i64), (7, .int .i64)], [.cells [.int .i64, .sl (.int .u32)], .row false 0 3 (.int .i64)]⟩ [1, 4] .none)))) .none)))
    (by kernel_rfl) rfl (by kernel_rfl) (by kernel_rfl) ⟨rfl, by unfold TOk; kernel_rfl, gOk_of rfl rfl (List.forall_mem_cons.2 ⟨en_order_Above _N, (List.forall_mem_cons.2 ⟨en_sets_Size _N, (List.forall_mem_nil _)⟩)⟩), iOk_of rfl rfl (List.forall_mem_nil _), rfl⟩ (fun _x => by kernel_rfl)
theorem en_lattice_Irreducible_c1 (_N : Nat) : EntOk Tryd.prog Gs (mkF 62 Ks_lattice_Irreducible_c1 3 (.int .i64) (D_lattice_Irreducible_c1 _N)) := entF ⟨Tryd.f62, bodyOf Tryd.f62, by kernel_rfl, by kernel_rfl, rfl⟩ (by kernel_rfl) (Nat.le_of_ble_eq_true (by kernel_rfl)) (sp_lattice_Irreducible_c1 _N)
theorem qen_lattice_Irreducible_c1 (_N : Nat) : EntOk Tryd.prog Gs (mkQ 62 Ks_lattice_Irreducible_c1 [.dat (.sl (.int .i64))] (fun _x => (D_lattice_Irreducible_c1 _N _x).map fun _y => (_y, ()))) := entQ ⟨Tryd.f62, bodyOf Tryd.f62, by kernel_rfl, by kernel_rfl, rfl⟩ (specD_of_F (sp_lattice_Irreducible_c1 _N))
-- watershed/lattice.Irreducible
abbrev Ks_lattice_Irreducible : List Kd := [.dat (.pair (.int .i64) (.sl (.int .u32)))]
abbrev Rk_lattice_Irreducible : List Kd := [.dat (.sl (.int .i64)), .dat (.sl (.int .i64)), .dat (.int .i64)]
abbrev Rt_lattice_Irreducible : Type := Dens Rk_lattice_Irreducible
noncomputable def C_lattice_Irreducible (_N : Nat) : Ctx := { T := [(24, ⟨.struct [(0, 3), (1, 22)], 2, 32, some (.pair (.int .i64) (.sl (.int .u32))), [.int .i64 (0 : Int), .nil]⟩), (101, ⟨.struct [(0, 24), (2, 55)], 6, 96, some (.pair (.pair (.int .i64) (.sl (.int .u32))) (.pair (.sl (.int .i64)) (.pair (.sl (.int .i64)) (.pair (.int .i64) (.int .i64))))), [.int .i64 (0 : Int), .nil, .nil, .nil, .int .i64 (0 : Int), .int .i64 (0 : Int)]⟩)], G := findE [mkQ 57 Ks_lattice_Of Rk_lattice_Of (D_lattice_Of _N), mkQ 25 Ks_order_Dual Rk_order_Dual (D_order_Dual _N), mkQ 62 Ks_lattice_Irreducible_c1 [.dat (.sl (.int .i64))] (fun _x => (D_lattice_Irreducible_c1 _N _x).map fun _y => (_y, ()))], I := findI [], N := _N, n := 29, fx := [], fl := 0, gs := Gs }
noncomputable def lattice_Irreducible_1 (_N : Nat) (_x1 : Int × List Int) : Option Rt_lattice_Irreducible :=
  ((D_lattice_Of _N ((_x1.1, _x1.2), ())).bind fun _y5 => (bif (_y5.2.1 != (0 : Int)) then (some ([], [], _y5.2.1, ())) else ((D_order_Dual _N ((_x1.1, _x1.2), ())).bind fun _y6 => (((fun _x => (D_lattice_Irreducible_c1 _N _x).map fun _y => (_y, ())) ((_y6.1.1, _y6.1.2), ())).bind fun _y7 => (((fun _x => (D_lattice_Irreducible_c1 _N _x).map fun _y => (_y, ())) ((_x1.1, _x1.2), ())).bind fun _y8 => (some (_y7.1, _y8.1, (0 : Int), ())))))))
noncomputable def D_lattice_Irreducible (_N : Nat) (_x : Dens Ks_lattice_Irreducible) : Option Rt_lattice_Irreducible := lattice_Irreducible_1 _N _x.1
theorem sp_lattice_Irreducible (_N : Nat) : SpecD Tryd.prog Gs 30 Ks_lattice_Irreducible Rk_lattice_Irreducible (D_lattice_Irreducible _N) := mkSpD (fn := Tryd.f30) (c := bodyOf Tryd.f30) (C := C_lattice_Irreducible _N)
    (a := .two .none (.two .none (.two .none (.two .none (.two (.draw 0 [.pure, .rd [2], .pure, .pure, .rd [0], .pure, .pure, .pure, .pure]) .none)))))
    (by kernel_rfl) rfl (by kernel_rfl) (by kernel_rfl) ⟨rfl, by unfold TOk; kernel_rfl, gOk_of rfl rfl (List.forall_mem_cons.2 ⟨qen_lattice_Of _N, (List.forall_mem_cons.2 ⟨qen_order_Dual _N, (List.forall_mem_cons.2 ⟨qen_lattice_Irreducible_c1 _N, (List.forall_mem_nil _)⟩)⟩)⟩), iOk_of rfl rfl (List.forall_mem_nil _), rfl⟩ (fun _x => by kernel_rfl)
theorem en_lattice_Irreducible (_N : Nat) : EntOk Tryd.prog Gs (mkD 30 Ks_lattice_Irreducible Rk_lattice_Irreducible (D_lattice_Irreducible _N)) := entD ⟨Tryd.f30, bodyOf Tryd.f30, by kernel_rfl, by kernel_rfl, rfl⟩ (sp_lattice_Irreducible _N)
theorem qen_lattice_Irreducible (_N : Nat) : EntOk Tryd.prog Gs (mkQ 30 Ks_lattice_Irreducible Rk_lattice_Irreducible (D_lattice_Irreducible _N)) := entQ ⟨Tryd.f30, bodyOf Tryd.f30, by kernel_rfl, by kernel_rfl, rfl⟩ (sp_lattice_Irreducible _N)
end Go.Proofs.YtagghgmpdjoknaaDoor
