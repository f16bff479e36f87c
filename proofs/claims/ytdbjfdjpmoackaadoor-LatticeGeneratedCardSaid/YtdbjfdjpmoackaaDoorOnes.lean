/- bits.OnesCount32, sets.Size, lattice.Irreducible: the functions. -/
import Derived.Test.YtdbjfdjpmoackaaDoorLattice
namespace Go.Proofs.YtdbjfdjpmoackaaDoor
open Go.Abs
-- math/bits.OnesCount32
def str_85a303e3 : List Int := [0, 1, 1, 2, 1, 2, 2, 3, 1, 2, 2, 3, 2, 3, 3, 4] ++
  [1, 2, 2, 3, 2, 3, 3, 4, 2, 3, 3, 4, 3, 4, 4, 5] ++
  [1, 2, 2, 3, 2, 3, 3, 4, 2, 3, 3, 4, 3, 4, 4, 5] ++
  [2, 3, 3, 4, 3, 4, 4, 5, 3, 4, 4, 5, 4, 5, 5, 6] ++
  [1, 2, 2, 3, 2, 3, 3, 4, 2, 3, 3, 4, 3, 4, 4, 5] ++
  [2, 3, 3, 4, 3, 4, 4, 5, 3, 4, 4, 5, 4, 5, 5, 6] ++
  [2, 3, 3, 4, 3, 4, 4, 5, 3, 4, 4, 5, 4, 5, 5, 6] ++
  [3, 4, 4, 5, 4, 5, 5, 6, 4, 5, 5, 6, 5, 6, 6, 7] ++
  [1, 2, 2, 3, 2, 3, 3, 4, 2, 3, 3, 4, 3, 4, 4, 5] ++
  [2, 3, 3, 4, 3, 4, 4, 5, 3, 4, 4, 5, 4, 5, 5, 6] ++
  [2, 3, 3, 4, 3, 4, 4, 5, 3, 4, 4, 5, 4, 5, 5, 6] ++
  [3, 4, 4, 5, 4, 5, 5, 6, 4, 5, 5, 6, 5, 6, 6, 7] ++
  [2, 3, 3, 4, 3, 4, 4, 5, 3, 4, 4, 5, 4, 5, 5, 6] ++
  [3, 4, 4, 5, 4, 5, 5, 6, 4, 5, 5, 6, 5, 6, 6, 7] ++
  [3, 4, 4, 5, 4, 5, 5, 6, 4, 5, 5, 6, 5, 6, 6, 7] ++
  [4, 5, 5, 6, 5, 6, 6, 7, 5, 6, 6, 7, 6, 7, 7, 8]
abbrev Ks_math_bits_OnesCount32 : List Kd := [.dat (.int .u32)]
abbrev Rk_math_bits_OnesCount32 : List Kd := [.dat (.int .i64)]
abbrev Rt_math_bits_OnesCount32 : Type := Dens Rk_math_bits_OnesCount32
def T_math_bits_OnesCount32 : List (Nat × TE) := [(3, ⟨.int .i64, 1, 8, some (.int .i64), [.int .i64 (0 : Int)]⟩),
  (5, ⟨.int .u8, 1, 1, some (.int .u8), [.int .u8 (0 : Int)]⟩),
  (9, ⟨.str, 1, 16, none, [.bad]⟩)]
noncomputable def C_math_bits_OnesCount32 (_N : Nat) : Ctx := { T := T_math_bits_OnesCount32, G := findE [], I := findI [], N := _N, n := 21, fx := [], fl := 0, gs := Gs }
noncomputable def math_bits_OnesCount32_1 (_N : Nat) (_x1 : Int) : Option Rt_math_bits_OnesCount32 :=
  (bif (decide ((24 : Int) < 0)) then none else (bif (decide (0 ≤ (ishr .u32 _x1 (24 : Int))) && decide ((ishr .u32 _x1 (24 : Int)) < (str_85a303e3.length : Int))) then (bif (decide ((16 : Int) < 0)) then none else (bif (decide (0 ≤ (iand .u32 (ishr .u32 _x1 (16 : Int)) (255 : Int))) && decide ((iand .u32 (ishr .u32 _x1 (16 : Int)) (255 : Int)) < (str_85a303e3.length : Int))) then (bif (decide ((8 : Int) < 0)) then none else (bif (decide (0 ≤ (iand .u32 (ishr .u32 _x1 (8 : Int)) (255 : Int))) && decide ((iand .u32 (ishr .u32 _x1 (8 : Int)) (255 : Int)) < (str_85a303e3.length : Int))) then (bif (decide (0 ≤ (iand .u32 _x1 (255 : Int))) && decide ((iand .u32 _x1 (255 : Int)) < (str_85a303e3.length : Int))) then (some ((IntKind.i64.wrap (IntKind.u8.wrap ((IntKind.u8.wrap ((IntKind.u8.wrap ((nth (0 : Int) str_85a303e3 (ishr .u32 _x1 (24 : Int)).toNat) + (nth (0 : Int) str_85a303e3 (iand .u32 (ishr .u32 _x1 (16 : Int)) (255 : Int)).toNat))) + (nth (0 : Int) str_85a303e3 (iand .u32 (ishr .u32 _x1 (8 : Int)) (255 : Int)).toNat))) + (nth (0 : Int) str_85a303e3 (iand .u32 _x1 (255 : Int)).toNat)))), ())) else none) else none)) else none)) else none))
abbrev A_math_bits_OnesCount32_1 : Ann := .two .none (.two (.draw 0 [.pure, .pure, .pure, .pure, .pure, .pure, .pure, .pure, .pure, .pure, .pure, .pure, .pure, .pure, .pure, .pure, .pure, .pure, .pure]) .none)
theorem math_bits_OnesCount32_1e (_N : Nat) (_x1 : Int) :
    exec (C_math_bits_OnesCount32 _N) (cAt (bodyOf Tryd.f63) []) A_math_bits_OnesCount32_1 [(0, .int .u32 _x1)] [] (canonR (fun _i _t _h => none) (finK (C_math_bits_OnesCount32 _N) [.tmp 2] (finD Rk_math_bits_OnesCount32))) = math_bits_OnesCount32_1 _N _x1 :=
  by kernel_rfl
noncomputable def D_math_bits_OnesCount32 (_N : Nat) (x : Dens Ks_math_bits_OnesCount32) : Option Rt_math_bits_OnesCount32 := math_bits_OnesCount32_1 _N x.1
theorem E_math_bits_OnesCount32 (_N : Nat) (x : Dens Ks_math_bits_OnesCount32) : exec (C_math_bits_OnesCount32 _N) (bodyOf Tryd.f63) A_math_bits_OnesCount32_1 (argS 0 (kvals Ks_math_bits_OnesCount32 x)) [] (finK (C_math_bits_OnesCount32 _N) [.tmp 2] (finD Rk_math_bits_OnesCount32)) = D_math_bits_OnesCount32 _N x :=
  (congrArg (fun K => exec (C_math_bits_OnesCount32 _N) (bodyOf Tryd.f63) A_math_bits_OnesCount32_1 (argS 0 (kvals Ks_math_bits_OnesCount32 x)) [] K) canonR_fin).trans (math_bits_OnesCount32_1e _N x.1)
theorem ok_math_bits_OnesCount32 (_N : Nat) : CtxOk Tryd.prog Gs Tryd.f63 (C_math_bits_OnesCount32 _N) := ⟨rfl, by unfold TOk; kernel_rfl, gOk_of rfl rfl (List.forall_mem_nil _), iOk_of rfl rfl (List.forall_mem_nil _), rfl⟩
theorem hb_math_bits_OnesCount32 : HasBody Tryd.prog 63 := ⟨Tryd.f63, bodyOf Tryd.f63, by kernel_rfl, by kernel_rfl, rfl⟩
theorem sp_math_bits_OnesCount32 (_N : Nat) : SpecD Tryd.prog Gs 63 Ks_math_bits_OnesCount32 Rk_math_bits_OnesCount32 (D_math_bits_OnesCount32 _N) := specD_of (c := bodyOf Tryd.f63) (by kernel_rfl) rfl (by kernel_rfl) (Nat.le_of_ble_eq_true (by kernel_rfl)) fun x y _h => ⟨C_math_bits_OnesCount32 _N, A_math_bits_OnesCount32_1, ok_math_bits_OnesCount32 _N, (E_math_bits_OnesCount32 _N x).trans _h⟩
theorem en_math_bits_OnesCount32 (_N : Nat) : EntOk Tryd.prog Gs (mkP 63 Ks_math_bits_OnesCount32 Rk_math_bits_OnesCount32 (D_math_bits_OnesCount32 _N)) := entP hb_math_bits_OnesCount32 (by kernel_rfl) (sp_math_bits_OnesCount32 _N)
-- watershed/sets.Size
abbrev Ks_sets_Size : List Kd := [.dat (.int .u32)]
abbrev Rk_sets_Size : List Kd := [.dat (.int .i64)]
abbrev Rt_sets_Size : Type := Dens Rk_sets_Size
def T_sets_Size : List (Nat × TE) := []
noncomputable def C_sets_Size (_N : Nat) : Ctx := { T := T_sets_Size, G := findE [mkP 63 Ks_math_bits_OnesCount32 Rk_math_bits_OnesCount32 (D_math_bits_OnesCount32 _N)], I := findI [], N := _N, n := 5, fx := [], fl := 0, gs := Gs }
noncomputable def sets_Size_1 (_N : Nat) (_x1 : Int) : Option Rt_sets_Size :=
  ((D_math_bits_OnesCount32 _N (_x1, ())).bind fun _y2 => (some (_y2.1, ())))
theorem sets_Size_1e (_N : Nat) (_x1 : Int) :
    exec (C_sets_Size _N) (cAt (bodyOf Tryd.f45) []) .none [(0, .int .u32 _x1)] [] (canonR (fun _i _t _h => none) (finK (C_sets_Size _N) [.tmp 2] (finD Rk_sets_Size))) = sets_Size_1 _N _x1 :=
  by kernel_rfl
noncomputable def D_sets_Size (_N : Nat) (x : Dens Ks_sets_Size) : Option Rt_sets_Size := sets_Size_1 _N x.1
theorem E_sets_Size (_N : Nat) (x : Dens Ks_sets_Size) : exec (C_sets_Size _N) (bodyOf Tryd.f45) .none (argS 0 (kvals Ks_sets_Size x)) [] (finK (C_sets_Size _N) [.tmp 2] (finD Rk_sets_Size)) = D_sets_Size _N x :=
  (congrArg (fun K => exec (C_sets_Size _N) (bodyOf Tryd.f45) .none (argS 0 (kvals Ks_sets_Size x)) [] K) canonR_fin).trans (sets_Size_1e _N x.1)
theorem ok_sets_Size (_N : Nat) : CtxOk Tryd.prog Gs Tryd.f45 (C_sets_Size _N) := ⟨rfl, by unfold TOk; kernel_rfl, gOk_of rfl rfl (List.forall_mem_cons.2 ⟨en_math_bits_OnesCount32 _N, (List.forall_mem_nil _)⟩), iOk_of rfl rfl (List.forall_mem_nil _), rfl⟩
theorem hb_sets_Size : HasBody Tryd.prog 45 := ⟨Tryd.f45, bodyOf Tryd.f45, by kernel_rfl, by kernel_rfl, rfl⟩
theorem sp_sets_Size (_N : Nat) : SpecD Tryd.prog Gs 45 Ks_sets_Size Rk_sets_Size (D_sets_Size _N) := specD_of (c := bodyOf Tryd.f45) (by kernel_rfl) rfl (by kernel_rfl) (Nat.le_of_ble_eq_true (by kernel_rfl)) fun x y _h => ⟨C_sets_Size _N, .none, ok_sets_Size _N, (E_sets_Size _N x).trans _h⟩
theorem en_sets_Size (_N : Nat) : EntOk Tryd.prog Gs (mkP 45 Ks_sets_Size Rk_sets_Size (D_sets_Size _N)) := entP hb_sets_Size (by kernel_rfl) (sp_sets_Size _N)
-- watershed/lattice.Irreducible$1
abbrev Ks_lattice_Irreducible_c1 : List Kd := [.dat (.pair (.int .i64) (.sl (.int .u32)))]
abbrev Rt_lattice_Irreducible_c1 : Type := List Int
def T_lattice_Irreducible_c1 : List (Nat × TE) := [(3, ⟨.int .i64, 1, 8, some (.int .i64), [.int .i64 (0 : Int)]⟩),
  (24, ⟨.struct [(0, 3), (1, 22)], 2, 32, some (.pair (.int .i64) (.sl (.int .u32))), [.int .i64 (0 : Int), .nil]⟩),
  (25, ⟨.slice 3, 1, 24, some (.sl (.int .i64)), [.nil]⟩)]
noncomputable def C_lattice_Irreducible_c1 (_N : Nat) : Ctx := { T := T_lattice_Irreducible_c1, G := findE [mkP 46 Ks_order_Above Rk_order_Above (D_order_Above _N), mkP 45 Ks_sets_Size Rk_sets_Size (D_sets_Size _N)], I := findI [], N := _N, n := 21, fx := [1], fl := 0, gs := Gs }
noncomputable def lattice_Irreducible_c1_1 (_N : Nat) (_k12 : Option Rt_lattice_Irreducible_c1) : Option Rt_lattice_Irreducible_c1 :=
  _k12
theorem lattice_Irreducible_c1_1e (_N : Nat) (_x1 : Int × List Int) (_k12 : Ko Rt_lattice_Irreducible_c1) :
    exec (C_lattice_Irreducible_c1 _N) (cAt (bodyOf Tryd.f44) [0]) .none [(0, .agg [.int .i64 _x1.1, .sl (.int .u32) _x1.2])] [] (canonK [1] _k12 [1] 1 (fun _i _t _h => none) (fun _t _h => finK (C_lattice_Irreducible_c1 _N) [.tmp 2] (finF 3 (.int .i64)) .ret _t _h)) = lattice_Irreducible_c1_1 _N (_k12 [(1, .ptr 0 0)] [.cells [.int .i64 _x1.1, .sl (.int .u32) _x1.2]]) :=
  by kernel_rfl
noncomputable def lattice_Irreducible_c1_2 (_N : Nat) (_k13 : Option Rt_lattice_Irreducible_c1) : Option Rt_lattice_Irreducible_c1 :=
  _k13
theorem lattice_Irreducible_c1_2e (_N : Nat) (_x1 : Int × List Int) (_k13 : Ko Rt_lattice_Irreducible_c1) :
    exec (C_lattice_Irreducible_c1 _N) (cAt (bodyOf Tryd.f44) [1, 0]) .none [(1, .ptr 0 0)] [.cells [.int .i64 _x1.1, .sl (.int .u32) _x1.2]] (canonK [1] _k13 [1, 3] 1 (fun _i _t _h => none) (fun _t _h => finK (C_lattice_Irreducible_c1 _N) [.tmp 2] (finF 3 (.int .i64)) .ret _t _h)) = lattice_Irreducible_c1_2 _N (_k13 [(1, .ptr 0 0), (3, .nil)] [.cells [.int .i64 _x1.1, .sl (.int .u32) _x1.2]]) :=
  by kernel_rfl
noncomputable def lattice_Irreducible_c1_3 (_N : Nat) (_k15 : Option Rt_lattice_Irreducible_c1) : Option Rt_lattice_Irreducible_c1 :=
  _k15
theorem lattice_Irreducible_c1_3e (_N : Nat) (_x1 : Int × List Int) (_k15 : Ko Rt_lattice_Irreducible_c1) :
    exec (C_lattice_Irreducible_c1 _N) (cAt (bodyOf Tryd.f44) [1, 1, 0, 0]) .none [(1, .ptr 0 0), (3, .nil)] [.cells [.int .i64 _x1.1, .sl (.int .u32) _x1.2]] (canonK [1] _k15 [1, 3, 6, 7] 1 (fun _i _t _h => none) (fun _t _h => finK (C_lattice_Irreducible_c1 _N) [.tmp 2] (finF 3 (.int .i64)) .ret _t _h)) = lattice_Irreducible_c1_3 _N (_k15 [(1, .ptr 0 0), (3, .nil), (6, .int .i64 _x1.1), (7, .int .i64 (0 : Int))] [.cells [.int .i64 _x1.1, .sl (.int .u32) _x1.2]]) :=
  by kernel_rfl
noncomputable def lattice_Irreducible_c1_4 (_N : Nat) (_x1 : Int × List Int) (_v5 : Int) (_v6 : List Int) (_k16 : Int → (List Int) → Option Rt_lattice_Irreducible_c1) (_k14 : (List Int) → Option Rt_lattice_Irreducible_c1) : Option Rt_lattice_Irreducible_c1 :=
  (bif (decide (_v5 < _x1.1)) then ((D_order_Above _N ((_x1.1, _x1.2), _v5, ())).bind fun _y17 => ((D_sets_Size _N (_y17.1, ())).bind fun _y18 => (bif (_y18.1 == (1 : Int)) then (bif (decide ((_v6.length + ([_v5]).length) * 8 ≤ 70368744177664) && Nat.ble 1 8) then (_k16 (IntKind.i64.wrap (_v5 + (1 : Int))) (_v6 ++ [_v5])) else none) else (_k16 (IntKind.i64.wrap (_v5 + (1 : Int))) _v6)))) else (_k14 _v6))
theorem lattice_Irreducible_c1_4e (_N : Nat) (_x1 : Int × List Int) (_v5 : Int) (_v6 : List Int) (_k16 _k14 : Ko Rt_lattice_Irreducible_c1) :
    exec (C_lattice_Irreducible_c1 _N) (cAt (bodyOf Tryd.f44) [1, 1, 0, 1, 0, 0]) .none [(1, .ptr 0 0), (3, .slc 1 0), (6, .int .i64 _x1.1), (7, .int .i64 _v5)] [.cells [.int .i64 _x1.1, .sl (.int .u32) _x1.2], .row false 0 3 (.int .i64) _v6] (canonK [1] _k16 [1, 3, 6, 7] 2 (fun _i _t _h => wo 0 _k14 [1] [3] 2 _i _t _h none) (fun _t _h => finK (C_lattice_Irreducible_c1 _N) [.tmp 2] (finF 3 (.int .i64)) .ret _t _h)) = lattice_Irreducible_c1_4 _N _x1 _v5 _v6 (fun _v5 _v6 => _k16 [(1, .ptr 0 0), (3, .slc 1 0), (6, .int .i64 _x1.1), (7, .int .i64 _v5)] [.cells [.int .i64 _x1.1, .sl (.int .u32) _x1.2], .row false 0 3 (.int .i64) _v6]) (fun _v11 => _k14 [(3, .slc 1 0)] [.cells [.int .i64 _x1.1, .sl (.int .u32) _x1.2], .row false 0 3 (.int .i64) _v11]) :=
  by kernel_rfl
noncomputable def lattice_Irreducible_c1_5 (_N : Nat) (_x1 : Int × List Int) (_k14 : (List Int) → Option Rt_lattice_Irreducible_c1) : Option Rt_lattice_Irreducible_c1 :=
  loopD (fun (_s : Int × List Int) _kn => lattice_Irreducible_c1_4 _N _x1 _s.1 _s.2 (fun _v5 _v6 => _kn (_v5, _v6)) _k14) _N ((0 : Int), [])
abbrev A_lattice_Irreducible_c1_5 : Ann := .obj 3 3 (.int .i64) (.loop [1, 3, 6, 7] 2 .none)
theorem lattice_Irreducible_c1_5e (_N : Nat) (_x1 : Int × List Int) (_k14 : Ko Rt_lattice_Irreducible_c1) :
    exec (C_lattice_Irreducible_c1 _N) (cAt (bodyOf Tryd.f44) [1, 1, 0, 1, 0]) A_lattice_Irreducible_c1_5 [(1, .ptr 0 0), (3, .nil), (6, .int .i64 _x1.1), (7, .int .i64 (0 : Int))] [.cells [.int .i64 _x1.1, .sl (.int .u32) _x1.2]] (canonK [1] _k14 [3] 2 (fun _i _t _h => wo 0 _k14 [1] [3] 2 _i _t _h none) (fun _t _h => finK (C_lattice_Irreducible_c1 _N) [.tmp 2] (finF 3 (.int .i64)) .ret _t _h)) = lattice_Irreducible_c1_5 _N _x1 (fun _v11 => _k14 [(3, .slc 1 0)] [.cells [.int .i64 _x1.1, .sl (.int .u32) _x1.2], .row false 0 3 (.int .i64) _v11]) :=
  (exec_obj _ (by kernel_rfl) rfl (t' := (3, .slc 1 0) :: [(1, .ptr 0 0), (3, .nil), (6, .int .i64 _x1.1), (7, .int .i64 (0 : Int))]) (h' := [.cells [.int .i64 _x1.1, .sl (.int .u32) _x1.2], .row false 0 3 (.int .i64) ([])]) (by kernel_rfl) (by kernel_rfl)).trans ((loop_frag (by kernel_rfl) rfl (by kernel_rfl) (by kernel_rfl)).trans (loopN_sim (S := Int × List Int) (fun _s => [(1, .ptr 0 0), (3, .slc 1 0), (6, .int .i64 _x1.1), (7, .int .i64 _s.1)]) (fun _s => [.cells [.int .i64 _x1.1, .sl (.int .u32) _x1.2], .row false 0 3 (.int .i64) _s.2]) (fun _s _kn => lattice_Irreducible_c1_4e _N _x1 _s.1 _s.2 _kn _k14) _N ((0 : Int), [])))
noncomputable def lattice_Irreducible_c1_6 (_N : Nat) (_x1 : Int × List Int) (_k14 : (List Int) → Option Rt_lattice_Irreducible_c1) : Option Rt_lattice_Irreducible_c1 :=
  lattice_Irreducible_c1_5 _N _x1 _k14
theorem lattice_Irreducible_c1_6e (_N : Nat) (_x1 : Int × List Int) (_k14 : Ko Rt_lattice_Irreducible_c1) :
    exec (C_lattice_Irreducible_c1 _N) (cAt (bodyOf Tryd.f44) [1, 1, 0, 1]) (.one A_lattice_Irreducible_c1_5) [(1, .ptr 0 0), (3, .nil), (6, .int .i64 _x1.1), (7, .int .i64 (0 : Int))] [.cells [.int .i64 _x1.1, .sl (.int .u32) _x1.2]] (canonK [1] _k14 [3] 2 (fun _i _t _h => none) (fun _t _h => finK (C_lattice_Irreducible_c1 _N) [.tmp 2] (finF 3 (.int .i64)) .ret _t _h)) = lattice_Irreducible_c1_6 _N _x1 (fun _v11 => _k14 [(3, .slc 1 0)] [.cells [.int .i64 _x1.1, .sl (.int .u32) _x1.2], .row false 0 3 (.int .i64) _v11]) :=
  (block_canon (by kernel_rfl)).trans (lattice_Irreducible_c1_5e _N _x1 _k14)
noncomputable def lattice_Irreducible_c1_7 (_N : Nat) (_x1 : Int × List Int) (_k14 : (List Int) → Option Rt_lattice_Irreducible_c1) : Option Rt_lattice_Irreducible_c1 :=
  lattice_Irreducible_c1_3 _N (lattice_Irreducible_c1_6 _N _x1 _k14)
abbrev A_lattice_Irreducible_c1_7 : Ann := .two .none (.keep [1, 3, 6, 7] 1 (.one A_lattice_Irreducible_c1_5))
theorem lattice_Irreducible_c1_7e (_N : Nat) (_x1 : Int × List Int) (_k14 : Ko Rt_lattice_Irreducible_c1) :
    exec (C_lattice_Irreducible_c1 _N) (cAt (bodyOf Tryd.f44) [1, 1, 0]) A_lattice_Irreducible_c1_7 [(1, .ptr 0 0), (3, .nil)] [.cells [.int .i64 _x1.1, .sl (.int .u32) _x1.2]] (canonK [1] _k14 [3] 2 (fun _i _t _h => none) (fun _t _h => finK (C_lattice_Irreducible_c1 _N) [.tmp 2] (finF 3 (.int .i64)) .ret _t _h)) = lattice_Irreducible_c1_7 _N _x1 (fun _v11 => _k14 [(3, .slc 1 0)] [.cells [.int .i64 _x1.1, .sl (.int .u32) _x1.2], .row false 0 3 (.int .i64) _v11]) :=
  (seq_frag (by kernel_rfl) rfl).trans ((lattice_Irreducible_c1_3e _N _x1 _).trans (congrArg (fun _z => lattice_Irreducible_c1_3 _N _z) (lattice_Irreducible_c1_6e _N _x1 _k14)))
noncomputable def lattice_Irreducible_c1_8 (_N : Nat) (_v11 : List Int) : Option Rt_lattice_Irreducible_c1 :=
  (some _v11)
theorem lattice_Irreducible_c1_8e (_N : Nat) (_x1 : Int × List Int) (_v11 : List Int) :
    exec (C_lattice_Irreducible_c1 _N) (cAt (bodyOf Tryd.f44) [1, 1, 1]) .none [(3, .slc 1 0)] [.cells [.int .i64 _x1.1, .sl (.int .u32) _x1.2], .row false 0 3 (.int .i64) _v11] (canonR (fun _i _t _h => none) (finK (C_lattice_Irreducible_c1 _N) [.tmp 2] (finF 3 (.int .i64)))) = lattice_Irreducible_c1_8 _N _v11 :=
  by kernel_rfl
noncomputable def lattice_Irreducible_c1_9 (_N : Nat) (_x1 : Int × List Int) : Option Rt_lattice_Irreducible_c1 :=
  lattice_Irreducible_c1_7 _N _x1 (fun _v11 => lattice_Irreducible_c1_8 _N _v11)
abbrev A_lattice_Irreducible_c1_9 : Ann := .two (.two .none (.keep [1, 3, 6, 7] 1 (.one A_lattice_Irreducible_c1_5))) (.keep [3] 2 .none)
theorem lattice_Irreducible_c1_9e (_N : Nat) (_x1 : Int × List Int) :
    exec (C_lattice_Irreducible_c1 _N) (cAt (bodyOf Tryd.f44) [1, 1]) A_lattice_Irreducible_c1_9 [(1, .ptr 0 0), (3, .nil)] [.cells [.int .i64 _x1.1, .sl (.int .u32) _x1.2]] (canonR (fun _i _t _h => none) (finK (C_lattice_Irreducible_c1 _N) [.tmp 2] (finF 3 (.int .i64)))) = lattice_Irreducible_c1_9 _N _x1 :=
  (seq_frag (by kernel_rfl) rfl).trans ((lattice_Irreducible_c1_7e _N _x1 _).trans (congrArg (fun _z => lattice_Irreducible_c1_7 _N _x1 _z) (funext fun _v11 => lattice_Irreducible_c1_8e _N _x1 _v11)))
noncomputable def lattice_Irreducible_c1_10 (_N : Nat) (_x1 : Int × List Int) : Option Rt_lattice_Irreducible_c1 :=
  lattice_Irreducible_c1_2 _N (lattice_Irreducible_c1_9 _N _x1)
abbrev A_lattice_Irreducible_c1_10 : Ann := .two .none (.keep [1, 3] 1 (.two (.two .none (.keep [1, 3, 6, 7] 1 (.one A_lattice_Irreducible_c1_5))) (.keep [3] 2 .none)))
theorem lattice_Irreducible_c1_10e (_N : Nat) (_x1 : Int × List Int) :
    exec (C_lattice_Irreducible_c1 _N) (cAt (bodyOf Tryd.f44) [1]) A_lattice_Irreducible_c1_10 [(1, .ptr 0 0)] [.cells [.int .i64 _x1.1, .sl (.int .u32) _x1.2]] (canonR (fun _i _t _h => none) (finK (C_lattice_Irreducible_c1 _N) [.tmp 2] (finF 3 (.int .i64)))) = lattice_Irreducible_c1_10 _N _x1 :=
  (seq_frag (by kernel_rfl) rfl).trans ((lattice_Irreducible_c1_2e _N _x1 _).trans (congrArg (fun _z => lattice_Irreducible_c1_2 _N _z) (lattice_Irreducible_c1_9e _N _x1)))
noncomputable def lattice_Irreducible_c1_11 (_N : Nat) (_x1 : Int × List Int) : Option Rt_lattice_Irreducible_c1 :=
  lattice_Irreducible_c1_1 _N (lattice_Irreducible_c1_10 _N _x1)
abbrev A_lattice_Irreducible_c1_11 : Ann := .two .none (.keep [1] 1 (.two .none (.keep [1, 3] 1 (.two (.two .none (.keep [1, 3, 6, 7] 1 (.one A_lattice_Irreducible_c1_5))) (.keep [3] 2 .none)))))
theorem lattice_Irreducible_c1_11e (_N : Nat) (_x1 : Int × List Int) :
    exec (C_lattice_Irreducible_c1 _N) (cAt (bodyOf Tryd.f44) []) A_lattice_Irreducible_c1_11 [(0, .agg [.int .i64 _x1.1, .sl (.int .u32) _x1.2])] [] (canonR (fun _i _t _h => none) (finK (C_lattice_Irreducible_c1 _N) [.tmp 2] (finF 3 (.int .i64)))) = lattice_Irreducible_c1_11 _N _x1 :=
  (seq_frag (by kernel_rfl) rfl).trans ((lattice_Irreducible_c1_1e _N _x1 _).trans (congrArg (fun _z => lattice_Irreducible_c1_1 _N _z) (lattice_Irreducible_c1_10e _N _x1)))
noncomputable def D_lattice_Irreducible_c1 (_N : Nat) (x : Dens Ks_lattice_Irreducible_c1) : Option Rt_lattice_Irreducible_c1 := lattice_Irreducible_c1_11 _N x.1
theorem E_lattice_Irreducible_c1 (_N : Nat) (x : Dens Ks_lattice_Irreducible_c1) : exec (C_lattice_Irreducible_c1 _N) (bodyOf Tryd.f44) (.two .none (.keep [1] 1 (.two .none (.keep [1, 3] 1 (.two (.two .none (.keep [1, 3, 6, 7] 1 (.one A_lattice_Irreducible_c1_5))) (.keep [3] 2 .none)))))) (argS 0 (kvals Ks_lattice_Irreducible_c1 x)) [] (finK (C_lattice_Irreducible_c1 _N) [.tmp 2] (finF 3 (.int .i64))) = D_lattice_Irreducible_c1 _N x :=
  (congrArg (fun K => exec (C_lattice_Irreducible_c1 _N) (bodyOf Tryd.f44) (.two .none (.keep [1] 1 (.two .none (.keep [1, 3] 1 (.two (.two .none (.keep [1, 3, 6, 7] 1 (.one A_lattice_Irreducible_c1_5))) (.keep [3] 2 .none)))))) (argS 0 (kvals Ks_lattice_Irreducible_c1 x)) [] K) canonR_fin).trans (lattice_Irreducible_c1_11e _N x.1)
theorem ok_lattice_Irreducible_c1 (_N : Nat) : CtxOk Tryd.prog Gs Tryd.f44 (C_lattice_Irreducible_c1 _N) := ⟨rfl, by unfold TOk; kernel_rfl, gOk_of rfl rfl (List.forall_mem_cons.2 ⟨en_order_Above _N, (List.forall_mem_cons.2 ⟨en_sets_Size _N, (List.forall_mem_nil _)⟩)⟩), iOk_of rfl rfl (List.forall_mem_nil _), rfl⟩
theorem hb_lattice_Irreducible_c1 : HasBody Tryd.prog 44 := ⟨Tryd.f44, bodyOf Tryd.f44, by kernel_rfl, by kernel_rfl, rfl⟩
theorem sp_lattice_Irreducible_c1 (_N : Nat) : SpecF Tryd.prog Gs 44 Ks_lattice_Irreducible_c1 3 (.int .i64) (D_lattice_Irreducible_c1 _N) := specF_of (c := bodyOf Tryd.f44) (by kernel_rfl) rfl (by kernel_rfl) (Nat.le_of_ble_eq_true (by kernel_rfl)) fun x y _h => ⟨C_lattice_Irreducible_c1 _N, (.two .none (.keep [1] 1 (.two .none (.keep [1, 3] 1 (.two (.two .none (.keep [1, 3, 6, 7] 1 (.one A_lattice_Irreducible_c1_5))) (.keep [3] 2 .none)))))), ok_lattice_Irreducible_c1 _N, (E_lattice_Irreducible_c1 _N x).trans _h⟩
theorem en_lattice_Irreducible_c1 (_N : Nat) : EntOk Tryd.prog Gs (mkF 44 Ks_lattice_Irreducible_c1 3 (.int .i64) (D_lattice_Irreducible_c1 _N)) := entF hb_lattice_Irreducible_c1 (by kernel_rfl) (Nat.le_of_ble_eq_true (by kernel_rfl)) (sp_lattice_Irreducible_c1 _N)
theorem qen_lattice_Irreducible_c1 (_N : Nat) : EntOk Tryd.prog Gs (mkQ 44 Ks_lattice_Irreducible_c1 [.dat (.sl (.int .i64))] (fun x => (D_lattice_Irreducible_c1 _N x).map fun y => (y, ()))) := entQ hb_lattice_Irreducible_c1 (specD_of_F (sp_lattice_Irreducible_c1 _N))
-- watershed/lattice.Irreducible
abbrev Ks_lattice_Irreducible : List Kd := [.dat (.pair (.int .i64) (.sl (.int .u32)))]
abbrev Rk_lattice_Irreducible : List Kd := [.dat (.sl (.int .i64)), .dat (.sl (.int .i64)), .dat (.int .i64)]
abbrev Rt_lattice_Irreducible : Type := Dens Rk_lattice_Irreducible
def T_lattice_Irreducible : List (Nat × TE) := [(24, ⟨.struct [(0, 3), (1, 22)], 2, 32, some (.pair (.int .i64) (.sl (.int .u32))), [.int .i64 (0 : Int), .nil]⟩),
  (68, ⟨.struct [(0, 24), (2, 27)], 6, 96, some (.pair (.pair (.int .i64) (.sl (.int .u32))) (.pair (.sl (.int .i64)) (.pair (.sl (.int .i64)) (.pair (.int .i64) (.int .i64))))), [.int .i64 (0 : Int), .nil, .nil, .nil, .int .i64 (0 : Int), .int .i64 (0 : Int)]⟩)]
noncomputable def C_lattice_Irreducible (_N : Nat) : Ctx := { T := T_lattice_Irreducible, G := findE [mkQ 39 Ks_lattice_Of Rk_lattice_Of (D_lattice_Of _N), mkQ 16 Ks_order_Dual Rk_order_Dual (D_order_Dual _N), mkQ 44 Ks_lattice_Irreducible_c1 [.dat (.sl (.int .i64))] (fun x => (D_lattice_Irreducible_c1 _N x).map fun y => (y, ()))], I := findI [], N := _N, n := 29, fx := [], fl := 0, gs := Gs }
noncomputable def lattice_Irreducible_1 (_N : Nat) (_x1 : Int × List Int) : Option Rt_lattice_Irreducible :=
  ((D_lattice_Of _N ((_x1.1, _x1.2), ())).bind fun _y5 => (bif (_y5.2.1 != (0 : Int)) then (some ([], [], _y5.2.1, ())) else ((D_order_Dual _N ((_x1.1, _x1.2), ())).bind fun _y6 => (((fun x => (D_lattice_Irreducible_c1 _N x).map fun y => (y, ())) ((_y6.1.1, _y6.1.2), ())).bind fun _y7 => (((fun x => (D_lattice_Irreducible_c1 _N x).map fun y => (y, ())) ((_x1.1, _x1.2), ())).bind fun _y8 => (some (_y7.1, _y8.1, (0 : Int), ())))))))
abbrev A_lattice_Irreducible_1 : Ann := .two .none (.two .none (.two .none (.two .none (.two (.draw 0 [.pure, .rd [2], .pure, .pure, .rd [0], .pure, .pure, .pure, .pure]) .none))))
theorem lattice_Irreducible_1e (_N : Nat) (_x1 : Int × List Int) :
    exec (C_lattice_Irreducible _N) (cAt (bodyOf Tryd.f24) []) A_lattice_Irreducible_1 [(0, .agg [.int .i64 _x1.1, .sl (.int .u32) _x1.2])] [] (canonR (fun _i _t _h => none) (finK (C_lattice_Irreducible _N) [.tmp 2, .tmp 3, .tmp 4] (finD Rk_lattice_Irreducible))) = lattice_Irreducible_1 _N _x1 :=
  by kernel_rfl
noncomputable def D_lattice_Irreducible (_N : Nat) (x : Dens Ks_lattice_Irreducible) : Option Rt_lattice_Irreducible := lattice_Irreducible_1 _N x.1
theorem E_lattice_Irreducible (_N : Nat) (x : Dens Ks_lattice_Irreducible) : exec (C_lattice_Irreducible _N) (bodyOf Tryd.f24) A_lattice_Irreducible_1 (argS 0 (kvals Ks_lattice_Irreducible x)) [] (finK (C_lattice_Irreducible _N) [.tmp 2, .tmp 3, .tmp 4] (finD Rk_lattice_Irreducible)) = D_lattice_Irreducible _N x :=
  (congrArg (fun K => exec (C_lattice_Irreducible _N) (bodyOf Tryd.f24) A_lattice_Irreducible_1 (argS 0 (kvals Ks_lattice_Irreducible x)) [] K) canonR_fin).trans (lattice_Irreducible_1e _N x.1)
theorem ok_lattice_Irreducible (_N : Nat) : CtxOk Tryd.prog Gs Tryd.f24 (C_lattice_Irreducible _N) := ⟨rfl, by unfold TOk; kernel_rfl, gOk_of rfl rfl (List.forall_mem_cons.2 ⟨qen_lattice_Of _N, (List.forall_mem_cons.2 ⟨qen_order_Dual _N, (List.forall_mem_cons.2 ⟨qen_lattice_Irreducible_c1 _N, (List.forall_mem_nil _)⟩)⟩)⟩), iOk_of rfl rfl (List.forall_mem_nil _), rfl⟩
theorem hb_lattice_Irreducible : HasBody Tryd.prog 24 := ⟨Tryd.f24, bodyOf Tryd.f24, by kernel_rfl, by kernel_rfl, rfl⟩
theorem sp_lattice_Irreducible (_N : Nat) : SpecD Tryd.prog Gs 24 Ks_lattice_Irreducible Rk_lattice_Irreducible (D_lattice_Irreducible _N) := specD_of (c := bodyOf Tryd.f24) (by kernel_rfl) rfl (by kernel_rfl) (Nat.le_of_ble_eq_true (by kernel_rfl)) fun x y _h => ⟨C_lattice_Irreducible _N, A_lattice_Irreducible_1, ok_lattice_Irreducible _N, (E_lattice_Irreducible _N x).trans _h⟩
theorem en_lattice_Irreducible (_N : Nat) : EntOk Tryd.prog Gs (mkD 24 Ks_lattice_Irreducible Rk_lattice_Irreducible (D_lattice_Irreducible _N)) := entD hb_lattice_Irreducible (sp_lattice_Irreducible _N)
theorem qen_lattice_Irreducible (_N : Nat) : EntOk Tryd.prog Gs (mkQ 24 Ks_lattice_Irreducible Rk_lattice_Irreducible (D_lattice_Irreducible _N)) := entQ hb_lattice_Irreducible (sp_lattice_Irreducible _N)
end Go.Proofs.YtdbjfdjpmoackaaDoor
