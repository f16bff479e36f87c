/- The laws' boards: a lattice, as an order and its tables. -/
import Derived.Test.YtdbjfdjpmoackaaDoorLattice
namespace Go.Proofs.YtdbjfdjpmoackaaDoor
open Go.Abs
-- watershed/watershedkeep.open
abbrev Ks_keep_open : List Kd := [.dat (.pair (.int .i64) (.sl (.int .u32)))]
abbrev Rk_keep_open : List Kd := [.dat (.pair (.pair (.int .i64) (.sl (.int .u32))) (.pair (.pair (.sl (.int .i64)) (.pair (.sl (.int .i64)) (.pair (.int .i64) (.int .i64)))) (.bool))), .dat (.bool)]
abbrev Rt_keep_open : Type := Dens Rk_keep_open
def T_keep_open : List (Nat × TE) := [(3, ⟨.int .i64, 1, 8, some (.int .i64), [.int .i64 (0 : Int)]⟩),
  (4, ⟨.bool, 1, 1, some .bool, [.bool false]⟩),
  (24, ⟨.struct [(0, 3), (1, 22)], 2, 32, some (.pair (.int .i64) (.sl (.int .u32))), [.int .i64 (0 : Int), .nil]⟩),
  (25, ⟨.slice 3, 1, 24, some (.sl (.int .i64)), [.nil]⟩),
  (27, ⟨.struct [(0, 25), (1, 25), (2, 3), (3, 3)], 4, 64, some (.pair (.sl (.int .i64)) (.pair (.sl (.int .i64)) (.pair (.int .i64) (.int .i64)))), [.nil, .nil, .int .i64 (0 : Int), .int .i64 (0 : Int)]⟩),
  (29, ⟨.struct [(0, 24), (2, 27), (6, 4)], 7, 104, some (.pair (.pair (.int .i64) (.sl (.int .u32))) (.pair (.pair (.sl (.int .i64)) (.pair (.sl (.int .i64)) (.pair (.int .i64) (.int .i64)))) (.bool))), [.int .i64 (0 : Int), .nil, .nil, .nil, .int .i64 (0 : Int), .int .i64 (0 : Int), .bool false]⟩)]
noncomputable def C_keep_open (_N : Nat) : Ctx := { T := T_keep_open, G := findE [mkQ 17 Ks_lattice_Make Rk_lattice_Make (D_lattice_Make _N), mkP 35 Ks_keep_sound Rk_keep_sound (D_keep_sound _N), mkP 20 Ks_keep_within Rk_keep_within (D_keep_within _N)], I := findI [], N := _N, n := 72, fx := [], fl := 0, gs := Gs }
noncomputable def keep_open_1 (_N : Nat) (_x1 : Int × List Int) : Option Rt_keep_open :=
  ((D_lattice_Make _N ((_x1.1, _x1.2), ())).bind fun _y6 => (bif (_y6.2.1 != (0 : Int)) then (some (((_x1.1, _x1.2), ((_y6.1.1, (_y6.1.2.1, (_y6.1.2.2.1, _y6.1.2.2.2))), false)), false, ())) else ((D_keep_sound _N ((_x1.1, _x1.2), ())).bind fun _y7 => (bif (!_y7.1) then (some (((_x1.1, _x1.2), ((_y6.1.1, (_y6.1.2.1, (_y6.1.2.2.1, _y6.1.2.2.2))), true)), true, ())) else (bif ((_y6.1.1.length : Int) != (IntKind.i64.wrap (_x1.1 * _x1.1))) then (some (((_x1.1, _x1.2), ((_y6.1.1, (_y6.1.2.1, (_y6.1.2.2.1, _y6.1.2.2.2))), true)), true, ())) else (bif ((_y6.1.2.1.length : Int) != (IntKind.i64.wrap (_x1.1 * _x1.1))) then (some (((_x1.1, _x1.2), ((_y6.1.1, (_y6.1.2.1, (_y6.1.2.2.1, _y6.1.2.2.2))), true)), true, ())) else ((D_keep_within _N (_x1.1, [_y6.1.2.2.1, _y6.1.2.2.2], ())).bind fun _y8 => (bif (!_y8.1) then (some (((_x1.1, _x1.2), ((_y6.1.1, (_y6.1.2.1, (_y6.1.2.2.1, _y6.1.2.2.2))), true)), true, ())) else ((D_keep_within _N (_x1.1, _y6.1.1, ())).bind fun _y9 => (bif (!_y9.1) then (some (((_x1.1, _x1.2), ((_y6.1.1, (_y6.1.2.1, (_y6.1.2.2.1, _y6.1.2.2.2))), true)), true, ())) else ((D_keep_within _N (_x1.1, _y6.1.2.1, ())).bind fun _y10 => (some (((_x1.1, _x1.2), ((_y6.1.1, (_y6.1.2.1, (_y6.1.2.2.1, _y6.1.2.2.2))), (!_y10.1))), true, ())))))))))))))
theorem keep_open_1e (_N : Nat) (_x1 : Int × List Int) :
    exec (C_keep_open _N) (cAt (bodyOf Tryd.f15) []) .none [(0, .agg [.int .i64 _x1.1, .sl (.int .u32) _x1.2])] [] (canonR (fun _i _t _h => none) (finK (C_keep_open _N) [.cell 2 29, .tmp 3] (finD Rk_keep_open))) = keep_open_1 _N _x1 :=
  by kernel_rfl
noncomputable def D_keep_open (_N : Nat) (x : Dens Ks_keep_open) : Option Rt_keep_open := keep_open_1 _N x.1
theorem E_keep_open (_N : Nat) (x : Dens Ks_keep_open) : exec (C_keep_open _N) (bodyOf Tryd.f15) .none (argS 0 (kvals Ks_keep_open x)) [] (finK (C_keep_open _N) [.cell 2 29, .tmp 3] (finD Rk_keep_open)) = D_keep_open _N x :=
  (congrArg (fun K => exec (C_keep_open _N) (bodyOf Tryd.f15) .none (argS 0 (kvals Ks_keep_open x)) [] K) canonR_fin).trans (keep_open_1e _N x.1)
theorem ok_keep_open (_N : Nat) : CtxOk Tryd.prog Gs Tryd.f15 (C_keep_open _N) := ⟨rfl, by unfold TOk; kernel_rfl, gOk_of rfl rfl (List.forall_mem_cons.2 ⟨qen_lattice_Make _N, (List.forall_mem_cons.2 ⟨en_keep_sound _N, (List.forall_mem_cons.2 ⟨en_keep_within _N, (List.forall_mem_nil _)⟩)⟩)⟩), iOk_of rfl rfl (List.forall_mem_nil _), rfl⟩
theorem hb_keep_open : HasBody Tryd.prog 15 := ⟨Tryd.f15, bodyOf Tryd.f15, by kernel_rfl, by kernel_rfl, rfl⟩
theorem sp_keep_open (_N : Nat) : SpecD Tryd.prog Gs 15 Ks_keep_open Rk_keep_open (D_keep_open _N) := specD_of (c := bodyOf Tryd.f15) (by kernel_rfl) rfl (by kernel_rfl) (Nat.le_of_ble_eq_true (by kernel_rfl)) fun x y _h => ⟨C_keep_open _N, .none, ok_keep_open _N, (E_keep_open _N x).trans _h⟩
theorem en_keep_open (_N : Nat) : EntOk Tryd.prog Gs (mkD 15 Ks_keep_open Rk_keep_open (D_keep_open _N)) := entD hb_keep_open (sp_keep_open _N)
theorem qen_keep_open (_N : Nat) : EntOk Tryd.prog Gs (mkQ 15 Ks_keep_open Rk_keep_open (D_keep_open _N)) := entQ hb_keep_open (sp_keep_open _N)
-- (watershed/watershedkeep.board).or
abbrev Ks_keep_board_or : List Kd := [.dat (.pair (.pair (.int .i64) (.sl (.int .u32))) (.pair (.pair (.sl (.int .i64)) (.pair (.sl (.int .i64)) (.pair (.int .i64) (.int .i64)))) (.bool))), .dat (.int .i64), .dat (.int .i64)]
abbrev Rk_keep_board_or : List Kd := [.dat (.int .i64)]
abbrev Rt_keep_board_or : Type := Dens Rk_keep_board_or
def T_keep_board_or : List (Nat × TE) := [(3, ⟨.int .i64, 1, 8, some (.int .i64), [.int .i64 (0 : Int)]⟩),
  (24, ⟨.struct [(0, 3), (1, 22)], 2, 32, some (.pair (.int .i64) (.sl (.int .u32))), [.int .i64 (0 : Int), .nil]⟩),
  (25, ⟨.slice 3, 1, 24, some (.sl (.int .i64)), [.nil]⟩),
  (27, ⟨.struct [(0, 25), (1, 25), (2, 3), (3, 3)], 4, 64, some (.pair (.sl (.int .i64)) (.pair (.sl (.int .i64)) (.pair (.int .i64) (.int .i64)))), [.nil, .nil, .int .i64 (0 : Int), .int .i64 (0 : Int)]⟩),
  (29, ⟨.struct [(0, 24), (2, 27), (6, 4)], 7, 104, some (.pair (.pair (.int .i64) (.sl (.int .u32))) (.pair (.pair (.sl (.int .i64)) (.pair (.sl (.int .i64)) (.pair (.int .i64) (.int .i64)))) (.bool))), [.int .i64 (0 : Int), .nil, .nil, .nil, .int .i64 (0 : Int), .int .i64 (0 : Int), .bool false]⟩)]
noncomputable def C_keep_board_or (_N : Nat) : Ctx := { T := T_keep_board_or, G := findE [], I := findI [], N := _N, n := 19, fx := [], fl := 0, gs := Gs }
noncomputable def keep_board_or_1 (_N : Nat) (_x1 : (Int × List Int) × (List Int × List Int × Int × Int) × Bool) (_x2 : Int) (_x3 : Int) : Option Rt_keep_board_or :=
  (bif (decide (0 ≤ (IntKind.i64.wrap ((IntKind.i64.wrap (_x2 * _x1.1.1)) + _x3))) && decide ((IntKind.i64.wrap ((IntKind.i64.wrap (_x2 * _x1.1.1)) + _x3)) < (_x1.2.1.1.length : Int))) then (some ((nth (0 : Int) _x1.2.1.1 (IntKind.i64.wrap ((IntKind.i64.wrap (_x2 * _x1.1.1)) + _x3)).toNat), ())) else none)
theorem keep_board_or_1e (_N : Nat) (_x1 : (Int × List Int) × (List Int × List Int × Int × Int) × Bool) (_x2 : Int) (_x3 : Int) :
    exec (C_keep_board_or _N) (cAt (bodyOf Tryd.f21) []) .none [(0, .agg [.int .i64 _x1.1.1, .sl (.int .u32) _x1.1.2, .sl (.int .i64) _x1.2.1.1, .sl (.int .i64) _x1.2.1.2.1, .int .i64 _x1.2.1.2.2.1, .int .i64 _x1.2.1.2.2.2, .bool _x1.2.2]), (1, .int .i64 _x2), (2, .int .i64 _x3)] [] (canonR (fun _i _t _h => none) (finK (C_keep_board_or _N) [.tmp 6] (finD Rk_keep_board_or))) = keep_board_or_1 _N _x1 _x2 _x3 :=
  by kernel_rfl
noncomputable def D_keep_board_or (_N : Nat) (x : Dens Ks_keep_board_or) : Option Rt_keep_board_or := keep_board_or_1 _N x.1 x.2.1 x.2.2.1
theorem E_keep_board_or (_N : Nat) (x : Dens Ks_keep_board_or) : exec (C_keep_board_or _N) (bodyOf Tryd.f21) .none (argS 0 (kvals Ks_keep_board_or x)) [] (finK (C_keep_board_or _N) [.tmp 6] (finD Rk_keep_board_or)) = D_keep_board_or _N x :=
  (congrArg (fun K => exec (C_keep_board_or _N) (bodyOf Tryd.f21) .none (argS 0 (kvals Ks_keep_board_or x)) [] K) canonR_fin).trans (keep_board_or_1e _N x.1 x.2.1 x.2.2.1)
theorem ok_keep_board_or (_N : Nat) : CtxOk Tryd.prog Gs Tryd.f21 (C_keep_board_or _N) := ⟨rfl, by unfold TOk; kernel_rfl, gOk_of rfl rfl (List.forall_mem_nil _), iOk_of rfl rfl (List.forall_mem_nil _), rfl⟩
theorem hb_keep_board_or : HasBody Tryd.prog 21 := ⟨Tryd.f21, bodyOf Tryd.f21, by kernel_rfl, by kernel_rfl, rfl⟩
theorem sp_keep_board_or (_N : Nat) : SpecD Tryd.prog Gs 21 Ks_keep_board_or Rk_keep_board_or (D_keep_board_or _N) := specD_of (c := bodyOf Tryd.f21) (by kernel_rfl) rfl (by kernel_rfl) (Nat.le_of_ble_eq_true (by kernel_rfl)) fun x y _h => ⟨C_keep_board_or _N, .none, ok_keep_board_or _N, (E_keep_board_or _N x).trans _h⟩
theorem en_keep_board_or (_N : Nat) : EntOk Tryd.prog Gs (mkP 21 Ks_keep_board_or Rk_keep_board_or (D_keep_board_or _N)) := entP hb_keep_board_or (by kernel_rfl) (sp_keep_board_or _N)
-- (watershed/watershedkeep.board).and
abbrev Ks_keep_board_and : List Kd := [.dat (.pair (.pair (.int .i64) (.sl (.int .u32))) (.pair (.pair (.sl (.int .i64)) (.pair (.sl (.int .i64)) (.pair (.int .i64) (.int .i64)))) (.bool))), .dat (.int .i64), .dat (.int .i64)]
abbrev Rk_keep_board_and : List Kd := [.dat (.int .i64)]
abbrev Rt_keep_board_and : Type := Dens Rk_keep_board_and
def T_keep_board_and : List (Nat × TE) := [(3, ⟨.int .i64, 1, 8, some (.int .i64), [.int .i64 (0 : Int)]⟩),
  (24, ⟨.struct [(0, 3), (1, 22)], 2, 32, some (.pair (.int .i64) (.sl (.int .u32))), [.int .i64 (0 : Int), .nil]⟩),
  (25, ⟨.slice 3, 1, 24, some (.sl (.int .i64)), [.nil]⟩),
  (27, ⟨.struct [(0, 25), (1, 25), (2, 3), (3, 3)], 4, 64, some (.pair (.sl (.int .i64)) (.pair (.sl (.int .i64)) (.pair (.int .i64) (.int .i64)))), [.nil, .nil, .int .i64 (0 : Int), .int .i64 (0 : Int)]⟩),
  (29, ⟨.struct [(0, 24), (2, 27), (6, 4)], 7, 104, some (.pair (.pair (.int .i64) (.sl (.int .u32))) (.pair (.pair (.sl (.int .i64)) (.pair (.sl (.int .i64)) (.pair (.int .i64) (.int .i64)))) (.bool))), [.int .i64 (0 : Int), .nil, .nil, .nil, .int .i64 (0 : Int), .int .i64 (0 : Int), .bool false]⟩)]
noncomputable def C_keep_board_and (_N : Nat) : Ctx := { T := T_keep_board_and, G := findE [], I := findI [], N := _N, n := 19, fx := [], fl := 0, gs := Gs }
noncomputable def keep_board_and_1 (_N : Nat) (_x1 : (Int × List Int) × (List Int × List Int × Int × Int) × Bool) (_x2 : Int) (_x3 : Int) : Option Rt_keep_board_and :=
  (bif (decide (0 ≤ (IntKind.i64.wrap ((IntKind.i64.wrap (_x2 * _x1.1.1)) + _x3))) && decide ((IntKind.i64.wrap ((IntKind.i64.wrap (_x2 * _x1.1.1)) + _x3)) < (_x1.2.1.2.1.length : Int))) then (some ((nth (0 : Int) _x1.2.1.2.1 (IntKind.i64.wrap ((IntKind.i64.wrap (_x2 * _x1.1.1)) + _x3)).toNat), ())) else none)
theorem keep_board_and_1e (_N : Nat) (_x1 : (Int × List Int) × (List Int × List Int × Int × Int) × Bool) (_x2 : Int) (_x3 : Int) :
    exec (C_keep_board_and _N) (cAt (bodyOf Tryd.f22) []) .none [(0, .agg [.int .i64 _x1.1.1, .sl (.int .u32) _x1.1.2, .sl (.int .i64) _x1.2.1.1, .sl (.int .i64) _x1.2.1.2.1, .int .i64 _x1.2.1.2.2.1, .int .i64 _x1.2.1.2.2.2, .bool _x1.2.2]), (1, .int .i64 _x2), (2, .int .i64 _x3)] [] (canonR (fun _i _t _h => none) (finK (C_keep_board_and _N) [.tmp 6] (finD Rk_keep_board_and))) = keep_board_and_1 _N _x1 _x2 _x3 :=
  by kernel_rfl
noncomputable def D_keep_board_and (_N : Nat) (x : Dens Ks_keep_board_and) : Option Rt_keep_board_and := keep_board_and_1 _N x.1 x.2.1 x.2.2.1
theorem E_keep_board_and (_N : Nat) (x : Dens Ks_keep_board_and) : exec (C_keep_board_and _N) (bodyOf Tryd.f22) .none (argS 0 (kvals Ks_keep_board_and x)) [] (finK (C_keep_board_and _N) [.tmp 6] (finD Rk_keep_board_and)) = D_keep_board_and _N x :=
  (congrArg (fun K => exec (C_keep_board_and _N) (bodyOf Tryd.f22) .none (argS 0 (kvals Ks_keep_board_and x)) [] K) canonR_fin).trans (keep_board_and_1e _N x.1 x.2.1 x.2.2.1)
theorem ok_keep_board_and (_N : Nat) : CtxOk Tryd.prog Gs Tryd.f22 (C_keep_board_and _N) := ⟨rfl, by unfold TOk; kernel_rfl, gOk_of rfl rfl (List.forall_mem_nil _), iOk_of rfl rfl (List.forall_mem_nil _), rfl⟩
theorem hb_keep_board_and : HasBody Tryd.prog 22 := ⟨Tryd.f22, bodyOf Tryd.f22, by kernel_rfl, by kernel_rfl, rfl⟩
theorem sp_keep_board_and (_N : Nat) : SpecD Tryd.prog Gs 22 Ks_keep_board_and Rk_keep_board_and (D_keep_board_and _N) := specD_of (c := bodyOf Tryd.f22) (by kernel_rfl) rfl (by kernel_rfl) (Nat.le_of_ble_eq_true (by kernel_rfl)) fun x y _h => ⟨C_keep_board_and _N, .none, ok_keep_board_and _N, (E_keep_board_and _N x).trans _h⟩
theorem en_keep_board_and (_N : Nat) : EntOk Tryd.prog Gs (mkP 22 Ks_keep_board_and Rk_keep_board_and (D_keep_board_and _N)) := entP hb_keep_board_and (by kernel_rfl) (sp_keep_board_and _N)
end Go.Proofs.YtdbjfdjpmoackaaDoor
