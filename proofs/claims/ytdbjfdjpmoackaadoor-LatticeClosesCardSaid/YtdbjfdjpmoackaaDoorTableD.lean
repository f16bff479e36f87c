/- lattice.Table: its operations. -/
import Derived.Test.YtdbjfdjpmoackaaDoorLattice
namespace Go.Proofs.YtdbjfdjpmoackaaDoor
open Go.Abs
-- (watershed/lattice.Table).Or
abbrev Ks_lattice_Table_Or : List Kd := [.dat (.pair (.pair (.int .i64) (.sl (.int .u32))) (.pair (.sl (.int .i64)) (.pair (.sl (.int .i64)) (.pair (.int .i64) (.int .i64))))), .dat (.int .i64), .dat (.int .i64)]
abbrev Rk_lattice_Table_Or : List Kd := [.dat (.int .i64)]
abbrev Rt_lattice_Table_Or : Type := Dens Rk_lattice_Table_Or
def T_lattice_Table_Or : List (Nat × TE) := [(3, ⟨.int .i64, 1, 8, some (.int .i64), [.int .i64 (0 : Int)]⟩),
  (24, ⟨.struct [(0, 3), (1, 22)], 2, 32, some (.pair (.int .i64) (.sl (.int .u32))), [.int .i64 (0 : Int), .nil]⟩),
  (25, ⟨.slice 3, 1, 24, some (.sl (.int .i64)), [.nil]⟩),
  (27, ⟨.struct [(0, 25), (1, 25), (2, 3), (3, 3)], 4, 64, some (.pair (.sl (.int .i64)) (.pair (.sl (.int .i64)) (.pair (.int .i64) (.int .i64)))), [.nil, .nil, .int .i64 (0 : Int), .int .i64 (0 : Int)]⟩),
  (68, ⟨.struct [(0, 24), (2, 27)], 6, 96, some (.pair (.pair (.int .i64) (.sl (.int .u32))) (.pair (.sl (.int .i64)) (.pair (.sl (.int .i64)) (.pair (.int .i64) (.int .i64))))), [.int .i64 (0 : Int), .nil, .nil, .nil, .int .i64 (0 : Int), .int .i64 (0 : Int)]⟩)]
noncomputable def C_lattice_Table_Or (_N : Nat) : Ctx := { T := T_lattice_Table_Or, G := findE [], I := findI [], N := _N, n := 19, fx := [], fl := 0, gs := Gs }
noncomputable def lattice_Table_Or_1 (_N : Nat) (_x1 : (Int × List Int) × List Int × List Int × Int × Int) (_x2 : Int) (_x3 : Int) : Option Rt_lattice_Table_Or :=
  (bif (decide (0 ≤ (IntKind.i64.wrap ((IntKind.i64.wrap (_x2 * _x1.1.1)) + _x3))) && decide ((IntKind.i64.wrap ((IntKind.i64.wrap (_x2 * _x1.1.1)) + _x3)) < (_x1.2.1.length : Int))) then (some ((nth (0 : Int) _x1.2.1 (IntKind.i64.wrap ((IntKind.i64.wrap (_x2 * _x1.1.1)) + _x3)).toNat), ())) else none)
theorem lattice_Table_Or_1e (_N : Nat) (_x1 : (Int × List Int) × List Int × List Int × Int × Int) (_x2 : Int) (_x3 : Int) :
    exec (C_lattice_Table_Or _N) (cAt (bodyOf Tryd.f42) []) .none [(0, .agg [.int .i64 _x1.1.1, .sl (.int .u32) _x1.1.2, .sl (.int .i64) _x1.2.1, .sl (.int .i64) _x1.2.2.1, .int .i64 _x1.2.2.2.1, .int .i64 _x1.2.2.2.2]), (1, .int .i64 _x2), (2, .int .i64 _x3)] [] (canonR (fun _i _t _h => none) (finK (C_lattice_Table_Or _N) [.tmp 6] (finD Rk_lattice_Table_Or))) = lattice_Table_Or_1 _N _x1 _x2 _x3 :=
  by kernel_rfl
noncomputable def D_lattice_Table_Or (_N : Nat) (x : Dens Ks_lattice_Table_Or) : Option Rt_lattice_Table_Or := lattice_Table_Or_1 _N x.1 x.2.1 x.2.2.1
theorem E_lattice_Table_Or (_N : Nat) (x : Dens Ks_lattice_Table_Or) : exec (C_lattice_Table_Or _N) (bodyOf Tryd.f42) .none (argS 0 (kvals Ks_lattice_Table_Or x)) [] (finK (C_lattice_Table_Or _N) [.tmp 6] (finD Rk_lattice_Table_Or)) = D_lattice_Table_Or _N x :=
  (congrArg (fun K => exec (C_lattice_Table_Or _N) (bodyOf Tryd.f42) .none (argS 0 (kvals Ks_lattice_Table_Or x)) [] K) canonR_fin).trans (lattice_Table_Or_1e _N x.1 x.2.1 x.2.2.1)
theorem ok_lattice_Table_Or (_N : Nat) : CtxOk Tryd.prog Gs Tryd.f42 (C_lattice_Table_Or _N) := ⟨rfl, by unfold TOk; kernel_rfl, gOk_of rfl rfl (List.forall_mem_nil _), iOk_of rfl rfl (List.forall_mem_nil _), rfl⟩
theorem hb_lattice_Table_Or : HasBody Tryd.prog 42 := ⟨Tryd.f42, bodyOf Tryd.f42, by kernel_rfl, by kernel_rfl, rfl⟩
theorem sp_lattice_Table_Or (_N : Nat) : SpecD Tryd.prog Gs 42 Ks_lattice_Table_Or Rk_lattice_Table_Or (D_lattice_Table_Or _N) := specD_of (c := bodyOf Tryd.f42) (by kernel_rfl) rfl (by kernel_rfl) (Nat.le_of_ble_eq_true (by kernel_rfl)) fun x y _h => ⟨C_lattice_Table_Or _N, .none, ok_lattice_Table_Or _N, (E_lattice_Table_Or _N x).trans _h⟩
theorem en_lattice_Table_Or (_N : Nat) : EntOk Tryd.prog Gs (mkP 42 Ks_lattice_Table_Or Rk_lattice_Table_Or (D_lattice_Table_Or _N)) := entP hb_lattice_Table_Or (by kernel_rfl) (sp_lattice_Table_Or _N)
-- (watershed/lattice.Table).And
abbrev Ks_lattice_Table_And : List Kd := [.dat (.pair (.pair (.int .i64) (.sl (.int .u32))) (.pair (.sl (.int .i64)) (.pair (.sl (.int .i64)) (.pair (.int .i64) (.int .i64))))), .dat (.int .i64), .dat (.int .i64)]
abbrev Rk_lattice_Table_And : List Kd := [.dat (.int .i64)]
abbrev Rt_lattice_Table_And : Type := Dens Rk_lattice_Table_And
def T_lattice_Table_And : List (Nat × TE) := [(3, ⟨.int .i64, 1, 8, some (.int .i64), [.int .i64 (0 : Int)]⟩),
  (24, ⟨.struct [(0, 3), (1, 22)], 2, 32, some (.pair (.int .i64) (.sl (.int .u32))), [.int .i64 (0 : Int), .nil]⟩),
  (25, ⟨.slice 3, 1, 24, some (.sl (.int .i64)), [.nil]⟩),
  (27, ⟨.struct [(0, 25), (1, 25), (2, 3), (3, 3)], 4, 64, some (.pair (.sl (.int .i64)) (.pair (.sl (.int .i64)) (.pair (.int .i64) (.int .i64)))), [.nil, .nil, .int .i64 (0 : Int), .int .i64 (0 : Int)]⟩),
  (68, ⟨.struct [(0, 24), (2, 27)], 6, 96, some (.pair (.pair (.int .i64) (.sl (.int .u32))) (.pair (.sl (.int .i64)) (.pair (.sl (.int .i64)) (.pair (.int .i64) (.int .i64))))), [.int .i64 (0 : Int), .nil, .nil, .nil, .int .i64 (0 : Int), .int .i64 (0 : Int)]⟩)]
noncomputable def C_lattice_Table_And (_N : Nat) : Ctx := { T := T_lattice_Table_And, G := findE [], I := findI [], N := _N, n := 19, fx := [], fl := 0, gs := Gs }
noncomputable def lattice_Table_And_1 (_N : Nat) (_x1 : (Int × List Int) × List Int × List Int × Int × Int) (_x2 : Int) (_x3 : Int) : Option Rt_lattice_Table_And :=
  (bif (decide (0 ≤ (IntKind.i64.wrap ((IntKind.i64.wrap (_x2 * _x1.1.1)) + _x3))) && decide ((IntKind.i64.wrap ((IntKind.i64.wrap (_x2 * _x1.1.1)) + _x3)) < (_x1.2.2.1.length : Int))) then (some ((nth (0 : Int) _x1.2.2.1 (IntKind.i64.wrap ((IntKind.i64.wrap (_x2 * _x1.1.1)) + _x3)).toNat), ())) else none)
theorem lattice_Table_And_1e (_N : Nat) (_x1 : (Int × List Int) × List Int × List Int × Int × Int) (_x2 : Int) (_x3 : Int) :
    exec (C_lattice_Table_And _N) (cAt (bodyOf Tryd.f41) []) .none [(0, .agg [.int .i64 _x1.1.1, .sl (.int .u32) _x1.1.2, .sl (.int .i64) _x1.2.1, .sl (.int .i64) _x1.2.2.1, .int .i64 _x1.2.2.2.1, .int .i64 _x1.2.2.2.2]), (1, .int .i64 _x2), (2, .int .i64 _x3)] [] (canonR (fun _i _t _h => none) (finK (C_lattice_Table_And _N) [.tmp 6] (finD Rk_lattice_Table_And))) = lattice_Table_And_1 _N _x1 _x2 _x3 :=
  by kernel_rfl
noncomputable def D_lattice_Table_And (_N : Nat) (x : Dens Ks_lattice_Table_And) : Option Rt_lattice_Table_And := lattice_Table_And_1 _N x.1 x.2.1 x.2.2.1
theorem E_lattice_Table_And (_N : Nat) (x : Dens Ks_lattice_Table_And) : exec (C_lattice_Table_And _N) (bodyOf Tryd.f41) .none (argS 0 (kvals Ks_lattice_Table_And x)) [] (finK (C_lattice_Table_And _N) [.tmp 6] (finD Rk_lattice_Table_And)) = D_lattice_Table_And _N x :=
  (congrArg (fun K => exec (C_lattice_Table_And _N) (bodyOf Tryd.f41) .none (argS 0 (kvals Ks_lattice_Table_And x)) [] K) canonR_fin).trans (lattice_Table_And_1e _N x.1 x.2.1 x.2.2.1)
theorem ok_lattice_Table_And (_N : Nat) : CtxOk Tryd.prog Gs Tryd.f41 (C_lattice_Table_And _N) := ⟨rfl, by unfold TOk; kernel_rfl, gOk_of rfl rfl (List.forall_mem_nil _), iOk_of rfl rfl (List.forall_mem_nil _), rfl⟩
theorem hb_lattice_Table_And : HasBody Tryd.prog 41 := ⟨Tryd.f41, bodyOf Tryd.f41, by kernel_rfl, by kernel_rfl, rfl⟩
theorem sp_lattice_Table_And (_N : Nat) : SpecD Tryd.prog Gs 41 Ks_lattice_Table_And Rk_lattice_Table_And (D_lattice_Table_And _N) := specD_of (c := bodyOf Tryd.f41) (by kernel_rfl) rfl (by kernel_rfl) (Nat.le_of_ble_eq_true (by kernel_rfl)) fun x y _h => ⟨C_lattice_Table_And _N, .none, ok_lattice_Table_And _N, (E_lattice_Table_And _N x).trans _h⟩
theorem en_lattice_Table_And (_N : Nat) : EntOk Tryd.prog Gs (mkP 41 Ks_lattice_Table_And Rk_lattice_Table_And (D_lattice_Table_And _N)) := entP hb_lattice_Table_And (by kernel_rfl) (sp_lattice_Table_And _N)
-- (watershed/lattice.Table).Under
abbrev Ks_lattice_Table_Under : List Kd := [.dat (.pair (.pair (.int .i64) (.sl (.int .u32))) (.pair (.sl (.int .i64)) (.pair (.sl (.int .i64)) (.pair (.int .i64) (.int .i64))))), .dat (.int .i64), .dat (.int .i64)]
abbrev Rk_lattice_Table_Under : List Kd := [.dat (.bool)]
abbrev Rt_lattice_Table_Under : Type := Dens Rk_lattice_Table_Under
def T_lattice_Table_Under : List (Nat × TE) := [(22, ⟨.slice 49, 1, 24, some (.sl (.int .u32)), [.nil]⟩),
  (24, ⟨.struct [(0, 3), (1, 22)], 2, 32, some (.pair (.int .i64) (.sl (.int .u32))), [.int .i64 (0 : Int), .nil]⟩),
  (49, ⟨.int .u32, 1, 4, some (.int .u32), [.int .u32 (0 : Int)]⟩),
  (68, ⟨.struct [(0, 24), (2, 27)], 6, 96, some (.pair (.pair (.int .i64) (.sl (.int .u32))) (.pair (.sl (.int .i64)) (.pair (.sl (.int .i64)) (.pair (.int .i64) (.int .i64))))), [.int .i64 (0 : Int), .nil, .nil, .nil, .int .i64 (0 : Int), .int .i64 (0 : Int)]⟩)]
noncomputable def C_lattice_Table_Under (_N : Nat) : Ctx := { T := T_lattice_Table_Under, G := findE [mkP 61 Ks_sets_Has_uint32 Rk_sets_Has_uint32 (D_sets_Has_uint32 _N)], I := findI [], N := _N, n := 15, fx := [], fl := 0, gs := Gs }
noncomputable def lattice_Table_Under_1 (_N : Nat) (_x1 : (Int × List Int) × List Int × List Int × Int × Int) (_x2 : Int) (_x3 : Int) : Option Rt_lattice_Table_Under :=
  (bif (decide (0 ≤ _x2) && decide (_x2 < (_x1.1.2.length : Int))) then ((D_sets_Has_uint32 _N ((nth (0 : Int) _x1.1.2 (_x2).toNat), _x3, ())).bind fun _y2 => (some (_y2.1, ()))) else none)
theorem lattice_Table_Under_1e (_N : Nat) (_x1 : (Int × List Int) × List Int × List Int × Int × Int) (_x2 : Int) (_x3 : Int) :
    exec (C_lattice_Table_Under _N) (cAt (bodyOf Tryd.f43) []) .none [(0, .agg [.int .i64 _x1.1.1, .sl (.int .u32) _x1.1.2, .sl (.int .i64) _x1.2.1, .sl (.int .i64) _x1.2.2.1, .int .i64 _x1.2.2.2.1, .int .i64 _x1.2.2.2.2]), (1, .int .i64 _x2), (2, .int .i64 _x3)] [] (canonR (fun _i _t _h => none) (finK (C_lattice_Table_Under _N) [.tmp 6] (finD Rk_lattice_Table_Under))) = lattice_Table_Under_1 _N _x1 _x2 _x3 :=
  by kernel_rfl
noncomputable def D_lattice_Table_Under (_N : Nat) (x : Dens Ks_lattice_Table_Under) : Option Rt_lattice_Table_Under := lattice_Table_Under_1 _N x.1 x.2.1 x.2.2.1
theorem E_lattice_Table_Under (_N : Nat) (x : Dens Ks_lattice_Table_Under) : exec (C_lattice_Table_Under _N) (bodyOf Tryd.f43) .none (argS 0 (kvals Ks_lattice_Table_Under x)) [] (finK (C_lattice_Table_Under _N) [.tmp 6] (finD Rk_lattice_Table_Under)) = D_lattice_Table_Under _N x :=
  (congrArg (fun K => exec (C_lattice_Table_Under _N) (bodyOf Tryd.f43) .none (argS 0 (kvals Ks_lattice_Table_Under x)) [] K) canonR_fin).trans (lattice_Table_Under_1e _N x.1 x.2.1 x.2.2.1)
theorem ok_lattice_Table_Under (_N : Nat) : CtxOk Tryd.prog Gs Tryd.f43 (C_lattice_Table_Under _N) := ⟨rfl, by unfold TOk; kernel_rfl, gOk_of rfl rfl (List.forall_mem_cons.2 ⟨en_sets_Has_uint32 _N, (List.forall_mem_nil _)⟩), iOk_of rfl rfl (List.forall_mem_nil _), rfl⟩
theorem hb_lattice_Table_Under : HasBody Tryd.prog 43 := ⟨Tryd.f43, bodyOf Tryd.f43, by kernel_rfl, by kernel_rfl, rfl⟩
theorem sp_lattice_Table_Under (_N : Nat) : SpecD Tryd.prog Gs 43 Ks_lattice_Table_Under Rk_lattice_Table_Under (D_lattice_Table_Under _N) := specD_of (c := bodyOf Tryd.f43) (by kernel_rfl) rfl (by kernel_rfl) (Nat.le_of_ble_eq_true (by kernel_rfl)) fun x y _h => ⟨C_lattice_Table_Under _N, .none, ok_lattice_Table_Under _N, (E_lattice_Table_Under _N x).trans _h⟩
theorem en_lattice_Table_Under (_N : Nat) : EntOk Tryd.prog Gs (mkP 43 Ks_lattice_Table_Under Rk_lattice_Table_Under (D_lattice_Table_Under _N)) := entP hb_lattice_Table_Under (by kernel_rfl) (sp_lattice_Table_Under _N)
end Go.Proofs.YtdbjfdjpmoackaaDoor
