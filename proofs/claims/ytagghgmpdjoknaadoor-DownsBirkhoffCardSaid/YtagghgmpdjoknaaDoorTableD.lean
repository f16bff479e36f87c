/- lattice.Table: its operations. -/
import Derived.Test.YtagghgmpdjoknaaDoorLattice
namespace Go.Proofs.YtagghgmpdjoknaaDoor
open Go.Abs
-- (watershed/lattice.Table).Or
abbrev Ks_lattice_Table_Or : List Kd := [.dat (.pair (.pair (.int .i64) (.sl (.int .u32))) (.pair (.sl (.int .i64)) (.pair (.sl (.int .i64)) (.pair (.int .i64) (.int .i64))))), .dat (.int .i64), .dat (.int .i64)]
abbrev Rk_lattice_Table_Or : List Kd := [.dat (.int .i64)]
abbrev Rt_lattice_Table_Or : Type := Dens Rk_lattice_Table_Or
noncomputable def C_lattice_Table_Or (_N : Nat) : Ctx := { T := [(3, ⟨.int .i64, 1, 8, some (.int .i64), [.int .i64 (0 : Int)]⟩), (24, ⟨.struct [(0, 3), (1, 22)], 2, 32, some (.pair (.int .i64) (.sl (.int .u32))), [.int .i64 (0 : Int), .nil]⟩), (38, ⟨.slice 3, 1, 24, some (.sl (.int .i64)), [.nil]⟩), (55, ⟨.struct [(0, 38), (1, 38), (2, 3), (3, 3)], 4, 64, some (.pair (.sl (.int .i64)) (.pair (.sl (.int .i64)) (.pair (.int .i64) (.int .i64)))), [.nil, .nil, .int .i64 (0 : Int), .int .i64 (0 : Int)]⟩), (101, ⟨.struct [(0, 24), (2, 55)], 6, 96, some (.pair (.pair (.int .i64) (.sl (.int .u32))) (.pair (.sl (.int .i64)) (.pair (.sl (.int .i64)) (.pair (.int .i64) (.int .i64))))), [.int .i64 (0 : Int), .nil, .nil, .nil, .int .i64 (0 : Int), .int .i64 (0 : Int)]⟩)], G := findE [], I := findI [], N := _N, n := 19, fx := [], fl := 0, gs := Gs }
noncomputable def lattice_Table_Or_1 (_N : Nat) (_x1 : (Int × List Int) × List Int × List Int × Int × Int) (_x2 : Int) (_x3 : Int) : Option Rt_lattice_Table_Or :=
  (bif (decide (0 ≤ (IntKind.i64.wrap ((IntKind.i64.wrap (_x2 * _x1.1.1)) + _x3))) && decide ((IntKind.i64.wrap ((IntKind.i64.wrap (_x2 * _x1.1.1)) + _x3)) < (_x1.2.1.length : Int))) then (some ((nth (0 : Int) _x1.2.1 (IntKind.i64.wrap ((IntKind.i64.wrap (_x2 * _x1.1.1)) + _x3)).toNat), ())) else none)
noncomputable def D_lattice_Table_Or (_N : Nat) (_x : Dens Ks_lattice_Table_Or) : Option Rt_lattice_Table_Or := lattice_Table_Or_1 _N _x.1 _x.2.1 _x.2.2.1
theorem sp_lattice_Table_Or (_N : Nat) : SpecD Tryd.prog Gs 60 Ks_lattice_Table_Or Rk_lattice_Table_Or (D_lattice_Table_Or _N) := mkSpD (fn := Tryd.f60) (c := bodyOf Tryd.f60) (C := C_lattice_Table_Or _N)
    (a := .none)
    (by kernel_rfl) rfl (by kernel_rfl) (by kernel_rfl) ⟨rfl, by unfold TOk; kernel_rfl, gOk_of rfl rfl (List.forall_mem_nil _), iOk_of rfl rfl (List.forall_mem_nil _), rfl⟩ (fun _x => by kernel_rfl)
theorem en_lattice_Table_Or (_N : Nat) : EntOk Tryd.prog Gs (mkP 60 Ks_lattice_Table_Or Rk_lattice_Table_Or (D_lattice_Table_Or _N)) := entP ⟨Tryd.f60, bodyOf Tryd.f60, by kernel_rfl, by kernel_rfl, rfl⟩ (by kernel_rfl) (sp_lattice_Table_Or _N)
-- (watershed/lattice.Table).And
abbrev Ks_lattice_Table_And : List Kd := [.dat (.pair (.pair (.int .i64) (.sl (.int .u32))) (.pair (.sl (.int .i64)) (.pair (.sl (.int .i64)) (.pair (.int .i64) (.int .i64))))), .dat (.int .i64), .dat (.int .i64)]
abbrev Rk_lattice_Table_And : List Kd := [.dat (.int .i64)]
abbrev Rt_lattice_Table_And : Type := Dens Rk_lattice_Table_And
noncomputable def C_lattice_Table_And (_N : Nat) : Ctx := { T := [(3, ⟨.int .i64, 1, 8, some (.int .i64), [.int .i64 (0 : Int)]⟩), (24, ⟨.struct [(0, 3), (1, 22)], 2, 32, some (.pair (.int .i64) (.sl (.int .u32))), [.int .i64 (0 : Int), .nil]⟩), (38, ⟨.slice 3, 1, 24, some (.sl (.int .i64)), [.nil]⟩), (55, ⟨.struct [(0, 38), (1, 38), (2, 3), (3, 3)], 4, 64, some (.pair (.sl (.int .i64)) (.pair (.sl (.int .i64)) (.pair (.int .i64) (.int .i64)))), [.nil, .nil, .int .i64 (0 : Int), .int .i64 (0 : Int)]⟩), (101, ⟨.struct [(0, 24), (2, 55)], 6, 96, some (.pair (.pair (.int .i64) (.sl (.int .u32))) (.pair (.sl (.int .i64)) (.pair (.sl (.int .i64)) (.pair (.int .i64) (.int .i64))))), [.int .i64 (0 : Int), .nil, .nil, .nil, .int .i64 (0 : Int), .int .i64 (0 : Int)]⟩)], G := findE [], I := findI [], N := _N, n := 19, fx := [], fl := 0, gs := Gs }
noncomputable def lattice_Table_And_1 (_N : Nat) (_x1 : (Int × List Int) × List Int × List Int × Int × Int) (_x2 : Int) (_x3 : Int) : Option Rt_lattice_Table_And :=
  (bif (decide (0 ≤ (IntKind.i64.wrap ((IntKind.i64.wrap (_x2 * _x1.1.1)) + _x3))) && decide ((IntKind.i64.wrap ((IntKind.i64.wrap (_x2 * _x1.1.1)) + _x3)) < (_x1.2.2.1.length : Int))) then (some ((nth (0 : Int) _x1.2.2.1 (IntKind.i64.wrap ((IntKind.i64.wrap (_x2 * _x1.1.1)) + _x3)).toNat), ())) else none)
noncomputable def D_lattice_Table_And (_N : Nat) (_x : Dens Ks_lattice_Table_And) : Option Rt_lattice_Table_And := lattice_Table_And_1 _N _x.1 _x.2.1 _x.2.2.1
theorem sp_lattice_Table_And (_N : Nat) : SpecD Tryd.prog Gs 59 Ks_lattice_Table_And Rk_lattice_Table_And (D_lattice_Table_And _N) := mkSpD (fn := Tryd.f59) (c := bodyOf Tryd.f59) (C := C_lattice_Table_And _N)
    (a := .none)
    (by kernel_rfl) rfl (by kernel_rfl) (by kernel_rfl) ⟨rfl, by unfold TOk; kernel_rfl, gOk_of rfl rfl (List.forall_mem_nil _), iOk_of rfl rfl (List.forall_mem_nil _), rfl⟩ (fun _x => by kernel_rfl)
theorem en_lattice_Table_And (_N : Nat) : EntOk Tryd.prog Gs (mkP 59 Ks_lattice_Table_And Rk_lattice_Table_And (D_lattice_Table_And _N)) := entP ⟨Tryd.f59, bodyOf Tryd.f59, by kernel_rfl, by kernel_rfl, rfl⟩ (by kernel_rfl) (sp_lattice_Table_And _N)
-- (watershed/lattice.Table).Under
abbrev Ks_lattice_Table_Under : List Kd := [.dat (.pair (.pair (.int .i64) (.sl (.int .u32))) (.pair (.sl (.int .i64)) (.pair (.sl (.int .i64)) (.pair (.int .i64) (.int .i64))))), .dat (.int .i64), .dat (.int .i64)]
abbrev Rk_lattice_Table_Under : List Kd := [.dat (.bool)]
abbrev Rt_lattice_Table_Under : Type := Dens Rk_lattice_Table_Under
noncomputable def C_lattice_Table_Under (_N : Nat) : Ctx := { T := [(22, ⟨.slice 45, 1, 24, some (.sl (.int .u32)), [.nil]⟩), (24, ⟨.struct [(0, 3), (1, 22)], 2, 32, some (.pair (.int .i64) (.sl (.int .u32))), [.int .i64 (0 : Int), .nil]⟩), (45, ⟨.int .u32, 1, 4, some (.int .u32), [.int .u32 (0 : Int)]⟩), (101, ⟨.struct [(0, 24), (2, 55)], 6, 96, some (.pair (.pair (.int .i64) (.sl (.int .u32))) (.pair (.sl (.int .i64)) (.pair (.sl (.int .i64)) (.pair (.int .i64) (.int .i64))))), [.int .i64 (0 : Int), .nil, .nil, .nil, .int .i64 (0 : Int), .int .i64 (0 : Int)]⟩)], G := findE [mkP 69 Ks_sets_Has_uint32 Rk_sets_Has_uint32 (D_sets_Has_uint32 _N)], I := findI [], N := _N, n := 15, fx := [], fl := 0, gs := Gs }
noncomputable def lattice_Table_Under_1 (_N : Nat) (_x1 : (Int × List Int) × List Int × List Int × Int × Int) (_x2 : Int) (_x3 : Int) : Option Rt_lattice_Table_Under :=
  (bif (decide (0 ≤ _x2) && decide (_x2 < (_x1.1.2.length : Int))) then ((D_sets_Has_uint32 _N ((nth (0 : Int) _x1.1.2 (_x2).toNat), _x3, ())).bind fun _y2 => (some (_y2.1, ()))) else none)
noncomputable def D_lattice_Table_Under (_N : Nat) (_x : Dens Ks_lattice_Table_Under) : Option Rt_lattice_Table_Under := lattice_Table_Under_1 _N _x.1 _x.2.1 _x.2.2.1
theorem sp_lattice_Table_Under (_N : Nat) : SpecD Tryd.prog Gs 61 Ks_lattice_Table_Under Rk_lattice_Table_Under (D_lattice_Table_Under _N) := mkSpD (fn := Tryd.f61) (c := bodyOf Tryd.f61) (C := C_lattice_Table_Under _N)
    (a := .none)
    (by kernel_rfl) rfl (by kernel_rfl) (by kernel_rfl) ⟨rfl, by unfold TOk; kernel_rfl, gOk_of rfl rfl (List.forall_mem_cons.2 ⟨en_sets_Has_uint32 _N, (List.forall_mem_nil _)⟩), iOk_of rfl rfl (List.forall_mem_nil _), rfl⟩ (fun _x => by kernel_rfl)
theorem en_lattice_Table_Under (_N : Nat) : EntOk Tryd.prog Gs (mkP 61 Ks_lattice_Table_Under Rk_lattice_Table_Under (D_lattice_Table_Under _N)) := entP ⟨Tryd.f61, bodyOf Tryd.f61, by kernel_rfl, by kernel_rfl, rfl⟩ (by kernel_rfl) (sp_lattice_Table_Under _N)
end Go.Proofs.YtagghgmpdjoknaaDoor
