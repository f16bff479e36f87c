/- keep.size, keep.loose: the functions. -/
import Derived.Test.YtgnhcmdmlcjpkaaDoorOrder
import Derived.Test.YtgnhcmdmlcjpkaaDoorAbsOrd
namespace Go.Proofs.YtgnhcmdmlcjpkaaDoor
open Go.Abs
def Loose (up : List Int) (w : Int) : Prop := ∀ i j, bt w i = true → bt w j = true → le up i j → i = j
-- watershed/watershedkeep.size
abbrev Ks_keep_size : List Kd := [.dat (.int .u32)]
abbrev Rk_keep_size : List Kd := [.dat (.int .i64)]
abbrev Rt_keep_size : Type := Dens Rk_keep_size
noncomputable def C_keep_size (_N : Nat) : Ctx := { T := [], G := findE [mkP 42 Ks_ref_Bit Rk_ref_Bit (D_ref_Bit _N)], I := findI [], N := _N, n := 15, fx := [], fl := 0, gs := Gs }
noncomputable def keep_size_1 (_N : Nat) (_v6 : Int) : Option Rt_keep_size :=
  (some (_v6, ()))
noncomputable def keep_size_2 (_N : Nat) (_k7 : Int → Option Rt_keep_size) (_v1 : Int) (_v2 : Int) (_v3 : Int) (_kn8 : Int × (Int × Int) → Option Rt_keep_size) : Option Rt_keep_size :=
  (bif (decide (_v3 < (32 : Int))) then ((D_ref_Bit _N (_v1, _v3, ())).bind fun _y9 => (bif _y9.1 then (_kn8 (_v1, ((IntKind.i64.wrap (_v2 + (1 : Int))), (IntKind.i64.wrap (_v3 + (1 : Int)))))) else (_kn8 (_v1, (_v2, (IntKind.i64.wrap (_v3 + (1 : Int)))))))) else (_k7 _v2))
noncomputable def keep_size_3 (_N : Nat) (_x1 : Int) : Option Rt_keep_size :=
  (joinD (fun (_s : Int) => keep_size_1 _N _s) fun _k7 => (loopE (fun (_c : Int) (_s : Int × Int) _kn => keep_size_2 _N _k7 _c _s.1 _s.2 _kn) _N _x1 ((0 : Int), (0 : Int))))
noncomputable def D_keep_size (_N : Nat) (_x : Dens Ks_keep_size) : Option Rt_keep_size := keep_size_3 _N _x.1
theorem sp_keep_size (_N : Nat) : SpecD Tryd.prog Gs 31 Ks_keep_size Rk_keep_size (D_keep_size _N) := mkSpD (fn := Tryd.f31) (c := bodyOf Tryd.f31) (C := C_keep_size _N)
    (a := .two .none (.two .none (.join 0 ⟨[(3, .int .i64)], []⟩ (.two .none (.one (.loop 0 ⟨[(0, .int .u32), (3, .int .i64), (4, .int .i64)], []⟩ [1, 2] .none))) .none)))
    (by kernel_rfl) rfl (by kernel_rfl) (by kernel_rfl) ⟨rfl, by unfold TOk; kernel_rfl, gOk_of rfl rfl (List.forall_mem_cons.2 ⟨en_ref_Bit _N, (List.forall_mem_nil _)⟩), iOk_of rfl rfl (List.forall_mem_nil _), rfl⟩ (fun _x => by kernel_rfl)
theorem en_keep_size (_N : Nat) : EntOk Tryd.prog Gs (mkP 31 Ks_keep_size Rk_keep_size (D_keep_size _N)) := entP ⟨Tryd.f31, bodyOf Tryd.f31, by kernel_rfl, by kernel_rfl, rfl⟩ (by kernel_rfl) (sp_keep_size _N)
-- watershed/watershedkeep.loose
abbrev Ks_keep_loose : List Kd := [.dat (.pair (.int .i64) (.sl (.int .u32))), .dat (.int .u32)]
abbrev Rk_keep_loose : List Kd := [.dat (.bool)]
abbrev Rt_keep_loose : Type := Dens Rk_keep_loose
noncomputable def C_keep_loose (_N : Nat) : Ctx := { T := [(3, ⟨.int .i64, 1, 8, some (.int .i64), [.int .i64 (0 : Int)], false, []⟩), (24, ⟨.struct [(0, 3), (1, 22)], 2, 32, some (.pair (.int .i64) (.sl (.int .u32))), [.int .i64 (0 : Int), .nil], false, []⟩)], G := findE [mkP 42 Ks_ref_Bit Rk_ref_Bit (D_ref_Bit _N), mkP 57 Ks_keep_under Rk_keep_under (D_keep_under _N)], I := findI [], N := _N, n := 33, fx := [], fl := 0, gs := Gs }
noncomputable def keep_loose_1 (_N : Nat) : Option Rt_keep_loose :=
  (some (true, ()))
noncomputable def keep_loose_2 (_N : Nat) (_kn34 : (Int × Int × List Int) × Int → Option Rt_keep_loose) (_v21 : Int) (_v22 : Int) (_v23 : Int) (_v24 : List Int) : Option Rt_keep_loose :=
  (_kn34 ((_v21, _v23, _v24), (IntKind.i64.wrap (_v22 + (1 : Int)))))
noncomputable def keep_loose_3 (_N : Nat) (_kn36 : (Int × Int × Int × List Int) × Int → Option Rt_keep_loose) (_v13 : Int) (_v14 : Int) (_v15 : Int) (_v16 : Int) (_v17 : List Int) : Option Rt_keep_loose :=
  (_kn36 ((_v13, _v14, _v16, _v17), (IntKind.i64.wrap (_v15 + (1 : Int)))))
noncomputable def keep_loose_4 (_N : Nat) (_k35 : (Int × Int × Int × List Int) → Option Rt_keep_loose) (_v5 : Int) (_v6 : Int) (_v8 : Int) (_v9 : List Int) (_v7 : Int) (_kn36 : (Int × Int × Int × List Int) × Int → Option Rt_keep_loose) : Option Rt_keep_loose :=
  (bif (decide (_v7 < _v8)) then (joinD (fun (_s : Int × Int × Int × Int × List Int) => keep_loose_3 _N _kn36 _s.1 _s.2.1 _s.2.2.1 _s.2.2.2.1 _s.2.2.2.2) fun _k37 => ((D_ref_Bit _N (_v5, _v6, ())).bind fun _y38 => (bif _y38.1 then ((D_ref_Bit _N (_v5, _v7, ())).bind fun _y39 => (bif _y39.1 then ((D_keep_under _N ((_v8, _v9), _v6, _v7, ())).bind fun _y40 => (bif _y40.1 then (some (false, ())) else (_k37 (_v5, _v6, _v7, _v8, _v9)))) else (_k37 (_v5, _v6, _v7, _v8, _v9)))) else (_k37 (_v5, _v6, _v7, _v8, _v9))))) else (_k35 (_v5, _v6, _v8, _v9)))
noncomputable def keep_loose_5 (_N : Nat) (_k33 : (Int × List Int) → Option Rt_keep_loose) (_v1 : Int) (_v3 : Int) (_v4 : List Int) (_v2 : Int) (_kn34 : (Int × Int × List Int) × Int → Option Rt_keep_loose) : Option Rt_keep_loose :=
  (bif (decide (_v2 < _v3)) then (joinD (fun (_s : Int × Int × Int × List Int) => keep_loose_2 _N _kn34 _s.1 _s.2.1 _s.2.2.1 _s.2.2.2) fun _k35 => (loopE (fun (_c : Int × Int × Int × List Int) (_s : Int) _kn => keep_loose_4 _N _k35 _c.1 _c.2.1 _c.2.2.1 _c.2.2.2 _s _kn) _N (_v1, _v2, _v3, _v4) (0 : Int))) else (_k33 (_v3, _v4)))
noncomputable def keep_loose_6 (_N : Nat) (_x1 : Int × List Int) (_x2 : Int) : Option Rt_keep_loose :=
  (joinD (fun (_s : Int × List Int) => keep_loose_1 _N) fun _k33 => (loopE (fun (_c : Int × Int × List Int) (_s : Int) _kn => keep_loose_5 _N _k33 _c.1 _c.2.1 _c.2.2 _s _kn) _N (_x2, _x1.1, _x1.2) (0 : Int)))
noncomputable def D_keep_loose (_N : Nat) (_x : Dens Ks_keep_loose) : Option Rt_keep_loose := keep_loose_6 _N _x.1 _x.2.1
theorem sp_keep_loose (_N : Nat) : SpecD Tryd.prog Gs 30 Ks_keep_loose Rk_keep_loose (D_keep_loose _N) := mkSpD (fn := Tryd.f30) (c := bodyOf Tryd.f30) (C := C_keep_loose _N)
    (a := .two .none (.join 1 ⟨[], [.cells [.int .i64, .sl (.int .u32)]]⟩ (.two .none (.one (.loop 1 ⟨[(1, .int .u32), (2, .ptr 0 0), (5, .int .i64)], [.cells [.int .i64, .sl (.int .u32)]]⟩ [1] (.two .none (.join 1 ⟨[(1, .int .u32), (2, .ptr 0 0), (5, .int .i64)], [.cells [.int .i64, .sl (.int .u32)]]⟩ (.one (.two .none (.one (.loop 1 ⟨[(1, .int .u32), (2, .ptr 0 0), (5, .int .i64), (6, .int .i64)], [.cells [.int .i64, .sl (.int .u32)]]⟩ [2] (.two .none (.join 1 ⟨[(1, .int .u32), (2, .ptr 0 0), (5, .int .i64), (6, .int .i64)], [.cells [.int .i64, .sl (.int .u32)]]⟩ .none .none)))))) .none))))) .none))
    (by kernel_rfl) rfl (by kernel_rfl) (by kernel_rfl) ⟨rfl, by unfold TOk; kernel_rfl, gOk_of rfl rfl (List.forall_mem_cons.2 ⟨en_ref_Bit _N, (List.forall_mem_cons.2 ⟨en_keep_under _N, (List.forall_mem_nil _)⟩)⟩), iOk_of rfl rfl (List.forall_mem_nil _), rfl⟩ (fun _x => by kernel_rfl)
theorem en_keep_loose (_N : Nat) : EntOk Tryd.prog Gs (mkP 30 Ks_keep_loose Rk_keep_loose (D_keep_loose _N)) := entP ⟨Tryd.f30, bodyOf Tryd.f30, by kernel_rfl, by kernel_rfl, rfl⟩ (by kernel_rfl) (sp_keep_loose _N)
end Go.Proofs.YtgnhcmdmlcjpkaaDoor
