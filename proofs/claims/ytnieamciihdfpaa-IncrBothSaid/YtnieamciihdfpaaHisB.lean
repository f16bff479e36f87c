import Derived.Test.YtnieamciihdfpaaHisS
namespace Go.Proofs.Ytnieamciihdfpaa
open Go.Abs
abbrev Ks_times_greater : List Kd := [.dat (.int .i64), .dat (.int .i64)]
abbrev Rk_times_greater : List Kd := [.dat (.int .i64)]
abbrev Rt_times_greater : Type := Dens Rk_times_greater
noncomputable def C_times_greater (_N : Nat) : Ctx := { T := [], G := findE [], I := findI [], N := _N, n := 8, fx := [], fl := 0, gs := [] }
noncomputable def times_greater_1 (_N : Nat) (_x1 : Int) (_x2 : Int) : Option Rt_times_greater :=
  (some ((if _x2 > _x1 then _x2 else _x1), ()))
noncomputable def D_times_greater (_N : Nat) (_x : Dens Ks_times_greater) : Option Rt_times_greater := times_greater_1 _N _x.1 _x.2.1
theorem sp_times_greater (_N : Nat) : SpecD Try.prog [] 64 Ks_times_greater Rk_times_greater (D_times_greater _N) := mkSpD (fn := Try.f64) (c := bodyOf Try.f64) (C := C_times_greater _N)
    (a := .none)
    (by kernel_rfl) rfl (by kernel_rfl) (by kernel_rfl) ⟨rfl, by unfold TOk; kernel_rfl, gOk_of rfl rfl (List.forall_mem_nil _), iOk_of rfl rfl (List.forall_mem_nil _), rfl⟩ (fun _x => by kernel_rfl)
theorem en_times_greater (_N : Nat) : EntOk Try.prog [] (mkP 64 Ks_times_greater Rk_times_greater (D_times_greater _N)) := entP ⟨Try.f64, bodyOf Try.f64, by kernel_rfl, by kernel_rfl, rfl⟩ (by kernel_rfl) (sp_times_greater _N)
abbrev Ks_times_zip_int_times_greater : List Kd := [.dat (.sl (.int .i64)), .dat (.sl (.int .i64)), .clo 64 []]
abbrev Rt_times_zip_int_times_greater : Type := List Int
noncomputable def C_times_zip_int_times_greater (_N : Nat) : Ctx := { T := [(3, ⟨.int .i64, 1, 8, some (.int .i64), [.int .i64 (0 : Int)], false, []⟩), (32, ⟨.slice 3, 1, 24, some (.sl (.int .i64)), [.nil], false, []⟩)], G := findE [mkP 64 Ks_times_greater Rk_times_greater (D_times_greater _N)], I := findI [], N := _N, n := 32, fx := [], fl := 0, gs := [] }
noncomputable def times_zip_int_times_greater_1 (_N : Nat) (_v8 : List Int) : Option Rt_times_zip_int_times_greater :=
  (some _v8)
noncomputable def times_zip_int_times_greater_2 (_N : Nat) (_k9 : (List Int) → Option Rt_times_zip_int_times_greater) (_v1 : List Int) (_v2 : List Int) (_v3 : Int) (_v4 : Int) (_v5 : List Int) (_kn10 : (List Int × List Int × Int) × (Int × List Int) → Option Rt_times_zip_int_times_greater) : Option Rt_times_zip_int_times_greater :=
  (bif (decide (_v4 < _v3)) then (bif (decide (0 ≤ _v4) && decide (_v4 < (_v1.length : Int))) then (bif (decide (0 ≤ _v4) && decide (_v4 < (_v2.length : Int))) then ((D_times_greater _N ((nth (0 : Int) _v1 (_v4).toNat), (nth (0 : Int) _v2 (_v4).toNat), ())).bind fun _y11 => (bif (decide (0 ≤ _v4) && decide (_v4 < (_v5.length : Int))) then (_kn10 ((_v1, _v2, _v3), ((IntKind.i64.wrap (_v4 + (1 : Int))), (_v5.set ((_v4).toNat) _y11.1)))) else none)) else none) else none) else (_k9 _v5))
noncomputable def times_zip_int_times_greater_3 (_N : Nat) (_x1 : List Int) (_x2 : List Int) : Option Rt_times_zip_int_times_greater :=
  (bif (decide (0 ≤ (_x1.length : Int)) && (decide ((_x1.length : Int) ≤ (_x1.length : Int)) && decide ((_x1.length : Int) * 8 ≤ 281474976710656))) then (joinD (fun (_s : List Int) => times_zip_int_times_greater_1 _N _s) fun _k9 => (loopE (fun (_c : List Int × List Int × Int) (_s : Int × List Int) _kn => times_zip_int_times_greater_2 _N _k9 _c.1 _c.2.1 _c.2.2 _s.1 _s.2 _kn) _N (_x1, _x2, (_x1.length : Int)) ((0 : Int), (List.replicate (_x1.length : Int).toNat (0 : Int))))) else none)
noncomputable def D_times_zip_int_times_greater (_N : Nat) (_x : Dens Ks_times_zip_int_times_greater) : Option Rt_times_zip_int_times_greater := times_zip_int_times_greater_3 _N _x.1 _x.2.1
theorem sp_times_zip_int_times_greater (_N : Nat) : SpecF Try.prog [] 63 Ks_times_zip_int_times_greater 3 (.int .i64) (D_times_zip_int_times_greater _N) := mkSpF (fn := Try.f63) (c := bodyOf Try.f63) (C := C_times_zip_int_times_greater _N)
    (a := .two .none (.two .none (.join 1 ⟨[(7, .slc 0 0)], [.row false 0 3 (.int .i64)]⟩ (.two .none (.one (.loop 1 ⟨[(0, .sl (.int .i64)), (1, .sl (.int .i64)), (2, .clo 64 []), (7, .slc 0 0), (13, .int .i64), (14, .int .i64)], [.row false 0 3 (.int .i64)]⟩ [3, 4] (.two .none (.two .none (.two (.one (.two .none (.draw 0 [.pure, .pure, .pure, .pure, .pure, .pure, .pure, .pure, .pure, .pure, .pure, .pure, .rd [0], .wr [0]]))) .none)))))) .none)))
    (by kernel_rfl) rfl (by kernel_rfl) (by kernel_rfl) ⟨rfl, by unfold TOk; kernel_rfl, gOk_of rfl rfl (List.forall_mem_cons.2 ⟨en_times_greater _N, (List.forall_mem_nil _)⟩), iOk_of rfl rfl (List.forall_mem_nil _), rfl⟩ (fun _x => by kernel_rfl)
theorem en_times_zip_int_times_greater (_N : Nat) : EntOk Try.prog [] (mkF 63 Ks_times_zip_int_times_greater 3 (.int .i64) (D_times_zip_int_times_greater _N)) := entF ⟨Try.f63, bodyOf Try.f63, by kernel_rfl, by kernel_rfl, rfl⟩ (by kernel_rfl) (Nat.le_of_ble_eq_true (by kernel_rfl)) (sp_times_zip_int_times_greater _N)
abbrev Ks_times_Over : List Kd := [.dat (.sl (.int .i64)), .dat (.sl (.int .i64))]
abbrev Rt_times_Over : Type := List Int
noncomputable def C_times_Over (_N : Nat) : Ctx := { T := [], G := findE [mkF 63 Ks_times_zip_int_times_greater 3 (.int .i64) (D_times_zip_int_times_greater _N)], I := findI [], N := _N, n := 8, fx := [], fl := 0, gs := [] }
noncomputable def times_Over_1 (_N : Nat) (_x1 : List Int) (_x2 : List Int) : Option Rt_times_Over :=
  ((D_times_zip_int_times_greater _N (_x1, _x2, (), ())).bind fun _y2 => (some _y2))
noncomputable def D_times_Over (_N : Nat) (_x : Dens Ks_times_Over) : Option Rt_times_Over := times_Over_1 _N _x.1 _x.2.1
theorem sp_times_Over (_N : Nat) : SpecF Try.prog [] 35 Ks_times_Over 3 (.int .i64) (D_times_Over _N) := mkSpF (fn := Try.f35) (c := bodyOf Try.f35) (C := C_times_Over _N)
    (a := .none)
    (by kernel_rfl) rfl (by kernel_rfl) (by kernel_rfl) ⟨rfl, by unfold TOk; kernel_rfl, gOk_of rfl rfl (List.forall_mem_cons.2 ⟨en_times_zip_int_times_greater _N, (List.forall_mem_nil _)⟩), iOk_of rfl rfl (List.forall_mem_nil _), rfl⟩ (fun _x => by kernel_rfl)
theorem en_times_Over (_N : Nat) : EntOk Try.prog [] (mkF 35 Ks_times_Over 3 (.int .i64) (D_times_Over _N)) := entF ⟨Try.f35, bodyOf Try.f35, by kernel_rfl, by kernel_rfl, rfl⟩ (by kernel_rfl) (Nat.le_of_ble_eq_true (by kernel_rfl)) (sp_times_Over _N)
end Go.Proofs.Ytnieamciihdfpaa
