/- mobius.grid: a cell's address. -/
import Derived.Test.YtagghgmpdjoknaaDoorSets
import Derived.WalkKit
import Derived.OwnWalkIn
import Derived.Handy
import Derived.Test.YtagghgmpdjoknaaDoorAbsGrd
namespace Go.Proofs.YtagghgmpdjoknaaDoor
open Go.Abs Go.RowKit
section
attribute [local go_sem] Oper.semAt_some
set_option maxRecDepth 100000 in
set_option maxHeartbeats 1000000 in
theorem sp_at : SpecAt Tryd.prog 90 := by
  intro w b0 o len cap n a b h1 h2
  have hg : gridIx n a b = wrap64 (wrap64 (a * n) + b) := by unfold gridIx; rw [Go.IntWalk.i64_left, Go.IntWalk.i64_left]
  rw [hg] at h1 h2
  have h12 : 0 ≤ wrap64 (wrap64 (a * n) + b) ∧ wrap64 (wrap64 (a * n) + b) < (len : Int) := ⟨h1, h2⟩
  go_enter Tryd.func90, Tryd.ntmps90
  go_wp2
  refine bodyPost_ret (v := .pointer (some ⟨b0, o + (wrap64 (wrap64 (a * n) + b)).toNat, none⟩)) (by simp [results, Tryd.results90, go_sem]) rfl ?_
  exact ⟨by rw [hg], Below.alloc (Below.refl _ _) (Nat.le_refl _) _⟩
end
theorem hb_at : HasBody Tryd.prog 90 := ⟨Tryd.f90, bodyOf Tryd.f90, by kernel_rfl, by kernel_rfl, rfl⟩
theorem en_at : EntOk Tryd.prog Gs (mkAt 90) := entAt hb_at sp_at
-- watershed/mobius.square[int64]
abbrev Ks_mobius_square_int64_D : List Kd := [.dat (.int .i64)]
abbrev Rt_mobius_square_int64_D : Type := Int × List Int
noncomputable def C_mobius_square_int64_D (_N : Nat) : Ctx := { T := [(2, ⟨.int .i64, 1, 8, some (.int .i64), [.int .i64 (0 : Int)]⟩), (3, ⟨.int .i64, 1, 8, some (.int .i64), [.int .i64 (0 : Int)]⟩), (26, ⟨.slice 2, 1, 24, some (.sl (.int .i64)), [.nil]⟩), (135, ⟨.struct [(0, 3), (1, 26)], 2, 32, some (.pair (.int .i64) (.sl (.int .i64))), [.int .i64 (0 : Int), .nil]⟩)], G := findE [], I := findI [], N := _N, n := 9, fx := [], fl := 0, gs := Gs }
noncomputable def mobius_square_int64_D_1 (_N : Nat) (_x1 : Int) : Option Rt_mobius_square_int64_D :=
  (bif (decide (0 ≤ (IntKind.i64.wrap (_x1 * _x1))) && (decide ((IntKind.i64.wrap (_x1 * _x1)) ≤ (IntKind.i64.wrap (_x1 * _x1))) && decide ((IntKind.i64.wrap (_x1 * _x1)) * 8 ≤ 281474976710656))) then (some (_x1, (List.replicate (IntKind.i64.wrap (_x1 * _x1)).toNat (0 : Int)))) else none)
noncomputable def D_mobius_square_int64_D (_N : Nat) (_x : Dens Ks_mobius_square_int64_D) : Option Rt_mobius_square_int64_D := mobius_square_int64_D_1 _N _x.1
theorem sp_mobius_square_int64_D (_N : Nat) : SpecS Tryd.prog Gs 89 Ks_mobius_square_int64_D 2 (.int .i64) (D_mobius_square_int64_D _N) := mkSpS (fn := Tryd.f89) (c := bodyOf Tryd.f89) (C := C_mobius_square_int64_D _N)
    (a := .none)
    (by kernel_rfl) rfl (by kernel_rfl) (by kernel_rfl) ⟨rfl, by unfold TOk; kernel_rfl, gOk_of rfl rfl (List.forall_mem_nil _), iOk_of rfl rfl (List.forall_mem_nil _), rfl⟩ (fun _x => by kernel_rfl)
theorem en_mobius_square_int64_D (_N : Nat) : EntOk Tryd.prog Gs (mkS 89 Ks_mobius_square_int64_D 2 (.int .i64) (D_mobius_square_int64_D _N)) := entS ⟨Tryd.f89, bodyOf Tryd.f89, by kernel_rfl, by kernel_rfl, rfl⟩ (by kernel_rfl) (Nat.le_of_ble_eq_true (by kernel_rfl)) (sp_mobius_square_int64_D _N)
end Go.Proofs.YtagghgmpdjoknaaDoor
