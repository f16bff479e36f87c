/- mobius.grid: a cell's address. -/
import Derived.Test.YtdlhfddmbdbedaaDoorSets
import Derived.WalkKit
import Derived.OwnWalkIn
import Derived.Handy
import Derived.Test.YtdlhfddmbdbedaaDoorAbsGrd
namespace Go.Proofs.YtdlhfddmbdbedaaDoor
open Go.Abs Go.RowKit
section
attribute [local go_sem] Oper.semAt_some
set_option maxRecDepth 100000 in
set_option maxHeartbeats 1000000 in
theorem sp_at : SpecAt Tryd.prog 59 := by
  intro w b0 o len cap n a b h1 h2
  have hg : gridIx n a b = wrap64 (wrap64 (a * n) + b) := by unfold gridIx; rw [Go.IntWalk.i64_left, Go.IntWalk.i64_left]
  rw [hg] at h1 h2
  have h12 : 0 ≤ wrap64 (wrap64 (a * n) + b) ∧ wrap64 (wrap64 (a * n) + b) < (len : Int) := ⟨h1, h2⟩
  go_enter Tryd.func59, Tryd.ntmps59
  go_wp2
  refine bodyPost_ret (v := .pointer (some ⟨b0, o + (wrap64 (wrap64 (a * n) + b)).toNat, none⟩)) (by simp [results, Tryd.results59, go_sem]) rfl ?_
  exact ⟨by rw [hg], Below.alloc (Below.refl _ _) (Nat.le_refl _) _⟩
end
theorem hb_at : HasBody Tryd.prog 59 := ⟨Tryd.f59, bodyOf Tryd.f59, by kernel_rfl, by kernel_rfl, rfl⟩
theorem en_at : EntOk Tryd.prog Gs (mkAt 59) := entAt hb_at sp_at
-- watershed/mobius.square[int64]
abbrev Ks_mobius_square_int64_D : List Kd := [.dat (.int .i64)]
abbrev Rt_mobius_square_int64_D : Type := Int × List Int
def T_mobius_square_int64_D : List (Nat × TE) := [(2, ⟨.int .i64, 1, 8, some (.int .i64), [.int .i64 (0 : Int)]⟩),
  (3, ⟨.int .i64, 1, 8, some (.int .i64), [.int .i64 (0 : Int)]⟩),
  (40, ⟨.slice 2, 1, 24, some (.sl (.int .i64)), [.nil]⟩),
  (89, ⟨.struct [(0, 3), (1, 40)], 2, 32, some (.pair (.int .i64) (.sl (.int .i64))), [.int .i64 (0 : Int), .nil]⟩)]
noncomputable def C_mobius_square_int64_D (_N : Nat) : Ctx := { T := T_mobius_square_int64_D, G := findE [], I := findI [], N := _N, n := 9, fx := [], fl := 0, gs := Gs }
noncomputable def mobius_square_int64_D_1 (_N : Nat) (_x1 : Int) : Option Rt_mobius_square_int64_D :=
  (bif (decide (0 ≤ (IntKind.i64.wrap (_x1 * _x1))) && (decide ((IntKind.i64.wrap (_x1 * _x1)) ≤ (IntKind.i64.wrap (_x1 * _x1))) && decide ((IntKind.i64.wrap (_x1 * _x1)) * 8 ≤ 281474976710656))) then (some (_x1, (List.replicate (IntKind.i64.wrap (_x1 * _x1)).toNat (0 : Int)))) else none)
theorem mobius_square_int64_D_1e (_N : Nat) (_x1 : Int) :
    exec (C_mobius_square_int64_D _N) (cAt (bodyOf Tryd.f58) []) .none [(0, .int .i64 _x1)] [] (canonR (fun _i _t _h => none) (finK (C_mobius_square_int64_D _N) [.cell 2 89] (finS 2 (.int .i64)))) = mobius_square_int64_D_1 _N _x1 :=
  by kernel_rfl
noncomputable def D_mobius_square_int64_D (_N : Nat) (x : Dens Ks_mobius_square_int64_D) : Option Rt_mobius_square_int64_D := mobius_square_int64_D_1 _N x.1
theorem E_mobius_square_int64_D (_N : Nat) (x : Dens Ks_mobius_square_int64_D) : exec (C_mobius_square_int64_D _N) (bodyOf Tryd.f58) .none (argS 0 (kvals Ks_mobius_square_int64_D x)) [] (finK (C_mobius_square_int64_D _N) [.cell 2 89] (finS 2 (.int .i64))) = D_mobius_square_int64_D _N x :=
  (congrArg (fun K => exec (C_mobius_square_int64_D _N) (bodyOf Tryd.f58) .none (argS 0 (kvals Ks_mobius_square_int64_D x)) [] K) canonR_fin).trans (mobius_square_int64_D_1e _N x.1)
theorem ok_mobius_square_int64_D (_N : Nat) : CtxOk Tryd.prog Gs Tryd.f58 (C_mobius_square_int64_D _N) := ⟨rfl, by unfold TOk; kernel_rfl, gOk_of rfl rfl (List.forall_mem_nil _), iOk_of rfl rfl (List.forall_mem_nil _), rfl⟩
theorem hb_mobius_square_int64_D : HasBody Tryd.prog 58 := ⟨Tryd.f58, bodyOf Tryd.f58, by kernel_rfl, by kernel_rfl, rfl⟩
theorem sp_mobius_square_int64_D (_N : Nat) : SpecS Tryd.prog Gs 58 Ks_mobius_square_int64_D 2 (.int .i64) (D_mobius_square_int64_D _N) := specS_of (c := bodyOf Tryd.f58) (by kernel_rfl) rfl (by kernel_rfl) (Nat.le_of_ble_eq_true (by kernel_rfl)) fun x y _h => ⟨C_mobius_square_int64_D _N, .none, ok_mobius_square_int64_D _N, (E_mobius_square_int64_D _N x).trans _h⟩
theorem en_mobius_square_int64_D (_N : Nat) : EntOk Tryd.prog Gs (mkS 58 Ks_mobius_square_int64_D 2 (.int .i64) (D_mobius_square_int64_D _N)) := entS hb_mobius_square_int64_D (by kernel_rfl) (Nat.le_of_ble_eq_true (by kernel_rfl)) (sp_mobius_square_int64_D _N)
end Go.Proofs.YtdlhfddmbdbedaaDoor
