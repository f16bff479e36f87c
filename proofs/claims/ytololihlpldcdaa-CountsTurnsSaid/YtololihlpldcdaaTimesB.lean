/- times.Before and the like: the functions. -/
import Derived.Test.YtololihlpldcdaaTimes
namespace Go.Proofs.Ytololihlpldcdaa
open Go.Abs
-- watershed/times.lists
abbrev Ks_times_lists : List Kd := [.dat (.sl (.sl (.int .i64))), .dat (.sl (.sl (.int .i64)))]
abbrev Rk_times_lists : List Kd := [.dat (.int .i64)]
abbrev Rt_times_lists : Type := Dens Rk_times_lists
noncomputable def C_times_lists (_N : Nat) : Ctx := { T := [(22, ⟨.slice 26, 1, 24, some (.sl (.sl (.int .i64))), [.nil], false, []⟩), (26, ⟨.slice 3, 1, 24, some (.sl (.int .i64)), [.nil], false, []⟩)], G := findE [mkP 38 Ks_times_List Rk_times_List (D_times_List _N)], I := findI [], N := _N, n := 36, fx := [], fl := 0, gs := [] }
noncomputable def times_lists_1 (_N : Nat) (_x1 : List (List Int)) (_x2 : List (List Int)) : Option Rt_times_lists :=
  ((D_times_List _N (_x1, ())).bind fun _y3 => (bif (_y3.1 != (0 : Int)) then (some (_y3.1, ())) else ((D_times_List _N (_x2, ())).bind fun _y4 => (bif (_y4.1 != (0 : Int)) then (some (_y4.1, ())) else (bif (decide ((_x1.length : Int) > (0 : Int))) then (bif (decide ((_x2.length : Int) > (0 : Int))) then (bif (decide (0 ≤ (0 : Int)) && decide ((0 : Int) < (_x1.length : Int))) then (bif (decide (0 ≤ (0 : Int)) && decide ((0 : Int) < (_x2.length : Int))) then (bif (((nth ([]) _x1 (0 : Int).toNat).length : Int) != ((nth ([]) _x2 (0 : Int).toNat).length : Int)) then (some ((3 : Int), ())) else (some ((0 : Int), ()))) else none) else none) else (some ((0 : Int), ()))) else (some ((0 : Int), ())))))))
noncomputable def D_times_lists (_N : Nat) (_x : Dens Ks_times_lists) : Option Rt_times_lists := times_lists_1 _N _x.1 _x.2.1
theorem sp_times_lists (_N : Nat) : SpecD Try.prog [] 45 Ks_times_lists Rk_times_lists (D_times_lists _N) := mkSpD (fn := Try.f45) (c := bodyOf Try.f45) (C := C_times_lists _N)
    (a := .two .none (.two .none (.two .none (.two (.two (.draw 0 [.pure, .pure, .pure, .pure, .pure, .pure, .pure, .pure, .pure, .pure, .pure, .pure, .pure, .pure, .pure, .pure, .pure, .pure, .pure]) .none) .none))))
    (by kernel_rfl) rfl (by kernel_rfl) (by kernel_rfl) ⟨rfl, by unfold TOk; kernel_rfl, gOk_of rfl rfl (List.forall_mem_cons.2 ⟨en_times_List _N, (List.forall_mem_nil _)⟩), iOk_of rfl rfl (List.forall_mem_nil _), rfl⟩ (fun _x => by kernel_rfl)
theorem en_times_lists (_N : Nat) : EntOk Try.prog [] (mkP 45 Ks_times_lists Rk_times_lists (D_times_lists _N)) := entP ⟨Try.f45, bodyOf Try.f45, by kernel_rfl, by kernel_rfl, rfl⟩ (by kernel_rfl) (sp_times_lists _N)
-- watershed/times.Before
abbrev Ks_times_Before : List Kd := [.dat (.sl (.sl (.int .i64))), .dat (.sl (.sl (.int .i64)))]
abbrev Rk_times_Before : List Kd := [.dat (.bool), .dat (.int .i64)]
abbrev Rt_times_Before : Type := Dens Rk_times_Before
noncomputable def C_times_Before (_N : Nat) : Ctx := { T := [(22, ⟨.slice 26, 1, 24, some (.sl (.sl (.int .i64))), [.nil], false, []⟩), (26, ⟨.slice 3, 1, 24, some (.sl (.int .i64)), [.nil], false, []⟩)], G := findE [mkP 45 Ks_times_lists Rk_times_lists (D_times_lists _N), mkP 17 Ks_times_Open Rk_times_Open (D_times_Open _N)], I := findI [], N := _N, n := 26, fx := [], fl := 0, gs := [] }
noncomputable def times_Before_1 (_N : Nat) : Option Rt_times_Before :=
  (some (true, (0 : Int), ()))
noncomputable def times_Before_2 (_N : Nat) (_k9 : Unit → Option Rt_times_Before) (_v2 : List (List Int)) (_v3 : List (List Int)) (_v4 : Int) (_v5 : Int) (_kn10 : (List (List Int) × List (List Int) × Int) × Int → Option Rt_times_Before) : Option Rt_times_Before :=
  (bif (decide (_v5 < _v4)) then (bif (decide (0 ≤ _v5) && decide (_v5 < (_v3.length : Int))) then ((D_times_Open _N (_v2, (nth ([]) _v3 (_v5).toNat), ())).bind fun _y11 => (bif (!_y11.1) then (some (false, (0 : Int), ())) else (_kn10 ((_v2, _v3, _v4), (IntKind.i64.wrap (_v5 + (1 : Int))))))) else none) else (_k9 ()))
noncomputable def times_Before_3 (_N : Nat) (_x1 : List (List Int)) (_x2 : List (List Int)) : Option Rt_times_Before :=
  ((D_times_lists _N (_x1, _x2, ())).bind fun _y8 => (bif (_y8.1 != (0 : Int)) then (some (false, _y8.1, ())) else (joinD (fun (_s : Unit) => times_Before_1 _N) fun _k9 => (loopE (fun (_c : List (List Int) × List (List Int) × Int) (_s : Int) _kn => times_Before_2 _N _k9 _c.1 _c.2.1 _c.2.2 _s _kn) _N (_x1, _x2, (_x2.length : Int)) (0 : Int)))))
noncomputable def D_times_Before (_N : Nat) (_x : Dens Ks_times_Before) : Option Rt_times_Before := times_Before_3 _N _x.1 _x.2.1
theorem sp_times_Before (_N : Nat) : SpecD Try.prog [] 20 Ks_times_Before Rk_times_Before (D_times_Before _N) := mkSpD (fn := Try.f20) (c := bodyOf Try.f20) (C := C_times_Before _N)
    (a := .two .none (.two .none (.join 0 ⟨[], []⟩ (.two .none (.one (.loop 0 ⟨[(0, .sl (.sl (.int .i64))), (15, .sl (.sl (.int .i64))), (16, .int .i64), (17, .int .i64)], []⟩ [3] .none))) .none)))
    (by kernel_rfl) rfl (by kernel_rfl) (by kernel_rfl) ⟨rfl, by unfold TOk; kernel_rfl, gOk_of rfl rfl (List.forall_mem_cons.2 ⟨en_times_lists _N, (List.forall_mem_cons.2 ⟨en_times_Open _N, (List.forall_mem_nil _)⟩)⟩), iOk_of rfl rfl (List.forall_mem_nil _), rfl⟩ (fun _x => by kernel_rfl)
theorem en_times_Before (_N : Nat) : EntOk Try.prog [] (mkP 20 Ks_times_Before Rk_times_Before (D_times_Before _N)) := entP ⟨Try.f20, bodyOf Try.f20, by kernel_rfl, by kernel_rfl, rfl⟩ (by kernel_rfl) (sp_times_Before _N)
end Go.Proofs.Ytololihlpldcdaa
