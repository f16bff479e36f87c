/- counts: Sum, and the document's comparison. -/
import Derived.Test.YtololihlpldcdaaCounts
import Derived.Test.YtololihlpldcdaaTimesB
namespace Go.Proofs.Ytololihlpldcdaa
open Go.Abs
-- watershed/counts.pair
abbrev Ks_counts_pair : List Kd := [.dat (.sl (.pair (.sl (.int .i64)) (.int .i64))), .dat (.sl (.pair (.sl (.int .i64)) (.int .i64)))]
abbrev Rk_counts_pair : List Kd := [.dat (.int .i64)]
abbrev Rt_counts_pair : Type := Dens Rk_counts_pair
noncomputable def C_counts_pair (_N : Nat) : Ctx := { T := [(47, ⟨.slice 52, 1, 24, some (.sl (.pair (.sl (.int .i64)) (.int .i64))), [.nil], false, []⟩), (131, ⟨.array 2 47, 2, 48, none, [.nil, .nil], false, []⟩)], G := findE [mkP 63 Ks_counts_apart Rk_counts_apart (D_counts_apart _N), mkP 34 Ks_counts_Check Rk_counts_Check (D_counts_Check _N)], I := findI [], N := _N, n := 23, fx := [], fl := 0, gs := [] }
noncomputable def counts_pair_1 (_N : Nat) (_v10 : List (List Int × Int)) (_v11 : List (List Int × Int)) : Option Rt_counts_pair :=
  ((D_counts_apart _N (_v10, _v11, ())).bind fun _y13 => (bif _y13.1 then (some ((3 : Int), ())) else (some ((0 : Int), ()))))
noncomputable def counts_pair_2 (_N : Nat) (_k14 : ((List (List Int × Int)) × (List (List Int × Int))) → Option Rt_counts_pair) (_v1 : List (List Int × Int)) (_v2 : List (List Int × Int)) (_v3 : List (List Int × Int)) (_v4 : List (List Int × Int)) (_v5 : Int) (_kn15 : ((List (List Int × Int)) × (List (List Int × Int)) × (List (List Int × Int)) × (List (List Int × Int))) × Int → Option Rt_counts_pair) : Option Rt_counts_pair :=
  (bif (decide (_v5 < (2 : Int))) then (bif (_v5 == ((0 : Nat) : Int)) then ((D_counts_Check _N (_v3, ())).bind fun _y17 => (bif (_y17.1 != (0 : Int)) then (some (_y17.1, ())) else (_kn15 ((_v1, _v2, _v3, _v4), (IntKind.i64.wrap (_v5 + (1 : Int))))))) else (bif (_v5 == ((1 : Nat) : Int)) then ((D_counts_Check _N (_v4, ())).bind fun _y16 => (bif (_y16.1 != (0 : Int)) then (some (_y16.1, ())) else (_kn15 ((_v1, _v2, _v3, _v4), (IntKind.i64.wrap (_v5 + (1 : Int))))))) else none)) else (_k14 (_v1, _v2)))
noncomputable def counts_pair_3 (_N : Nat) (_x1 : List (List Int × Int)) (_x2 : List (List Int × Int)) : Option Rt_counts_pair :=
  (joinD (fun (_s : (List (List Int × Int)) × (List (List Int × Int))) => counts_pair_1 _N _s.1 _s.2) fun _k14 => (loopE (fun (_c : (List (List Int × Int)) × (List (List Int × Int)) × (List (List Int × Int)) × (List (List Int × Int))) (_s : Int) _kn => counts_pair_2 _N _k14 _c.1 _c.2.1 _c.2.2.1 _c.2.2.2 _s _kn) _N (_x1, _x2, _x1, _x2) (0 : Int)))
noncomputable def D_counts_pair (_N : Nat) (_x : Dens Ks_counts_pair) : Option Rt_counts_pair := counts_pair_3 _N _x.1 _x.2.1
theorem sp_counts_pair (_N : Nat) : SpecD Try.prog [] 59 Ks_counts_pair Rk_counts_pair (D_counts_pair _N) := mkSpD (fn := Try.f59) (c := bodyOf Try.f59) (C := C_counts_pair _N)
    (a := .two .none (.join 0 ⟨[(0, .sl (.pair (.sl (.int .i64)) (.int .i64))), (1, .sl (.pair (.sl (.int .i64)) (.int .i64)))], []⟩ (.two .none (.one (.loop 0 ⟨[(0, .sl (.pair (.sl (.int .i64)) (.int .i64))), (1, .sl (.pair (.sl (.int .i64)) (.int .i64))), (10, .agg [.sl (.pair (.sl (.int .i64)) (.int .i64)), .sl (.pair (.sl (.int .i64)) (.int .i64))]), (11, .int .i64)], []⟩ [4] .none))) .none))
    (by kernel_rfl) rfl (by kernel_rfl) (by kernel_rfl) ⟨rfl, by unfold TOk; kernel_rfl, gOk_of rfl rfl (List.forall_mem_cons.2 ⟨en_counts_apart _N, (List.forall_mem_cons.2 ⟨en_counts_Check _N, (List.forall_mem_nil _)⟩)⟩), iOk_of rfl rfl (List.forall_mem_nil _), rfl⟩ (fun _x => by kernel_rfl)
theorem en_counts_pair (_N : Nat) : EntOk Try.prog [] (mkP 59 Ks_counts_pair Rk_counts_pair (D_counts_pair _N)) := entP ⟨Try.f59, bodyOf Try.f59, by kernel_rfl, by kernel_rfl, rfl⟩ (by kernel_rfl) (sp_counts_pair _N)
-- watershed/counts.Sum
abbrev Ks_counts_Sum : List Kd := [.dat (.sl (.pair (.sl (.int .i64)) (.int .i64))), .dat (.sl (.pair (.sl (.int .i64)) (.int .i64)))]
abbrev Rk_counts_Sum : List Kd := [.dat (.sl (.pair (.sl (.int .i64)) (.int .i64))), .dat (.int .i64)]
abbrev Rt_counts_Sum : Type := Dens Rk_counts_Sum
noncomputable def C_counts_Sum (_N : Nat) : Ctx := { T := [], G := findE [mkP 59 Ks_counts_pair Rk_counts_pair (D_counts_pair _N), mkQ 61 Ks_counts_merge Rk_counts_merge (D_counts_merge _N)], I := findI [], N := _N, n := 18, fx := [], fl := 0, gs := [] }
noncomputable def counts_Sum_1 (_N : Nat) (_x1 : List (List Int × Int)) (_x2 : List (List Int × Int)) : Option Rt_counts_Sum :=
  ((D_counts_pair _N (_x1, _x2, ())).bind fun _y3 => (bif (_y3.1 != (0 : Int)) then (some ([], _y3.1, ())) else ((D_counts_merge _N (_x1, _x2, ())).bind fun _y4 => (some (_y4.1, _y4.2.1, ())))))
noncomputable def D_counts_Sum (_N : Nat) (_x : Dens Ks_counts_Sum) : Option Rt_counts_Sum := counts_Sum_1 _N _x.1 _x.2.1
theorem sp_counts_Sum (_N : Nat) : SpecD Try.prog [] 30 Ks_counts_Sum Rk_counts_Sum (D_counts_Sum _N) := mkSpD (fn := Try.f30) (c := bodyOf Try.f30) (C := C_counts_Sum _N)
    (a := .none)
    (by kernel_rfl) rfl (by kernel_rfl) (by kernel_rfl) ⟨rfl, by unfold TOk; kernel_rfl, gOk_of rfl rfl (List.forall_mem_cons.2 ⟨en_counts_pair _N, (List.forall_mem_cons.2 ⟨qen_counts_merge _N, (List.forall_mem_nil _)⟩)⟩), iOk_of rfl rfl (List.forall_mem_nil _), rfl⟩ (fun _x => by kernel_rfl)
theorem en_counts_Sum (_N : Nat) : EntOk Try.prog [] (mkD 30 Ks_counts_Sum Rk_counts_Sum (D_counts_Sum _N)) := entD ⟨Try.f30, bodyOf Try.f30, by kernel_rfl, by kernel_rfl, rfl⟩ (sp_counts_Sum _N)
theorem qen_counts_Sum (_N : Nat) : EntOk Try.prog [] (mkQ 30 Ks_counts_Sum Rk_counts_Sum (D_counts_Sum _N)) := entQ ⟨Try.f30, bodyOf Try.f30, by kernel_rfl, by kernel_rfl, rfl⟩ (sp_counts_Sum _N)
-- watershed/watershedref.Counts
abbrev Ks_ref_Counts : List Kd := [.dat (.sl (.pair (.sl (.int .i64)) (.int .i64))), .dat (.sl (.pair (.sl (.int .i64)) (.int .i64)))]
abbrev Rk_ref_Counts : List Kd := [.dat (.bool)]
abbrev Rt_ref_Counts : Type := Dens Rk_ref_Counts
noncomputable def C_ref_Counts (_N : Nat) : Ctx := { T := [(2, ⟨.int .i64, 1, 8, some (.int .i64), [.int .i64 (0 : Int)], false, []⟩), (26, ⟨.slice 3, 1, 24, some (.sl (.int .i64)), [.nil], false, []⟩), (47, ⟨.slice 52, 1, 24, some (.sl (.pair (.sl (.int .i64)) (.int .i64))), [.nil], false, []⟩), (52, ⟨.struct [(0, 26), (1, 2)], 2, 32, some (.pair (.sl (.int .i64)) (.int .i64)), [.nil, .int .i64 (0 : Int)], false, []⟩)], G := findE [mkP 31 Ks_ref_TimesSame Rk_ref_TimesSame (D_ref_TimesSame _N)], I := findI [], N := _N, n := 42, fx := [], fl := 0, gs := [] }
noncomputable def ref_Counts_1 (_N : Nat) : Option Rt_ref_Counts :=
  (some (true, ()))
noncomputable def ref_Counts_2 (_N : Nat) (_k6 : Unit → Option Rt_ref_Counts) (_v1 : List (List Int × Int)) (_v2 : List (List Int × Int)) (_v3 : Int) (_kn7 : ((List (List Int × Int)) × (List (List Int × Int))) × Int → Option Rt_ref_Counts) : Option Rt_ref_Counts :=
  (bif (decide (_v3 < (_v1.length : Int))) then (bif (decide (0 ≤ _v3) && decide (_v3 < (_v1.length : Int))) then (bif (decide (0 ≤ _v3) && decide (_v3 < (_v2.length : Int))) then (bif (((nth ([], (0 : Int)) _v1 (_v3).toNat).2) != ((nth ([], (0 : Int)) _v2 (_v3).toNat).2)) then (some (false, ())) else (bif (decide (0 ≤ _v3) && decide (_v3 < (_v1.length : Int))) then (bif (decide (0 ≤ _v3) && decide (_v3 < (_v2.length : Int))) then ((D_ref_TimesSame _N ((nth ([], (0 : Int)) _v1 (_v3).toNat).1, (nth ([], (0 : Int)) _v2 (_v3).toNat).1, ())).bind fun _y8 => (bif (!_y8.1) then (some (false, ())) else (_kn7 ((_v1, _v2), (IntKind.i64.wrap (_v3 + (1 : Int))))))) else none) else none)) else none) else none) else (_k6 ()))
noncomputable def ref_Counts_3 (_N : Nat) (_x1 : List (List Int × Int)) (_x2 : List (List Int × Int)) : Option Rt_ref_Counts :=
  (bif ((_x1.length : Int) != (_x2.length : Int)) then (some (false, ())) else (joinD (fun (_s : Unit) => ref_Counts_1 _N) fun _k6 => (loopE (fun (_c : (List (List Int × Int)) × (List (List Int × Int))) (_s : Int) _kn => ref_Counts_2 _N _k6 _c.1 _c.2 _s _kn) _N (_x1, _x2) (0 : Int))))
noncomputable def D_ref_Counts (_N : Nat) (_x : Dens Ks_ref_Counts) : Option Rt_ref_Counts := ref_Counts_3 _N _x.1 _x.2.1
theorem sp_ref_Counts (_N : Nat) : SpecD Try.prog [] 33 Ks_ref_Counts Rk_ref_Counts (D_ref_Counts _N) := mkSpD (fn := Try.f33) (c := bodyOf Try.f33) (C := C_ref_Counts _N)
    (a := .two .none (.two .none (.join 0 ⟨[], []⟩ (.two .none (.one (.loop 0 ⟨[(0, .sl (.pair (.sl (.int .i64)) (.int .i64))), (1, .sl (.pair (.sl (.int .i64)) (.int .i64))), (5, .int .i64)], []⟩ [2] (.two .none (.two (.one (.two (.draw 0 (.pure :: .pure :: .pure :: .pure :: .pure :: .pure :: .pure :: .pure :: .pure :: .pure :: .pure :: .pure :: .pure :: .pure :: .pure :: .pure :: .pure :: .pure :: .pure :: .pure :: .pure :: .pure :: .pure :: .pure :: .pure :: [])) .none)) .none))))) .none)))
    (by kernel_rfl) rfl (by kernel_rfl) (by kernel_rfl) ⟨rfl, by unfold TOk; kernel_rfl, gOk_of rfl rfl (List.forall_mem_cons.2 ⟨en_ref_TimesSame _N, (List.forall_mem_nil _)⟩), iOk_of rfl rfl (List.forall_mem_nil _), rfl⟩ (fun _x => by kernel_rfl)
theorem en_ref_Counts (_N : Nat) : EntOk Try.prog [] (mkP 33 Ks_ref_Counts Rk_ref_Counts (D_ref_Counts _N)) := entP ⟨Try.f33, bodyOf Try.f33, by kernel_rfl, by kernel_rfl, rfl⟩ (by kernel_rfl) (sp_ref_Counts _N)
end Go.Proofs.Ytololihlpldcdaa
