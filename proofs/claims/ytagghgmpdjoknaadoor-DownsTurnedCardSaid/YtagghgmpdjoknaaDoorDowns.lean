/- downs: Down, Maximal, Minimal: the functions. -/
import Derived.Test.YtagghgmpdjoknaaDoorOrderB
namespace Go.Proofs.YtagghgmpdjoknaaDoor
open Go.Abs
-- watershed/downs.checked
abbrev Ks_downs_checked : List Kd := [.dat (.pair (.int .i64) (.sl (.int .u32))), .dat (.int .u32)]
abbrev Rk_downs_checked : List Kd := [.dat (.int .i64)]
abbrev Rt_downs_checked : Type := Dens Rk_downs_checked
noncomputable def C_downs_checked (_N : Nat) : Ctx := { T := [(3, ⟨.int .i64, 1, 8, some (.int .i64), [.int .i64 (0 : Int)]⟩), (24, ⟨.struct [(0, 3), (1, 22)], 2, 32, some (.pair (.int .i64) (.sl (.int .u32))), [.int .i64 (0 : Int), .nil]⟩)], G := findE [mkP 38 Ks_order_Check Rk_order_Check (D_order_Check _N), mkP 73 Ks_sets_All Rk_sets_All (D_sets_All _N)], I := findI [], N := _N, n := 17, fx := [], fl := 0, gs := Gs }
noncomputable def downs_checked_1 (_N : Nat) (_x1 : Int × List Int) (_x2 : Int) : Option Rt_downs_checked :=
  ((D_order_Check _N ((_x1.1, _x1.2), ())).bind fun _y3 => (bif (_y3.1 != (0 : Int)) then (some (_y3.1, ())) else ((D_sets_All _N (_x1.1, ())).bind fun _y4 => (bif ((iandNot .u32 _x2 _y4.1) != (0 : Int)) then (some ((2 : Int), ())) else (some ((0 : Int), ()))))))
noncomputable def D_downs_checked (_N : Nat) (_x : Dens Ks_downs_checked) : Option Rt_downs_checked := downs_checked_1 _N _x.1 _x.2.1
theorem sp_downs_checked (_N : Nat) : SpecD Tryd.prog Gs 55 Ks_downs_checked Rk_downs_checked (D_downs_checked _N) := mkSpD (fn := Tryd.f55) (c := bodyOf Tryd.f55) (C := C_downs_checked _N)
    (a := .none)
    (by kernel_rfl) rfl (by kernel_rfl) (by kernel_rfl) ⟨rfl, by unfold TOk; kernel_rfl, gOk_of rfl rfl (List.forall_mem_cons.2 ⟨en_order_Check _N, (List.forall_mem_cons.2 ⟨en_sets_All _N, (List.forall_mem_nil _)⟩)⟩), iOk_of rfl rfl (List.forall_mem_nil _), rfl⟩ (fun _x => by kernel_rfl)
theorem en_downs_checked (_N : Nat) : EntOk Tryd.prog Gs (mkP 55 Ks_downs_checked Rk_downs_checked (D_downs_checked _N)) := entP ⟨Tryd.f55, bodyOf Tryd.f55, by kernel_rfl, by kernel_rfl, rfl⟩ (by kernel_rfl) (sp_downs_checked _N)
-- watershed/downs.under
abbrev Ks_downs_under : List Kd := [.dat (.sl (.int .u32)), .dat (.int .u32)]
abbrev Rk_downs_under : List Kd := [.dat (.int .u32)]
abbrev Rt_downs_under : Type := Dens Rk_downs_under
noncomputable def C_downs_under (_N : Nat) : Ctx := { T := [(22, ⟨.slice 45, 1, 24, some (.sl (.int .u32)), [.nil]⟩), (45, ⟨.int .u32, 1, 4, some (.int .u32), [.int .u32 (0 : Int)]⟩)], G := findE [mkB 45 Ks_sets_Each_uint32 87 (.int .u32) (D_sets_Each_uint32 _N)], I := findI [mkI 87 Ks_each (.int .i64) eachXs], N := _N, n := 17, fx := [], fl := 0, gs := Gs }
noncomputable def downs_under_1 (_N : Nat) (_v6 : Int) : Option Rt_downs_under :=
  (some (_v6, ()))
noncomputable def downs_under_2 (_N : Nat) (_v3 : List Int) (_v4 : Int) (_kn9 : List Int × Int → Option Rt_downs_under) (_y2 : Int) : Option Rt_downs_under :=
  (bif (decide (0 ≤ _y2) && decide (_y2 < (_v3.length : Int))) then (_kn9 (_v3, (ior .u32 _v4 (nth (0 : Int) _v3 (_y2).toNat)))) else none)
noncomputable def downs_under_3 (_N : Nat) (_x1 : List Int) (_x2 : Int) : Option Rt_downs_under :=
  (joinD (fun (_s : List Int × Int) => downs_under_1 _N _s.2) fun _k7 => ((D_sets_Each_uint32 _N (_x2, ())).bind fun _y8 => (forE (fun (_c : List Int) (_y : Int) (_s : Int) _kn => downs_under_2 _N _c _s _kn _y) (fun (_c : List Int) (_s : Int) => (_k7 (_c, _s))) (eachXs (_y8, ())) _x1 (0 : Int))))
noncomputable def D_downs_under (_N : Nat) (_x : Dens Ks_downs_under) : Option Rt_downs_under := downs_under_3 _N _x.1 _x.2.1
theorem sp_downs_under (_N : Nat) : SpecD Tryd.prog Gs 56 Ks_downs_under Rk_downs_under (D_downs_under _N) := mkSpD (fn := Tryd.f56) (c := bodyOf Tryd.f56) (C := C_downs_under _N)
    (a := .two .none (.two .none (.join 2 ⟨[(5, .ptr 1 0)], [.cells [.sl (.int .u32)], .cells [.int .u32]]⟩ (.two .none (.one (.keep [2, 5, 8] 2 (.each 2 [.cells [.sl (.int .u32)], .cells [.int .u32]] [1] .none (.one (.draw 0 [.rd [1], .rd [0], .pure, .pure, .pure, .pure, .wr [1]])))))) .none)))
    (by kernel_rfl) rfl (by kernel_rfl) (by kernel_rfl) ⟨rfl, by unfold TOk; kernel_rfl, gOk_of rfl rfl (List.forall_mem_cons.2 ⟨en_sets_Each_uint32 _N, (List.forall_mem_nil _)⟩), iOk_of rfl rfl (List.forall_mem_cons.2 ⟨en_each, (List.forall_mem_nil _)⟩), rfl⟩ (fun _x => by kernel_rfl)
theorem en_downs_under (_N : Nat) : EntOk Tryd.prog Gs (mkP 56 Ks_downs_under Rk_downs_under (D_downs_under _N)) := entP ⟨Tryd.f56, bodyOf Tryd.f56, by kernel_rfl, by kernel_rfl, rfl⟩ (by kernel_rfl) (sp_downs_under _N)
-- watershed/downs.Down
abbrev Ks_downs_Down : List Kd := [.dat (.pair (.int .i64) (.sl (.int .u32))), .dat (.int .u32)]
abbrev Rk_downs_Down : List Kd := [.dat (.int .u32), .dat (.int .i64)]
abbrev Rt_downs_Down : Type := Dens Rk_downs_Down
noncomputable def C_downs_Down (_N : Nat) : Ctx := { T := [(24, ⟨.struct [(0, 3), (1, 22)], 2, 32, some (.pair (.int .i64) (.sl (.int .u32))), [.int .i64 (0 : Int), .nil]⟩)], G := findE [mkP 55 Ks_downs_checked Rk_downs_checked (D_downs_checked _N), mkF 53 Ks_order_Down 45 (.int .u32) (D_order_Down _N), mkP 56 Ks_downs_under Rk_downs_under (D_downs_under _N)], I := findI [], N := _N, n := 17, fx := [], fl := 0, gs := Gs }
noncomputable def downs_Down_1 (_N : Nat) (_x1 : Int × List Int) (_x2 : Int) : Option Rt_downs_Down :=
  ((D_downs_checked _N ((_x1.1, _x1.2), _x2, ())).bind fun _y4 => (bif (_y4.1 != (0 : Int)) then (some ((0 : Int), _y4.1, ())) else ((D_order_Down _N ((_x1.1, _x1.2), ())).bind fun _y5 => ((D_downs_under _N (_y5, _x2, ())).bind fun _y6 => (some (_y6.1, (0 : Int), ()))))))
noncomputable def D_downs_Down (_N : Nat) (_x : Dens Ks_downs_Down) : Option Rt_downs_Down := downs_Down_1 _N _x.1 _x.2.1
theorem sp_downs_Down (_N : Nat) : SpecD Tryd.prog Gs 27 Ks_downs_Down Rk_downs_Down (D_downs_Down _N) := mkSpD (fn := Tryd.f27) (c := bodyOf Tryd.f27) (C := C_downs_Down _N)
    (a := .none)
    (by kernel_rfl) rfl (by kernel_rfl) (by kernel_rfl) ⟨rfl, by unfold TOk; kernel_rfl, gOk_of rfl rfl (List.forall_mem_cons.2 ⟨en_downs_checked _N, (List.forall_mem_cons.2 ⟨en_order_Down _N, (List.forall_mem_cons.2 ⟨en_downs_under _N, (List.forall_mem_nil _)⟩)⟩)⟩), iOk_of rfl rfl (List.forall_mem_nil _), rfl⟩ (fun _x => by kernel_rfl)
theorem en_downs_Down (_N : Nat) : EntOk Tryd.prog Gs (mkP 27 Ks_downs_Down Rk_downs_Down (D_downs_Down _N)) := entP ⟨Tryd.f27, bodyOf Tryd.f27, by kernel_rfl, by kernel_rfl, rfl⟩ (by kernel_rfl) (sp_downs_Down _N)
end Go.Proofs.YtagghgmpdjoknaaDoor
