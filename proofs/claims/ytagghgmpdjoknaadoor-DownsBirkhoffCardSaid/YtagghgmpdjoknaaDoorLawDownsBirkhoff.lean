/- A lattice is distributive just if joins have below them just those irreducible elements that either has, just if there are as many down-sets of irreducible elements as elements; meets have those that both have: the law answers true for every order. No condition. -/
import Derived.Test.YtagghgmpdjoknaaDoorBirk
import Derived.Test.YtagghgmpdjoknaaDoorKindS
import Derived.Test.YtagghgmpdjoknaaDoorBoardS
import Derived.Test.YtagghgmpdjoknaaDoorFrame
namespace Go.Proofs.YtagghgmpdjoknaaDoor
open Go Go.ChangeShapes Go.WideShapes Go.ChangeAt Go.WideMaps Go.WideElems Go.RowKit Go.Abs
-- watershed/watershedkeep.DownsBirkhoff
abbrev Ks_keep_DownsBirkhoff : List Kd := [.dat (.pair (.int .i64) (.sl (.int .u32)))]
abbrev Rk_keep_DownsBirkhoff : List Kd := [.dat (.bool)]
abbrev Rt_keep_DownsBirkhoff : Type := Dens Rk_keep_DownsBirkhoff
noncomputable def C_keep_DownsBirkhoff (_N : Nat) : Ctx := { T := [(3, ⟨.int .i64, 1, 8, some (.int .i64), [.int .i64 (0 : Int)]⟩), (4, ⟨.bool, 1, 1, some .bool, [.bool false]⟩), (22, ⟨.slice 45, 1, 24, some (.sl (.int .u32)), [.nil]⟩), (24, ⟨.struct [(0, 3), (1, 22)], 2, 32, some (.pair (.int .i64) (.sl (.int .u32))), [.int .i64 (0 : Int), .nil]⟩), (45, ⟨.int .u32, 1, 4, some (.int .u32), [.int .u32 (0 : Int)]⟩), (49, ⟨.struct [(0, 4), (1, 4), (2, 4), (3, 3), (4, 3), (5, 3)], 6, 32, some (.pair (.bool) (.pair (.bool) (.pair (.bool) (.pair (.int .i64) (.pair (.int .i64) (.int .i64)))))), [.bool false, .bool false, .bool false, .int .i64 (0 : Int), .int .i64 (0 : Int), .int .i64 (0 : Int)]⟩), (57, ⟨.struct [(0, 24), (2, 55), (6, 4)], 7, 104, some (.pair (.pair (.int .i64) (.sl (.int .u32))) (.pair (.pair (.sl (.int .i64)) (.pair (.sl (.int .i64)) (.pair (.int .i64) (.int .i64)))) (.bool))), [.int .i64 (0 : Int), .nil, .nil, .nil, .int .i64 (0 : Int), .int .i64 (0 : Int), .bool false]⟩)], G := findE [mkP 14 Ks_keep_sound Rk_keep_sound (D_keep_sound _N), mkP 15 Ks_keep_refused Rk_keep_refused (D_keep_refused _N), mkQ 28 Ks_downs_Birkhoff Rk_downs_Birkhoff (D_downs_Birkhoff _N), mkP 29 Ks_lattice_Kind Rk_lattice_Kind (D_lattice_Kind _N), mkQ 30 Ks_lattice_Irreducible Rk_lattice_Irreducible (D_lattice_Irreducible _N), mkQ 31 Ks_keep_open Rk_keep_open (D_keep_open _N), mkP 18 Ks_keep_within Rk_keep_within (D_keep_within _N), mkQ 24 Ks_keep_part Rk_keep_part (D_keep_part _N), mkP 22 Ks_downs_Count Rk_downs_Count (D_downs_Count _N), mkP 32 Ks_keep_board_and Rk_keep_board_and (D_keep_board_and _N), mkP 33 Ks_keep_board_or Rk_keep_board_or (D_keep_board_or _N)], I := findI [], N := _N, n := 158, fx := [], fl := 0, gs := Gs }
noncomputable def keep_DownsBirkhoff_1 (_N : Nat) (_v74 : List Int) (_v75 : Bool) (_v76 : Int) (_v77 : List Int) (_v78 : Bool) : Option Rt_keep_DownsBirkhoff :=
  ((D_keep_part _N ((_v76, _v77), _v74, ())).bind fun _y100 => ((D_downs_Count _N ((_y100.1.1, _y100.1.2), ())).bind fun _y101 => (bif (_y101.2.1 == (0 : Int)) then (bif (decide (_y101.1 ≥ _v76)) then (bif (_v78 == _v75) then (some ((_v78 == (_y101.1 == _v76)), ())) else (some (false, ()))) else (some (false, ()))) else (some (false, ())))))
noncomputable def keep_DownsBirkhoff_2 (_N : Nat) (_kn103 : (List Int × List Int × Int × List Int × Bool × Bool × Bool × Int × Int × Int × Int × List Int × List Int × List Int × Int × Int × Bool) × (Bool × Int) → Option Rt_keep_DownsBirkhoff) (_v51 : List Int) (_v52 : List Int) (_v53 : Bool) (_v54 : Int) (_v55 : Int) (_v56 : List Int) (_v57 : Bool) (_v58 : Bool) (_v59 : Bool) (_v60 : Int) (_v61 : Int) (_v62 : Int) (_v63 : Int) (_v64 : List Int) (_v65 : List Int) (_v66 : List Int) (_v67 : Int) (_v68 : Int) (_v69 : Bool) : Option Rt_keep_DownsBirkhoff :=
  (_kn103 ((_v51, _v52, _v55, _v56, _v57, _v58, _v59, _v60, _v61, _v62, _v63, _v64, _v65, _v66, _v67, _v68, _v69), (_v53, (IntKind.i64.wrap (_v54 + (1 : Int))))))
noncomputable def keep_DownsBirkhoff_3 (_N : Nat) (_k104 : (List Int × List Int × Bool × Int × Int × List Int × Bool × Bool × Bool × Int × Int × Int × Int × List Int × List Int × List Int × Int × Int × Bool) → Option Rt_keep_DownsBirkhoff) (_v27 : List Int) (_v28 : List Int) (_v30 : Int) (_v32 : Int) (_v33 : List Int) (_v34 : Bool) (_v35 : Bool) (_v36 : Bool) (_v37 : Int) (_v38 : Int) (_v39 : Int) (_v40 : Int) (_v41 : List Int) (_v42 : List Int) (_v43 : List Int) (_v44 : Int) (_v45 : Int) (_v46 : Bool) (_v29 : Bool) (_v31 : Int) (_kn105 : (List Int × List Int × Int × Int × List Int × Bool × Bool × Bool × Int × Int × Int × Int × List Int × List Int × List Int × Int × Int × Bool) × (Bool × Int) → Option Rt_keep_DownsBirkhoff) : Option Rt_keep_DownsBirkhoff :=
  (bif (decide (_v31 < _v32)) then ((D_keep_board_and _N (((_v40, _v41), ((_v42, (_v43, (_v44, _v45))), _v46)), _v30, _v31, ())).bind fun _y106 => (bif (decide (0 ≤ _y106.1) && decide (_y106.1 < (_v27.length : Int))) then (bif (decide (0 ≤ _v30) && decide (_v30 < (_v27.length : Int))) then (bif (decide (0 ≤ _v31) && decide (_v31 < (_v27.length : Int))) then (bif ((nth (0 : Int) _v27 (_y106.1).toNat) != (iand .u32 (nth (0 : Int) _v27 (_v30).toNat) (nth (0 : Int) _v27 (_v31).toNat))) then (some (false, ())) else ((D_keep_board_or _N (((_v40, _v41), ((_v42, (_v43, (_v44, _v45))), _v46)), _v30, _v31, ())).bind fun _y107 => (bif (decide (0 ≤ _y107.1) && decide (_y107.1 < (_v27.length : Int))) then (bif (decide (0 ≤ _v30) && decide (_v30 < (_v27.length : Int))) then (bif (decide (0 ≤ _v31) && decide (_v31 < (_v27.length : Int))) then (bif ((nth (0 : Int) _v27 (_y107.1).toNat) != (ior .u32 (nth (0 : Int) _v27 (_v30).toNat) (nth (0 : Int) _v27 (_v31).toNat))) then (_kn105 ((_v27, _v28, _v30, _v32, _v33, _v34, _v35, _v36, _v37, _v38, _v39, _v40, _v41, _v42, _v43, _v44, _v45, _v46), (false, (IntKind.i64.wrap (_v31 + (1 : Int)))))) else (_kn105 ((_v27, _v28, _v30, _v32, _v33, _v34, _v35, _v36, _v37, _v38, _v39, _v40, _v41, _v42, _v43, _v44, _v45, _v46), (_v29, (IntKind.i64.wrap (_v31 + (1 : Int))))))) else none) else none) else none))) else none) else none) else none)) else (_k104 (_v27, _v28, _v29, _v30, _v32, _v33, _v34, _v35, _v36, _v37, _v38, _v39, _v40, _v41, _v42, _v43, _v44, _v45, _v46)))
noncomputable def keep_DownsBirkhoff_4 (_N : Nat) (_k102 : (List Int × Bool × Int × List Int × Bool × Bool × Bool × Int × Int × Int × Int × List Int × List Int × List Int × Int × Int × Bool) → Option Rt_keep_DownsBirkhoff) (_v8 : List Int) (_v9 : List Int) (_v12 : Int) (_v13 : List Int) (_v14 : Bool) (_v15 : Bool) (_v16 : Bool) (_v17 : Int) (_v18 : Int) (_v19 : Int) (_v20 : Int) (_v21 : List Int) (_v22 : List Int) (_v23 : List Int) (_v24 : Int) (_v25 : Int) (_v26 : Bool) (_v10 : Bool) (_v11 : Int) (_kn103 : (List Int × List Int × Int × List Int × Bool × Bool × Bool × Int × Int × Int × Int × List Int × List Int × List Int × Int × Int × Bool) × (Bool × Int) → Option Rt_keep_DownsBirkhoff) : Option Rt_keep_DownsBirkhoff :=
  (bif (decide (_v11 < _v12)) then (joinD (fun (_s : List Int × List Int × Bool × Int × Int × List Int × Bool × Bool × Bool × Int × Int × Int × Int × List Int × List Int × List Int × Int × Int × Bool) => keep_DownsBirkhoff_2 _N _kn103 _s.1 _s.2.1 _s.2.2.1 _s.2.2.2.1 _s.2.2.2.2.1 _s.2.2.2.2.2.1 _s.2.2.2.2.2.2.1 _s.2.2.2.2.2.2.2.1 _s.2.2.2.2.2.2.2.2.1 _s.2.2.2.2.2.2.2.2.2.1 _s.2.2.2.2.2.2.2.2.2.2.1 _s.2.2.2.2.2.2.2.2.2.2.2.1 _s.2.2.2.2.2.2.2.2.2.2.2.2.1 _s.2.2.2.2.2.2.2.2.2.2.2.2.2.1 _s.2.2.2.2.2.2.2.2.2.2.2.2.2.2.1 _s.2.2.2.2.2.2.2.2.2.2.2.2.2.2.2.1 _s.2.2.2.2.2.2.2.2.2.2.2.2.2.2.2.2.1 _s.2.2.2.2.2.2.2.2.2.2.2.2.2.2.2.2.2.1 _s.2.2.2.2.2.2.2.2.2.2.2.2.2.2.2.2.2.2) fun _k104 => (loopE (fun (_c : List Int × List Int × Int × Int × List Int × Bool × Bool × Bool × Int × Int × Int × Int × List Int × List Int × List Int × Int × Int × Bool) (_s : Bool × Int) _kn => keep_DownsBirkhoff_3 _N _k104 _c.1 _c.2.1 _c.2.2.1 _c.2.2.2.1 _c.2.2.2.2.1 _c.2.2.2.2.2.1 _c.2.2.2.2.2.2.1 _c.2.2.2.2.2.2.2.1 _c.2.2.2.2.2.2.2.2.1 _c.2.2.2.2.2.2.2.2.2.1 _c.2.2.2.2.2.2.2.2.2.2.1 _c.2.2.2.2.2.2.2.2.2.2.2.1 _c.2.2.2.2.2.2.2.2.2.2.2.2.1 _c.2.2.2.2.2.2.2.2.2.2.2.2.2.1 _c.2.2.2.2.2.2.2.2.2.2.2.2.2.2.1 _c.2.2.2.2.2.2.2.2.2.2.2.2.2.2.2.1 _c.2.2.2.2.2.2.2.2.2.2.2.2.2.2.2.2.1 _c.2.2.2.2.2.2.2.2.2.2.2.2.2.2.2.2.2 _s.1 _s.2 _kn) _N (_v8, _v9, _v11, _v12, _v13, _v14, _v15, _v16, _v17, _v18, _v19, _v20, _v21, _v22, _v23, _v24, _v25, _v26) (_v10, (0 : Int)))) else (_k102 (_v9, _v10, _v12, _v13, _v14, _v15, _v16, _v17, _v18, _v19, _v20, _v21, _v22, _v23, _v24, _v25, _v26)))
noncomputable def keep_DownsBirkhoff_5 (_N : Nat) (_x1 : Int × List Int) : Option Rt_keep_DownsBirkhoff :=
  ((D_keep_sound _N ((_x1.1, _x1.2), ())).bind fun _y93 => (bif (!_y93.1) then ((D_keep_refused _N ((_x1.1, _x1.2), ())).bind fun _y94 => (some (_y94.1, ()))) else ((D_downs_Birkhoff _N ((_x1.1, _x1.2), ())).bind fun _y95 => ((D_lattice_Kind _N ((_x1.1, _x1.2), ())).bind fun _y96 => ((D_lattice_Irreducible _N ((_x1.1, _x1.2), ())).bind fun _y97 => ((D_keep_open _N ((_x1.1, _x1.2), ())).bind fun _y98 => (bif _y98.1.2.2 then (some (false, ())) else (bif (_y95.2.1 != (0 : Int)) then (bif (_y95.2.1 == _y96.2.1) then (bif (_y95.2.1 == _y97.2.2.1) then (some ((!_y98.2.1), ())) else (some (false, ()))) else (some (false, ()))) else (bif (_y96.2.1 != (0 : Int)) then (bif (_y95.2.1 == _y96.2.1) then (bif (_y95.2.1 == _y97.2.2.1) then (some ((!_y98.2.1), ())) else (some (false, ()))) else (some (false, ()))) else (bif (_y97.2.2.1 != (0 : Int)) then (bif (_y95.2.1 == _y96.2.1) then (bif (_y95.2.1 == _y97.2.2.1) then (some ((!_y98.2.1), ())) else (some (false, ()))) else (some (false, ()))) else (bif (!_y98.2.1) then (bif (_y95.2.1 == _y96.2.1) then (bif (_y95.2.1 == _y97.2.2.1) then (some ((!_y98.2.1), ())) else (some (false, ()))) else (some (false, ()))) else (bif ((_y95.1.length : Int) != _x1.1) then (some (false, ())) else ((D_keep_within _N (_x1.1, _y97.1, ())).bind fun _y99 => (bif (!_y99.1) then (some (false, ())) else (joinD (fun (_s : List Int × Bool × Int × List Int × Bool × Bool × Bool × Int × Int × Int × Int × List Int × List Int × List Int × Int × Int × Bool) => keep_DownsBirkhoff_1 _N _s.1 _s.2.1 _s.2.2.1 _s.2.2.2.1 _s.2.2.2.2.1) fun _k102 => (loopE (fun (_c : List Int × List Int × Int × List Int × Bool × Bool × Bool × Int × Int × Int × Int × List Int × List Int × List Int × Int × Int × Bool) (_s : Bool × Int) _kn => keep_DownsBirkhoff_4 _N _k102 _c.1 _c.2.1 _c.2.2.1 _c.2.2.2.1 _c.2.2.2.2.1 _c.2.2.2.2.2.1 _c.2.2.2.2.2.2.1 _c.2.2.2.2.2.2.2.1 _c.2.2.2.2.2.2.2.2.1 _c.2.2.2.2.2.2.2.2.2.1 _c.2.2.2.2.2.2.2.2.2.2.1 _c.2.2.2.2.2.2.2.2.2.2.2.1 _c.2.2.2.2.2.2.2.2.2.2.2.2.1 _c.2.2.2.2.2.2.2.2.2.2.2.2.2.1 _c.2.2.2.2.2.2.2.2.2.2.2.2.2.2.1 _c.2.2.2.2.2.2.2.2.2.2.2.2.2.2.2.1 _c.2.2.2.2.2.2.2.2.2.2.2.2.2.2.2.2 _s.1 _s.2 _kn) _N (_y95.1, _y97.1, _x1.1, _x1.2, _y96.1.1, _y96.1.2.1, _y96.1.2.2.1, _y96.1.2.2.2.1, _y96.1.2.2.2.2.1, _y96.1.2.2.2.2.2, _y98.1.1.1, _y98.1.1.2, _y98.1.2.1.1, _y98.1.2.1.2.1, _y98.1.2.1.2.2.1, _y98.1.2.1.2.2.2, _y98.1.2.2) (true, (0 : Int))))))))))))))))))
noncomputable def D_keep_DownsBirkhoff (_N : Nat) (_x : Dens Ks_keep_DownsBirkhoff) : Option Rt_keep_DownsBirkhoff := keep_DownsBirkhoff_5 _N _x.1
theorem sp_keep_DownsBirkhoff (_N : Nat) : SpecD Tryd.prog Gs 7 Ks_keep_DownsBirkhoff Rk_keep_DownsBirkhoff (D_keep_DownsBirkhoff _N) := mkSpD (fn := Tryd.f7) (c := bodyOf Tryd.f7) (C := C_keep_DownsBirkhoff _N)
    (a := .two .none (.two .none (.two .none (.two .none (.two .none (.two .none (.two .none (.two .none (.two .none (.two .none (.join 3 ⟨[(1, .ptr 0 0), (5, .ptr 1 0), (7, .sl (.int .i64)), (12, .bool)], [.cells [.int .i64, .sl (.int .u32)], .cells [.bool, .bool, .bool, .int .i64, .int .i64, .int .i64], .cells [.int .i64, .sl (.int .u32), .sl (.int .i64), .sl (.int .i64), .int .i64, .int .i64, .bool]]⟩ (.two .none (.one (.loop 3 ⟨[(1, .ptr 0 0), (3, .sl (.int .u32)), (5, .ptr 1 0), (7, .sl (.int .i64)), (10, .ptr 2 0), (12, .bool), (13, .int .i64)], [.cells [.int .i64, .sl (.int .u32)], .cells [.bool, .bool, .bool, .int .i64, .int .i64, .int .i64], .cells [.int .i64, .sl (.int .u32), .sl (.int .i64), .sl (.int .i64), .int .i64, .int .i64, .bool]]⟩ [2, 3] (.two .none (.join 3 ⟨[(1, .ptr 0 0), (3, .sl (.int .u32)), (5, .ptr 1 0), (7, .sl (.int .i64)), (10, .ptr 2 0), (12, .bool), (13, .int .i64)], [.cells [.int .i64, .sl (.int .u32)], .cells [.bool, .bool, .bool, .int .i64, .int .i64, .int .i64], .cells [.int .i64, .sl (.int .u32), .sl (.int .i64), .sl (.int .i64), .int .i64, .int .i64, .bool]]⟩ (.one (.two .none (.one (.loop 3 ⟨[(1, .ptr 0 0), (3, .sl (.int .u32)), (5, .ptr 1 0), (7, .sl (.int .i64)), (10, .ptr 2 0), (12, .bool), (13, .int .i64), (14, .int .i64)], [.cells [.int .i64, .sl (.int .u32)], .cells [.bool, .bool, .bool, .int .i64, .int .i64, .int .i64], .cells [.int .i64, .sl (.int .u32), .sl (.int .i64), .sl (.int .i64), .int .i64, .int .i64, .bool]]⟩ [2, 4] (.two .none (.two (.one (.two (.two (.draw 0 [.pure, .rd [2], .pure, .pure, .pure, .pure, .pure, .pure, .pure, .pure, .pure, .pure, .pure, .pure, .pure, .pure, .pure]) .none) (.two (.draw 0 [.pure, .rd [2], .pure, .pure, .pure, .pure, .pure, .pure, .pure, .pure, .pure, .pure, .pure, .pure, .pure, .pure, .pure]) .none))) .none)))))) .none))))) .none)))))))))))
    (by kernel_rfl) rfl (by kernel_rfl) (by kernel_rfl) ⟨rfl, by unfold TOk; kernel_rfl, gOk_of rfl rfl (List.forall_mem_cons.2 ⟨en_keep_sound _N, (List.forall_mem_cons.2 ⟨en_keep_refused _N, (List.forall_mem_cons.2 ⟨qen_downs_Birkhoff _N, (List.forall_mem_cons.2 ⟨en_lattice_Kind _N, (List.forall_mem_cons.2 ⟨qen_lattice_Irreducible _N, (List.forall_mem_cons.2 ⟨qen_keep_open _N, (List.forall_mem_cons.2 ⟨en_keep_within _N, (List.forall_mem_cons.2 ⟨qen_keep_part _N, (List.forall_mem_cons.2 ⟨en_downs_Count _N, (List.forall_mem_cons.2 ⟨en_keep_board_and _N, (List.forall_mem_cons.2 ⟨en_keep_board_or _N, (List.forall_mem_nil _)⟩)⟩)⟩)⟩)⟩)⟩)⟩)⟩)⟩)⟩)⟩), iOk_of rfl rfl (List.forall_mem_nil _), rfl⟩ (fun _x => by kernel_rfl)
theorem en_keep_DownsBirkhoff (_N : Nat) : EntOk Tryd.prog Gs (mkP 7 Ks_keep_DownsBirkhoff Rk_keep_DownsBirkhoff (D_keep_DownsBirkhoff _N)) := entP ⟨Tryd.f7, bodyOf Tryd.f7, by kernel_rfl, by kernel_rfl, rfl⟩ (by kernel_rfl) (sp_keep_DownsBirkhoff _N)
theorem law_DownsBirkhoff (o : Int × List Int) (wo : wfS (.pair (.int .i64) (.sl (.int .u32))) o) : ∃ N, D_keep_DownsBirkhoff N (o, ()) = some (true, ()) := by
  obtain ⟨n, up⟩ := o
  have hw : WL up := WL_of wo.2
  refine ⟨1000, ?_⟩
  simp only [D_keep_DownsBirkhoff, keep_DownsBirkhoff_5]
  obtain ⟨s, s1, s2⟩ := sound_eq (N := 1000) (by omega) hw n
  by_cases ho : Ord n up
  case neg =>
    obtain ⟨r, r1, r2⟩ := refused_eq (N := 1000) (by omega) hw n
    obtain rfl := r2.2 ho
    obtain rfl : s = false := Bool.eq_false_iff.2 fun h => ho (s2.1 h)
    simp only [s1, r1, Option.bind_some, Bool.not_false, cond_true]
  obtain rfl := s2.2 ho
  rcases open_spec (N := 1000) (Nat.le_refl _) hw n with ⟨e, he, h0, h2, h1⟩ | ⟨m, J, M, b, t, rfl, hm, hlu, -, hL, h0, h1⟩
  · obtain ⟨b1, b2⟩ := Birk_err he h0
    simp only [s1, b1, b2, Kind_err he h0, h1, Option.bind_some, Bool.not_true, cond_false, show (e != 0) = true from bne_iff_ne.2 he, cond_true, beq_self_eq_true, Bool.not_false]
  have hwd := WL.colsS up (m : Int) up.length
  have hod := ho.dual
  obtain ⟨di, mo, co, A, B, C, hK, k1, -, -⟩ := Kind_spec (N := 1000) (Nat.le_refl _) hw ho hL h0
  obtain ⟨L, l1, l2, l3, l4⟩ := Birk_eq (N := 1000) (Nat.le_refl _) hw ho (r := (_, 0, ())) h0
  have hll := low_len (up := up) (m := m)
  have hlt : ∀ x ∈ lowL up m, x < m := fun x hx => low_lt hx
  obtain ⟨w, w1', w2⟩ := part_eq (N := 1000) (Nat.le_refl _) hm hw hlu (l := lowL up m) (by omega) hlt
  have hwo := low_ord hm ho w2
  obtain ⟨wi, p1, p2⟩ := within_eq (N := 1000) (n := (m : Int)) (xs := ((lowL up m).map fun (i : Nat) => (i : Int))) (by simp; omega) (by simp; omega)
  obtain rfl := p2.2 fun x hx => by
    obtain ⟨i, hi, rfl⟩ := List.mem_map.1 hx
    have := hlt i hi
    omega
  have hcnt := Count_eq (show (lowL up m).length ≤ 16 by omega) w2.wl hwo (N := 1000) (by omega)
  have hl := hL.lat
  simp only [Int.toNat_natCast] at hl
  have hjd := joins_dist hm ho hl
  have hjc := joins_count hm ho hl w2
  have hge := below_count hm ho hl w2
  have hirr : D_lattice_Irreducible 1000 (((m : Int), up), ()) = some (((lowL up m).map fun (i : Nat) => (i : Int)), (irrL up m).map (fun (i : Nat) => (i : Int)), 0, ()) := by
    simp only [D_lattice_Irreducible, lattice_Irreducible_1, h0, Dual_eq (N := 1000) (by omega) hw ho, IrrC_eq (N := 1000) (Nat.le_refl _) hw ho, IrrC_eq (N := 1000) (Nat.le_refl _) hwd hod, Option.bind_some, Option.map_some, bne_self_eq_false, cond_false]
    rfl
  simp only [s1, l1, hK, hirr, h1, p1, l2, Option.bind_some, Bool.not_true, cond_false, bne_self_eq_false, joinD, loopE]
  have hpj : (∀ x y, x < m → y < m → nth 0 L (jo m J x y) = ior .u32 (nth 0 L x) (nth 0 L y)) ↔ Joins up m (jo m J) := by
    constructor
    · intro h x y hx hy i hi hle
      have := (l4 _ (hl.jlt x y hx hy) i).2 ⟨hi, hle⟩
      rw [h x y hx hy, bt_ior (l3.nth x) (l3.nth y), Bool.or_eq_true, l4 x hx, l4 y hy] at this
      exact this.imp (fun h => h.2) (fun h => h.2)
    · intro h x y hx hy
      refine bt_ext (l3.nth _) W32.ior fun i _ => ?_
      have j1 := (hl.jle x y _ hx hy (hl.jlt x y hx hy)).1 (hl.refl _ (hl.jlt x y hx hy))
      rw [Bool.eq_iff_iff, bt_ior (l3.nth x) (l3.nth y), Bool.or_eq_true, l4 x hx, l4 y hy, l4 _ (hl.jlt x y hx hy)]
      constructor
      · rintro ⟨hi, hle⟩
        exact (h x y hx hy i hi hle).imp (fun h => ⟨hi, h⟩) (fun h => ⟨hi, h⟩)
      · rintro (⟨hi, hle⟩ | ⟨hi, hle⟩)
        · exact ⟨hi, hl.trans _ _ _ (low_lt hi) hx (hl.jlt x y hx hy) hle j1.1⟩
        · exact ⟨hi, hl.trans _ _ _ (low_lt hi) hy (hl.jlt x y hx hy) hle j1.2⟩
  have hand : ∀ x y, x < m → y < m → nth 0 L (jo m M x y) = iand .u32 (nth 0 L x) (nth 0 L y) := fun x y hx hy => by
    refine bt_ext (l3.nth _) W32.iand fun i _ => ?_
    rw [Bool.eq_iff_iff, bt_iand (l3.nth x) (l3.nth y), Bool.and_eq_true, l4 x hx, l4 y hy, l4 _ (hl.klt x y hx hy)]
    constructor
    · rintro ⟨hi, hle⟩
      have := (hl.kle x y i hx hy (low_lt hi)).1 hle
      exact ⟨⟨hi, this.1⟩, hi, this.2⟩
    · rintro ⟨⟨hi, h3⟩, -, h4⟩
      exact ⟨hi, (hl.kle x y i hx hy (low_lt hi)).2 ⟨h3, h4⟩⟩
  have hin : ∀ (v : Bool) (a : Nat), a < m → ∀ k, loopD (fun (s : Bool × Int) kn => keep_DownsBirkhoff_3 1000 k L ((lowL up m).map fun (i : Nat) => (i : Int)) (a : Int) (m : Int) up di mo co A B C (m : Int) up J M (b : Int) (t : Int) false s.1 s.2 (backE (L, ((lowL up m).map fun (i : Nat) => (i : Int)), (a : Int), (m : Int), up, di, mo, co, A, B, C, (m : Int), up, J, M, (b : Int), (t : Int), false) kn)) 1000 (v, 0) =
      k (L, ((lowL up m).map fun (i : Nat) => (i : Int)), (v && decide (∀ c, c < m → nth 0 L (jo m J a c) = ior .u32 (nth 0 L a) (nth 0 L c))), (a : Int), (m : Int), up, di, mo, co, A, B, C, (m : Int), up, J, M, (b : Int), (t : Int), false) := fun v a ha k => by
    have key := loopD_inv (N := 1000) (g := fun (s : Bool × Int) kn => keep_DownsBirkhoff_3 1000 k L ((lowL up m).map fun (i : Nat) => (i : Int)) (a : Int) (m : Int) up di mo co A B C (m : Int) up J M (b : Int) (t : Int) false s.1 s.2 (backE (L, ((lowL up m).map fun (i : Nat) => (i : Int)), (a : Int), (m : Int), up, di, mo, co, A, B, C, (m : Int), up, J, M, (b : Int), (t : Int), false) kn)) (k := fun s => k (L, ((lowL up m).map fun (i : Nat) => (i : Int)), s.1, (a : Int), (m : Int), up, di, mo, co, A, B, C, (m : Int), up, J, M, (b : Int), (t : Int), false)) (s := (v, 0)) m
      (fun i s => s.2 = (i : Int) ∧ (s.1 = true ↔ v = true ∧ ∀ c, c < i → nth 0 L (jo m J a c) = ior .u32 (nth 0 L a) (nth 0 L c))) ?_ ?_ (by omega) ⟨rfl, fun h => ⟨h, fun _ h => absurd h (Nat.not_lt_zero _)⟩, fun h => h.1⟩
    · obtain ⟨⟨f, s⟩, ⟨hs, h1⟩, h2⟩ := key
      rw [h2]
      simp only at h1
      rw [show f = (v && decide (∀ c, c < m → nth 0 L (jo m J a c) = ior .u32 (nth 0 L a) (nth 0 L c))) from by rw [Bool.eq_iff_iff, Bool.and_eq_true, decide_eq_true_eq]; exact h1]
    · rintro c ⟨f, s⟩ hc ⟨hs, hI⟩
      simp only at hs hI
      subst hs
      have hj := hl.jlt a c ha hc
      have hk := hl.klt a c ha hc
      have hsucc : ∀ f' : Bool, (f' = true ↔ f = true ∧ nth 0 L (jo m J a c) = ior .u32 (nth 0 L a) (nth 0 L c)) → (f' = true ↔ v = true ∧ ∀ c', c' < c + 1 → nth 0 L (jo m J a c') = ior .u32 (nth 0 L a) (nth 0 L c')) := fun f' hf => by
        rw [hf, hI]
        constructor
        · rintro ⟨⟨h1, h2⟩, h3⟩
          refine ⟨h1, fun c' hc' => ?_⟩
          by_cases e : c' = c
          · subst e; exact h3
          · exact h2 c' (by omega)
        · exact fun ⟨h1, h2⟩ => ⟨⟨h1, fun c' hc' => h2 c' (by omega)⟩, h2 c (by omega)⟩
      by_cases q : nth 0 L (jo m J a c) = ior .u32 (nth 0 L a) (nth 0 L c)
      · refine ⟨(f, (c : Int) + 1), ⟨rfl, hsucc f ⟨fun h => ⟨h, q⟩, fun h => h.1⟩⟩, fun kn => ?_⟩
        simp only [keep_DownsBirkhoff_3, lt_d hc, cond_true, and_eq hL hm false a c ha hc, or_eq hL hm false a c ha hc, Option.bind_some, ge0_d, l2, lt_d hj, lt_d hk, lt_d ha, Bool.and_self, Int.toNat_natCast, hand a c ha hc, bne_self_eq_false, cond_false, q, w1 hm hc, backE_eq]
      · refine ⟨(false, (c : Int) + 1), ⟨rfl, hsucc false ⟨fun h => Bool.noConfusion h, fun h => absurd h.2 q⟩⟩, fun kn => ?_⟩
        simp only [keep_DownsBirkhoff_3, lt_d hc, cond_true, and_eq hL hm false a c ha hc, or_eq hL hm false a c ha hc, Option.bind_some, ge0_d, l2, lt_d hj, lt_d hk, lt_d ha, Bool.and_self, Int.toNat_natCast, hand a c ha hc, bne_self_eq_false, cond_false, show (nth 0 L (jo m J a c) != ior .u32 (nth 0 L a) (nth 0 L c)) = true from bne_iff_ne.2 q, w1 hm hc, backE_eq]
    · rintro ⟨f, s⟩ ⟨hs, -⟩ kn
      simp only at hs
      subst hs
      simp only [keep_DownsBirkhoff_3, lt_self, cond_false]
  refine loopD_to (N := 1000) m (fun i s => s.2 = (i : Int) ∧ (s.1 = true ↔ ∀ a, a < i → ∀ c, c < m → nth 0 L (jo m J a c) = ior .u32 (nth 0 L a) (nth 0 L c))) ?_ ?_ (by omega) ⟨rfl, fun _ a h => absurd h (Nat.not_lt_zero _), fun _ => rfl⟩
  · rintro a ⟨v, s⟩ ha ⟨hs, hI⟩
    simp only at hs hI
    subst hs
    refine ⟨(v && decide (∀ c, c < m → nth 0 L (jo m J a c) = ior .u32 (nth 0 L a) (nth 0 L c)), (a : Int) + 1), ⟨rfl, ?_⟩, fun kn => ?_⟩
    · simp only
      rw [Bool.and_eq_true, hI, decide_eq_true_eq]
      constructor
      · rintro ⟨e1, e2⟩ a' h'
        by_cases e : a' = a
        · subst e; exact e2
        · exact e1 a' (by omega)
      · exact fun e => ⟨fun a' h' => e a' (by omega), e a (by omega)⟩
    · simp only [keep_DownsBirkhoff_4, joinD, loopE, lt_d ha, cond_true]
      rw [hin v a ha]
      simp only [keep_DownsBirkhoff_2, w1 hm ha, backE_eq]
  · rintro ⟨v, s⟩ ⟨hs, hv⟩ kn
    simp only at hs hv
    subst hs
    have hvd : (v = true ↔ di = true) := by
      rw [hv, k1, ← hjd, ← hpj]
      exact ⟨fun h x y hx hy => h x hx y hy, fun h x hx y hy => h x y hx hy⟩
    have hvn : (v = true ↔ (downs w (lowL up m).length).length = m) := by
      rw [hvd, k1, ← hjd, hjc]
    obtain rfl : v = di := Bool.eq_iff_iff.2 hvd
    simp only [keep_DownsBirkhoff_4, lt_self, cond_false, keep_DownsBirkhoff_1, w1', hcnt, Option.bind_some, beq_self_eq_true, cond_true, d_true (show (((downs w (lowL up m).length).length : Nat) : Int) ≥ (m : Int) by omega)]
    rw [show ((((downs w (lowL up m).length).length : Nat) : Int) == (m : Int)) = v from by
      rw [Bool.eq_iff_iff, hvn, beq_iff_eq]; omega]
    simp
set_option maxRecDepth 100000 in
theorem lifted_DownsBirkhoff (os : Os) (started : os.Started) (H : Type) (enc : TypeId × Value → H) :
    ReturnsInHanded {} Tryd.checked os 7 .any (fun w args => (Rows.downsBirkhoffSpec.pre enc Tryd.prog Tryd.f7 [] false w args ∧ laidMetH Tryd.prog Rows.downsBirkhoffRow.laid w) ∧ sizedMet enc Tryd.prog Tryd.f7 (OpenSpec.ofChange Rows.downsBirkhoffSpec) false w args) (Rows.downsBirkhoffSpec.post enc Tryd.prog Tryd.f7 false true false false) := by
  refine returnsInHanded_of_change_and (C := Tryd.checked) (X := fun w _ => laidMetH Tryd.prog Rows.downsBirkhoffRow.laid w) (fun _ _ _ hh h => h.of_heap hh) own started (by kernel_rfl) Tryd.func7
    (ChangeSpec.witness_shaped (enc := enc) (C := Tryd.checked) (os := os) (X := fun w _ => laidMetH Tryd.prog Rows.downsBirkhoffRow.laid w) false (World.doorLaid Tryd.prog 400 os) #[.agg #[.int .i64 0, .slice none 0 0]] 8 rfl (World.shaped_of_RefB (by kernel_rfl) (by kernel_rfl)) (by kernel_rfl) (by kernel_rfl) (by kernel_rfl) (door_met os _)) ?_
  intro W base args ds gs before hval0 hW _ hsz0 hL _
  have hgw : GW Gs W := gw_of hL
  have hval : ∀ (j : Nat) t v, Tryd.f7.params[j]? = some t → args[j]? = some v → Value.okWide Tryd.prog W .any base t v := hval0
  have hW' := hW
  obtain ⟨p, q, hA0, hV, rfl, _, _⟩ := hW
  have hA : DataW.TrodAll enc Tryd.prog W 0 (fun _ => true) true Tryd.f7.params.toList args.toList ds p := hA0
  rw [Tryd.params7] at hA hval
  obtain ⟨v0, vs0, d0, ds0, p0, q0, hargs, rfl, rfl, h0, r0⟩ := trodAll_cons hA
  obtain ⟨rfl, rfl, rfl⟩ := trodAll_nil r0
  obtain rfl : args = #[v0] := by cases args; simp_all
  obtain ⟨rfl, rfl⟩ := trodVars_none hV
  clear hA0 hval0 hsz0
  simp only [List.append_nil] at hW'
  have hlt0 : ∀ x ∈ p0, x.block < W.heap.size := fun x hx => hW'.lt x (by simp [hx])
  obtain ⟨x0, g0, w0⟩ := open_kd (k := .dat (.pair (.int .i64) (.sl (.int .u32)))) (by kernel_rfl) (hval 0 24 v0 rfl rfl) h0
  obtain ⟨N, hN⟩ := law_DownsBirkhoff x0 w0
  refine (sp_keep_DownsBirkhoff N (fun _ => False) W (x0, ()) (true, ()) [v0] (fun _ h => h.elim) hgw ⟨v0, _, rfl, g0, rfl⟩ hN).mono ?_
  rintro e W' ⟨v, rfl, hg, hr⟩
  have hr : v = .bool true := by simpa only [kvals, retV, Kd.val, Go.Abs.enc, RV] using hr
  subst hr
  exact ⟨_, rfl, _, _, _, [], p0 ++ [], [], hW', (trodAll_cons_mk (shut_bool (show Tryd.prog.underlying 4 = some .bool by kernel_rfl) _) trodAll_mk0), (trodAll_cons_mk (Below.trod laidOut (by kernel_rfl) (of_decide_eq_true (by kernel_rfl)) h0 hg hlt0) trodAll_mk0), rfl, hg.frame _, fun h => by cases h⟩

/-- The statement: whatever the arguments, the law's function returns true and leaves them as they were. -/
theorem downsBirkhoff_holds : Rows.DownsBirkhoffSaid :=
  OpenClaim.holds_of_wide 7 Tryd.f7 rfl rfl rfl rfl rfl rfl rfl ⟨rfl, rfl, rfl, rfl, rfl⟩ rfl rfl rfl rfl rfl (by kernel_rfl) Tryd.func7 (by kernel_rfl)
    (of_decide_eq_true (by kernel_rfl)) (by unfold Func.isWrapper; first | (rw [if_pos (by decide +kernel)]; kernel_rfl) | (rw [if_neg (by decide +kernel)]; exact ⟨rfl, rfl⟩))
    (fun os started H enc _ => lifted_DownsBirkhoff os started H enc)
/-- The statement's card: the variable that the road reads is tied to the program's text. -/
theorem downsBirkhoff_card : Rows.DownsBirkhoffCardSaid :=
  Claim7.holds_tied_plain_at .later [] [.data] true (true, "b73b6f32d8bacf79b109d1a869f14eaafeec458d4d840f7ceaa2738719a4935f") false downsBirkhoff_holds (fun _ h => by cases h) (by kernel_rfl) (fun _ h => by cases h) downsBirkhoff_row_tie rfl ⟨rfl, rfl⟩ (by kernel_rfl) rfl
    (fun f fn hf hfn => by
      obtain rfl : f = 7 := Option.some.inj ((show Tryd.prog.funcNamed "watershed/watershedkeep.DownsBirkhoff" = some 7 by kernel_rfl).symm.trans hf) |>.symm
      obtain rfl : fn = Tryd.f7 := (Option.some.inj (Tryd.func7.symm.trans hfn)).symm
      exact ⟨by kernel_rfl, fun j t ht => by
        have h3 := List.all_eq_true.1 (show (Tryd.f7.params.toList.all fun t => !(Tryd.prog.wantsStandIn t)) = true by kernel_rfl) t (by rw [← Array.getElem?_toList] at ht; exact List.mem_of_getElem? ht)
        have h4 : Tryd.prog.wantsStandIn t = false := by simpa using h3
        exact h4⟩)
    (by kernel_rfl)
end Go.Proofs.YtagghgmpdjoknaaDoor
