/- LabelsJoins. No condition. -/
import Derived.Test.YtgnhcmdmlcjpkaaDoorLabS
import Derived.Test.YtgnhcmdmlcjpkaaDoorFrame
namespace Go.Proofs.YtgnhcmdmlcjpkaaDoor
open Go Go.ChangeShapes Go.WideShapes Go.ChangeAt Go.WideMaps Go.WideElems Go.RowKit Go.Abs Go.Gr
-- watershed/watershedkeep.LabelsJoins
abbrev Ks_keep_LabelsJoins : List Kd := [.dat (.pair (.int .i64) (.sl (.int .u32))), .dat (.pair (.sl (.pair (.int .i64) (.pair (.int .i64) (.pair (.int .i64) (.pair (.int .i64) (.int .i64)))))) (.sl (.pair (.int .i64) (.pair (.int .i64) (.int .i64))))), .dat (.sl (.int .i64)), .dat (.sl (.int .i64))]
abbrev Rk_keep_LabelsJoins : List Kd := [.dat (.bool)]
abbrev Rt_keep_LabelsJoins : Type := Dens Rk_keep_LabelsJoins
noncomputable def C_keep_LabelsJoins (_N : Nat) : Ctx := { T := [(3, ⟨.int .i64, 1, 8, some (.int .i64), [.int .i64 (0 : Int)], false, []⟩), (4, ⟨.bool, 1, 1, some .bool, [.bool false], false, []⟩), (24, ⟨.struct [(0, 3), (1, 22)], 2, 32, some (.pair (.int .i64) (.sl (.int .u32))), [.int .i64 (0 : Int), .nil], false, []⟩), (28, ⟨.struct [(0, 25), (1, 26)], 2, 48, some (.pair (.sl (.pair (.int .i64) (.pair (.int .i64) (.pair (.int .i64) (.pair (.int .i64) (.int .i64)))))) (.sl (.pair (.int .i64) (.pair (.int .i64) (.int .i64))))), [.nil, .nil], false, []⟩), (29, ⟨.slice 3, 1, 24, some (.sl (.int .i64)), [.nil], false, []⟩), (30, ⟨.int .i64, 1, 8, some (.int .i64), [.int .i64 (0 : Int)], false, []⟩), (32, ⟨.struct [(0, 30), (1, 3)], 2, 16, some (.pair (.int .i64) (.int .i64)), [.int .i64 (0 : Int), .int .i64 (0 : Int)], true, []⟩), (38, ⟨.struct [(0, 24), (2, 36), (6, 4)], 7, 104, some (.pair (.pair (.int .i64) (.sl (.int .u32))) (.pair (.pair (.sl (.int .i64)) (.pair (.sl (.int .i64)) (.pair (.int .i64) (.int .i64)))) (.bool))), [.int .i64 (0 : Int), .nil, .nil, .nil, .int .i64 (0 : Int), .int .i64 (0 : Int), .bool false], false, []⟩)], G := findE [mkQ 11 Ks_labels_Infer Rk_labels_Infer (D_labels_Infer _N), mkQ 12 Ks_keep_open Rk_keep_open (D_keep_open _N), mkP 13 Ks_ref_LabelsCheck Rk_ref_LabelsCheck (D_ref_LabelsCheck _N), mkD 11 Ks_labels_Infer Rk_labels_Infer (D_labels_Infer _N), mkP 14 Ks_keep_board_or Rk_keep_board_or (D_keep_board_or _N), mkP 15 Ks_keep_within Rk_keep_within (D_keep_within _N)], I := findI [], N := _N, n := 151, fx := [5], fl := 0, gs := Gs }
noncomputable def keep_LabelsJoins_1 (_N : Nat) : Option Rt_keep_LabelsJoins :=
  (some (true, ()))
noncomputable def keep_LabelsJoins_2 (_N : Nat) (_k78 : Unit → Option Rt_keep_LabelsJoins) (_v59 : List Int) (_v60 : List Int) (_v61 : List Int) (_v63 : Int) (_v64 : List Int) (_v65 : List Int) (_v66 : List Int) (_v67 : Int) (_v68 : Int) (_v69 : Bool) (_v62 : Int) (_kn79 : (List Int × List Int × List Int × Int × List Int × List Int × List Int × Int × Int × Bool) × Int → Option Rt_keep_LabelsJoins) : Option Rt_keep_LabelsJoins :=
  (bif (decide (_v62 < (_v61.length : Int))) then (bif (decide (0 ≤ _v62) && decide (_v62 < (_v61.length : Int))) then (bif (decide (0 ≤ _v62) && decide (_v62 < (_v59.length : Int))) then (bif (decide (0 ≤ _v62) && decide (_v62 < (_v60.length : Int))) then ((D_keep_board_or _N (((_v63, _v64), ((_v65, (_v66, (_v67, _v68))), _v69)), (nth (0 : Int) _v59 (_v62).toNat), (nth (0 : Int) _v60 (_v62).toNat), ())).bind fun _y80 => (bif ((nth (0 : Int) _v61 (_v62).toNat) != _y80.1) then (some (false, ())) else (_kn79 ((_v59, _v60, _v61, _v63, _v64, _v65, _v66, _v67, _v68, _v69), (IntKind.i64.wrap (_v62 + (1 : Int))))))) else none) else none) else none) else (_k78 ()))
noncomputable def keep_LabelsJoins_3 (_N : Nat) (_v48 : List Int) (_v49 : List Int) (_v50 : List Int) (_v51 : Bool) (_v52 : Int) (_v53 : List Int) (_v54 : List Int) (_v55 : List Int) (_v56 : Int) (_v57 : Int) (_v58 : Bool) : Option Rt_keep_LabelsJoins :=
  (bif _v51 then (some (false, ())) else (joinD (fun (_s : Unit) => keep_LabelsJoins_1 _N) fun _k78 => (loopE (fun (_c : List Int × List Int × List Int × Int × List Int × List Int × List Int × Int × Int × Bool) (_s : Int) _kn => keep_LabelsJoins_2 _N _k78 _c.1 _c.2.1 _c.2.2.1 _c.2.2.2.1 _c.2.2.2.2.1 _c.2.2.2.2.2.1 _c.2.2.2.2.2.2.1 _c.2.2.2.2.2.2.2.1 _c.2.2.2.2.2.2.2.2.1 _c.2.2.2.2.2.2.2.2.2 _s _kn) _N (_v48, _v49, _v50, _v52, _v53, _v54, _v55, _v56, _v57, _v58) (0 : Int))))
noncomputable def keep_LabelsJoins_4 (_N : Nat) (_v28 : List Int) (_v29 : List Int) (_v30 : List Int) (_v31 : Int) (_v32 : List Int) (_v33 : List (Int × Int × Int × Int × Int)) (_v34 : List (Int × Int × Int)) (_v37 : Int) (_v38 : List Int) (_v39 : List Int) (_v40 : List Int) (_v41 : Int) (_v42 : Int) (_v43 : Bool) (_v44 : List Int) : Option Rt_keep_LabelsJoins :=
  ((D_labels_Infer _N ((_v31, _v32), (_v33, _v34), _v44, ())).bind fun _y77 => (joinD (fun (_s : List Int × List Int × List Int × Bool × Int × List Int × List Int × List Int × Int × Int × Bool) => keep_LabelsJoins_3 _N _s.1 _s.2.1 _s.2.2.1 _s.2.2.2.1 _s.2.2.2.2.1 _s.2.2.2.2.2.1 _s.2.2.2.2.2.2.1 _s.2.2.2.2.2.2.2.1 _s.2.2.2.2.2.2.2.2.1 _s.2.2.2.2.2.2.2.2.2.1 _s.2.2.2.2.2.2.2.2.2.2) fun _k81 => (bif (_y77.2.1.1 != (0 : Int)) then (_k81 (_v29, _v30, _y77.1, true, _v37, _v38, _v39, _v40, _v41, _v42, _v43)) else (bif ((_y77.1.length : Int) != (_v28.length : Int)) then (_k81 (_v29, _v30, _y77.1, true, _v37, _v38, _v39, _v40, _v41, _v42, _v43)) else (bif ((_y77.1.length : Int) != (_v29.length : Int)) then (_k81 (_v29, _v30, _y77.1, true, _v37, _v38, _v39, _v40, _v41, _v42, _v43)) else (bif ((_y77.1.length : Int) != (_v30.length : Int)) then (_k81 (_v29, _v30, _y77.1, true, _v37, _v38, _v39, _v40, _v41, _v42, _v43)) else ((D_keep_within _N (_v31, _v29, ())).bind fun _y82 => (bif (!_y82.1) then (_k81 (_v29, _v30, _y77.1, true, _v37, _v38, _v39, _v40, _v41, _v42, _v43)) else ((D_keep_within _N (_v31, _v30, ())).bind fun _y83 => (_k81 (_v29, _v30, _y77.1, (!_y83.1), _v37, _v38, _v39, _v40, _v41, _v42, _v43)))))))))))
noncomputable def keep_LabelsJoins_5 (_N : Nat) (_k84 : (List Int × List Int × List Int × Int × List Int × (List (Int × Int × Int × Int × Int)) × (List (Int × Int × Int)) × Int × Int × Int × List Int × List Int × List Int × Int × Int × Bool × List Int) → Option Rt_keep_LabelsJoins) (_v6 : List Int) (_v7 : List Int) (_v8 : List Int) (_v9 : List Int) (_v11 : Int) (_v12 : List Int) (_v13 : List (Int × Int × Int × Int × Int)) (_v14 : List (Int × Int × Int)) (_v15 : Int) (_v16 : Int) (_v17 : Int) (_v18 : List Int) (_v19 : List Int) (_v20 : List Int) (_v21 : Int) (_v22 : Int) (_v23 : Bool) (_v10 : Int) (_v25 : List Int) (_kn85 : (List Int × List Int × List Int × List Int × Int × List Int × (List (Int × Int × Int × Int × Int)) × (List (Int × Int × Int)) × Int × Int × Int × List Int × List Int × List Int × Int × Int × Bool) × (Int × List Int) → Option Rt_keep_LabelsJoins) : Option Rt_keep_LabelsJoins :=
  (bif (decide (_v10 < (_v6.length : Int))) then (bif (decide (0 ≤ _v10) && decide (_v10 < (_v6.length : Int))) then (bif (decide (0 ≤ _v10) && decide (_v10 < (_v7.length : Int))) then ((D_keep_board_or _N (((_v17, _v18), ((_v19, (_v20, (_v21, _v22))), _v23)), (nth (0 : Int) _v6 (_v10).toNat), (nth (0 : Int) _v7 (_v10).toNat), ())).bind fun _y86 => (bif (decide ((_v25.length + ([_y86.1]).length) * 8 ≤ 140737488355328) && Nat.ble 1 8) then (_kn85 ((_v6, _v7, _v8, _v9, _v11, _v12, _v13, _v14, _v15, _v16, _v17, _v18, _v19, _v20, _v21, _v22, _v23), ((IntKind.i64.wrap (_v10 + (1 : Int))), (_v25 ++ [_y86.1])))) else none)) else none) else none) else (_k84 (_v6, _v8, _v9, _v11, _v12, _v13, _v14, _v15, _v16, _v17, _v18, _v19, _v20, _v21, _v22, _v23, _v25)))
noncomputable def keep_LabelsJoins_6 (_N : Nat) (_x1 : Int × List Int) (_x2 : List (Int × Int × Int × Int × Int) × List (Int × Int × Int)) (_x3 : List Int) (_x4 : List Int) : Option Rt_keep_LabelsJoins :=
  ((D_labels_Infer _N ((_x1.1, _x1.2), (_x2.1, _x2.2), _x3, ())).bind fun _y72 => ((D_labels_Infer _N ((_x1.1, _x1.2), (_x2.1, _x2.2), _x4, ())).bind fun _y73 => ((D_keep_open _N ((_x1.1, _x1.2), ())).bind fun _y74 => (bif _y74.1.2.2 then (some (false, ())) else ((D_ref_LabelsCheck _N ((_x1.1, _x1.2), (_x2.1, _x2.2), _x3, ())).bind fun _y75 => (bif (_y75.1.1 != (0 : Int)) then (bif (_y72.2.1.1 != (0 : Int)) then (some (true, ())) else (some ((_y73.2.1.1 != (0 : Int)), ()))) else ((D_ref_LabelsCheck _N ((_x1.1, _x1.2), (_x2.1, _x2.2), _x4, ())).bind fun _y76 => (bif (_y76.1.1 != (0 : Int)) then (bif (_y72.2.1.1 != (0 : Int)) then (some (true, ())) else (some ((_y73.2.1.1 != (0 : Int)), ()))) else (bif (!_y74.2.1) then (bif (_y72.2.1.1 != (0 : Int)) then (some (true, ())) else (some ((_y73.2.1.1 != (0 : Int)), ()))) else (joinD (fun (_s : List Int × List Int × List Int × Int × List Int × (List (Int × Int × Int × Int × Int)) × (List (Int × Int × Int)) × Int × Int × Int × List Int × List Int × List Int × Int × Int × Bool × List Int) => keep_LabelsJoins_4 _N _s.1 _s.2.1 _s.2.2.1 _s.2.2.2.1 _s.2.2.2.2.1 _s.2.2.2.2.2.1 _s.2.2.2.2.2.2.1 _s.2.2.2.2.2.2.2.2.2.1 _s.2.2.2.2.2.2.2.2.2.2.1 _s.2.2.2.2.2.2.2.2.2.2.2.1 _s.2.2.2.2.2.2.2.2.2.2.2.2.1 _s.2.2.2.2.2.2.2.2.2.2.2.2.2.1 _s.2.2.2.2.2.2.2.2.2.2.2.2.2.2.1 _s.2.2.2.2.2.2.2.2.2.2.2.2.2.2.2.1 _s.2.2.2.2.2.2.2.2.2.2.2.2.2.2.2.2) fun _k84 => (loopE (fun (_c : List Int × List Int × List Int × List Int × Int × List Int × (List (Int × Int × Int × Int × Int)) × (List (Int × Int × Int)) × Int × Int × Int × List Int × List Int × List Int × Int × Int × Bool) (_s : Int × List Int) _kn => keep_LabelsJoins_5 _N _k84 _c.1 _c.2.1 _c.2.2.1 _c.2.2.2.1 _c.2.2.2.2.1 _c.2.2.2.2.2.1 _c.2.2.2.2.2.2.1 _c.2.2.2.2.2.2.2.1 _c.2.2.2.2.2.2.2.2.1 _c.2.2.2.2.2.2.2.2.2.1 _c.2.2.2.2.2.2.2.2.2.2.1 _c.2.2.2.2.2.2.2.2.2.2.2.1 _c.2.2.2.2.2.2.2.2.2.2.2.2.1 _c.2.2.2.2.2.2.2.2.2.2.2.2.2.1 _c.2.2.2.2.2.2.2.2.2.2.2.2.2.2.1 _c.2.2.2.2.2.2.2.2.2.2.2.2.2.2.2.1 _c.2.2.2.2.2.2.2.2.2.2.2.2.2.2.2.2 _s.1 _s.2 _kn) _N (_x3, _x4, _y72.1, _y73.1, _x1.1, _x1.2, _x2.1, _x2.2, _y72.2.1.1, _y72.2.1.2, _y74.1.1.1, _y74.1.1.2, _y74.1.2.1.1, _y74.1.2.1.2.1, _y74.1.2.1.2.2.1, _y74.1.2.1.2.2.2, _y74.1.2.2) ((0 : Int), []))))))))))))
noncomputable def D_keep_LabelsJoins (_N : Nat) (_x : Dens Ks_keep_LabelsJoins) : Option Rt_keep_LabelsJoins := keep_LabelsJoins_6 _N _x.1 _x.2.1 _x.2.2.1 _x.2.2.2.1
theorem sp_keep_LabelsJoins (_N : Nat) : SpecD Tryd.prog Gs 3 Ks_keep_LabelsJoins Rk_keep_LabelsJoins (D_keep_LabelsJoins _N) := mkSpD (fn := Tryd.f3) (c := bodyOf Tryd.f3) (C := C_keep_LabelsJoins _N)
    (a := .two .none (.two .none (.two .none (.two .none (.two .none (.two .none (.two .none (.join 6 ⟨[(2, .sl (.int .i64)), (4, .ptr 0 0), (5, .ptr 1 0), (9, .sl (.int .i64)), (10, .ptr 2 0), (11, .sl (.int .i64)), (13, .ptr 4 0), (15, .slc 5 0)], [.cells [.int .i64, .sl (.int .u32)], .cells [.sl (.pair (.int .i64) (.pair (.int .i64) (.pair (.int .i64) (.pair (.int .i64) (.int .i64))))), .sl (.pair (.int .i64) (.pair (.int .i64) (.int .i64)))], .cells [.int .i64, .int .i64], .none, .cells [.int .i64, .sl (.int .u32), .sl (.int .i64), .sl (.int .i64), .int .i64, .int .i64, .bool], .row false 0 3 (.int .i64)]⟩ (.two .none (.one (.obj 15 3 (.int .i64) (.loop 6 ⟨[(2, .sl (.int .i64)), (3, .sl (.int .i64)), (4, .ptr 0 0), (5, .ptr 1 0), (9, .sl (.int .i64)), (10, .ptr 2 0), (11, .sl (.int .i64)), (13, .ptr 4 0), (15, .slc 5 0), (16, .int .i64)], [.cells [.int .i64, .sl (.int .u32)], .cells [.sl (.pair (.int .i64) (.pair (.int .i64) (.pair (.int .i64) (.pair (.int .i64) (.int .i64))))), .sl (.pair (.int .i64) (.pair (.int .i64) (.int .i64)))], .cells [.int .i64, .int .i64], .none, .cells [.int .i64, .sl (.int .u32), .sl (.int .i64), .sl (.int .i64), .int .i64, .int .i64, .bool], .row false 0 3 (.int .i64)]⟩ [4, 18] (.two .none (.two (.one (.draw 1 [.pure, .rd [4], .pure, .pure, .pure, .pure, .pure, .pure, .pure, .pure, .pure, .new 6, .wr [5, 6], .pure])) .none)))))) (.two .none (.two (.join 6 ⟨[(9, .sl (.int .i64)), (11, .sl (.int .i64)), (13, .ptr 4 0), (17, .sl (.int .i64)), (129, .bool)], [.none, .none, .none, .none, .cells [.int .i64, .sl (.int .u32), .sl (.int .i64), .sl (.int .i64), .int .i64, .int .i64, .bool], .none]⟩ .none .none) (.join 6 ⟨[], [.none, .none, .none, .none, .none, .none]⟩ (.two .none (.one (.loop 6 ⟨[(9, .sl (.int .i64)), (11, .sl (.int .i64)), (13, .ptr 4 0), (17, .sl (.int .i64)), (18, .int .i64)], [.none, .none, .none, .none, .cells [.int .i64, .sl (.int .u32), .sl (.int .i64), .sl (.int .i64), .int .i64, .int .i64, .bool], .none]⟩ [3] (.two .none (.two (.one (.two (.draw 0 [.pure, .pure, .pure, .pure, .rd [4], .pure, .pure, .pure, .pure, .pure, .pure, .pure, .pure, .pure, .pure]) .none)) .none))))) .none)))))))))))
    (by kernel_rfl) rfl (by kernel_rfl) (by kernel_rfl) ⟨rfl, by unfold TOk; kernel_rfl, gOk_of rfl rfl (List.forall_mem_cons.2 ⟨qen_labels_Infer _N, (List.forall_mem_cons.2 ⟨qen_keep_open _N, (List.forall_mem_cons.2 ⟨en_ref_LabelsCheck _N, (List.forall_mem_cons.2 ⟨en_labels_Infer _N, (List.forall_mem_cons.2 ⟨en_keep_board_or _N, (List.forall_mem_cons.2 ⟨en_keep_within _N, (List.forall_mem_nil _)⟩)⟩)⟩)⟩)⟩)⟩), iOk_of rfl rfl (List.forall_mem_nil _), rfl⟩ (fun _x => by kernel_rfl)
theorem en_keep_LabelsJoins (_N : Nat) : EntOk Tryd.prog Gs (mkP 3 Ks_keep_LabelsJoins Rk_keep_LabelsJoins (D_keep_LabelsJoins _N)) := entP ⟨Tryd.f3, bodyOf Tryd.f3, by kernel_rfl, by kernel_rfl, rfl⟩ (by kernel_rfl) (sp_keep_LabelsJoins _N)
namespace Gh
theorem lab_joins {N : Nat} (hN : 1000 ≤ N) {up : List Int} (hw : WL up) (n : Int) (ns : List Nd) (es : List Ed) (a b : List Int) (ha : a.length < N) (hb : b.length < N) :
    D_keep_LabelsJoins N ((n, up), (ns, es), a, b, ()) = some (true, ()) := by
  obtain ⟨x, c1, p1, e1, i1⟩ : ∃ s c p, D_labels_Infer N ((n, up), (ns, es), a, ()) = some (s, (c, p), ()) ∧ ((c = 0 ↔ LabOk n up ns es a) ∧ (c = 0 → Inf up n.toNat ns es a s)) := by
    rcases Infer_eq hN hw n ns es a ha with ⟨h, c, p, hc, e⟩ | ⟨h, ms, hI, e⟩
    · exact ⟨_, c, p, e, ⟨fun q => absurd q hc, fun q => absurd q h⟩, fun q => absurd q hc⟩
    · exact ⟨_, 0, 0, e, ⟨fun _ => h, fun _ => rfl⟩, fun _ => hI⟩
  obtain ⟨y, c2, p2, e2, i2⟩ : ∃ s c p, D_labels_Infer N ((n, up), (ns, es), b, ()) = some (s, (c, p), ()) ∧ ((c = 0 ↔ LabOk n up ns es b) ∧ (c = 0 → Inf up n.toNat ns es b s)) := by
    rcases Infer_eq hN hw n ns es b hb with ⟨h, c, p, hc, e⟩ | ⟨h, ms, hI, e⟩
    · exact ⟨_, c, p, e, ⟨fun q => absurd q hc, fun q => absurd q h⟩, fun q => absurd q hc⟩
    · exact ⟨_, 0, 0, e, ⟨fun _ => h, fun _ => rfl⟩, fun _ => hI⟩
  obtain ⟨d1, q1, e3, i3⟩ := LabelsCheck_eq hN hw n ns es a ha
  obtain ⟨d2, q2, e4, i4⟩ := LabelsCheck_eq hN hw n ns es b hb
  simp only [D_keep_LabelsJoins, keep_LabelsJoins_6, e1, e2, Option.bind_some]
  have hneg : ¬ (LabOk n up ns es a ∧ LabOk n up ns es b) → (bif c1 != 0 then some (true, ()) else some (c2 != 0, ())) = some (true, ()) := fun h => by
    by_cases k : c1 = 0
    · rw [show (c1 != 0) = false from by rw [bne_eq_false_iff_eq]; exact k, cond_false, show (c2 != 0) = true from bne_iff_ne.2 fun k2 => h ⟨i1.1.1 k, i2.1.1 k2⟩]
    · rw [show (c1 != 0) = true from bne_iff_ne.2 k]; rfl
  rcases open_spec hN hw n with ⟨e, he, _, h2, e5⟩ | ⟨m, J, M, B, T, rfl, hm, hul, ho, hil, _, e5⟩
  · have hno : ∀ ls, ¬ LabOk n up ns es ls := fun ls h => (h2 h.ord).2 h.lat
    simp only [e5, Option.bind_some, cond_false, e3, e4, show (d1 != 0) = true from bne_iff_ne.2 fun h => hno a (i3.1 h), cond_true]
    exact hneg fun h => hno a h.1
  simp only [e5, Option.bind_some, cond_false, e3, e4]
  by_cases h1 : LabOk (m : Int) up ns es a
  case neg =>
    rw [show (d1 != 0) = true from bne_iff_ne.2 fun h => h1 (i3.1 h), cond_true]
    exact hneg fun h => h1 h.1
  rw [i3.2 h1, bne_self_eq_false, cond_false]
  by_cases h2 : LabOk (m : Int) up ns es b
  case neg =>
    rw [show (d2 != 0) = true from bne_iff_ne.2 fun h => h2 (i4.1 h), cond_true]
    exact hneg fun h => h2 h.2
  rw [i4.2 h2, bne_self_eq_false, cond_false]
  simp only [Bool.not_true, cond_false, joinD, loopE]
  have hX := i1.2 (i1.1.2 h1)
  have hY := i2.2 (i2.1.2 h2)
  simp only [Int.toNat_natCast] at hX hY
  have hA : LOk m ns.length a := by simpa using h1.lab
  have hB : LOk m ns.length b := by simpa using h2.lab
  have hal := hA.len
  have hbl := hB.len
  have hxl := hX.ok.len
  have hyl := hY.ok.len
  have hn12 := h1.gr.n12
  have hL := hil.lat
  -- joins, node by node
  let jn : List Int → List Int → List Int := fun u v => (List.range ns.length).map fun i => ((jo m J (nth 0 u i).toNat (nth 0 v i).toNat : Nat) : Int)
  have jl : ∀ u v, (jn u v).length = ns.length := fun u v => by simp [jn]
  have jat : ∀ u v i, i < ns.length → nth 0 (jn u v) i = ((jo m J (nth 0 u i).toNat (nth 0 v i).toNat : Nat) : Int) := fun u v i hi => by
    rw [nth_lt (by rw [jl]; exact hi)]; simp [jn]
  have lt : ∀ {u}, LOk m ns.length u → ∀ {i}, i < ns.length → (nth 0 u i).toNat < m := fun {u} hu {i} hi => by have := hu.rg i hi; omega
  have jok : ∀ u v, LOk m ns.length u → LOk m ns.length v → LOk m ns.length (jn u v) := fun u v hu hv => ⟨jl u v, fun i hi => by
    rw [jat u v i hi]
    have := hL.jlt _ _ (lt hu hi) (lt hv hi)
    omega⟩
  have hor : ∀ {u v}, LOk m ns.length u → LOk m ns.length v → ∀ {i}, i < ns.length → D_keep_board_or N ((((m : Int), up), ((J, (M, ((B : Int), (T : Int)))), false)), nth 0 u i, nth 0 v i, ()) = some (nth 0 (jn u v) i, ()) := fun {u v} hu hv {i} hi => by
    have c1 : nth 0 u i = (((nth 0 u i).toNat : Nat) : Int) := by have := hu.rg i hi; omega
    have c2 : nth 0 v i = (((nth 0 v i).toNat : Nat) : Int) := by have := hv.rg i hi; omega
    rw [jat u v i hi]
    conv => lhs; rw [c1, c2]
    exact or_eq hil hm false _ _ (lt hu hi) (lt hv hi)
  refine loopD_path a.length (fun i => ((i : Int), (jn a b).take i)) (fun i hi kn => ?_) (fun kn => ?_) (by omega)
  · have hi' : i < ns.length := by omega
    simp only [keep_LabelsJoins_5, lt_d hi, lt_d (show i < b.length by omega), ge0_d, Bool.and_self, cond_true, Int.toNat_natCast, hor hA hB hi', Option.bind_some]
    rw [d_true (by simp only [List.length_take, List.length_singleton, jl]; omega), show Nat.ble 1 8 = true from rfl, Bool.and_self, cond_true, ix1 hi (show a.length ≤ 100000 by omega), backE_eq, List.take_succ_eq_append_getElem (by rw [jl]; exact hi'), nth_lt (by rw [jl]; exact hi')]
    rfl
  rw [List.take_of_length_le (by rw [jl]; omega)]
  have hJ : LabOk (m : Int) up ns es (jn a b) := ⟨h1.ord, h1.lat, h1.gr, by simpa using jok a b hA hB⟩
  rcases Infer_eq hN hw (m : Int) ns es (jn a b) (by rw [jl]; omega) with ⟨h, _⟩ | ⟨_, z, hZ, e6⟩
  · exact absurd hJ h
  simp only [Int.toNat_natCast] at hZ
  have hzl := hZ.ok.len
  have hrg : ∀ {u}, LOk m ns.length u → ∀ x ∈ u, 0 ≤ x ∧ x < (m : Int) := fun {u} hu x hx => by
    obtain ⟨t, ht, rfl⟩ := mem_nth (z := 0) hx
    exact hu.rg t (by have := hu.len; omega)
  obtain ⟨w1, e7, e8⟩ := within_eq (N := N) (n := (m : Int)) (xs := x) (by omega) (by omega)
  obtain ⟨w2, e9, e10⟩ := within_eq (N := N) (n := (m : Int)) (xs := y) (by omega) (by omega)
  -- the inferred labels of the joins are the joins of the inferred ones
  have hz : ∀ i, i < ns.length → nth 0 z i = nth 0 (jn x y) i := fun i hi => by
    have k1 : lles up ns.length z (jn x y) := by
      refine hZ.least _ (jok x y hX.ok hY.ok) (fun t ht => ?_) fun t ht => ?_
      · have hed := h1.gr.edges t ht
        have f0 : 0 ≤ (nth z3 es t).1 := hed.f0
        have fn : (nth z3 es t).1 < ns.length := hed.fn
        have t0 : 0 ≤ (nth z3 es t).2.1 := hed.t0
        have tn : (nth z3 es t).2.1 < ns.length := hed.tn
        unfold ris lbl
        rw [jat x y _ (by omega), jat x y _ (by omega), Int.toNat_natCast, Int.toNat_natCast]
        exact hL.jmono (lt hX.ok (by omega)) (lt hY.ok (by omega)) (lt hX.ok (by omega)) (lt hY.ok (by omega)) (hX.lgl t ht) (hY.lgl t ht)
      · rw [jat x y _ ht, jat a b _ ht, Int.toNat_natCast, Int.toNat_natCast]
        exact hL.jmono (lt hA ht) (lt hB ht) (lt hX.ok ht) (lt hY.ok ht) (hX.rise t ht) (hY.rise t ht)
    have k2 : lles up ns.length x z := hX.least _ hZ.ok hZ.lgl fun t ht => by
      have := hZ.rise t ht
      rw [jat a b _ ht, Int.toNat_natCast] at this
      exact ((hL.jle _ _ _ (lt hA ht) (lt hB ht) (lt hZ.ok ht)).1 this).1
    have k3 : lles up ns.length y z := hY.least _ hZ.ok hZ.lgl fun t ht => by
      have := hZ.rise t ht
      rw [jat a b _ ht, Int.toNat_natCast] at this
      exact ((hL.jle _ _ _ (lt hA ht) (lt hB ht) (lt hZ.ok ht)).1 this).2
    have k4 := k1 i hi
    have hj := jat x y i hi
    have hjl := hL.jlt _ _ (lt hX.ok hi) (lt hY.ok hi)
    rw [hj, Int.toNat_natCast] at k4
    have := hL.anti _ _ (lt hZ.ok hi) hjl k4 ((hL.jle _ _ _ (lt hX.ok hi) (lt hY.ok hi) (lt hZ.ok hi)).2 ⟨k2 i hi, k3 i hi⟩)
    have hzr := hZ.ok.rg i hi
    rw [hj]; omega
  simp only [keep_LabelsJoins_5, lt_self, cond_false, keep_LabelsJoins_4, e6, Option.bind_some, joinD, bne_self_eq_false]
  rw [show ((z.length : Int) != (a.length : Int)) = false from by simp; omega, show ((z.length : Int) != (x.length : Int)) = false from by simp; omega, show ((z.length : Int) != (y.length : Int)) = false from by simp; omega]
  simp only [cond_false, e7, e8.2 (hrg hX.ok), e9, e10.2 (hrg hY.ok), Option.bind_some, Bool.not_true, keep_LabelsJoins_3, joinD, loopE]
  refine loopD_pass (n := z.length) (by omega) (fun i hi kn => ?_) (fun kn => ?_) (by omega)
  · have hi' : i < ns.length := by omega
    simp only [keep_LabelsJoins_2, lt_d hi, lt_d (show i < x.length by omega), lt_d (show i < y.length by omega), ge0_d, Bool.and_self, cond_true, Int.toNat_natCast, hor hX.ok hY.ok hi', Option.bind_some, hz i hi', bne_self_eq_false, cond_false, ix1 hi (show z.length ≤ 100000 by omega), backE_eq]
  · simp only [keep_LabelsJoins_2, lt_self, cond_false, keep_LabelsJoins_1]
end Gh
theorem law_LabelsJoins (o : Int × List Int) (g : List (Int × Int × Int × Int × Int) × List (Int × Int × Int)) (a b : List Int) (wo : wfS (.pair (.int .i64) (.sl (.int .u32))) o) (_wg : wfS (.pair (.sl (.pair (.int .i64) (.pair (.int .i64) (.pair (.int .i64) (.pair (.int .i64) (.int .i64)))))) (.sl (.pair (.int .i64) (.pair (.int .i64) (.int .i64))))) g) (_wa : wfS (.sl (.int .i64)) a) (_wb : wfS (.sl (.int .i64)) b) : ∃ N, D_keep_LabelsJoins N (o, g, a, b, ()) = some (true, ()) :=
  ⟨1000 + a.length + b.length, Gh.lab_joins (by omega) wo.2.2 o.1 g.1 g.2 a b (by omega) (by omega)⟩
set_option maxRecDepth 100000 in
theorem lifted_LabelsJoins (os : Os) (started : os.Started) (H : Type) (enc : TypeId × Value → H) :
    ReturnsInHanded {} Tryd.checked os 3 .any (fun w args => (Rows.labelsJoinsSpec.pre enc Tryd.prog Tryd.f3 [] false w args ∧ laidMetH Tryd.prog Rows.labelsJoinsRow.laid w) ∧ sizedMet enc Tryd.prog Tryd.f3 (OpenSpec.ofChange Rows.labelsJoinsSpec) false w args) (Rows.labelsJoinsSpec.post enc Tryd.prog Tryd.f3 false true false false) := by
  refine returnsInHanded_of_change_and (C := Tryd.checked) (X := fun w _ => laidMetH Tryd.prog Rows.labelsJoinsRow.laid w) (fun _ _ _ hh h => h.of_heap hh) own started (by kernel_rfl) Tryd.func3
    (ChangeSpec.witness_shaped (enc := enc) (C := Tryd.checked) (os := os) (X := fun w _ => laidMetH Tryd.prog Rows.labelsJoinsRow.laid w) false (World.doorLaid Tryd.prog 400 os) #[.agg #[.int .i64 0, .slice none 0 0], .agg #[.slice none 0 0, .slice none 0 0], .slice none 0 0, .slice none 0 0] 8 rfl (World.shaped_of_RefB (by kernel_rfl) (by kernel_rfl)) (by kernel_rfl) (by kernel_rfl) (by kernel_rfl) (door_met os _)) ?_
  intro W base args ds gs before hval0 hW _ hsz0 hL _
  have hgw : GW Gs W := gw_of hL
  have hval : ∀ (j : Nat) t v, Tryd.f3.params[j]? = some t → args[j]? = some v → Value.okWide Tryd.prog W .any base t v := hval0
  have hW' := hW
  obtain ⟨p, q, hA0, hV, rfl, _, _⟩ := hW
  have hA : DataW.TrodAll enc Tryd.prog W 0 (fun _ => true) true Tryd.f3.params.toList args.toList ds p := hA0
  rw [Tryd.params3] at hA hval
  obtain ⟨v0, vs0, d0, ds0, p0, q0, hargs, rfl, rfl, h0, r0⟩ := trodAll_cons hA
  obtain ⟨v1, vs1, d1, ds1, p1, q1, rfl, rfl, rfl, h1, r1⟩ := trodAll_cons r0
  obtain ⟨v2, vs2, d2, ds2, p2, q2, rfl, rfl, rfl, h2, r2⟩ := trodAll_cons r1
  obtain ⟨v3, vs3, d3, ds3, p3, q3, rfl, rfl, rfl, h3, r3⟩ := trodAll_cons r2
  obtain ⟨rfl, rfl, rfl⟩ := trodAll_nil r3
  obtain rfl : args = #[v0, v1, v2, v3] := by cases args; simp_all
  obtain ⟨rfl, rfl⟩ := trodVars_none hV
  have hall := List.all_eq_true.1 hsz0
  clear hA0 hval0 hsz0
  simp only [List.append_nil] at hW'
  have hlt0 : ∀ x ∈ p0, x.block < W.heap.size := fun x hx => hW'.lt x (by simp [hx])
  have hlt1 : ∀ x ∈ p1, x.block < W.heap.size := fun x hx => hW'.lt x (by simp [hx])
  have hlt2 : ∀ x ∈ p2, x.block < W.heap.size := fun x hx => hW'.lt x (by simp [hx])
  have hlt3 : ∀ x ∈ p3, x.block < W.heap.size := fun x hx => hW'.lt x (by simp [hx])
  obtain ⟨x0, g0, w0⟩ := open_kd (k := .dat (.pair (.int .i64) (.sl (.int .u32)))) (by kernel_rfl) (hval 0 24 v0 rfl rfl) h0
  obtain ⟨x1, g1, w1⟩ := open_kd (k := .dat (.pair (.sl (.pair (.int .i64) (.pair (.int .i64) (.pair (.int .i64) (.pair (.int .i64) (.int .i64)))))) (.sl (.pair (.int .i64) (.pair (.int .i64) (.int .i64)))))) (by kernel_rfl) (hval 1 28 v1 rfl rfl) h1
  obtain ⟨x2, g2, w2⟩ := open_kd (k := .dat (.sl (.int .i64))) (by kernel_rfl) (hval 2 29 v2 rfl rfl) h2
  obtain ⟨x3, g3, w3⟩ := open_kd (k := .dat (.sl (.int .i64))) (by kernel_rfl) (hval 3 29 v3 rfl rfl) h3
  obtain ⟨N, hN⟩ := law_LabelsJoins x0 x1 x2 x3 w0 w1 w2 w3
  refine (sp_keep_LabelsJoins N (fun _ => False) W (x0, x1, x2, x3, ()) (true, ()) [v0, v1, v2, v3] (fun _ h => h.elim) hgw ⟨v0, _, rfl, g0, ⟨v1, _, rfl, g1, ⟨v2, _, rfl, g2, ⟨v3, _, rfl, g3, rfl⟩⟩⟩⟩ hN).mono ?_
  rintro e W' ⟨v, rfl, hg, hr⟩
  replace hg := hg.old
  have hr : v = .bool true := by simpa only [kvals, retV, Kd.val, Go.Abs.enc, RV] using hr
  subst hr
  exact ⟨_, rfl, _, _, _, [], p0 ++ (p1 ++ (p2 ++ (p3 ++ []))), [], hW', (trodAll_cons_mk (shut_bool (show Tryd.prog.underlying 4 = some .bool by kernel_rfl) _) trodAll_mk0), (trodAll_cons_mk (Below.trod laidOut (by kernel_rfl) (of_decide_eq_true (by kernel_rfl)) h0 hg hlt0) (trodAll_cons_mk (Below.trod laidOut (by kernel_rfl) (of_decide_eq_true (by kernel_rfl)) h1 hg hlt1) (trodAll_cons_mk (Below.trod laidOut (by kernel_rfl) (of_decide_eq_true (by kernel_rfl)) h2 hg hlt2) (trodAll_cons_mk (Below.trod laidOut (by kernel_rfl) (of_decide_eq_true (by kernel_rfl)) h3 hg hlt3) trodAll_mk0)))), rfl, hg.frame _, fun h => by cases h⟩

/-- The statement: whatever the arguments, the law's function returns true and leaves them as they were. -/
theorem labelsJoins_holds : Rows.LabelsJoinsSaid :=
  OpenClaim.holds_of_wide 3 Tryd.f3 rfl rfl rfl rfl rfl rfl rfl ⟨rfl, rfl, rfl, rfl, rfl⟩ rfl rfl rfl rfl rfl (by kernel_rfl) Tryd.func3 (by kernel_rfl)
    (of_decide_eq_true (by kernel_rfl)) (by unfold Func.isWrapper; first | (rw [if_pos (by decide +kernel)]; kernel_rfl) | (rw [if_neg (by decide +kernel)]; exact ⟨rfl, rfl⟩))
    (fun os started H enc _ => lifted_LabelsJoins os started H enc)
/-- The statement's card: the variable that the road reads is tied to the program's text. -/
theorem labelsJoins_card : Rows.LabelsJoinsCardSaid :=
  Claim7.holds_tied_plain_at .later [] [.data] true (true, "65abc2aaf7183d6748ea4ca63c5ffe01ee343b6a2ad66bd6fe5683088795bba2") true labelsJoins_holds (fun _ h => by cases h) (by kernel_rfl) (fun _ h => by cases h) labelsJoins_row_tie rfl ⟨rfl, rfl⟩ (by kernel_rfl) rfl
    (fun f fn hf hfn => by
      obtain rfl : f = 3 := Option.some.inj ((show Tryd.prog.funcNamed "watershed/watershedkeep.LabelsJoins" = some 3 by kernel_rfl).symm.trans hf) |>.symm
      obtain rfl : fn = Tryd.f3 := (Option.some.inj (Tryd.func3.symm.trans hfn)).symm
      exact ⟨by kernel_rfl, fun j t ht => by
        have h3 := List.all_eq_true.1 (show (Tryd.f3.params.toList.all fun t => !(Tryd.prog.wantsStandIn t)) = true by kernel_rfl) t (by rw [← Array.getElem?_toList] at ht; exact List.mem_of_getElem? ht)
        have h4 : Tryd.prog.wantsStandIn t = false := by simpa using h3
        exact h4⟩)
    (by kernel_rfl)
end Go.Proofs.YtgnhcmdmlcjpkaaDoor
