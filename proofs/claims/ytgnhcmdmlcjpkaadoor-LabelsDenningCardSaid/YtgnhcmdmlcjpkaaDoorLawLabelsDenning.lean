/- LabelsDenning. No condition. -/
import Derived.Test.YtgnhcmdmlcjpkaaDoorLabS
import Derived.Test.YtgnhcmdmlcjpkaaDoorSumS
import Derived.Test.YtgnhcmdmlcjpkaaDoorFrame
namespace Go.Proofs.YtgnhcmdmlcjpkaaDoor
open Go Go.ChangeShapes Go.WideShapes Go.ChangeAt Go.WideMaps Go.WideElems Go.RowKit Go.Abs Go.Gr
-- watershed/watershedkeep.walked
abbrev Ks_keep_walked : List Kd := [.dat (.pair (.sl (.pair (.int .i64) (.pair (.int .i64) (.pair (.int .i64) (.pair (.int .i64) (.int .i64)))))) (.sl (.pair (.int .i64) (.pair (.int .i64) (.int .i64))))), .dat (.int .i64), .dat (.sl (.int .i64))]
abbrev Rk_keep_walked : List Kd := [.dat (.pair (.int .i64) (.pair (.int .i64) (.sl (.int .i64)))), .dat (.int .i64), .dat (.bool)]
abbrev Rt_keep_walked : Type := Dens Rk_keep_walked
noncomputable def C_keep_walked (_N : Nat) : Ctx := { T := [(3, ⟨.int .i64, 1, 8, some (.int .i64), [.int .i64 (0 : Int)], false, []⟩), (25, ⟨.slice 103, 1, 24, some (.sl (.pair (.int .i64) (.pair (.int .i64) (.pair (.int .i64) (.pair (.int .i64) (.int .i64)))))), [.nil], false, []⟩), (26, ⟨.slice 48, 1, 24, some (.sl (.pair (.int .i64) (.pair (.int .i64) (.int .i64)))), [.nil], false, []⟩), (28, ⟨.struct [(0, 25), (1, 26)], 2, 48, some (.pair (.sl (.pair (.int .i64) (.pair (.int .i64) (.pair (.int .i64) (.pair (.int .i64) (.int .i64)))))) (.sl (.pair (.int .i64) (.pair (.int .i64) (.int .i64))))), [.nil, .nil], false, []⟩), (29, ⟨.slice 3, 1, 24, some (.sl (.int .i64)), [.nil], false, []⟩), (48, ⟨.struct [(0, 3), (1, 3), (2, 3)], 3, 24, some (.pair (.int .i64) (.pair (.int .i64) (.int .i64))), [.int .i64 (0 : Int), .int .i64 (0 : Int), .int .i64 (0 : Int)], true, []⟩), (53, ⟨.struct [(0, 3), (1, 3), (2, 29)], 3, 40, some (.pair (.int .i64) (.pair (.int .i64) (.sl (.int .i64)))), [.int .i64 (0 : Int), .int .i64 (0 : Int), .nil], false, []⟩), (103, ⟨.struct [(0, 3), (1, 3), (2, 101)], 5, 40, some (.pair (.int .i64) (.pair (.int .i64) (.pair (.int .i64) (.pair (.int .i64) (.int .i64))))), [.int .i64 (0 : Int), .int .i64 (0 : Int), .int .i64 (0 : Int), .int .i64 (0 : Int), .int .i64 (0 : Int)], false, []⟩)], G := findE [mkQ 43 Ks_graph_Sum Rk_graph_Sum (D_graph_Sum _N), mkQ 44 Ks_summary_Then Rk_summary_Then (D_summary_Then _N)], I := findI [], N := _N, n := 87, fx := [], fl := 0, gs := Gs }
noncomputable def keep_walked_1 (_N : Nat) (_v18 : Int) (_v21 : Int) (_v22 : Int) (_v23 : List Int) : Option Rt_keep_walked :=
  (some ((_v21, (_v22, _v23)), _v18, true, ()))
noncomputable def keep_walked_2 (_N : Nat) (_k24 : (Int × Int × Int × Int × Int × List Int) → Option Rt_keep_walked) (_v2 : List Int) (_v3 : Int) (_v5 : List (Int × Int × Int × Int × Int)) (_v6 : List (Int × Int × Int)) (_v7 : Int) (_v8 : Int) (_v1 : Int) (_v4 : Int) (_v9 : Int) (_v10 : Int) (_v13 : List Int) (_kn25 : (List Int × Int × (List (Int × Int × Int × Int × Int)) × (List (Int × Int × Int)) × Int × Int) × (Int × Int × Int × Int × List Int) → Option Rt_keep_walked) : Option Rt_keep_walked :=
  (bif (decide (_v4 < _v3)) then (bif (decide (0 ≤ _v4) && decide (_v4 < (_v2.length : Int))) then (bif (decide ((nth (0 : Int) _v2 (_v4).toNat) < (0 : Int))) then (some (((0 : Int), ((0 : Int), [])), (0 : Int), false, ())) else (bif (decide ((nth (0 : Int) _v2 (_v4).toNat) ≥ (_v6.length : Int))) then (some (((0 : Int), ((0 : Int), [])), (0 : Int), false, ())) else (bif (decide (0 ≤ (nth (0 : Int) _v2 (_v4).toNat)) && decide ((nth (0 : Int) _v2 (_v4).toNat) < (_v6.length : Int))) then (bif (((nth ((0 : Int), ((0 : Int), (0 : Int))) _v6 (nth (0 : Int) _v2 (_v4).toNat).toNat).1) != _v1) then (some (((0 : Int), ((0 : Int), [])), (0 : Int), false, ())) else (bif (decide (0 ≤ _v1) && decide (_v1 < (_v5.length : Int))) then ((D_graph_Sum _N (((nth ((0 : Int), ((0 : Int), ((0 : Int), ((0 : Int), (0 : Int))))) _v5 (_v1).toNat).1, (((nth ((0 : Int), ((0 : Int), ((0 : Int), ((0 : Int), (0 : Int))))) _v5 (_v1).toNat).2).1, ((((nth ((0 : Int), ((0 : Int), ((0 : Int), ((0 : Int), (0 : Int))))) _v5 (_v1).toNat).2).2).1, (((((nth ((0 : Int), ((0 : Int), ((0 : Int), ((0 : Int), (0 : Int))))) _v5 (_v1).toNat).2).2).2).1, ((((nth ((0 : Int), ((0 : Int), ((0 : Int), ((0 : Int), (0 : Int))))) _v5 (_v1).toNat).2).2).2).2)))), ())).bind fun _y26 => (bif (_y26.2.1 != (0 : Int)) then (some (((0 : Int), ((0 : Int), [])), (0 : Int), false, ())) else ((D_summary_Then _N ((_v9, (_v10, _v13)), (_y26.1.1, (_y26.1.2.1, _y26.1.2.2)), ())).bind fun _y27 => (bif (_y27.2.1 != (0 : Int)) then (some (((0 : Int), ((0 : Int), [])), (0 : Int), false, ())) else (bif (decide (0 ≤ (nth (0 : Int) _v2 (_v4).toNat)) && decide ((nth (0 : Int) _v2 (_v4).toNat) < (_v6.length : Int))) then (_kn25 ((_v2, _v3, _v5, _v6, _v7, _v8), (((nth ((0 : Int), ((0 : Int), (0 : Int))) _v6 (nth (0 : Int) _v2 (_v4).toNat).toNat).2).1, (IntKind.i64.wrap (_v4 + (1 : Int))), _y27.1.1, _y27.1.2.1, _y27.1.2.2))) else none))))) else none)) else none))) else none) else (_k24 (_v1, _v7, _v8, _v9, _v10, _v13)))
noncomputable def keep_walked_3 (_N : Nat) (_x1 : List (Int × Int × Int × Int × Int) × List (Int × Int × Int)) (_x2 : Int) (_x3 : List Int) : Option Rt_keep_walked :=
  (bif (decide (_x2 < (0 : Int))) then (some (((0 : Int), ((0 : Int), [])), (0 : Int), false, ())) else (bif (decide (_x2 ≥ (_x1.1.length : Int))) then (some (((0 : Int), ((0 : Int), [])), (0 : Int), false, ())) else (bif (decide (0 ≤ _x2) && decide (_x2 < (_x1.1.length : Int))) then (joinD (fun (_s : Int × Int × Int × Int × Int × List Int) => keep_walked_1 _N _s.1 _s.2.2.2.1 _s.2.2.2.2.1 _s.2.2.2.2.2) fun _k24 => (loopE (fun (_c : List Int × Int × (List (Int × Int × Int × Int × Int)) × (List (Int × Int × Int)) × Int × Int) (_s : Int × Int × Int × Int × List Int) _kn => keep_walked_2 _N _k24 _c.1 _c.2.1 _c.2.2.1 _c.2.2.2.1 _c.2.2.2.2.1 _c.2.2.2.2.2 _s.1 _s.2.1 _s.2.2.1 _s.2.2.2.1 _s.2.2.2.2 _kn) _N (_x3, (_x3.length : Int), _x1.1, _x1.2, (0 : Int), (0 : Int)) (_x2, (0 : Int), ((nth ((0 : Int), ((0 : Int), ((0 : Int), ((0 : Int), (0 : Int))))) _x1.1 (_x2).toNat).2).1, (0 : Int), []))) else none)))
noncomputable def D_keep_walked (_N : Nat) (_x : Dens Ks_keep_walked) : Option Rt_keep_walked := keep_walked_3 _N _x.1 _x.2.1 _x.2.2.1
theorem sp_keep_walked (_N : Nat) : SpecD Tryd.prog Gs 21 Ks_keep_walked Rk_keep_walked (D_keep_walked _N) := mkSpD (fn := Tryd.f21) (c := bodyOf Tryd.f21) (C := C_keep_walked _N)
    (a := .two .none (.two .none (.two .none (.join 3 ⟨[(1, .int .i64), (6, .ptr 1 0), (9, .ptr 2 0)], [.none, .cells [.int .i64, .int .i64, .nil], .cells [.int .i64, .int .i64, .sl (.int .i64)]]⟩ (.two .none (.one (.nilc 2 2 (.int .i64) (.loop 3 ⟨[(1, .int .i64), (3, .ptr 0 0), (6, .ptr 1 0), (9, .ptr 2 0), (31, .sl (.int .i64)), (32, .int .i64), (33, .int .i64)], [.cells [.sl (.pair (.int .i64) (.pair (.int .i64) (.pair (.int .i64) (.pair (.int .i64) (.int .i64))))), .sl (.pair (.int .i64) (.pair (.int .i64) (.int .i64)))], .cells [.int .i64, .int .i64, .nil], .cells [.int .i64, .int .i64, .sl (.int .i64)]]⟩ [0, 3, 8, 9, 10] .none)))) .none))))
    (by kernel_rfl) rfl (by kernel_rfl) (by kernel_rfl) ⟨rfl, by unfold TOk; kernel_rfl, gOk_of rfl rfl (List.forall_mem_cons.2 ⟨qen_graph_Sum _N, (List.forall_mem_cons.2 ⟨qen_summary_Then _N, (List.forall_mem_nil _)⟩)⟩), iOk_of rfl rfl (List.forall_mem_nil _), rfl⟩ (fun _x => by kernel_rfl)
theorem en_keep_walked (_N : Nat) : EntOk Tryd.prog Gs (mkD 21 Ks_keep_walked Rk_keep_walked (D_keep_walked _N)) := entD ⟨Tryd.f21, bodyOf Tryd.f21, by kernel_rfl, by kernel_rfl, rfl⟩ (sp_keep_walked _N)
theorem qen_keep_walked (_N : Nat) : EntOk Tryd.prog Gs (mkQ 21 Ks_keep_walked Rk_keep_walked (D_keep_walked _N)) := entQ ⟨Tryd.f21, bodyOf Tryd.f21, by kernel_rfl, by kernel_rfl, rfl⟩ (sp_keep_walked _N)
-- watershed/watershedkeep.LabelsDenning
abbrev Ks_keep_LabelsDenning : List Kd := [.dat (.pair (.int .i64) (.sl (.int .u32))), .dat (.pair (.sl (.pair (.int .i64) (.pair (.int .i64) (.pair (.int .i64) (.pair (.int .i64) (.int .i64)))))) (.sl (.pair (.int .i64) (.pair (.int .i64) (.int .i64))))), .dat (.sl (.int .i64)), .dat (.int .i64), .dat (.sl (.int .i64))]
abbrev Rk_keep_LabelsDenning : List Kd := [.dat (.bool)]
abbrev Rt_keep_LabelsDenning : Type := Dens Rk_keep_LabelsDenning
noncomputable def C_keep_LabelsDenning (_N : Nat) : Ctx := { T := [(3, ⟨.int .i64, 1, 8, some (.int .i64), [.int .i64 (0 : Int)], false, []⟩), (24, ⟨.struct [(0, 3), (1, 22)], 2, 32, some (.pair (.int .i64) (.sl (.int .u32))), [.int .i64 (0 : Int), .nil], false, []⟩), (28, ⟨.struct [(0, 25), (1, 26)], 2, 48, some (.pair (.sl (.pair (.int .i64) (.pair (.int .i64) (.pair (.int .i64) (.pair (.int .i64) (.int .i64)))))) (.sl (.pair (.int .i64) (.pair (.int .i64) (.int .i64))))), [.nil, .nil], false, []⟩), (29, ⟨.slice 3, 1, 24, some (.sl (.int .i64)), [.nil], false, []⟩), (30, ⟨.int .i64, 1, 8, some (.int .i64), [.int .i64 (0 : Int)], false, []⟩), (32, ⟨.struct [(0, 30), (1, 3)], 2, 16, some (.pair (.int .i64) (.int .i64)), [.int .i64 (0 : Int), .int .i64 (0 : Int)], true, []⟩), (53, ⟨.struct [(0, 3), (1, 3), (2, 29)], 3, 40, some (.pair (.int .i64) (.pair (.int .i64) (.sl (.int .i64)))), [.int .i64 (0 : Int), .int .i64 (0 : Int), .nil], false, []⟩)], G := findE [mkP 13 Ks_ref_LabelsCheck Rk_ref_LabelsCheck (D_ref_LabelsCheck _N), mkP 19 Ks_labels_Legal Rk_labels_Legal (D_labels_Legal _N), mkQ 21 Ks_keep_walked Rk_keep_walked (D_keep_walked _N), mkP 17 Ks_keep_below Rk_keep_below (D_keep_below _N)], I := findI [], N := _N, n := 56, fx := [], fl := 0, gs := Gs }
noncomputable def keep_LabelsDenning_1 (_N : Nat) (_x1 : Int × List Int) (_x2 : List (Int × Int × Int × Int × Int) × List (Int × Int × Int)) (_x3 : List Int) (_x4 : Int) (_x5 : List Int) : Option Rt_keep_LabelsDenning :=
  ((D_ref_LabelsCheck _N ((_x1.1, _x1.2), (_x2.1, _x2.2), _x3, ())).bind fun _y7 => (bif (_y7.1.1 != (0 : Int)) then ((D_labels_Legal _N ((_x1.1, _x1.2), (_x2.1, _x2.2), _x3, ())).bind fun _y8 => (some ((_y8.1.1 != (0 : Int)), ()))) else ((D_labels_Legal _N ((_x1.1, _x1.2), (_x2.1, _x2.2), _x3, ())).bind fun _y9 => (bif (_y9.1.1 != (0 : Int)) then ((D_labels_Legal _N ((_x1.1, _x1.2), (_x2.1, _x2.2), _x3, ())).bind fun _y10 => (some ((_y10.1.1 != (0 : Int)), ()))) else ((D_keep_walked _N ((_x2.1, _x2.2), _x4, _x5, ())).bind fun _y11 => (bif (!_y11.2.2.1) then (some (true, ())) else (bif (decide (0 ≤ _x4) && decide (_x4 < (_x3.length : Int))) then (bif (decide (0 ≤ _y11.2.1) && decide (_y11.2.1 < (_x3.length : Int))) then ((D_keep_below _N ((_x1.1, _x1.2), (nth (0 : Int) _x3 (_x4).toNat), (nth (0 : Int) _x3 (_y11.2.1).toNat), ())).bind fun _y12 => (some (_y12.1, ()))) else none) else none)))))))
noncomputable def D_keep_LabelsDenning (_N : Nat) (_x : Dens Ks_keep_LabelsDenning) : Option Rt_keep_LabelsDenning := keep_LabelsDenning_1 _N _x.1 _x.2.1 _x.2.2.1 _x.2.2.2.1 _x.2.2.2.2.1
theorem sp_keep_LabelsDenning (_N : Nat) : SpecD Tryd.prog Gs 6 Ks_keep_LabelsDenning Rk_keep_LabelsDenning (D_keep_LabelsDenning _N) := mkSpD (fn := Tryd.f6) (c := bodyOf Tryd.f6) (C := C_keep_LabelsDenning _N)
    (a := .two .none (.two .none (.two .none (.two (.draw 0 [.pure, .pure, .pure, .rd [0], .pure, .pure, .pure, .pure, .pure, .pure, .pure, .pure, .pure, .pure, .pure]) .none))))
    (by kernel_rfl) rfl (by kernel_rfl) (by kernel_rfl) ⟨rfl, by unfold TOk; kernel_rfl, gOk_of rfl rfl (List.forall_mem_cons.2 ⟨en_ref_LabelsCheck _N, (List.forall_mem_cons.2 ⟨en_labels_Legal _N, (List.forall_mem_cons.2 ⟨qen_keep_walked _N, (List.forall_mem_cons.2 ⟨en_keep_below _N, (List.forall_mem_nil _)⟩)⟩)⟩)⟩), iOk_of rfl rfl (List.forall_mem_nil _), rfl⟩ (fun _x => by kernel_rfl)
theorem en_keep_LabelsDenning (_N : Nat) : EntOk Tryd.prog Gs (mkP 6 Ks_keep_LabelsDenning Rk_keep_LabelsDenning (D_keep_LabelsDenning _N)) := entP ⟨Tryd.f6, bodyOf Tryd.f6, by kernel_rfl, by kernel_rfl, rfl⟩ (by kernel_rfl) (sp_keep_LabelsDenning _N)
namespace Gh
/-- A way leads along edges. -/
inductive Way (es : List Ed) (a : Int) : Int → Prop
  | nil : Way es a a
  | step {b : Int} (i : Nat) (hi : i < es.length) (e : (nth z3 es i).1 = b) (w : Way es a b) : Way es a (nth z3 es i).2.1
theorem walked_way {N : Nat} (hN : 1000 ≤ N) {ns : List Nd} {es : List Ed} (h : GrOk ns es) {a : Int} {l : List Int} (hl : l.length ≤ 9223372036854775807) (hlN : l.length < N) : ∃ s, ∃ b : Int, ∃ ok, D_keep_walked N ((ns, es), a, l, ()) = some (s, b, ok, ()) ∧
    (ok = true → 0 ≤ a ∧ a < ns.length ∧ 0 ≤ b ∧ b < ns.length ∧ Way es a b) := by
  simp only [D_keep_walked, keep_walked_3]
  by_cases h1 : a < 0
  · rw [d_true h1]; exact ⟨_, _, false, rfl, fun h => (by cases h)⟩
  by_cases h2 : a ≥ ns.length
  · rw [d_false h1, d_true h2]; exact ⟨_, _, false, rfl, fun h => (by cases h)⟩
  rw [d_false h1, d_false h2, d_true (show (0 : Int) ≤ a by omega), d_true (show a < (ns.length : Int) by omega)]
  simp only [Bool.and_self, cond_true, cond_false, joinD, loopE]
  refine loopD_Q (fun r => ∃ s, ∃ b : Int, ∃ ok, r = some (s, b, ok, ()) ∧ (ok = true → 0 ≤ a ∧ a < ns.length ∧ 0 ≤ b ∧ b < ns.length ∧ Way es a b)) l.length
    (fun i (s : Int × Int × Int × Int × List Int) => s.2.1 = (i : Int) ∧ 0 ≤ s.1 ∧ s.1 < ns.length ∧ Way es a s.1) ?_ ?_ hlN ?_
  rotate_left 2
  · exact ⟨rfl, Int.not_lt.1 h1, Int.not_le.1 h2, .nil⟩
  · rintro i ⟨b, _, x, y, z⟩ hi ⟨rfl, hb0, hbn, hw⟩ kn hk
    simp only at hb0 hbn hw
    have hix : IntKind.i64.wrap ((i : Int) + 1) = (i : Int) + 1 := w64 (by omega) (by omega)
    simp only [keep_walked_2, lt_d hi, ge0_d, Int.toNat_natCast, Bool.and_self, cond_true]
    by_cases q1 : nth 0 l i < 0
    · rw [d_true q1]; exact ⟨_, _, false, rfl, fun h => (by cases h)⟩
    by_cases q2 : nth 0 l i ≥ es.length
    · rw [d_false q1, d_true q2]; exact ⟨_, _, false, rfl, fun h => (by cases h)⟩
    rw [d_false q1, d_false q2, d_true (show (0 : Int) ≤ nth 0 l i by omega), d_true (show nth 0 l i < (es.length : Int) by omega), Bool.and_self, cond_false, cond_false, cond_true]
    by_cases q3 : (nth z3 es (nth 0 l i).toNat).1 = b
    case neg => rw [show ((nth ((0 : Int), (0 : Int), (0 : Int)) es (nth 0 l i).toNat).1 != b) = true from bne_iff_ne.2 q3]; exact ⟨_, _, false, rfl, fun h => (by cases h)⟩
    rw [show ((nth ((0 : Int), (0 : Int), (0 : Int)) es (nth 0 l i).toNat).1 != b) = false from by rw [bne_eq_false_iff_eq]; exact q3, cond_false, d_true hb0, d_true hbn, Bool.and_self, cond_true]
    simp only [nd_eta, Sum_eq N, Option.bind_some]
    have hx : nodeOk (nth z5 ns b.toNat) = true := h.nodes _ (nth_mem (by omega))
    rw [show nodeOk (nth ((0 : Int), (0 : Int), (0 : Int), (0 : Int), (0 : Int)) ns b.toNat) = true from hx]
    simp only [if_true, bne_self_eq_false, cond_false, show ∀ y : Tr, (y.1, y.2.1, y.2.2) = y from fun _ => rfl, Then_R hN, Option.bind_some]
    by_cases q4 : (thenR (x, y, z) (nsum (nth z5 ns b.toNat))).2.1 = 0
    case neg => rw [show ((thenR (x, y, z) (nsum (nth ((0 : Int), (0 : Int), (0 : Int), (0 : Int), (0 : Int)) ns b.toNat))).2.1 != 0) = true from bne_iff_ne.2 q4]; exact ⟨_, _, false, rfl, fun h => (by cases h)⟩
    rw [show ((thenR (x, y, z) (nsum (nth ((0 : Int), (0 : Int), (0 : Int), (0 : Int), (0 : Int)) ns b.toNat))).2.1 != 0) = false from by rw [bne_eq_false_iff_eq]; exact q4, cond_false, hix, backE_eq]
    have hed := h.edges (nth 0 l i).toNat (by omega)
    have t0 : 0 ≤ (nth z3 es (nth 0 l i).toNat).2.1 := hed.t0
    have tn : (nth z3 es (nth 0 l i).toNat).2.1 < ns.length := hed.tn
    exact hk _ ⟨by simp, t0, tn, .step _ (by omega) q3 hw⟩
  · rintro ⟨b, _, x, y, z⟩ ⟨rfl, hb0, hbn, hw⟩ kn
    simp only at hb0 hbn hw
    simp only [keep_walked_2, lt_self, cond_false, keep_walked_1]
    exact ⟨_, b, true, rfl, fun _ => ⟨by omega, by omega, hb0, hbn, hw⟩⟩
theorem lab_denning {N : Nat} (hN : 1000 ≤ N) {up : List Int} (hw : WL up) (n : Int) (ns : List Nd) (es : List Ed) (l : List Int) (a : Int) (ed : List Int) (hl : l.length < N) (he : ed.length ≤ 9223372036854775807) (heN : ed.length < N) :
    D_keep_LabelsDenning N ((n, up), (ns, es), l, a, ed, ()) = some (true, ()) := by
  obtain ⟨c, p, e1, e2⟩ := LabelsCheck_eq hN hw n ns es l hl
  obtain ⟨c2, p2, e3, e4⟩ := Legal_eq hN hw n ns es l hl
  simp only [D_keep_LabelsDenning, keep_LabelsDenning_1, e1, e3, Option.bind_some]
  by_cases h : LabOk n up ns es l
  case neg =>
    rw [show (c != 0) = true from bne_iff_ne.2 fun h' => h (e2.1 h'), cond_true, show (c2 != 0) = true from bne_iff_ne.2 fun h' => h (e4.1 h').1]
  rw [e2.2 h, bne_self_eq_false, cond_false]
  by_cases hL : Lgl up es l
  case neg => rw [show (c2 != 0) = true from bne_iff_ne.2 fun h' => hL (e4.1 h').2]; rfl
  rw [e4.2 ⟨h, hL⟩, bne_self_eq_false, cond_false]
  obtain ⟨s, b, ok, e5, e6⟩ := walked_way hN h.gr (a := a) (l := ed) he heN
  simp only [e5, Option.bind_some]
  cases ok with
  | false => rfl
  | true =>
    obtain ⟨a0, an, b0, bn, hway⟩ := e6 rfl
    obtain ⟨m, rfl⟩ : ∃ m : Nat, n = (m : Int) := ⟨n.toNat, by have := h.ord.h0; omega⟩
    have hul : up.length = m := by have := h.ord.len; omega
    have hlk : LOk m ns.length l := by simpa using h.lab
    have hll := hlk.len
    have hgo : ∀ {a b : Int}, Way es a b → 0 ≤ a → a < ns.length → (0 ≤ b ∧ b < ns.length) ∧ le up (lbl l a) (lbl l b) := fun {a b} hw h0 hn => by
      induction hw with
      | nil => exact ⟨⟨h0, hn⟩, h.ord.refl _ (by have := (hlk.cast h0 hn).2; omega)⟩
      | step i hi e w ih =>
        obtain ⟨⟨b0, bn⟩, hle⟩ := ih
        have hed := h.gr.edges i hi
        have t0 : 0 ≤ (nth z3 es i).2.1 := hed.t0
        have tn : (nth z3 es i).2.1 < ns.length := hed.tn
        refine ⟨⟨t0, tn⟩, h.ord.trans _ _ _ (by have := (hlk.cast h0 hn).2; omega) (by have := (hlk.cast b0 bn).2; omega) hle ?_⟩
        have := hL i hi
        unfold ris at this
        rw [e] at this
        exact this
    have hm16 : m ≤ 16 := by have := h.ord.h1; omega
    obtain ⟨c1, c3⟩ := hlk.cast a0 an
    obtain ⟨d1, d3⟩ := hlk.cast b0 bn
    simp only [Bool.not_true, cond_false]
    rw [d_true a0, d_true (show a < (l.length : Int) by omega), d_true b0, d_true (show b < (l.length : Int) by rw [hll]; exact bn), Bool.and_self, cond_true, cond_true, c1, d1, kbelow_eq (n := (m : Int)) N hw (show lbl l a < up.length from hul ▸ c3) (show lbl l b < 4611686018427387904 from Nat.lt_trans d3 (by omega)), Option.bind_some]
    have : bt (nth 0 up (lbl l a)) (lbl l b) = true := (hgo hway a0 an).2
    rw [this]
end Gh
theorem law_LabelsDenning (o : Int × List Int) (g : List (Int × Int × Int × Int × Int) × List (Int × Int × Int)) (l : List Int) (a : Int) (ed : List Int) (wo : wfS (.pair (.int .i64) (.sl (.int .u32))) o) (_wg : wfS (.pair (.sl (.pair (.int .i64) (.pair (.int .i64) (.pair (.int .i64) (.pair (.int .i64) (.int .i64)))))) (.sl (.pair (.int .i64) (.pair (.int .i64) (.int .i64))))) g) (_wl : wfS (.sl (.int .i64)) l) (_wa : wfS (.int .i64) a) (we : wfS (.sl (.int .i64)) ed) : ∃ N, D_keep_LabelsDenning N (o, g, l, a, ed, ()) = some (true, ()) :=
  ⟨1000 + l.length + ed.length, Gh.lab_denning (by omega) wo.2.2 o.1 g.1 g.2 l a ed (by omega) we.1 (by omega)⟩
set_option maxRecDepth 100000 in
theorem lifted_LabelsDenning (os : Os) (started : os.Started) (H : Type) (enc : TypeId × Value → H) :
    ReturnsInHanded {} Tryd.checked os 6 .any (fun w args => (Rows.labelsDenningSpec.pre enc Tryd.prog Tryd.f6 [] false w args ∧ laidMetH Tryd.prog Rows.labelsDenningRow.laid w) ∧ sizedMet enc Tryd.prog Tryd.f6 (OpenSpec.ofChange Rows.labelsDenningSpec) false w args) (Rows.labelsDenningSpec.post enc Tryd.prog Tryd.f6 false true false false) := by
  refine returnsInHanded_of_change_and (C := Tryd.checked) (X := fun w _ => laidMetH Tryd.prog Rows.labelsDenningRow.laid w) (fun _ _ _ hh h => h.of_heap hh) own started (by kernel_rfl) Tryd.func6
    (ChangeSpec.witness_shaped (enc := enc) (C := Tryd.checked) (os := os) (X := fun w _ => laidMetH Tryd.prog Rows.labelsDenningRow.laid w) false (World.doorLaid Tryd.prog 400 os) #[.agg #[.int .i64 0, .slice none 0 0], .agg #[.slice none 0 0, .slice none 0 0], .slice none 0 0, .int .i64 0, .slice none 0 0] 8 rfl (World.shaped_of_RefB (by kernel_rfl) (by kernel_rfl)) (by kernel_rfl) (by kernel_rfl) (by kernel_rfl) (door_met os _)) ?_
  intro W base args ds gs before hval0 hW _ hsz0 hL _
  have hgw : GW Gs W := gw_of hL
  have hval : ∀ (j : Nat) t v, Tryd.f6.params[j]? = some t → args[j]? = some v → Value.okWide Tryd.prog W .any base t v := hval0
  have hW' := hW
  obtain ⟨p, q, hA0, hV, rfl, _, _⟩ := hW
  have hA : DataW.TrodAll enc Tryd.prog W 0 (fun _ => true) true Tryd.f6.params.toList args.toList ds p := hA0
  rw [Tryd.params6] at hA hval
  obtain ⟨v0, vs0, d0, ds0, p0, q0, hargs, rfl, rfl, h0, r0⟩ := trodAll_cons hA
  obtain ⟨v1, vs1, d1, ds1, p1, q1, rfl, rfl, rfl, h1, r1⟩ := trodAll_cons r0
  obtain ⟨v2, vs2, d2, ds2, p2, q2, rfl, rfl, rfl, h2, r2⟩ := trodAll_cons r1
  obtain ⟨v3, vs3, d3, ds3, p3, q3, rfl, rfl, rfl, h3, r3⟩ := trodAll_cons r2
  obtain ⟨v4, vs4, d4, ds4, p4, q4, rfl, rfl, rfl, h4, r4⟩ := trodAll_cons r3
  obtain ⟨rfl, rfl, rfl⟩ := trodAll_nil r4
  obtain rfl : args = #[v0, v1, v2, v3, v4] := by cases args; simp_all
  obtain ⟨rfl, rfl⟩ := trodVars_none hV
  have hall := List.all_eq_true.1 hsz0
  clear hA0 hval0 hsz0
  simp only [List.append_nil] at hW'
  have hlt0 : ∀ x ∈ p0, x.block < W.heap.size := fun x hx => hW'.lt x (by simp [hx])
  have hlt1 : ∀ x ∈ p1, x.block < W.heap.size := fun x hx => hW'.lt x (by simp [hx])
  have hlt2 : ∀ x ∈ p2, x.block < W.heap.size := fun x hx => hW'.lt x (by simp [hx])
  have hlt3 : ∀ x ∈ p3, x.block < W.heap.size := fun x hx => hW'.lt x (by simp [hx])
  have hlt4 : ∀ x ∈ p4, x.block < W.heap.size := fun x hx => hW'.lt x (by simp [hx])
  obtain ⟨x0, g0, w0⟩ := open_kd (k := .dat (.pair (.int .i64) (.sl (.int .u32)))) (by kernel_rfl) (hval 0 24 v0 rfl rfl) h0
  obtain ⟨x1, g1, w1⟩ := open_kd (k := .dat (.pair (.sl (.pair (.int .i64) (.pair (.int .i64) (.pair (.int .i64) (.pair (.int .i64) (.int .i64)))))) (.sl (.pair (.int .i64) (.pair (.int .i64) (.int .i64)))))) (by kernel_rfl) (hval 1 28 v1 rfl rfl) h1
  obtain ⟨x2, g2, w2⟩ := open_kd (k := .dat (.sl (.int .i64))) (by kernel_rfl) (hval 2 29 v2 rfl rfl) h2
  obtain ⟨x3, g3, w3⟩ := open_kd (k := .dat (.int .i64)) (by kernel_rfl) (hval 3 3 v3 rfl rfl) h3
  obtain ⟨x4, g4, w4⟩ := open_kd (k := .dat (.sl (.int .i64))) (by kernel_rfl) (hval 4 29 v4 rfl rfl) h4
  obtain ⟨N, hN⟩ := law_LabelsDenning x0 x1 x2 x3 x4 w0 w1 w2 w3 w4
  refine (sp_keep_LabelsDenning N (fun _ => False) W (x0, x1, x2, x3, x4, ()) (true, ()) [v0, v1, v2, v3, v4] (fun _ h => h.elim) hgw ⟨v0, _, rfl, g0, ⟨v1, _, rfl, g1, ⟨v2, _, rfl, g2, ⟨v3, _, rfl, g3, ⟨v4, _, rfl, g4, rfl⟩⟩⟩⟩⟩ hN).mono ?_
  rintro e W' ⟨v, rfl, hg, hr⟩
  replace hg := hg.old
  have hr : v = .bool true := by simpa only [kvals, retV, Kd.val, Go.Abs.enc, RV] using hr
  subst hr
  exact ⟨_, rfl, _, _, _, [], p0 ++ (p1 ++ (p2 ++ (p3 ++ (p4 ++ [])))), [], hW', (trodAll_cons_mk (shut_bool (show Tryd.prog.underlying 4 = some .bool by kernel_rfl) _) trodAll_mk0), (trodAll_cons_mk (Below.trod laidOut (by kernel_rfl) (of_decide_eq_true (by kernel_rfl)) h0 hg hlt0) (trodAll_cons_mk (Below.trod laidOut (by kernel_rfl) (of_decide_eq_true (by kernel_rfl)) h1 hg hlt1) (trodAll_cons_mk (Below.trod laidOut (by kernel_rfl) (of_decide_eq_true (by kernel_rfl)) h2 hg hlt2) (trodAll_cons_mk (Below.trod laidOut (by kernel_rfl) (of_decide_eq_true (by kernel_rfl)) h3 hg hlt3) (trodAll_cons_mk (Below.trod laidOut (by kernel_rfl) (of_decide_eq_true (by kernel_rfl)) h4 hg hlt4) trodAll_mk0))))), rfl, hg.frame _, fun h => by cases h⟩

/-- The statement: whatever the arguments, the law's function returns true and leaves them as they were. -/
theorem labelsDenning_holds : Rows.LabelsDenningSaid :=
  OpenClaim.holds_of_wide 6 Tryd.f6 rfl rfl rfl rfl rfl rfl rfl ⟨rfl, rfl, rfl, rfl, rfl⟩ rfl rfl rfl rfl rfl (by kernel_rfl) Tryd.func6 (by kernel_rfl)
    (of_decide_eq_true (by kernel_rfl)) (by unfold Func.isWrapper; first | (rw [if_pos (by decide +kernel)]; kernel_rfl) | (rw [if_neg (by decide +kernel)]; exact ⟨rfl, rfl⟩))
    (fun os started H enc _ => lifted_LabelsDenning os started H enc)
/-- The statement's card: the variable that the road reads is tied to the program's text. -/
theorem labelsDenning_card : Rows.LabelsDenningCardSaid :=
  Claim7.holds_tied_plain_at .later [] [.data] true (true, "65abc2aaf7183d6748ea4ca63c5ffe01ee343b6a2ad66bd6fe5683088795bba2") true labelsDenning_holds (fun _ h => by cases h) (by kernel_rfl) (fun _ h => by cases h) labelsDenning_row_tie rfl ⟨rfl, rfl⟩ (by kernel_rfl) rfl
    (fun f fn hf hfn => by
      obtain rfl : f = 6 := Option.some.inj ((show Tryd.prog.funcNamed "watershed/watershedkeep.LabelsDenning" = some 6 by kernel_rfl).symm.trans hf) |>.symm
      obtain rfl : fn = Tryd.f6 := (Option.some.inj (Tryd.func6.symm.trans hfn)).symm
      exact ⟨by kernel_rfl, fun j t ht => by
        have h3 := List.all_eq_true.1 (show (Tryd.f6.params.toList.all fun t => !(Tryd.prog.wantsStandIn t)) = true by kernel_rfl) t (by rw [← Array.getElem?_toList] at ht; exact List.mem_of_getElem? ht)
        have h4 : Tryd.prog.wantsStandIn t = false := by simpa using h3
        exact h4⟩)
    (by kernel_rfl)
end Go.Proofs.YtgnhcmdmlcjpkaaDoor
