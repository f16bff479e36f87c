/- Whether a graph may be hangs not on how its nodes are numbered: the law answers true for every graph and number. No condition. -/
import Derived.Test.YtnlkjgfopenmnaaDoorGhT
import Derived.Test.YtnlkjgfopenmnaaDoorFrame
namespace Go.Proofs.YtnlkjgfopenmnaaDoor
open Go Go.ChangeShapes Go.WideShapes Go.ChangeAt Go.WideMaps Go.WideElems Go.RowKit Go.Abs Go.Gr
-- watershed/watershedkeep.GraphRenamed
abbrev Ks_keep_GraphRenamed : List Kd := [.dat (.pair (.sl (.pair (.int .i64) (.pair (.int .i64) (.pair (.int .i64) (.pair (.int .i64) (.int .i64)))))) (.sl (.pair (.int .i64) (.pair (.int .i64) (.int .i64))))), .dat (.int .u8)]
abbrev Rk_keep_GraphRenamed : List Kd := [.dat (.bool)]
abbrev Rt_keep_GraphRenamed : Type := Dens Rk_keep_GraphRenamed
noncomputable def C_keep_GraphRenamed (_N : Nat) : Ctx := { T := [(3, ⟨.int .i64, 1, 8, some (.int .i64), [.int .i64 (0 : Int)], false⟩), (5, ⟨.int .u8, 1, 1, some (.int .u8), [.int .u8 (0 : Int)], false⟩), (22, ⟨.slice 38, 1, 24, some (.sl (.pair (.int .i64) (.pair (.int .i64) (.pair (.int .i64) (.pair (.int .i64) (.int .i64)))))), [.nil], false⟩), (23, ⟨.slice 34, 1, 24, some (.sl (.pair (.int .i64) (.pair (.int .i64) (.int .i64)))), [.nil], false⟩), (25, ⟨.struct [(0, 22), (1, 23)], 2, 48, some (.pair (.sl (.pair (.int .i64) (.pair (.int .i64) (.pair (.int .i64) (.pair (.int .i64) (.int .i64)))))) (.sl (.pair (.int .i64) (.pair (.int .i64) (.int .i64))))), [.nil, .nil], false⟩), (26, ⟨.slice 3, 1, 24, some (.sl (.int .i64)), [.nil], false⟩), (27, ⟨.int .i64, 1, 8, some (.int .i64), [.int .i64 (0 : Int)], false⟩), (29, ⟨.struct [(0, 27), (1, 3)], 2, 16, some (.pair (.int .i64) (.int .i64)), [.int .i64 (0 : Int), .int .i64 (0 : Int)], true⟩), (34, ⟨.struct [(0, 3), (1, 3), (2, 3)], 3, 24, some (.pair (.int .i64) (.pair (.int .i64) (.int .i64))), [.int .i64 (0 : Int), .int .i64 (0 : Int), .int .i64 (0 : Int)], true⟩), (38, ⟨.struct [(0, 3), (1, 3), (2, 36)], 5, 40, some (.pair (.int .i64) (.pair (.int .i64) (.pair (.int .i64) (.pair (.int .i64) (.int .i64))))), [.int .i64 (0 : Int), .int .i64 (0 : Int), .int .i64 (0 : Int), .int .i64 (0 : Int), .int .i64 (0 : Int)], false⟩)], G := findE [mkD 6 Ks_graph_Rank Rk_graph_Rank (D_graph_Rank _N), mkP 8 Ks_graph_Check Rk_graph_Check (D_graph_Check _N)], I := findI [], N := _N, n := 129, fx := [3], fl := 0, gs := Gs }
noncomputable def keep_GraphRenamed_1 (_N : Nat) (_v33 : Int) (_v34 : List (Int × Int × Int × Int × Int)) (_v35 : List (Int × Int × Int)) (_v36 : List (Int × Int × Int × Int × Int)) (_v37 : List (Int × Int × Int)) : Option Rt_keep_GraphRenamed :=
  ((D_graph_Rank _N ((_v36, _v37), ())).bind fun _y41 => ((D_graph_Check _N ((_v34, _v35), ())).bind fun _y42 => (bif (_y42.1.1 == _y41.2.1.1) then ((D_graph_Check _N ((_v36, _v37), ())).bind fun _y43 => (bif (_y43.1.1 == _y41.2.1.1) then (bif (_y41.2.1.1 != (0 : Int)) then (some (true, ())) else (some (((_y41.1.length : Int) == _v33), ()))) else (some (false, ())))) else (some (false, ())))))
noncomputable def keep_GraphRenamed_2 (_N : Nat) (_k44 : (Int × (List (Int × Int × Int × Int × Int)) × (List (Int × Int × Int)) × (List (Int × Int × Int × Int × Int)) × (List (Int × Int × Int))) → Option Rt_keep_GraphRenamed) (_v12 : Int) (_v13 : Int) (_v14 : List (Int × Int × Int)) (_v15 : Int) (_v17 : List (Int × Int × Int × Int × Int)) (_v18 : List (Int × Int × Int)) (_v19 : List (Int × Int × Int × Int × Int)) (_v16 : Int) (_v24 : List (Int × Int × Int)) (_kn45 : (Int × Int × (List (Int × Int × Int)) × Int × (List (Int × Int × Int × Int × Int)) × (List (Int × Int × Int)) × (List (Int × Int × Int × Int × Int))) × (Int × (List (Int × Int × Int))) → Option Rt_keep_GraphRenamed) : Option Rt_keep_GraphRenamed :=
  (bif (decide (_v16 < _v15)) then (bif (decide (0 ≤ _v16) && decide (_v16 < (_v14.length : Int))) then (bif (decide (((nth ((0 : Int), ((0 : Int), (0 : Int))) _v14 (_v16).toNat).1) < (0 : Int))) then ((D_graph_Check _N ((_v17, _v18), ())).bind fun _y46 => (some ((_y46.1.1 != (0 : Int)), ()))) else (bif (decide (((nth ((0 : Int), ((0 : Int), (0 : Int))) _v14 (_v16).toNat).1) ≥ _v12)) then ((D_graph_Check _N ((_v17, _v18), ())).bind fun _y47 => (some ((_y47.1.1 != (0 : Int)), ()))) else (bif (decide ((((nth ((0 : Int), ((0 : Int), (0 : Int))) _v14 (_v16).toNat).2).1) < (0 : Int))) then ((D_graph_Check _N ((_v17, _v18), ())).bind fun _y48 => (some ((_y48.1.1 != (0 : Int)), ()))) else (bif (decide ((((nth ((0 : Int), ((0 : Int), (0 : Int))) _v14 (_v16).toNat).2).1) ≥ _v12)) then ((D_graph_Check _N ((_v17, _v18), ())).bind fun _y49 => (some ((_y49.1.1 != (0 : Int)), ()))) else (bif (_v12 == 0) then none else (bif (_v12 == 0) then none else (bif (decide ((_v24.length + ([(((IntKind.i64.wrap (((nth ((0 : Int), ((0 : Int), (0 : Int))) _v14 (_v16).toNat).1) + _v13)).tmod _v12), (((IntKind.i64.wrap ((((nth ((0 : Int), ((0 : Int), (0 : Int))) _v14 (_v16).toNat).2).1) + _v13)).tmod _v12), ((nth ((0 : Int), ((0 : Int), (0 : Int))) _v14 (_v16).toNat).2).2))]).length) * 24 ≤ 140737488355328) && Nat.ble 1 24) then (_kn45 ((_v12, _v13, _v14, _v15, _v17, _v18, _v19), ((IntKind.i64.wrap (_v16 + (1 : Int))), (_v24 ++ [(((IntKind.i64.wrap (((nth ((0 : Int), ((0 : Int), (0 : Int))) _v14 (_v16).toNat).1) + _v13)).tmod _v12), (((IntKind.i64.wrap ((((nth ((0 : Int), ((0 : Int), (0 : Int))) _v14 (_v16).toNat).2).1) + _v13)).tmod _v12), ((nth ((0 : Int), ((0 : Int), (0 : Int))) _v14 (_v16).toNat).2).2))])))) else none))))))) else none) else (_k44 (_v12, _v17, _v18, _v19, _v24)))
noncomputable def keep_GraphRenamed_3 (_N : Nat) (_v7 : Int) (_v8 : Int) (_v9 : List (Int × Int × Int × Int × Int)) (_v10 : List (Int × Int × Int)) (_v11 : List (Int × Int × Int × Int × Int)) : Option Rt_keep_GraphRenamed :=
  (joinD (fun (_s : Int × (List (Int × Int × Int × Int × Int)) × (List (Int × Int × Int)) × (List (Int × Int × Int × Int × Int)) × (List (Int × Int × Int))) => keep_GraphRenamed_1 _N _s.1 _s.2.1 _s.2.2.1 _s.2.2.2.1 _s.2.2.2.2) fun _k44 => (loopE (fun (_c : Int × Int × (List (Int × Int × Int)) × Int × (List (Int × Int × Int × Int × Int)) × (List (Int × Int × Int)) × (List (Int × Int × Int × Int × Int))) (_s : Int × (List (Int × Int × Int))) _kn => keep_GraphRenamed_2 _N _k44 _c.1 _c.2.1 _c.2.2.1 _c.2.2.2.1 _c.2.2.2.2.1 _c.2.2.2.2.2.1 _c.2.2.2.2.2.2 _s.1 _s.2 _kn) _N (_v7, _v8, _v10, (_v10.length : Int), _v9, _v10, _v11) ((0 : Int), [])))
noncomputable def keep_GraphRenamed_4 (_N : Nat) (_k50 : (Int × Int × (List (Int × Int × Int × Int × Int)) × (List (Int × Int × Int)) × (List (Int × Int × Int × Int × Int))) → Option Rt_keep_GraphRenamed) (_v1 : Int) (_v2 : Int) (_v4 : List (Int × Int × Int × Int × Int)) (_v5 : List (Int × Int × Int)) (_v3 : Int) (_v6 : List (Int × Int × Int × Int × Int)) (_kn51 : (Int × Int × (List (Int × Int × Int × Int × Int)) × (List (Int × Int × Int))) × (Int × (List (Int × Int × Int × Int × Int))) → Option Rt_keep_GraphRenamed) : Option Rt_keep_GraphRenamed :=
  (bif (decide (_v3 < _v1)) then (bif (_v1 == 0) then none else (bif (decide (0 ≤ _v3) && decide (_v3 < (_v4.length : Int))) then (bif (decide (0 ≤ ((IntKind.i64.wrap (_v3 + _v2)).tmod _v1)) && decide (((IntKind.i64.wrap (_v3 + _v2)).tmod _v1) < (_v6.length : Int))) then (_kn51 ((_v1, _v2, _v4, _v5), ((IntKind.i64.wrap (_v3 + (1 : Int))), (_v6.set (((IntKind.i64.wrap (_v3 + _v2)).tmod _v1).toNat) ((nth ((0 : Int), ((0 : Int), ((0 : Int), ((0 : Int), (0 : Int))))) _v4 (_v3).toNat).1, (((nth ((0 : Int), ((0 : Int), ((0 : Int), ((0 : Int), (0 : Int))))) _v4 (_v3).toNat).2).1, ((((nth ((0 : Int), ((0 : Int), ((0 : Int), ((0 : Int), (0 : Int))))) _v4 (_v3).toNat).2).2).1, (((((nth ((0 : Int), ((0 : Int), ((0 : Int), ((0 : Int), (0 : Int))))) _v4 (_v3).toNat).2).2).2).1, ((((nth ((0 : Int), ((0 : Int), ((0 : Int), ((0 : Int), (0 : Int))))) _v4 (_v3).toNat).2).2).2).2)))))))) else none) else none)) else (_k50 (_v1, _v2, _v4, _v5, _v6)))
noncomputable def keep_GraphRenamed_5 (_N : Nat) (_x1 : List (Int × Int × Int × Int × Int) × List (Int × Int × Int)) (_x2 : Int) : Option Rt_keep_GraphRenamed :=
  (bif ((_x1.1.length : Int) == (0 : Int)) then (some (true, ())) else (bif (decide ((_x1.1.length : Int) > (12 : Int))) then (some (true, ())) else (bif ((_x1.1.length : Int) == 0) then none else (bif (decide (0 ≤ (_x1.1.length : Int)) && (decide ((_x1.1.length : Int) ≤ (_x1.1.length : Int)) && decide ((_x1.1.length : Int) * 40 ≤ 281474976710656))) then (joinD (fun (_s : Int × Int × (List (Int × Int × Int × Int × Int)) × (List (Int × Int × Int)) × (List (Int × Int × Int × Int × Int))) => keep_GraphRenamed_3 _N _s.1 _s.2.1 _s.2.2.1 _s.2.2.2.1 _s.2.2.2.2) fun _k50 => (loopE (fun (_c : Int × Int × (List (Int × Int × Int × Int × Int)) × (List (Int × Int × Int))) (_s : Int × (List (Int × Int × Int × Int × Int))) _kn => keep_GraphRenamed_4 _N _k50 _c.1 _c.2.1 _c.2.2.1 _c.2.2.2 _s.1 _s.2 _kn) _N ((_x1.1.length : Int), ((IntKind.i64.wrap _x2).tmod (_x1.1.length : Int)), _x1.1, _x1.2) ((0 : Int), (List.replicate (_x1.1.length : Int).toNat ((0 : Int), ((0 : Int), ((0 : Int), ((0 : Int), (0 : Int))))))))) else none))))
noncomputable def D_keep_GraphRenamed (_N : Nat) (_x : Dens Ks_keep_GraphRenamed) : Option Rt_keep_GraphRenamed := keep_GraphRenamed_5 _N _x.1 _x.2.1
theorem sp_keep_GraphRenamed (_N : Nat) : SpecD Tryd.prog Gs 4 Ks_keep_GraphRenamed Rk_keep_GraphRenamed (D_keep_GraphRenamed _N) := mkSpD (fn := Tryd.f4) (c := bodyOf Tryd.f4) (C := C_keep_GraphRenamed _N)
    (a := .two .none (.two .none (.two .none (.two .none (.two .none (.join 3 ⟨[(2, .ptr 0 0), (5, .int .i64), (6, .int .i64), (7, .ptr 2 0)], [.cells [.sl (.pair (.int .i64) (.pair (.int .i64) (.pair (.int .i64) (.pair (.int .i64) (.int .i64))))), .sl (.pair (.int .i64) (.pair (.int .i64) (.int .i64)))], .row false 0 38 (.pair (.int .i64) (.pair (.int .i64) (.pair (.int .i64) (.pair (.int .i64) (.int .i64))))), .cells [.slc 1 0, .nil]]⟩ (.two .none (.one (.loop 3 ⟨[(2, .ptr 0 0), (5, .int .i64), (6, .int .i64), (7, .ptr 2 0), (8, .int .i64)], [.cells [.sl (.pair (.int .i64) (.pair (.int .i64) (.pair (.int .i64) (.pair (.int .i64) (.int .i64))))), .sl (.pair (.int .i64) (.pair (.int .i64) (.int .i64)))], .row false 0 38 (.pair (.int .i64) (.pair (.int .i64) (.pair (.int .i64) (.pair (.int .i64) (.int .i64))))), .cells [.slc 1 0, .nil]]⟩ [2, 5] (.two .none (.two (.one (.draw 0 [.pure, .rd [2], .pure, .pure, .pure, .pure, .pure, .pure, .rd [0], .pure, .pure, .pure, .rd [1], .wr [1]])) .none))))) (.join 4 ⟨[(2, .ptr 0 0), (5, .int .i64), (7, .ptr 2 0)], [.cells [.sl (.pair (.int .i64) (.pair (.int .i64) (.pair (.int .i64) (.pair (.int .i64) (.int .i64))))), .sl (.pair (.int .i64) (.pair (.int .i64) (.int .i64)))], .row false 0 38 (.pair (.int .i64) (.pair (.int .i64) (.pair (.int .i64) (.pair (.int .i64) (.int .i64))))), .cells [.slc 1 0, .slc 3 0], .row false 0 34 (.pair (.int .i64) (.pair (.int .i64) (.int .i64)))]⟩ (.two .none (.one (.objc 2 1 34 (.pair (.int .i64) (.pair (.int .i64) (.int .i64))) (.loop 4 ⟨[(2, .ptr 0 0), (5, .int .i64), (6, .int .i64), (7, .ptr 2 0), (48, .sl (.pair (.int .i64) (.pair (.int .i64) (.int .i64)))), (49, .int .i64), (50, .int .i64)], [.cells [.sl (.pair (.int .i64) (.pair (.int .i64) (.pair (.int .i64) (.pair (.int .i64) (.int .i64))))), .sl (.pair (.int .i64) (.pair (.int .i64) (.int .i64)))], .row false 0 38 (.pair (.int .i64) (.pair (.int .i64) (.pair (.int .i64) (.pair (.int .i64) (.int .i64))))), .cells [.slc 1 0, .slc 3 0], .row false 0 34 (.pair (.int .i64) (.pair (.int .i64) (.int .i64)))]⟩ [4, 8] (.two .none (.two .none (.two (.one (.two .none (.two .none (.draw 1 [.pure, .rd [2], .pure, .rd [4], .pure, .pure, .pure, .pure, .pure, .rd [4], .pure, .pure, .pure, .pure, .pure, .rd [4], .pure, .new 5, .wr [3, 5], .pure, .wr [2, 3]])))) .none))))))) (.two .none (.two (.draw 0 (.rd [0] :: .pure :: .pure :: .pure :: .rd [4] :: .pure :: .pure :: .rd [2] :: .rd [1, 3] :: .pure :: .pure :: .rd [4] :: .pure :: .pure :: .pure :: .pure :: .rd [4] :: .pure :: .pure :: .pure :: .pure :: .pure :: .pure :: .pure :: .pure :: .pure :: [])) .none)))))))))
    (by kernel_rfl) rfl (by kernel_rfl) (by kernel_rfl) ⟨rfl, by unfold TOk; kernel_rfl, gOk_of rfl rfl (List.forall_mem_cons.2 ⟨en_graph_Rank _N, (List.forall_mem_cons.2 ⟨en_graph_Check _N, (List.forall_mem_nil _)⟩)⟩), iOk_of rfl rfl (List.forall_mem_nil _), rfl⟩ (fun _x => by kernel_rfl)
theorem en_keep_GraphRenamed (_N : Nat) : EntOk Tryd.prog Gs (mkP 4 Ks_keep_GraphRenamed Rk_keep_GraphRenamed (D_keep_GraphRenamed _N)) := entP ⟨Tryd.f4, bodyOf Tryd.f4, by kernel_rfl, by kernel_rfl, rfl⟩ (by kernel_rfl) (sp_keep_GraphRenamed _N)
namespace Gh
/-- The same graph with its nodes numbered anew. -/
structure Rn (ns : List Nd) (es : List Ed) (ns' : List Nd) (es' : List Ed) (ρ : Nat → Nat) : Prop where
  len : ns'.length = ns.length
  lt : ∀ i, i < ns.length → ρ i < ns.length
  sur : ∀ j, j < ns.length → ∃ i, i < ns.length ∧ ρ i = j
  inj : ∀ i j, i < ns.length → j < ns.length → ρ i = ρ j → i = j
  nd : ∀ i, i < ns.length → nth z5 ns' (ρ i) = nth z5 ns i
  el : es'.length = es.length
  rg : ∀ i, i < es.length → 0 ≤ (nth z3 es i).1 ∧ (nth z3 es i).1 < ns.length ∧ 0 ≤ (nth z3 es i).2.1 ∧ (nth z3 es i).2.1 < ns.length
  ed : ∀ i, i < es.length → nth z3 es' i = (((ρ (nth z3 es i).1.toNat : Nat) : Int), ((ρ (nth z3 es i).2.1.toNat : Nat) : Int), (nth z3 es i).2.2)
section
variable {ns ns' : List Nd} {es es' : List Ed} {ρ : Nat → Nat}
theorem Rn.inv (h : Rn ns es ns' es' ρ) : ∃ τ, Rn ns' es' ns es τ ∧ ∀ i, i < ns.length → τ (ρ i) = i := by
  classical
  have hc : ∀ j, ∃ i, j < ns.length → i < ns.length ∧ ρ i = j := fun j => by
    by_cases q : j < ns.length
    · obtain ⟨i, hi⟩ := h.sur j q; exact ⟨i, fun _ => hi⟩
    · exact ⟨0, fun h => absurd h q⟩
  obtain ⟨τ, hτ⟩ := Classical.axiomOfChoice hc
  have hb : ∀ i, i < ns.length → τ (ρ i) = i := fun i hi => h.inj _ _ (hτ _ (h.lt i hi)).1 hi (hτ _ (h.lt i hi)).2
  refine ⟨τ, ⟨h.len.symm, fun i hi => ?_, fun j hj => ?_, fun i j hi hj e => ?_, fun i hi => ?_, h.el.symm, fun i hi => ?_, fun i hi => ?_⟩, hb⟩
  · rw [h.len] at hi ⊢; exact (hτ i hi).1
  · rw [h.len] at hj ⊢; exact ⟨ρ j, h.lt j hj, hb j hj⟩
  · rw [h.len] at hi hj
    rw [← (hτ i hi).2, ← (hτ j hj).2, e]
  · rw [h.len] at hi
    have := h.nd _ (hτ i hi).1
    rw [(hτ i hi).2] at this
    exact this.symm
  · rw [h.el] at hi
    have hr := h.rg i hi
    rw [h.ed i hi, h.len]
    have l1 := h.lt (nth z3 es i).1.toNat (by omega)
    have l2 := h.lt (nth z3 es i).2.1.toNat (by omega)
    simp only
    omega
  · rw [h.el] at hi
    have hr := h.rg i hi
    rw [h.ed i hi]
    simp only [Int.toNat_natCast]
    rw [hb _ (by omega), hb _ (by omega)]
    refine Prod.ext ?_ (Prod.ext ?_ rfl)
    · simp only; omega
    · simp only; omega
theorem Rn.pk (h : Rn ns es ns' es' ρ) {f : Int} {a b : Nat} (hp : Pk (EdG ns es f) ns.length a b) : a < ns.length → b < ns.length → Pk (EdG ns' es' f) ns'.length (ρ a) (ρ b) := by
  have hE : ∀ {a b}, EdG ns es f a b → a < ns.length → b < ns.length → EdG ns' es' f (ρ a) (ρ b) := fun {a b} hh ha hb => by
    obtain ⟨e, he, e1, e2, i1, i2⟩ := hh
    obtain ⟨j, hj, rfl⟩ := mem_nth (z := z3) he
    refine ⟨nth z3 es' j, nth_mem (by rw [h.el]; exact hj), ?_, ?_, by rw [h.nd a ha]; exact i1, by rw [h.nd b hb]; exact i2⟩
    · rw [h.ed j hj, e1, Int.toNat_natCast]
    · rw [h.ed j hj, e2, Int.toNat_natCast]
  induction hp with
  | one hh => exact fun ha hb => .one (hE hh ha hb)
  | cons hh hm _ ih => exact fun ha hb => .cons (hE hh ha hm) (by rw [h.len]; exact h.lt _ hm) (ih hm hb)
theorem Rn.ring (h : Rn ns es ns' es' ρ) : Ringy ns es → Ringy ns' es' := by
  rintro ⟨f, f1, f4, a, j, hr⟩
  refine ⟨f, f1, f4, ρ a, ρ j, by rw [h.len]; exact h.lt a hr.an, by rw [h.len]; exact h.lt j hr.jn, ?_, h.pk hr.go hr.an hr.jn, h.pk hr.back hr.jn hr.an⟩
  unfold deepOf
  rw [h.nd a hr.an]
  exact hr.deep
theorem Rn.edge (h : Rn ns es ns' es' ρ) {i : Nat} (hi : i < es.length) : edgeC ns' es' i = edgeC ns es i := by
  have hr := h.rg i hi
  have l1 : (nth z3 es i).1.toNat < ns.length := by omega
  have l2 : (nth z3 es i).2.1.toNat < ns.length := by omega
  have m1 := h.lt _ l1
  have m2 := h.lt _ l2
  have n1 := h.nd _ l1
  have n2 := h.nd _ l2
  have hp : PortX ns' es' i (nth z3 es' i) ↔ PortX ns es i (nth z3 es i) := by
    unfold PortX
    rw [h.ed i hi, h.len]
    simp only [Int.toNat_natCast, n2]
    constructor
    · rintro ⟨⟨-, -, -, -, a5, a6⟩, a7⟩
      refine ⟨⟨hr.1, hr.2.1, hr.2.2.1, hr.2.2.2, a5, a6⟩, fun j hj hh => a7 j hj ?_⟩
      rw [h.ed j (by omega)]
      exact ⟨by rw [hh.1], hh.2⟩
    · rintro ⟨⟨-, -, -, -, a5, a6⟩, a7⟩
      refine ⟨⟨by omega, by omega, by omega, by omega, a5, a6⟩, fun j hj hh => a7 j hj ?_⟩
      rw [h.ed j (by omega)] at hh
      have hrj := h.rg j (by omega)
      have e : ((ρ (nth z3 es j).2.1.toNat : Nat) : Int) = ((ρ (nth z3 es i).2.1.toNat : Nat) : Int) := hh.1
      have := h.inj (nth z3 es j).2.1.toNat (nth z3 es i).2.1.toNat (by omega) l2 (by omega)
      exact ⟨by omega, hh.2⟩
  unfold edgeC edgeY
  by_cases q : PortX ns es i (nth z3 es i)
  · rw [if_pos q, if_pos (hp.2 q), h.ed i hi]
    simp only [Int.toNat_natCast, n1, n2]
  · rw [if_neg q, if_neg (fun h => q (hp.1 h))]
theorem Rn.miss (h : Rn ns es ns' es' ρ) : Missing ns es → Missing ns' es' := by
  rintro ⟨i, p, hi, hp, hno⟩
  refine ⟨ρ i, p, by rw [h.len]; exact h.lt i hi, by rw [h.nd i hi]; exact hp, fun e he hh => ?_⟩
  obtain ⟨j, hj, rfl⟩ := mem_nth (z := z3) he
  rw [h.el] at hj
  rw [h.ed j hj] at hh
  have hrj := h.rg j hj
  have e : ((ρ (nth z3 es j).2.1.toNat : Nat) : Int) = ((ρ i : Nat) : Int) := hh.1
  have := h.inj (nth z3 es j).2.1.toNat i (by omega) hi (by omega)
  exact hno _ (nth_mem hj) ⟨by omega, hh.2⟩
theorem Rn.code (h : Rn ns es ns' es' ρ) : codeG ns' es' = codeG ns es := by
  obtain ⟨τ, hτ, -⟩ := h.inv
  have hbad : ∀ {ns ns' : List Nd} {es es' : List Ed} {ρ : Nat → Nat}, Rn ns es ns' es' ρ → (∃ x ∈ ns, nodeOk x = false) → ∃ x ∈ ns', nodeOk x = false := fun {ns ns' es es' ρ} h ⟨x, hx, hh⟩ => by
    obtain ⟨i, hi, rfl⟩ := mem_nth (z := z5) hx
    exact ⟨_, nth_mem (z := z5) (i := ρ i) (by rw [h.len]; exact h.lt i hi), by rw [h.nd i hi]; exact hh⟩
  have hce : codeE ns' es' = codeE ns es := by
    unfold codeE
    rw [h.el, firstC_congr fun i hi => h.edge hi]
    by_cases q : Missing ns es
    · rw [if_pos q, if_pos (h.miss q)]
    · rw [if_neg q, if_neg (fun q' => q (hτ.miss q'))]
  unfold codeG
  rw [h.len, h.el, hce]
  by_cases q1 : 12 < ns.length ∨ 20 < es.length
  · rw [if_pos q1, if_pos q1]
  rw [if_neg q1, if_neg q1]
  by_cases q2 : ∃ x ∈ ns, nodeOk x = false
  · rw [if_pos q2, if_pos (hbad h q2)]
  rw [if_neg q2, if_neg (fun q => q2 (hbad hτ q))]
  by_cases q3 : codeE ns es = 0
  · rw [if_pos q3, if_pos q3]
    by_cases q4 : Ringy ns es
    · rw [if_pos q4, if_pos (h.ring q4)]
    · rw [if_neg q4, if_neg (fun q => q4 (hτ.ring q))]
  · rw [if_neg q3, if_neg q3]
end
def rot (n at' i : Nat) : Nat := (i + at') % n
theorem rot_w {n at' : Nat} (hn : n ≤ 12) (hat : at' < n) {f : Int} (h0 : 0 ≤ f) (h1 : f < n) : (IntKind.i64.wrap (f + (at' : Int))).tmod (n : Int) = ((rot n at' f.toNat : Nat) : Int) := by
  rw [w64 (by omega) (by omega), Int.tmod_eq_emod_of_nonneg (by omega)]
  unfold rot
  obtain ⟨k, rfl⟩ := Int.eq_ofNat_of_zero_le h0
  rw [Int.toNat_natCast, Int.natCast_emod, Int.natCast_add]
theorem rot_inj {n at' i j : Nat} (hat : at' < n) (hi : i < n) (hj : j < n) (h : rot n at' i = rot n at' j) : i = j := by
  unfold rot at h
  have e : ∀ x, x < n → (x + at') % n = if x + at' < n then x + at' else x + at' - n := fun x hx => by
    split
    · exact Nat.mod_eq_of_lt (by assumption)
    · rw [Nat.mod_eq_sub_mod (by omega), Nat.mod_eq_of_lt (by omega)]
  rw [e i hi, e j hj] at h
  split at h <;> split at h <;> omega
theorem rot_sur {n at' j : Nat} (hat : at' < n) (hj : j < n) : ∃ i, i < n ∧ rot n at' i = j := by
  unfold rot
  by_cases q : at' ≤ j
  · exact ⟨j - at', by omega, by rw [Nat.sub_add_cancel q]; exact Nat.mod_eq_of_lt hj⟩
  · refine ⟨j + n - at', by omega, ?_⟩
    rw [show j + n - at' + at' = j + n by omega, Nat.add_mod_right]; exact Nat.mod_eq_of_lt hj
theorem renamed {N : Nat} (hN : 1000 ≤ N) (ns : List Nd) (es : List Ed) (hNe : es.length < N) (hes : es.length * 24 ≤ 140737488351232) {x : Int} (hx0 : 0 ≤ x) (hx1 : x ≤ 255) : D_keep_GraphRenamed N ((ns, es), x, ()) = some (true, ()) := by
  simp only [D_keep_GraphRenamed, keep_GraphRenamed_5]
  by_cases q0 : ns.length = 0
  · rw [show ((ns.length : Int) == 0) = true from beq_iff_eq.2 (by omega), cond_true]
  rw [show ((ns.length : Int) == 0) = false from beq_false_of_ne (by omega), cond_false]
  by_cases q1 : 12 < ns.length
  · rw [d_true (show (ns.length : Int) > 12 by omega), cond_true]
  rw [d_false (show ¬ (ns.length : Int) > 12 by omega), cond_false, cond_false, d_true (show (0 : Int) ≤ ns.length by omega), d_true (show ((ns.length : Int)) * 40 ≤ 281474976710656 by omega), d_true (Int.le_refl _), Bool.and_self, Bool.and_self, cond_true]
  have hn : ns.length ≤ 12 := by omega
  simp only [joinD, loopE]
  have hat : (IntKind.i64.wrap x).tmod (ns.length : Int) = ((x.toNat % ns.length : Nat) : Int) := by
    rw [w64 (by omega) (by omega), Int.tmod_eq_emod_of_nonneg (by omega)]
    obtain ⟨k, rfl⟩ := Int.eq_ofNat_of_zero_le hx0
    rw [Int.toNat_natCast, Int.natCast_emod]
  rw [hat, Int.toNat_natCast]
  have hatl : x.toNat % ns.length < ns.length := Nat.mod_lt _ (by omega)
  generalize x.toNat % ns.length = at' at hatl
  have hrl : ∀ i, rot ns.length at' i < ns.length := fun i => Nat.mod_lt _ (by omega)
  refine loopD_Q (fun r => r = some (true, ())) ns.length (fun i s => s.1 = (i : Int) ∧ s.2.length = ns.length ∧ ∀ j, j < i → nth z5 s.2 (rot ns.length at' j) = nth z5 ns j) ?_ ?_ (by omega) ⟨rfl, by simp, fun j hj => absurd hj (Nat.not_lt_zero _)⟩
  · rintro i ⟨_, hs⟩ hi ⟨rfl, hl, hI⟩ kn hk
    simp only at hl hI
    have hr := rot_w hn hatl (show (0 : Int) ≤ (i : Int) by omega) (show (i : Int) < ns.length by omega)
    rw [Int.toNat_natCast] at hr
    simp only [keep_GraphRenamed_4, lt_d hi, cond_true, show ((ns.length : Int) == 0) = false from beq_false_of_ne (by omega), cond_false, ge0_d, Bool.and_self, hr, hl, lt_d (hrl i), Int.toNat_natCast, ix1 hi (show ns.length ≤ 100000 by omega), nd_eta, backE_eq]
    refine hk _ ⟨by simp, by simp [hl], fun j hj => ?_⟩
    simp only
    rw [set_nth]
    by_cases q : j = i
    · subst q; rw [if_pos ⟨rfl, by rw [hl]; exact hrl j⟩]
    · rw [if_neg (fun h => q (rot_inj hatl (by omega) hi h.1.symm)), hI j (by omega)]
  · rintro ⟨_, hs⟩ ⟨rfl, hl, hI⟩ kn
    simp only at hl hI
    simp only [keep_GraphRenamed_4, lt_self, cond_false, keep_GraphRenamed_3, joinD, loopE]
    let rr : Ed → Ed := fun e => (((rot ns.length at' e.1.toNat : Nat) : Int), ((rot ns.length at' e.2.1.toNat : Nat) : Int), e.2.2)
    refine loopD_Q (fun r => r = some (true, ())) es.length (fun i s => s.1 = (i : Int) ∧ s.2 = (es.take i).map rr ∧ ∀ j, j < i → 0 ≤ (nth z3 es j).1 ∧ (nth z3 es j).1 < ns.length ∧ 0 ≤ (nth z3 es j).2.1 ∧ (nth z3 es j).2.1 < ns.length) ?_ ?_ hNe ⟨rfl, rfl, fun j hj => absurd hj (Nat.not_lt_zero _)⟩
    · rintro i ⟨_, _⟩ hi ⟨rfl, rfl, hR⟩ kn' hk'
      obtain ⟨p, hck⟩ := Check_eq (N := N) hN ns es
      have hout : ¬ (0 ≤ (nth ((0 : Int), (0 : Int), (0 : Int)) es i).1 ∧ (nth ((0 : Int), (0 : Int), (0 : Int)) es i).1 < ns.length ∧ 0 ≤ (nth ((0 : Int), (0 : Int), (0 : Int)) es i).2.1 ∧ (nth ((0 : Int), (0 : Int), (0 : Int)) es i).2.1 < ns.length) → (codeG ns es != 0) = true := fun h =>
        bne_iff_ne.2 fun h' => h (by
          have := (codeG_zero.1 h').edges i hi
          exact ⟨this.f0, this.fn, this.t0, this.tn⟩)
      simp only [keep_GraphRenamed_2, lt_d hi, ge0_d, Bool.and_self, cond_true, Int.toNat_natCast, hck, Option.bind_some]
      by_cases c1 : (nth ((0 : Int), (0 : Int), (0 : Int)) es i).1 < 0
      · rw [d_true c1, cond_true, hout (by omega)]
      rw [d_false c1, cond_false]
      by_cases c2 : (nth ((0 : Int), (0 : Int), (0 : Int)) es i).1 ≥ ns.length
      · rw [d_true c2, cond_true, hout (by omega)]
      rw [d_false c2, cond_false]
      by_cases c3 : (nth ((0 : Int), (0 : Int), (0 : Int)) es i).2.1 < 0
      · rw [d_true c3, cond_true, hout (by omega)]
      rw [d_false c3, cond_false]
      by_cases c4 : (nth ((0 : Int), (0 : Int), (0 : Int)) es i).2.1 ≥ ns.length
      · rw [d_true c4, cond_true, hout (by omega)]
      rw [d_false c4, cond_false, show ((ns.length : Int) == 0) = false from beq_false_of_ne (by omega), cond_false, cond_false, rot_w hn hatl (by omega) (by omega), rot_w hn hatl (by omega) (by omega)]
      simp only [List.length_map, List.length_take, Nat.min_eq_left (show i ≤ es.length by omega), List.length_singleton]
      rw [d_true (show (i + 1) * 24 ≤ 140737488355328 by omega), show Nat.ble 1 24 = true from rfl, Bool.and_self, cond_true, backE_eq, w64 (by omega) (by omega)]
      refine hk' _ ⟨by simp, ?_, fun j hj => ?_⟩
      · simp only
        rw [List.take_succ_eq_append_getElem hi, List.map_append, List.map_singleton]
        have : es[i] = nth ((0 : Int), (0 : Int), (0 : Int)) es i := (nth_lt hi).symm
        rw [this]
      · rcases Nat.lt_succ_iff_lt_or_eq.1 hj with h | rfl
        · exact hR j h
        · exact ⟨Int.not_lt.1 c1, Int.not_le.1 c2, Int.not_lt.1 c3, Int.not_le.1 c4⟩
    · rintro ⟨_, _⟩ ⟨rfl, rfl, hR⟩ kn'
      rw [List.take_length]
      have hRn : Rn ns es hs (es.map rr) (rot ns.length at') := ⟨hl, fun i _ => hrl i, fun j hj => rot_sur hatl hj, fun i j hi hj => rot_inj hatl hi hj, hI, by simp, hR, fun i hi => by
        rw [nth_lt (show i < (es.map rr).length by simpa using hi), List.getElem_map, ← nth_lt (z := z3) hi]⟩
      obtain ⟨p, hck⟩ := Check_eq (N := N) hN ns es
      obtain ⟨p', hck'⟩ := Check_eq (N := N) hN hs (es.map rr)
      simp only [keep_GraphRenamed_2, lt_self, cond_false, keep_GraphRenamed_1, hck, hck', Option.bind_some, hRn.code]
      by_cases q : codeG ns es = 0
      · obtain ⟨xs, e3, hxl, hrk⟩ := Rank_ok (N := N) hN (codeG_zero.1 (hRn.code.trans q))
        simp only [e3, Option.bind_some, q, beq_self_eq_true, cond_true, bne_self_eq_false, cond_false, List.length_map, hxl, hl]
      · obtain ⟨p3, e3⟩ := Rank_bad (N := N) hN (fun h => q (hRn.code.symm.trans h))
        simp only [e3, Option.bind_some, hRn.code, beq_self_eq_true, cond_true, show (codeG ns es != 0) = true from bne_iff_ne.2 q]
end Gh
theorem law_GraphRenamed (g : List (Int × Int × Int × Int × Int) × List (Int × Int × Int)) (k : Int) (_hg : wfS (.pair (.sl (.pair (.int .i64) (.pair (.int .i64) (.pair (.int .i64) (.pair (.int .i64) (.int .i64)))))) (.sl (.pair (.int .i64) (.pair (.int .i64) (.int .i64))))) g) (hk : wfS (.int .u8) k)
    (zg : g.1.length * 40 ≤ reachBytes ∧ g.2.length * 24 ≤ reachBytes) : ∃ N, D_keep_GraphRenamed N (g, k, ()) = some (true, ()) := by
  have h2 : g.2.length * 24 ≤ 140737488351232 := zg.2
  have hk : (0 : Int) ≤ k ∧ k ≤ 255 := hk
  exact ⟨g.2.length + 1000, Gh.renamed (by omega) g.1 g.2 (by omega) h2 hk.1 hk.2⟩
set_option maxRecDepth 100000 in
theorem lifted_GraphRenamed (os : Os) (started : os.Started) (H : Type) (enc : TypeId × Value → H) :
    ReturnsInHanded {} Tryd.checked os 4 .any (fun w args => (Rows.graphRenamedSpec.pre enc Tryd.prog Tryd.f4 [] false w args ∧ laidMetH Tryd.prog Rows.graphRenamedRow.laid w) ∧ sizedMet enc Tryd.prog Tryd.f4 (OpenSpec.ofChange Rows.graphRenamedSpec) false w args) (Rows.graphRenamedSpec.post enc Tryd.prog Tryd.f4 false true false false) := by
  refine returnsInHanded_of_change_and (C := Tryd.checked) (X := fun w _ => laidMetH Tryd.prog Rows.graphRenamedRow.laid w) (fun _ _ _ hh h => h.of_heap hh) own started (by kernel_rfl) Tryd.func4
    (ChangeSpec.witness_shaped (enc := enc) (C := Tryd.checked) (os := os) (X := fun w _ => laidMetH Tryd.prog Rows.graphRenamedRow.laid w) false (World.doorLaid Tryd.prog 400 os) #[.agg #[.slice none 0 0, .slice none 0 0], .int .u8 0] 8 rfl (World.shaped_of_RefB (by kernel_rfl) (by kernel_rfl)) (by kernel_rfl) (by kernel_rfl) (by kernel_rfl) (door_met os _)) ?_
  intro W base args ds gs before hval0 hW _ hsz0 hL _
  have hgw : GW Gs W := gw_of hL
  have hval : ∀ (j : Nat) t v, Tryd.f4.params[j]? = some t → args[j]? = some v → Value.okWide Tryd.prog W .any base t v := hval0
  have hW' := hW
  obtain ⟨p, q, hA0, hV, rfl, _, _⟩ := hW
  have hA : DataW.TrodAll enc Tryd.prog W 0 (fun _ => true) true Tryd.f4.params.toList args.toList ds p := hA0
  rw [Tryd.params4] at hA hval
  obtain ⟨v0, vs0, d0, ds0, p0, q0, hargs, rfl, rfl, h0, r0⟩ := trodAll_cons hA
  obtain ⟨v1, vs1, d1, ds1, p1, q1, rfl, rfl, rfl, h1, r1⟩ := trodAll_cons r0
  obtain ⟨rfl, rfl, rfl⟩ := trodAll_nil r1
  obtain rfl : args = #[v0, v1] := by cases args; simp_all
  obtain ⟨rfl, rfl⟩ := trodVars_none hV
  have hall := List.all_eq_true.1 hsz0
  clear hA0 hval0 hsz0
  simp only [List.append_nil] at hW'
  have hlt0 : ∀ x ∈ p0, x.block < W.heap.size := fun x hx => hW'.lt x (by simp [hx])
  have hlt1 : ∀ x ∈ p1, x.block < W.heap.size := fun x hx => hW'.lt x (by simp [hx])
  obtain ⟨x0, g0, w0⟩ := open_kd (k := .dat (.pair (.sl (.pair (.int .i64) (.pair (.int .i64) (.pair (.int .i64) (.pair (.int .i64) (.int .i64)))))) (.sl (.pair (.int .i64) (.pair (.int .i64) (.int .i64)))))) (by kernel_rfl) (hval 0 25 v0 rfl rfl) h0
  obtain ⟨x1, g1, w1⟩ := open_kd (k := .dat (.int .u8)) (by kernel_rfl) (hval 1 5 v1 rfl rfl) h1
  have z0 := open_roomQ (P := Tryd.prog) (t := 25) (e0 := 38) (e1 := 34) (r1 := []) (by kernel_rfl) g0 h0 fun n hn => by
    refine of_decide_eq_true (hall n ?_)
    rw [Tryd.params4]
    change n ∈ DataW.weightsEach Tryd.prog [25, 5] [d0, d1]
    simp only [DataW.weightsEach]
    exact List.mem_append_left _ (by simpa using hn)
  obtain ⟨N, hN⟩ := law_GraphRenamed x0 x1 w0 w1 (by simpa only [show Tryd.prog.bytesOf 38 = 40 by kernel_rfl, show Tryd.prog.bytesOf 34 = 24 by kernel_rfl] using z0)
  refine (sp_keep_GraphRenamed N (fun _ => False) W (x0, x1, ()) (true, ()) [v0, v1] (fun _ h => h.elim) hgw ⟨v0, _, rfl, g0, ⟨v1, _, rfl, g1, rfl⟩⟩ hN).mono ?_
  rintro e W' ⟨v, rfl, hg, hr⟩
  replace hg := hg.old
  have hr : v = .bool true := by simpa only [kvals, retV, Kd.val, Go.Abs.enc, RV] using hr
  subst hr
  exact ⟨_, rfl, _, _, _, [], p0 ++ (p1 ++ []), [], hW', (trodAll_cons_mk (shut_bool (show Tryd.prog.underlying 4 = some .bool by kernel_rfl) _) trodAll_mk0), (trodAll_cons_mk (Below.trod laidOut (by kernel_rfl) (of_decide_eq_true (by kernel_rfl)) h0 hg hlt0) (trodAll_cons_mk (Below.trod laidOut (by kernel_rfl) (of_decide_eq_true (by kernel_rfl)) h1 hg hlt1) trodAll_mk0)), rfl, hg.frame _, fun h => by cases h⟩

/-- The statement: whatever the arguments, the law's function returns true and leaves them as they were. -/
theorem graphRenamed_holds : Rows.GraphRenamedSaid :=
  OpenClaim.holds_of_wide 4 Tryd.f4 rfl rfl rfl rfl rfl rfl rfl ⟨rfl, rfl, rfl, rfl, rfl⟩ rfl rfl rfl rfl rfl (by kernel_rfl) Tryd.func4 (by kernel_rfl)
    (of_decide_eq_true (by kernel_rfl)) (by unfold Func.isWrapper; first | (rw [if_pos (by decide +kernel)]; kernel_rfl) | (rw [if_neg (by decide +kernel)]; exact ⟨rfl, rfl⟩))
    (fun os started H enc _ => lifted_GraphRenamed os started H enc)
/-- The statement's card: the variable that the road reads is tied to the program's text. -/
theorem graphRenamed_card : Rows.GraphRenamedCardSaid :=
  Claim7.holds_tied_plain_at .later [] [.data] true (true, "53aaabe498ee24901d841402e858b9bdaa2b8a79f61746a2a730730b093e8b9c") false graphRenamed_holds (fun _ h => by cases h) (by kernel_rfl) (fun _ h => by cases h) graphRenamed_row_tie rfl ⟨rfl, rfl⟩ (by kernel_rfl) rfl
    (fun f fn hf hfn => by
      obtain rfl : f = 4 := Option.some.inj ((show Tryd.prog.funcNamed "watershed/watershedkeep.GraphRenamed" = some 4 by kernel_rfl).symm.trans hf) |>.symm
      obtain rfl : fn = Tryd.f4 := (Option.some.inj (Tryd.func4.symm.trans hfn)).symm
      exact ⟨by kernel_rfl, fun j t ht => by
        have h3 := List.all_eq_true.1 (show (Tryd.f4.params.toList.all fun t => !(Tryd.prog.wantsStandIn t)) = true by kernel_rfl) t (by rw [← Array.getElem?_toList] at ht; exact List.mem_of_getElem? ht)
        have h4 : Tryd.prog.wantsStandIn t = false := by simpa using h3
        exact h4⟩)
    (by kernel_rfl)
end Go.Proofs.YtnlkjgfopenmnaaDoor
