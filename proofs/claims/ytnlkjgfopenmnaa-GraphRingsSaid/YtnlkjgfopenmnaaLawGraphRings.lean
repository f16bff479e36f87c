/- Along every way from a node of a graph that may be to itself something is added to the last number that is kept: the law answers true for every graph, node and way. No condition. -/
import Derived.Test.YtnlkjgfopenmnaaGrK
import Derived.Test.YtnlkjgfopenmnaaFrame0
namespace Go.Proofs.Ytnlkjgfopenmnaa
open Go Go.ChangeShapes Go.WideShapes Go.ChangeAt Go.WideMaps Go.WideElems Go.RowKit Go.Abs Go.Gr
open Go.Smy (thenErr thenS thenErr_zero sumCheck_iff)
-- watershed/watershedkeep.walked
abbrev Ks_keep_walked : List Kd := [.dat (.pair (.sl (.pair (.int .i64) (.pair (.int .i64) (.pair (.int .i64) (.pair (.int .i64) (.int .i64)))))) (.sl (.pair (.int .i64) (.pair (.int .i64) (.int .i64))))), .dat (.int .i64), .dat (.sl (.int .i64))]
abbrev Rk_keep_walked : List Kd := [.dat (.pair (.int .i64) (.pair (.int .i64) (.sl (.int .i64)))), .dat (.int .i64), .dat (.bool)]
abbrev Rt_keep_walked : Type := Dens Rk_keep_walked
noncomputable def C_keep_walked (_N : Nat) : Ctx := { T := [(3, ⟨.int .i64, 1, 8, some (.int .i64), [.int .i64 (0 : Int)]⟩), (52, ⟨.slice 83, 1, 24, some (.sl (.pair (.int .i64) (.pair (.int .i64) (.pair (.int .i64) (.pair (.int .i64) (.int .i64)))))), [.nil]⟩), (53, ⟨.slice 86, 1, 24, some (.sl (.pair (.int .i64) (.pair (.int .i64) (.int .i64)))), [.nil]⟩), (55, ⟨.struct [(0, 52), (1, 53)], 2, 48, some (.pair (.sl (.pair (.int .i64) (.pair (.int .i64) (.pair (.int .i64) (.pair (.int .i64) (.int .i64)))))) (.sl (.pair (.int .i64) (.pair (.int .i64) (.int .i64))))), [.nil, .nil]⟩), (56, ⟨.slice 3, 1, 24, some (.sl (.int .i64)), [.nil]⟩), (61, ⟨.struct [(0, 3), (1, 3), (2, 56)], 3, 40, some (.pair (.int .i64) (.pair (.int .i64) (.sl (.int .i64)))), [.int .i64 (0 : Int), .int .i64 (0 : Int), .nil]⟩), (83, ⟨.struct [(0, 3), (1, 3), (2, 41)], 5, 40, some (.pair (.int .i64) (.pair (.int .i64) (.pair (.int .i64) (.pair (.int .i64) (.int .i64))))), [.int .i64 (0 : Int), .int .i64 (0 : Int), .int .i64 (0 : Int), .int .i64 (0 : Int), .int .i64 (0 : Int)]⟩), (86, ⟨.struct [(0, 3), (1, 3), (2, 3)], 3, 24, some (.pair (.int .i64) (.pair (.int .i64) (.int .i64))), [.int .i64 (0 : Int), .int .i64 (0 : Int), .int .i64 (0 : Int)]⟩)], G := findE [mkQ 43 Ks_graph_Sum Rk_graph_Sum (D_graph_Sum _N), mkQ 44 Ks_summary_Then Rk_summary_Then (D_summary_Then _N)], I := findI [], N := _N, n := 87, fx := [], fl := 0, gs := [] }
noncomputable def keep_walked_1 (_N : Nat) (_v18 : Int) (_v23 : Int) (_v24 : Int) (_v25 : List Int) : Option Rt_keep_walked :=
  (some ((_v23, (_v24, _v25)), _v18, true, ()))
noncomputable def keep_walked_2 (_N : Nat) (_k26 : (Int × (List (Int × Int × Int × Int × Int)) × (List (Int × Int × Int)) × Int × Int × Int × Int × List Int) → Option Rt_keep_walked) (_v2 : List Int) (_v3 : Int) (_v5 : List (Int × Int × Int × Int × Int)) (_v6 : List (Int × Int × Int)) (_v7 : Int) (_v8 : Int) (_v1 : Int) (_v4 : Int) (_v9 : Int) (_v10 : Int) (_v13 : List Int) (_kn27 : (List Int × Int × (List (Int × Int × Int × Int × Int)) × (List (Int × Int × Int)) × Int × Int) × (Int × Int × Int × Int × List Int) → Option Rt_keep_walked) : Option Rt_keep_walked :=
  (bif (decide (_v4 < _v3)) then (bif (decide (0 ≤ _v4) && decide (_v4 < (_v2.length : Int))) then (bif (decide ((nth (0 : Int) _v2 (_v4).toNat) < (0 : Int))) then (some (((0 : Int), ((0 : Int), [])), (0 : Int), false, ())) else (bif (decide ((nth (0 : Int) _v2 (_v4).toNat) ≥ (_v6.length : Int))) then (some (((0 : Int), ((0 : Int), [])), (0 : Int), false, ())) else (bif (decide (0 ≤ (nth (0 : Int) _v2 (_v4).toNat)) && decide ((nth (0 : Int) _v2 (_v4).toNat) < (_v6.length : Int))) then (bif (((nth ((0 : Int), ((0 : Int), (0 : Int))) _v6 (nth (0 : Int) _v2 (_v4).toNat).toNat).1) != _v1) then (some (((0 : Int), ((0 : Int), [])), (0 : Int), false, ())) else (bif (decide (0 ≤ _v1) && decide (_v1 < (_v5.length : Int))) then ((D_graph_Sum _N (((nth ((0 : Int), ((0 : Int), ((0 : Int), ((0 : Int), (0 : Int))))) _v5 (_v1).toNat).1, (((nth ((0 : Int), ((0 : Int), ((0 : Int), ((0 : Int), (0 : Int))))) _v5 (_v1).toNat).2).1, ((((nth ((0 : Int), ((0 : Int), ((0 : Int), ((0 : Int), (0 : Int))))) _v5 (_v1).toNat).2).2).1, (((((nth ((0 : Int), ((0 : Int), ((0 : Int), ((0 : Int), (0 : Int))))) _v5 (_v1).toNat).2).2).2).1, ((((nth ((0 : Int), ((0 : Int), ((0 : Int), ((0 : Int), (0 : Int))))) _v5 (_v1).toNat).2).2).2).2)))), ())).bind fun _y28 => (bif (_y28.2.1 != (0 : Int)) then (some (((0 : Int), ((0 : Int), [])), (0 : Int), false, ())) else ((D_summary_Then _N ((_v9, (_v10, _v13)), (_y28.1.1, (_y28.1.2.1, _y28.1.2.2)), ())).bind fun _y29 => (bif (_y29.2.1 != (0 : Int)) then (some (((0 : Int), ((0 : Int), [])), (0 : Int), false, ())) else (bif (decide (0 ≤ (nth (0 : Int) _v2 (_v4).toNat)) && decide ((nth (0 : Int) _v2 (_v4).toNat) < (_v6.length : Int))) then (_kn27 ((_v2, _v3, _v5, _v6, _v7, _v8), (((nth ((0 : Int), ((0 : Int), (0 : Int))) _v6 (nth (0 : Int) _v2 (_v4).toNat).toNat).2).1, (IntKind.i64.wrap (_v4 + (1 : Int))), _y29.1.1, _y29.1.2.1, _y29.1.2.2))) else none))))) else none)) else none))) else none) else (_k26 (_v1, _v5, _v6, _v7, _v8, _v9, _v10, _v13)))
noncomputable def keep_walked_3 (_N : Nat) (_x1 : List (Int × Int × Int × Int × Int) × List (Int × Int × Int)) (_x2 : Int) (_x3 : List Int) : Option Rt_keep_walked :=
  (bif (decide (_x2 < (0 : Int))) then (some (((0 : Int), ((0 : Int), [])), (0 : Int), false, ())) else (bif (decide (_x2 ≥ (_x1.1.length : Int))) then (some (((0 : Int), ((0 : Int), [])), (0 : Int), false, ())) else (bif (decide (0 ≤ _x2) && decide (_x2 < (_x1.1.length : Int))) then (joinD (fun (_s : Int × (List (Int × Int × Int × Int × Int)) × (List (Int × Int × Int)) × Int × Int × Int × Int × List Int) => keep_walked_1 _N _s.1 _s.2.2.2.2.2.1 _s.2.2.2.2.2.2.1 _s.2.2.2.2.2.2.2) fun _k26 => (loopE (fun (_c : List Int × Int × (List (Int × Int × Int × Int × Int)) × (List (Int × Int × Int)) × Int × Int) (_s : Int × Int × Int × Int × List Int) _kn => keep_walked_2 _N _k26 _c.1 _c.2.1 _c.2.2.1 _c.2.2.2.1 _c.2.2.2.2.1 _c.2.2.2.2.2 _s.1 _s.2.1 _s.2.2.1 _s.2.2.2.1 _s.2.2.2.2 _kn) _N (_x3, (_x3.length : Int), _x1.1, _x1.2, (0 : Int), (0 : Int)) (_x2, (0 : Int), ((nth ((0 : Int), ((0 : Int), ((0 : Int), ((0 : Int), (0 : Int))))) _x1.1 (_x2).toNat).2).1, (0 : Int), []))) else none)))
noncomputable def D_keep_walked (_N : Nat) (_x : Dens Ks_keep_walked) : Option Rt_keep_walked := keep_walked_3 _N _x.1 _x.2.1 _x.2.2.1
theorem sp_keep_walked (_N : Nat) : SpecD Try.prog [] 27 Ks_keep_walked Rk_keep_walked (D_keep_walked _N) := mkSpD (fn := Try.f27) (c := bodyOf Try.f27) (C := C_keep_walked _N)
    (a := .two .none (.two .none (.two .none (.join 3 ⟨[(1, .int .i64), (6, .ptr 1 0), (9, .ptr 2 0)], [.cells [.sl (.pair (.int .i64) (.pair (.int .i64) (.pair (.int .i64) (.pair (.int .i64) (.int .i64))))), .sl (.pair (.int .i64) (.pair (.int .i64) (.int .i64)))], .cells [.int .i64, .int .i64, .nil], .cells [.int .i64, .int .i64, .sl (.int .i64)]]⟩ (.two .none (.one (.nilc 2 2 (.int .i64) (.loop 3 ⟨[(1, .int .i64), (3, .ptr 0 0), (6, .ptr 1 0), (9, .ptr 2 0), (31, .sl (.int .i64)), (32, .int .i64), (33, .int .i64)], [.cells [.sl (.pair (.int .i64) (.pair (.int .i64) (.pair (.int .i64) (.pair (.int .i64) (.int .i64))))), .sl (.pair (.int .i64) (.pair (.int .i64) (.int .i64)))], .cells [.int .i64, .int .i64, .nil], .cells [.int .i64, .int .i64, .sl (.int .i64)]]⟩ [0, 3, 8, 9, 10] .none)))) .none))))
    (by kernel_rfl) rfl (by kernel_rfl) (by kernel_rfl) ⟨rfl, by unfold TOk; kernel_rfl, gOk_of rfl rfl (List.forall_mem_cons.2 ⟨qen_graph_Sum _N, (List.forall_mem_cons.2 ⟨qen_summary_Then _N, (List.forall_mem_nil _)⟩)⟩), iOk_of rfl rfl (List.forall_mem_nil _), rfl⟩ (fun _x => by kernel_rfl)
theorem en_keep_walked (_N : Nat) : EntOk Try.prog [] (mkD 27 Ks_keep_walked Rk_keep_walked (D_keep_walked _N)) := entD ⟨Try.f27, bodyOf Try.f27, by kernel_rfl, by kernel_rfl, rfl⟩ (sp_keep_walked _N)
theorem qen_keep_walked (_N : Nat) : EntOk Try.prog [] (mkQ 27 Ks_keep_walked Rk_keep_walked (D_keep_walked _N)) := entQ ⟨Try.f27, bodyOf Try.f27, by kernel_rfl, by kernel_rfl, rfl⟩ (sp_keep_walked _N)
-- watershed/watershedkeep.GraphRings
abbrev Ks_keep_GraphRings : List Kd := [.dat (.pair (.sl (.pair (.int .i64) (.pair (.int .i64) (.pair (.int .i64) (.pair (.int .i64) (.int .i64)))))) (.sl (.pair (.int .i64) (.pair (.int .i64) (.int .i64))))), .dat (.int .i64), .dat (.sl (.int .i64))]
abbrev Rk_keep_GraphRings : List Kd := [.dat (.bool)]
abbrev Rt_keep_GraphRings : Type := Dens Rk_keep_GraphRings
noncomputable def C_keep_GraphRings (_N : Nat) : Ctx := { T := [(3, ⟨.int .i64, 1, 8, some (.int .i64), [.int .i64 (0 : Int)]⟩), (23, ⟨.int .i64, 1, 8, some (.int .i64), [.int .i64 (0 : Int)]⟩), (55, ⟨.struct [(0, 52), (1, 53)], 2, 48, some (.pair (.sl (.pair (.int .i64) (.pair (.int .i64) (.pair (.int .i64) (.pair (.int .i64) (.int .i64)))))) (.sl (.pair (.int .i64) (.pair (.int .i64) (.int .i64))))), [.nil, .nil]⟩), (56, ⟨.slice 3, 1, 24, some (.sl (.int .i64)), [.nil]⟩), (58, ⟨.struct [(0, 23), (1, 3)], 2, 16, some (.pair (.int .i64) (.int .i64)), [.int .i64 (0 : Int), .int .i64 (0 : Int)]⟩), (61, ⟨.struct [(0, 3), (1, 3), (2, 56)], 3, 40, some (.pair (.int .i64) (.pair (.int .i64) (.sl (.int .i64)))), [.int .i64 (0 : Int), .int .i64 (0 : Int), .nil]⟩)], G := findE [mkP 26 Ks_ref_GraphCheck Rk_ref_GraphCheck (D_ref_GraphCheck _N), mkQ 27 Ks_keep_walked Rk_keep_walked (D_keep_walked _N)], I := findI [], N := _N, n := 39, fx := [], fl := 0, gs := [] }
noncomputable def keep_GraphRings_1 (_N : Nat) (_x1 : List (Int × Int × Int × Int × Int) × List (Int × Int × Int)) (_x2 : Int) (_x3 : List Int) : Option Rt_keep_GraphRings :=
  ((D_ref_GraphCheck _N ((_x1.1, _x1.2), ())).bind fun _y3 => (bif (_y3.1.1 != (0 : Int)) then (some (true, ())) else (bif ((_x3.length : Int) == (0 : Int)) then (some (true, ())) else ((D_keep_walked _N ((_x1.1, _x1.2), _x2, _x3, ())).bind fun _y4 => (bif (!_y4.2.2.1) then (some (true, ())) else (bif (_y4.2.1 != _x2) then (some (true, ())) else (some ((decide (_y4.1.2.1 > (0 : Int))), ()))))))))
noncomputable def D_keep_GraphRings (_N : Nat) (_x : Dens Ks_keep_GraphRings) : Option Rt_keep_GraphRings := keep_GraphRings_1 _N _x.1 _x.2.1 _x.2.2.1
theorem sp_keep_GraphRings (_N : Nat) : SpecD Try.prog [] 11 Ks_keep_GraphRings Rk_keep_GraphRings (D_keep_GraphRings _N) := mkSpD (fn := Try.f11) (c := bodyOf Try.f11) (C := C_keep_GraphRings _N)
    (a := .none)
    (by kernel_rfl) rfl (by kernel_rfl) (by kernel_rfl) ⟨rfl, by unfold TOk; kernel_rfl, gOk_of rfl rfl (List.forall_mem_cons.2 ⟨en_ref_GraphCheck _N, (List.forall_mem_cons.2 ⟨qen_keep_walked _N, (List.forall_mem_nil _)⟩)⟩), iOk_of rfl rfl (List.forall_mem_nil _), rfl⟩ (fun _x => by kernel_rfl)
theorem en_keep_GraphRings (_N : Nat) : EntOk Try.prog [] (mkP 11 Ks_keep_GraphRings Rk_keep_GraphRings (D_keep_GraphRings _N)) := entP ⟨Try.f11, bodyOf Try.f11, by kernel_rfl, by kernel_rfl, rfl⟩ (by kernel_rfl) (sp_keep_GraphRings _N)
section
variable {ns : List Nd} {es : List Ed}
/-- The nodes along a way: each but the last with the next one behind it. -/
def Way (es : List Ed) : Int → List Int → Int → Prop
  | a, [], b => b = a
  | a, i :: r, b => 0 ≤ i ∧ i < es.length ∧ (nth z3 es i.toNat).1 = a ∧ Way es (nth z3 es i.toNat).2.1 r b
/-- All nodes from which a way goes on. -/
def onW (es : List Ed) : Int → List Int → List Int
  | _, [] => []
  | a, i :: r => a :: onW es (nth z3 es i.toNat).2.1 r
/-- What a way does, node by node. -/
def sumsW (ns : List Nd) (es : List Ed) : Tr → Int → List Int → Option Tr
  | s, _, [] => some s
  | s, a, i :: r => if (thenR s (nsum (nth z5 ns a.toNat))).2.1 = 0 then sumsW ns es (thenR s (nsum (nth z5 ns a.toNat))).1 (nth z3 es i.toNat).2.1 r else none
theorem out_then {s r : Tr} {o : Int} (h : thenErr (sm s) (sm r) = 0) (hs : s.1 + s.2.2.length = o) : (tr (thenS (sm s) (sm r))).1 + (tr (thenS (sm s) (sm r))).2.2.length = r.1 + r.2.2.length := by
  obtain ⟨h1, h2, -⟩ := thenErr_zero.1 h
  obtain ⟨-, -, b3, b4, b5, -, -⟩ := sumCheck_iff.1 h2
  simp only [sm] at b3 b4 b5
  unfold tr thenS sm
  simp only
  by_cases e : r.1 = s.1
  · rw [if_pos e]
  · rw [if_neg e]
    by_cases e' : s.1 < r.1
    · rw [if_pos e']
      simp only [List.length_append, List.length_set, List.length_take]
      omega
    · rw [if_neg e']
/-- The least depth along a way stays below what is kept; what is added is not less than nothing. -/
structure Low (f : Int) (s : Tr) : Prop where
  keep : f ≤ s.1
  add : 0 ≤ s.2.1
theorem Low.step {f : Int} {s : Tr} {x : Nd} (hx : nodeOk x = true) (hd : f ≤ x.2.1) (ho : f ≤ outOf x) (h : Low f s) : Low f (tr (thenS (sm s) (sm (nsum x)))) ∧ (s.1 = f → 1 ≤ s.2.1 → (tr (thenS (sm s) (sm (nsum x)))).1 = f ∧ 1 ≤ (tr (thenS (sm s) (sm (nsum x)))).2.1) := by
  have hk : f ≤ (nsum x).1 ∧ 0 ≤ (nsum x).2.1 := by
    unfold nsum outOf at *
    by_cases h4 : x.1 = 4
    · rw [if_pos h4]; exact ⟨hd, Int.le_refl _⟩
    rw [if_neg h4] at ho ⊢
    by_cases h5 : x.1 = 5
    · rw [if_pos h5] at ho ⊢; exact ⟨ho, Int.le_refl _⟩
    rw [if_neg h5] at ho ⊢
    by_cases h6 : x.1 = 6
    · rw [if_pos h6]; exact ⟨hd, by simp⟩
    · rw [if_neg h6]; exact ⟨hd, Int.le_refl _⟩
  have := h.keep
  have := h.add
  have e1 := Go.Smy.thenS_keep (sm s) (sm (nsum x))
  have e2 := Go.Smy.thenS_add (sm s) (sm (nsum x))
  have k1 : (sm s).keep = s.1 := rfl
  have k2 : (sm (nsum x)).keep = (nsum x).1 := rfl
  have k3 : (sm s).add = s.2.1 := rfl
  have k4 : (sm (nsum x)).add = (nsum x).2.1 := rfl
  rw [k1, k2] at e1
  rw [k1, k2, k3, k4] at e2
  have t1 : (tr (thenS (sm s) (sm (nsum x)))).1 = (thenS (sm s) (sm (nsum x))).keep := rfl
  have t2 : (tr (thenS (sm s) (sm (nsum x)))).2.1 = (thenS (sm s) (sm (nsum x))).add := rfl
  refine ⟨⟨by rw [t1, e1]; split <;> omega, ?_⟩, fun hs ha => ?_⟩
  · rw [t2, e2]
    by_cases q : (nsum x).1 = s.1
    · rw [if_pos q]; omega
    · rw [if_neg q]; split <;> omega
  rw [t1, t2, e1, e2]
  refine ⟨by split <;> omega, ?_⟩
  by_cases q : (nsum x).1 = s.1
  · rw [if_pos q]; omega
  · rw [if_neg q, if_pos (by omega)]; omega
theorem Low.feed {f : Int} {s : Tr} {x : Nd} (hk : x.1 = 6) (hd : x.2.1 = f) (h : Low f s) (ho : s.1 + s.2.2.length = f) : (tr (thenS (sm s) (sm (nsum x)))).1 = f ∧ 1 ≤ (tr (thenS (sm s) (sm (nsum x)))).2.1 := by
  have := h.keep
  have := h.add
  have hn : nsum x = (x.2.1, 1, []) := by unfold nsum; rw [if_neg (by omega), if_neg (by omega), if_pos hk]
  have e1 := Go.Smy.thenS_keep (sm s) (sm (nsum x))
  have e2 := Go.Smy.thenS_add (sm s) (sm (nsum x))
  have k1 : (sm s).keep = s.1 := rfl
  have k2 : (sm (nsum x)).keep = x.2.1 := by rw [hn]; rfl
  have k3 : (sm s).add = s.2.1 := rfl
  have k4 : (sm (nsum x)).add = 1 := by rw [hn]; rfl
  rw [k1, k2] at e1
  rw [k1, k2, k3, k4] at e2
  refine ⟨?_, ?_⟩
  · rw [show (tr (thenS (sm s) (sm (nsum x)))).1 = (thenS (sm s) (sm (nsum x))).keep from rfl, e1]; split <;> omega
  · rw [show (tr (thenS (sm s) (sm (nsum x)))).2.1 = (thenS (sm s) (sm (nsum x))).add from rfl, e2, if_pos (by omega)]; omega
/-- What a way does: above the least depth something is added as soon as a feed stands at it. -/
theorem way_low (h : GrOk ns es) {f : Int} : (l : List Int) → (a b : Int) → (s : Tr) → Way es a l b → 0 ≤ a → a < ns.length → (∀ v ∈ onW es a l, f ≤ deepOf ns v.toNat) → f ≤ deepOf ns b.toNat → s.1 + s.2.2.length = deepOf ns a.toNat → Low f s → (s.1 = f ∧ 1 ≤ s.2.1 ∨ ∃ v ∈ onW es a l, deepOf ns v.toNat = f ∧ (nth z5 ns v.toNat).1 = 6) →
    ∀ t, sumsW ns es s a l = some t → t.1 = f ∧ 1 ≤ t.2.1
  | [], a, b, s, hw, ha, han, hon, hb, ho, hl, hf, t, ht => by
    simp only [sumsW, Option.some.injEq] at ht
    subst ht
    rcases hf with hf | ⟨v, hv, _⟩
    · exact hf
    · cases hv
  | i :: r, a, b, s, hw, ha, han, hon, hb, ho, hl, hf, t, ht => by
    obtain ⟨w1, w2, w3, w4⟩ := hw
    simp only [sumsW] at ht
    split at ht
    case isFalse => cases ht
    rename_i he
    obtain ⟨e1, e2⟩ := thenR_ok he
    rw [e2] at ht
    have hx := h.nodes _ (nth_mem (z := z5) (show a.toNat < ns.length by omega))
    have hed := h.edges i.toNat (by omega)
    have hi3 : nth z3 es i.toNat = nth (0, 0, 0) es i.toNat := rfl
    have hdeep := hed.deep
    rw [← hi3, w3] at hdeep
    have t0 : 0 ≤ (nth z3 es i.toNat).2.1 := hed.t0
    have tn : (nth z3 es i.toNat).2.1 < ns.length := hed.tn
    generalize hc : (nth z3 es i.toNat).2.1 = c at *
    have hda : f ≤ deepOf ns a.toNat := hon a (by simp [onW])
    have hdc : f ≤ deepOf ns c.toNat := by
      cases r with
      | nil => have : b = c := w4; subst this; exact hb
      | cons j r => exact hon c (by simp [onW, hc])
    have hoc : outOf (nth z5 ns a.toNat) = deepOf ns c.toNat := hdeep
    obtain ⟨l1, l2⟩ := Low.step hx hda (by rw [hoc]; exact hdc) hl
    refine way_low h r c b _ w4 t0 tn (fun v hv => hon v (by simp [onW, hc, hv])) hb ?_ l1 ?_ t ht
    · rw [out_then e1 rfl, (nsum_out hx).2, hoc]
    · rcases hf with ⟨f1, f2⟩ | ⟨v, hv, f1, f2⟩
      · exact .inl (l2 f1 f2)
      · simp only [onW, List.mem_cons, hc] at hv
        rcases hv with rfl | hv
        · exact .inl (Low.feed f2 f1 hl (by rw [ho, f1]))
        · exact .inr ⟨v, hv, f1, f2⟩
/-- Where no feed stands at the least depth, the nodes along a way reach each other at that floor. -/
theorem way_pk (h : GrOk ns es) {f : Int} : (l : List Int) → (a b : Int) → Way es a l b → l ≠ [] → 0 ≤ a → a < ns.length → (∀ v ∈ onW es a l, inB f (nth z5 ns v.toNat) = true) → inB f (nth z5 ns b.toNat) = true → 0 ≤ b ∧ b < ns.length ∧ Pk (EdG ns es f) ns.length a.toNat b.toNat
  | [], _, _, _, hne, _, _, _, _ => absurd rfl hne
  | i :: r, a, b, hw, _, ha, han, hon, hb => by
    obtain ⟨w1, w2, w3, w4⟩ := hw
    have hed := h.edges i.toNat (by omega)
    have t0 : 0 ≤ (nth z3 es i.toNat).2.1 := hed.t0
    have tn : (nth z3 es i.toNat).2.1 < ns.length := hed.tn
    have hm : nth z3 es i.toNat ∈ es := nth_mem (by omega)
    generalize hc : (nth z3 es i.toNat).2.1 = c at *
    have hina := hon a (by simp [onW])
    have hE : inB f (nth z5 ns c.toNat) = true → EdG ns es f a.toNat c.toNat := fun hcn => ⟨_, hm, by rw [w3]; omega, by rw [hc]; omega, hina, hcn⟩
    cases r with
    | nil =>
      have : b = c := w4
      subst this
      exact ⟨t0, tn, .one (hE hb)⟩
    | cons j r =>
      obtain ⟨b1, b2, b3⟩ := way_pk h (j :: r) c b w4 (by simp) t0 tn (fun v hv => hon v (by simp only [onW, List.mem_cons, hc] at hv ⊢; exact .inr hv)) hb
      exact ⟨b1, b2, .cons (hE (hon c (by simp [onW, hc]))) (by omega) b3⟩
theorem onW_mem_way (h : GrOk ns es) : (l : List Int) → (a b : Int) → Way es a l b → 0 ≤ a → a < ns.length → ∀ v ∈ onW es a l, 0 ≤ v ∧ v < ns.length ∧ ∃ l1 l2, l = l1 ++ l2 ∧ l2 ≠ [] ∧ Way es a l1 v ∧ Way es v l2 b ∧ (∀ u ∈ onW es a l1, u ∈ onW es a l) ∧ (∀ u ∈ onW es v l2, u ∈ onW es a l)
  | [], _, _, _, _, _, v, hv => by cases hv
  | i :: r, a, b, hw, ha, han, v, hv => by
    have hw' := hw
    obtain ⟨w1, w2, w3, w4⟩ := hw
    have hed := h.edges i.toNat (by omega)
    have t0 : 0 ≤ (nth z3 es i.toNat).2.1 := hed.t0
    have tn : (nth z3 es i.toNat).2.1 < ns.length := hed.tn
    simp only [onW, List.mem_cons] at hv
    rcases hv with rfl | hv
    · exact ⟨ha, han, [], i :: r, rfl, by simp, rfl, hw', (fun u hu => by cases hu), fun u hu => hu⟩
    · obtain ⟨v0, vn, l1, l2, e, hne, x1, x2, x3, x4⟩ := onW_mem_way h r _ b w4 t0 tn v hv
      refine ⟨v0, vn, i :: l1, l2, by rw [e]; rfl, hne, ⟨w1, w2, w3, x1⟩, x2, fun u hu => ?_, fun u hu => by simp only [onW, List.mem_cons]; exact .inr (x4 u hu)⟩
      simp only [onW, List.mem_cons] at hu ⊢
      exact hu.imp id (x3 u)
/-- A way from a node to itself. -/
theorem ring (h : GrOk ns es) {l : List Int} {a : Int} (hw : Way es a l a) (hne : l ≠ []) (ha : 0 ≤ a) (han : a < ns.length) {t : Tr} (ht : sumsW ns es (deepOf ns a.toNat, 0, []) a l = some t) : 1 ≤ t.2.1 := by
  have haon : a ∈ onW es a l := by cases l with | nil => exact absurd rfl hne | cons i r => simp [onW]
  obtain ⟨f, ⟨m, hm, hfm⟩, hle⟩ : ∃ f : Int, (∃ m ∈ onW es a l, deepOf ns m.toNat = f) ∧ ∀ v ∈ onW es a l, f ≤ deepOf ns v.toNat := by
    have key : ∀ L : List Int, L ≠ [] → ∃ f : Int, (∃ m ∈ L, deepOf ns m.toNat = f) ∧ ∀ v ∈ L, f ≤ deepOf ns v.toNat := by
      intro L
      induction L with
      | nil => intro h; exact absurd rfl h
      | cons x L ih =>
        intro _
        by_cases hL : L = []
        · subst hL; exact ⟨_, ⟨x, by simp, rfl⟩, fun v hv => by simp at hv; rw [hv]; exact Int.le_refl _⟩
        · obtain ⟨f, ⟨m, hm, e⟩, hf⟩ := ih hL
          by_cases q : deepOf ns x.toNat ≤ f
          · exact ⟨_, ⟨x, by simp, rfl⟩, fun v hv => by rcases List.mem_cons.1 hv with rfl | hv; exact Int.le_refl _; exact Int.le_trans q (hf v hv)⟩
          · exact ⟨f, ⟨m, by simp [hm], e⟩, fun v hv => by rcases List.mem_cons.1 hv with rfl | hv; omega; exact hf v hv⟩
    exact key _ (by intro e; rw [e] at haon; cases haon)
  have hda := hle a haon
  have hfeed : ∃ v ∈ onW es a l, deepOf ns v.toNat = f ∧ (nth z5 ns v.toNat).1 = 6 := by
    refine Classical.byContradiction fun hno => ?_
    have hin : ∀ v ∈ onW es a l, inB f (nth z5 ns v.toNat) = true := fun v hv => by
      have h1 := hle v hv
      unfold inB
      by_cases q : (nth z5 ns v.toNat).2.1 > f
      · rw [if_pos q]
      · have e : (nth z5 ns v.toNat).2.1 = f := by unfold deepOf at h1; omega
        rw [if_neg q, if_pos e, bne_iff_ne]
        exact fun h6 => hno ⟨v, hv, e, h6⟩
    obtain ⟨m0, mn, l1, l2, e, hne2, x1, x2, x3, x4⟩ := onW_mem_way h l a a hw ha han m hm
    obtain ⟨-, -, p2⟩ := way_pk h l2 m a x2 hne2 m0 mn (fun v hv => hin v (x4 v hv)) (hin a haon)
    have p3 : Pk (EdG ns es f) ns.length m.toNat m.toNat := by
      cases l1 with
      | nil => have : m = a := x1; subst this; exact p2
      | cons j r =>
        obtain ⟨-, -, p1⟩ := way_pk h (j :: r) a m x1 (by simp) ha han (fun v hv => hin v (x3 v hv)) (hin m hm)
        exact p2.trans (by omega) p1
    rw [← hfm] at p3
    exact h.rings m.toNat m.toNat (by omega) (by omega) ⟨p3, p3⟩
  obtain ⟨d1, -⟩ := h.deep (j := a.toNat) (by omega)
  exact (way_low h l a a (deepOf ns a.toNat, 0, []) hw ha han hle hda (by simp) ⟨hda, Int.le_refl _⟩ (.inr hfeed) t ht).2
theorem loopD_s {R S : Type} (f : S → (S → Option R) → Option R) (n : Nat) (s : S) : loopD f (n + 1) s = f s (loopD f n) := rfl
/-- What the walk answers. -/
theorem walked_eq {N : Nat} (hN : 1000 ≤ N) (h : GrOk ns es) {a : Int} {l : List Int} (hl : l.length ≤ 9223372036854775807) (hlN : l.length < N) : ∃ s b ok, D_keep_walked N ((ns, es), a, l, ()) = some (s, b, ok, ()) ∧
    (ok = true → 0 ≤ a ∧ a < ns.length ∧ Way es a l b ∧ sumsW ns es (deepOf ns a.toNat, 0, []) a l = some s) := by
  simp only [D_keep_walked, keep_walked_3]
  by_cases g1 : a < 0
  · exact ⟨_, _, false, by rw [d_true g1]; rfl, fun h => by cases h⟩
  by_cases g2 : a ≥ ns.length
  · exact ⟨_, _, false, by rw [d_false g1, d_true g2]; rfl, fun h => by cases h⟩
  rw [d_false g1, d_false g2, d_true (show 0 ≤ a by omega), d_true (show a < ns.length by omega)]
  simp only [Bool.and_self, cond_true, cond_false, joinD, loopE]
  have key : ∀ (d N i : Nat), d = l.length - i → i ≤ l.length → d < N → ∀ (b : Int) (s : Tr), 0 ≤ b → b < ns.length → 1000 ≤ N + i →
      ∃ s' b' ok, loopD (fun (s : Int × Int × Int × Int × List Int) kn => keep_walked_2 (N + i) (fun s : Int × List Nd × List Ed × Int × Int × Int × Int × List Int => keep_walked_1 (N + i) s.1 s.2.2.2.2.2.1 s.2.2.2.2.2.2.1 s.2.2.2.2.2.2.2) l (l.length : Int) ns es 0 0 s.1 s.2.1 s.2.2.1 s.2.2.2.1 s.2.2.2.2 (backE (l, (l.length : Int), ns, es, (0 : Int), (0 : Int)) kn)) N (b, (i : Int), s.1, s.2.1, s.2.2) = some (s', b', ok, ()) ∧
        (ok = true → Way es b (l.drop i) b' ∧ sumsW ns es s b (l.drop i) = some s') := by
    intro d
    induction d with
    | zero =>
      intro N i hd hi hN' b s hb0 hbn hNi
      obtain ⟨M, rfl⟩ : ∃ M, N = M + 1 := ⟨N - 1, by omega⟩
      have e : i = l.length := by omega
      subst e
      refine ⟨s, b, true, ?_, fun _ => by rw [List.drop_length]; exact ⟨rfl, rfl⟩⟩
      simp only [loopD, keep_walked_2, lt_self, cond_false, keep_walked_1]
    | succ d ih =>
      intro N i hd hi hN' b s hb0 hbn hNi
      obtain ⟨M, rfl⟩ : ∃ M, N = M + 1 := ⟨N - 1, by omega⟩
      have hil : i < l.length := by omega
      have hix : IntKind.i64.wrap ((i : Int) + 1) = ((i + 1 : Nat) : Int) := by rw [w64 (by omega) (by omega)]; rfl
      have hx : nodeOk (nth z5 ns b.toNat) = true := h.nodes _ (nth_mem (by omega))
      have hdrop : l.drop i = nth 0 l i :: l.drop (i + 1) := by rw [List.drop_eq_getElem_cons hil, nth_lt hil]
      have eN : M + 1 + i = M + (i + 1) := by omega
      rw [loopD_s, eN]
      generalize hL : loopD _ M = L
      simp only [keep_walked_2, lt_d hil, ge0_d, Int.toNat_natCast, Bool.and_self, cond_true, nd_eta, Sum_eq (M + (i + 1)) (nth z5 ns b.toNat), hx, if_true, Option.bind_some, bne_self_eq_false, cond_false, hix, backE_eq,
        show ∀ y : Tr, (y.1, y.2.1, y.2.2) = y from fun _ => rfl, Then_R (N := M + (i + 1)) (by omega)]
      rw [d_true hb0, d_true hbn]
      by_cases q1 : nth 0 l i < 0
      · exact ⟨_, _, false, by rw [d_true q1]; rfl, fun h => by cases h⟩
      by_cases q2 : nth 0 l i ≥ es.length
      · exact ⟨_, _, false, by rw [d_false q1, d_true q2]; rfl, fun h => by cases h⟩
      rw [d_false q1, d_false q2, d_true (show 0 ≤ nth 0 l i by omega), d_true (show nth 0 l i < es.length by omega)]
      simp only [Bool.and_self, cond_true, cond_false]
      by_cases q3 : (nth z3 es (nth 0 l i).toNat).1 = b
      case neg => exact ⟨_, _, false, by rw [show ((nth z3 es (nth 0 l i).toNat).1 != b) = true from bne_iff_ne.2 q3]; rfl, fun h => by cases h⟩
      rw [show ((nth z3 es (nth 0 l i).toNat).1 != b) = false by rw [q3]; exact bne_self_eq_false _]
      simp only [cond_false]
      by_cases q4 : (thenR s (nsum (nth z5 ns b.toNat))).2.1 = 0
      case neg => exact ⟨_, _, false, by rw [show ((thenR s (nsum (nth z5 ns b.toNat))).2.1 != 0) = true from bne_iff_ne.2 q4]; rfl, fun h => by cases h⟩
      rw [show ((thenR s (nsum (nth z5 ns b.toNat))).2.1 != 0) = false by rw [q4]; rfl]
      simp only [cond_false]
      have hed := h.edges (nth 0 l i).toNat (by omega)
      have t0 : 0 ≤ (nth z3 es (nth 0 l i).toNat).2.1 := hed.t0
      have tn : (nth z3 es (nth 0 l i).toNat).2.1 < ns.length := hed.tn
      obtain ⟨s', b', ok, e1, e2⟩ := ih M (i + 1) (by omega) (by omega) (by omega) (nth z3 es (nth 0 l i).toNat).2.1 (thenR s (nsum (nth z5 ns b.toNat))).1 t0 tn (by omega)
      rw [hL] at e1
      refine ⟨s', b', ok, e1, fun hok => ?_⟩
      obtain ⟨x1, x2⟩ := e2 hok
      rw [hdrop]
      refine ⟨⟨by omega, by omega, q3, x1⟩, ?_⟩
      simp only [sumsW]
      rw [if_pos q4]; exact x2
  obtain ⟨s', b', ok, e1, e2⟩ := key l.length N 0 rfl (Nat.zero_le _) hlN a (deepOf ns a.toNat, 0, []) (by omega) (by omega) (by omega)
  exact ⟨s', b', ok, e1, fun hok => ⟨by omega, by omega, (e2 hok).1, (e2 hok).2⟩⟩
end
theorem law_GraphRings (g : List Nd × List Ed) (a : Int) (l : List Int) (_wg : wfS (.pair (.sl (.pair (.int .i64) (.pair (.int .i64) (.pair (.int .i64) (.pair (.int .i64) (.int .i64)))))) (.sl (.pair (.int .i64) (.pair (.int .i64) (.int .i64))))) g) (_wa : wfS (.int .i64) a) (wl : wfS (.sl (.int .i64)) l) : ∃ N, D_keep_GraphRings N (g, a, l, ()) = some (true, ()) := by
  refine ⟨l.length + 1000, ?_⟩
  obtain ⟨ns, es⟩ := g
  obtain ⟨c, p, e1, e2⟩ := GraphCheck_eq (N := l.length + 1000) (by omega) ns es
  simp only [D_keep_GraphRings, keep_GraphRings_1, e1, Option.bind_some]
  by_cases hc : c = 0
  case neg => rw [show (c != 0) = true from bne_iff_ne.2 hc]; rfl
  have h := e2.1 hc
  rw [show (c != 0) = false by rw [hc]; rfl, cond_false]
  by_cases hl : l = []
  · subst hl; rfl
  have hl0 : l.length ≠ 0 := by simpa using hl
  rw [show (((l.length : Nat) : Int) == 0) = false from beq_false_of_ne (by omega), cond_false]
  obtain ⟨s, b, ok, w1, w2⟩ := walked_eq (N := l.length + 1000) (by omega) h (a := a) (l := l) wl.1 (by omega)
  rw [w1]
  simp only [Option.bind_some]
  cases ok with
  | false => rfl
  | true =>
    obtain ⟨a0, an, hw, hs⟩ := w2 rfl
    simp only [Bool.not_true, cond_false]
    by_cases hb : b = a
    · subst hb
      have := ring h hw hl a0 an hs
      have h1 : (0 : Int) < s.2.1 := Int.lt_of_lt_of_le (by decide) this
      rw [bne_self_eq_false, cond_false, d_true (p := s.2.1 > 0) h1]
    · rw [show (b != a) = true from bne_iff_ne.2 hb]; rfl
set_option maxRecDepth 100000 in
theorem lifted_GraphRings (os : Os) (started : os.Started) (H : Type) (enc : TypeId × Value → H) :
    ReturnsInHanded {} Try.checked os 11 .any (Rows.graphRingsSpec.pre6 enc Try.prog Try.f11 Rows.graphRingsRow.domain false) (Rows.graphRingsSpec.post enc Try.prog Try.f11 false true false false) := by
  refine returnsInHanded_of_change_sized (C := Try.checked) own started (by kernel_rfl) Try.func11
    (ChangeSpec.witness6 (enc := enc) (C := Try.checked) false ⟨#[], #[.agg #[.slice none 0 0, .slice none 0 0], .int .i64 0, .slice none 0 0], []⟩ 8 (by kernel_rfl) (by kernel_rfl) (by kernel_rfl) (by kernel_rfl)) ?_
  intro W base args ds gs before hval0 hW _ hsz0 _
  have hgw : GW [] W := fun _ h => nomatch h
  have hval : ∀ (j : Nat) t v, Try.f11.params[j]? = some t → args[j]? = some v → Value.okWide Try.prog W .any base t v := hval0
  have hW' := hW
  obtain ⟨p, q, hA0, hV, rfl, _, _⟩ := hW
  have hA : DataW.TrodAll enc Try.prog W 0 (fun _ => true) true Try.f11.params.toList args.toList ds p := hA0
  rw [Try.params11] at hA hval
  obtain ⟨v0, vs0, d0, ds0, p0, q0, hargs, rfl, rfl, h0, r0⟩ := trodAll_cons hA
  obtain ⟨v1, vs1, d1, ds1, p1, q1, rfl, rfl, rfl, h1, r1⟩ := trodAll_cons r0
  obtain ⟨v2, vs2, d2, ds2, p2, q2, rfl, rfl, rfl, h2, r2⟩ := trodAll_cons r1
  obtain ⟨rfl, rfl, rfl⟩ := trodAll_nil r2
  obtain rfl : args = #[v0, v1, v2] := by cases args; simp_all
  obtain ⟨rfl, rfl⟩ := trodVars_none hV
  have hall := List.all_eq_true.1 hsz0
  clear hA0 hval0 hsz0
  simp only [List.append_nil] at hW'
  have hlt0 : ∀ x ∈ p0, x.block < W.heap.size := fun x hx => hW'.lt x (by simp [hx])
  have hlt1 : ∀ x ∈ p1, x.block < W.heap.size := fun x hx => hW'.lt x (by simp [hx])
  have hlt2 : ∀ x ∈ p2, x.block < W.heap.size := fun x hx => hW'.lt x (by simp [hx])
  obtain ⟨x0, g0, w0⟩ := open_kd (k := .dat (.pair (.sl (.pair (.int .i64) (.pair (.int .i64) (.pair (.int .i64) (.pair (.int .i64) (.int .i64)))))) (.sl (.pair (.int .i64) (.pair (.int .i64) (.int .i64)))))) (by kernel_rfl) (hval 0 55 v0 rfl rfl) h0
  obtain ⟨x1, g1, w1⟩ := open_kd (k := .dat (.int .i64)) (by kernel_rfl) (hval 1 3 v1 rfl rfl) h1
  obtain ⟨x2, g2, w2⟩ := open_kd (k := .dat (.sl (.int .i64))) (by kernel_rfl) (hval 2 56 v2 rfl rfl) h2
  obtain ⟨N, hN⟩ := law_GraphRings x0 x1 x2 w0 w1 w2
  refine (sp_keep_GraphRings N (fun _ => False) W (x0, x1, x2, ()) (true, ()) [v0, v1, v2] (fun _ h => h.elim) hgw ⟨v0, _, rfl, g0, ⟨v1, _, rfl, g1, ⟨v2, _, rfl, g2, rfl⟩⟩⟩ hN).mono ?_
  rintro e W' ⟨v, rfl, hg, hr⟩
  replace hg := hg.old
  have hr : v = .bool true := by simpa only [kvals, retV, Kd.val, Go.Abs.enc, RV] using hr
  subst hr
  exact ⟨_, rfl, _, _, _, [], p0 ++ (p1 ++ (p2 ++ [])), [], hW', (trodAll_cons_mk (shut_bool (show Try.prog.underlying 4 = some .bool by kernel_rfl) _) trodAll_mk0), (trodAll_cons_mk (Below.trod laidOut (by kernel_rfl) (of_decide_eq_true (by kernel_rfl)) h0 hg hlt0) (trodAll_cons_mk (Below.trod laidOut (by kernel_rfl) (of_decide_eq_true (by kernel_rfl)) h1 hg hlt1) (trodAll_cons_mk (Below.trod laidOut (by kernel_rfl) (of_decide_eq_true (by kernel_rfl)) h2 hg hlt2) trodAll_mk0))), rfl, hg.frame _, fun h => by cases h⟩

/-- The statement: whatever the arguments, the law's function returns true and leaves them as they were. -/
theorem graphRings_holds : Rows.GraphRingsSaid :=
  OpenClaim.holds_of_wide 11 Try.f11 rfl rfl rfl rfl rfl rfl rfl ⟨rfl, rfl, rfl, rfl, rfl⟩ rfl rfl rfl rfl rfl (by kernel_rfl) Try.func11 (by kernel_rfl)
    (of_decide_eq_true (by kernel_rfl)) (by unfold Func.isWrapper; first | (rw [if_pos (by decide +kernel)]; kernel_rfl) | (rw [if_neg (by decide +kernel)]; exact ⟨rfl, rfl⟩))
    (fun os started H enc _ => lifted_GraphRings os started H enc)
end Go.Proofs.Ytnlkjgfopenmnaa
