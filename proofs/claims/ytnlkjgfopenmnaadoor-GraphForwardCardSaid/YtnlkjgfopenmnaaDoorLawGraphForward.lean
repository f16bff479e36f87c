/- Each node stands behind those that go to it, but for feeds: the law answers true for every graph. No condition. -/
import Derived.Test.YtnlkjgfopenmnaaDoorGhT
import Derived.Test.YtnlkjgfopenmnaaDoorFrame
namespace Go.Proofs.YtnlkjgfopenmnaaDoor
open Go Go.ChangeShapes Go.WideShapes Go.ChangeAt Go.WideMaps Go.WideElems Go.RowKit Go.Abs Go.Gr
-- watershed/watershedkeep.GraphForward
abbrev Ks_keep_GraphForward : List Kd := [.dat (.pair (.sl (.pair (.int .i64) (.pair (.int .i64) (.pair (.int .i64) (.pair (.int .i64) (.int .i64)))))) (.sl (.pair (.int .i64) (.pair (.int .i64) (.int .i64)))))]
abbrev Rk_keep_GraphForward : List Kd := [.dat (.bool)]
abbrev Rt_keep_GraphForward : Type := Dens Rk_keep_GraphForward
noncomputable def C_keep_GraphForward (_N : Nat) : Ctx := { T := [(3, ⟨.int .i64, 1, 8, some (.int .i64), [.int .i64 (0 : Int)], false⟩), (22, ⟨.slice 38, 1, 24, some (.sl (.pair (.int .i64) (.pair (.int .i64) (.pair (.int .i64) (.pair (.int .i64) (.int .i64)))))), [.nil], false⟩), (23, ⟨.slice 34, 1, 24, some (.sl (.pair (.int .i64) (.pair (.int .i64) (.int .i64)))), [.nil], false⟩), (25, ⟨.struct [(0, 22), (1, 23)], 2, 48, some (.pair (.sl (.pair (.int .i64) (.pair (.int .i64) (.pair (.int .i64) (.pair (.int .i64) (.int .i64)))))) (.sl (.pair (.int .i64) (.pair (.int .i64) (.int .i64))))), [.nil, .nil], false⟩), (26, ⟨.slice 3, 1, 24, some (.sl (.int .i64)), [.nil], false⟩), (27, ⟨.int .i64, 1, 8, some (.int .i64), [.int .i64 (0 : Int)], false⟩), (29, ⟨.struct [(0, 27), (1, 3)], 2, 16, some (.pair (.int .i64) (.int .i64)), [.int .i64 (0 : Int), .int .i64 (0 : Int)], true⟩), (34, ⟨.struct [(0, 3), (1, 3), (2, 3)], 3, 24, some (.pair (.int .i64) (.pair (.int .i64) (.int .i64))), [.int .i64 (0 : Int), .int .i64 (0 : Int), .int .i64 (0 : Int)], true⟩), (38, ⟨.struct [(0, 3), (1, 3), (2, 36)], 5, 40, some (.pair (.int .i64) (.pair (.int .i64) (.pair (.int .i64) (.pair (.int .i64) (.int .i64))))), [.int .i64 (0 : Int), .int .i64 (0 : Int), .int .i64 (0 : Int), .int .i64 (0 : Int), .int .i64 (0 : Int)], false⟩)], G := findE [mkQ 6 Ks_graph_Rank Rk_graph_Rank (D_graph_Rank _N), mkP 7 Ks_ref_GraphCheck Rk_ref_GraphCheck (D_ref_GraphCheck _N)], I := findI [], N := _N, n := 94, fx := [], fl := 0, gs := Gs }
noncomputable def keep_GraphForward_1 (_N : Nat) : Option Rt_keep_GraphForward :=
  (some (true, ()))
noncomputable def keep_GraphForward_2 (_N : Nat) (_kn52 : ((List (Int × Int × Int)) × Int × (List (Int × Int × Int × Int × Int)) × (List (Int × Int × Int)) × Int × Int × List Int) × Int → Option Rt_keep_GraphForward) (_v25 : List (Int × Int × Int)) (_v26 : Int) (_v27 : Int) (_v36 : List (Int × Int × Int × Int × Int)) (_v37 : List (Int × Int × Int)) (_v38 : Int) (_v39 : Int) (_v40 : List Int) : Option Rt_keep_GraphForward :=
  (_kn52 ((_v25, _v26, _v36, _v37, _v38, _v39, _v40), (IntKind.i64.wrap (_v27 + (1 : Int)))))
noncomputable def keep_GraphForward_3 (_N : Nat) (_k51 : ((List (Int × Int × Int × Int × Int)) × (List (Int × Int × Int)) × Int × Int × List Int) → Option Rt_keep_GraphForward) (_v17 : List (Int × Int × Int)) (_v18 : Int) (_v20 : List (Int × Int × Int × Int × Int)) (_v21 : List (Int × Int × Int)) (_v22 : Int) (_v23 : Int) (_v24 : List Int) (_v19 : Int) (_kn52 : ((List (Int × Int × Int)) × Int × (List (Int × Int × Int × Int × Int)) × (List (Int × Int × Int)) × Int × Int × List Int) × Int → Option Rt_keep_GraphForward) : Option Rt_keep_GraphForward :=
  (bif (decide (_v19 < _v18)) then (joinD (fun (_s : (List (Int × Int × Int)) × Int × Int × (List (Int × Int × Int × Int × Int)) × Int × (Int × Int × Int × Int × Int) × Int × Int × Bool × Bool × Bool × (List (Int × Int × Int × Int × Int)) × (List (Int × Int × Int)) × Int × Int × List Int × Int × Int × Int) => keep_GraphForward_2 _N _kn52 _s.1 _s.2.1 _s.2.2.1 _s.2.2.2.2.2.2.2.2.2.2.2.1 _s.2.2.2.2.2.2.2.2.2.2.2.2.1 _s.2.2.2.2.2.2.2.2.2.2.2.2.2.1 _s.2.2.2.2.2.2.2.2.2.2.2.2.2.2.1 _s.2.2.2.2.2.2.2.2.2.2.2.2.2.2.2.1) fun _k53 => (bif (decide (0 ≤ _v19) && decide (_v19 < (_v17.length : Int))) then (bif (decide (0 ≤ ((nth ((0 : Int), ((0 : Int), (0 : Int))) _v17 (_v19).toNat).1)) && decide (((nth ((0 : Int), ((0 : Int), (0 : Int))) _v17 (_v19).toNat).1) < (_v24.length : Int))) then (bif ((nth (0 : Int) _v24 (((nth ((0 : Int), ((0 : Int), (0 : Int))) _v17 (_v19).toNat).1).toNat)) == (0 : Int)) then (some (false, ())) else (bif (decide (0 ≤ ((nth ((0 : Int), ((0 : Int), (0 : Int))) _v17 (_v19).toNat).1)) && decide (((nth ((0 : Int), ((0 : Int), (0 : Int))) _v17 (_v19).toNat).1) < (_v20.length : Int))) then (bif (((nth ((0 : Int), ((0 : Int), ((0 : Int), ((0 : Int), (0 : Int))))) _v20 ((nth ((0 : Int), ((0 : Int), (0 : Int))) _v17 (_v19).toNat).1).toNat).1) != (6 : Int)) then (bif (decide (0 ≤ ((nth ((0 : Int), ((0 : Int), (0 : Int))) _v17 (_v19).toNat).1)) && decide (((nth ((0 : Int), ((0 : Int), (0 : Int))) _v17 (_v19).toNat).1) < (_v24.length : Int))) then (bif (decide (0 ≤ (((nth ((0 : Int), ((0 : Int), (0 : Int))) _v17 (_v19).toNat).2).1)) && decide ((((nth ((0 : Int), ((0 : Int), (0 : Int))) _v17 (_v19).toNat).2).1) < (_v24.length : Int))) then (bif (decide ((nth (0 : Int) _v24 (((nth ((0 : Int), ((0 : Int), (0 : Int))) _v17 (_v19).toNat).1).toNat)) ≥ (nth (0 : Int) _v24 ((((nth ((0 : Int), ((0 : Int), (0 : Int))) _v17 (_v19).toNat).2).1).toNat)))) then (some (false, ())) else (_k53 (_v17, _v18, _v19, _v20, (nth ((0 : Int), ((0 : Int), (0 : Int))) _v17 (_v19).toNat).1, (nth ((0 : Int), ((0 : Int), ((0 : Int), ((0 : Int), (0 : Int))))) _v20 ((nth ((0 : Int), ((0 : Int), (0 : Int))) _v17 (_v19).toNat).1).toNat), (nth ((0 : Int), ((0 : Int), ((0 : Int), ((0 : Int), (0 : Int))))) _v20 ((nth ((0 : Int), ((0 : Int), (0 : Int))) _v17 (_v19).toNat).1).toNat).1, (nth ((0 : Int), ((0 : Int), ((0 : Int), ((0 : Int), (0 : Int))))) _v20 ((nth ((0 : Int), ((0 : Int), (0 : Int))) _v17 (_v19).toNat).1).toNat).1, (((nth ((0 : Int), ((0 : Int), ((0 : Int), ((0 : Int), (0 : Int))))) _v20 ((nth ((0 : Int), ((0 : Int), (0 : Int))) _v17 (_v19).toNat).1).toNat).1) != (6 : Int)), true, (decide ((nth (0 : Int) _v24 (((nth ((0 : Int), ((0 : Int), (0 : Int))) _v17 (_v19).toNat).1).toNat)) ≥ (nth (0 : Int) _v24 ((((nth ((0 : Int), ((0 : Int), (0 : Int))) _v17 (_v19).toNat).2).1).toNat)))), _v20, _v21, _v22, _v23, _v24, (nth ((0 : Int), ((0 : Int), (0 : Int))) _v17 (_v19).toNat).1, ((nth ((0 : Int), ((0 : Int), (0 : Int))) _v17 (_v19).toNat).2).1, ((nth ((0 : Int), ((0 : Int), (0 : Int))) _v17 (_v19).toNat).2).2))) else none) else none) else (_k53 (_v17, _v18, _v19, _v20, (nth ((0 : Int), ((0 : Int), (0 : Int))) _v17 (_v19).toNat).1, (nth ((0 : Int), ((0 : Int), ((0 : Int), ((0 : Int), (0 : Int))))) _v20 ((nth ((0 : Int), ((0 : Int), (0 : Int))) _v17 (_v19).toNat).1).toNat), (nth ((0 : Int), ((0 : Int), ((0 : Int), ((0 : Int), (0 : Int))))) _v20 ((nth ((0 : Int), ((0 : Int), (0 : Int))) _v17 (_v19).toNat).1).toNat).1, (nth ((0 : Int), ((0 : Int), ((0 : Int), ((0 : Int), (0 : Int))))) _v20 ((nth ((0 : Int), ((0 : Int), (0 : Int))) _v17 (_v19).toNat).1).toNat).1, (((nth ((0 : Int), ((0 : Int), ((0 : Int), ((0 : Int), (0 : Int))))) _v20 ((nth ((0 : Int), ((0 : Int), (0 : Int))) _v17 (_v19).toNat).1).toNat).1) != (6 : Int)), false, false, _v20, _v21, _v22, _v23, _v24, (nth ((0 : Int), ((0 : Int), (0 : Int))) _v17 (_v19).toNat).1, ((nth ((0 : Int), ((0 : Int), (0 : Int))) _v17 (_v19).toNat).2).1, ((nth ((0 : Int), ((0 : Int), (0 : Int))) _v17 (_v19).toNat).2).2))) else none)) else none) else none)) else (_k51 (_v20, _v21, _v22, _v23, _v24)))
noncomputable def keep_GraphForward_4 (_N : Nat) (_v12 : List (Int × Int × Int × Int × Int)) (_v13 : List (Int × Int × Int)) (_v14 : Int) (_v15 : Int) (_v16 : List Int) : Option Rt_keep_GraphForward :=
  (joinD (fun (_s : (List (Int × Int × Int × Int × Int)) × (List (Int × Int × Int)) × Int × Int × List Int) => keep_GraphForward_1 _N) fun _k51 => (loopE (fun (_c : (List (Int × Int × Int)) × Int × (List (Int × Int × Int × Int × Int)) × (List (Int × Int × Int)) × Int × Int × List Int) (_s : Int) _kn => keep_GraphForward_3 _N _k51 _c.1 _c.2.1 _c.2.2.1 _c.2.2.2.1 _c.2.2.2.2.1 _c.2.2.2.2.2.1 _c.2.2.2.2.2.2 _s _kn) _N (_v13, (_v13.length : Int), _v12, _v13, _v14, _v15, _v16) (0 : Int)))
noncomputable def keep_GraphForward_5 (_N : Nat) (_k54 : ((List (Int × Int × Int × Int × Int)) × (List (Int × Int × Int)) × Int × Int × List Int) → Option Rt_keep_GraphForward) (_v3 : List Int) (_v4 : List Int) (_v5 : Int) (_v7 : List (Int × Int × Int × Int × Int)) (_v8 : List (Int × Int × Int)) (_v9 : Int) (_v10 : Int) (_v6 : Int) (_v11 : List Int) (_kn55 : (List Int × List Int × Int × (List (Int × Int × Int × Int × Int)) × (List (Int × Int × Int)) × Int × Int) × (Int × List Int) → Option Rt_keep_GraphForward) : Option Rt_keep_GraphForward :=
  (bif (decide (_v6 < _v5)) then (bif (decide (0 ≤ _v6) && decide (_v6 < (_v4.length : Int))) then (bif (decide ((nth (0 : Int) _v4 (_v6).toNat) < (0 : Int))) then (some (false, ())) else (bif (decide ((nth (0 : Int) _v4 (_v6).toNat) ≥ (_v3.length : Int))) then (some (false, ())) else (bif (decide (0 ≤ (nth (0 : Int) _v4 (_v6).toNat)) && decide ((nth (0 : Int) _v4 (_v6).toNat) < (_v11.length : Int))) then (_kn55 ((_v3, _v4, _v5, _v7, _v8, _v9, _v10), ((IntKind.i64.wrap (_v6 + (1 : Int))), (_v11.set ((nth (0 : Int) _v4 (_v6).toNat).toNat) (IntKind.i64.wrap (_v6 + (1 : Int))))))) else none))) else none) else (_k54 (_v7, _v8, _v9, _v10, _v11)))
noncomputable def keep_GraphForward_6 (_N : Nat) (_x1 : List (Int × Int × Int × Int × Int) × List (Int × Int × Int)) : Option Rt_keep_GraphForward :=
  ((D_graph_Rank _N ((_x1.1, _x1.2), ())).bind fun _y49 => ((D_ref_GraphCheck _N ((_x1.1, _x1.2), ())).bind fun _y50 => (bif (_y50.1.1 != (0 : Int)) then (some ((_y49.2.1.1 != (0 : Int)), ())) else (bif (_y49.2.1.1 != (0 : Int)) then (some (false, ())) else (bif ((_y49.1.length : Int) != (_x1.1.length : Int)) then (some (false, ())) else (bif (decide (0 ≤ (_y49.1.length : Int)) && (decide ((_y49.1.length : Int) ≤ (_y49.1.length : Int)) && decide ((_y49.1.length : Int) * 8 ≤ 281474976710656))) then (joinD (fun (_s : (List (Int × Int × Int × Int × Int)) × (List (Int × Int × Int)) × Int × Int × List Int) => keep_GraphForward_4 _N _s.1 _s.2.1 _s.2.2.1 _s.2.2.2.1 _s.2.2.2.2) fun _k54 => (loopE (fun (_c : List Int × List Int × Int × (List (Int × Int × Int × Int × Int)) × (List (Int × Int × Int)) × Int × Int) (_s : Int × List Int) _kn => keep_GraphForward_5 _N _k54 _c.1 _c.2.1 _c.2.2.1 _c.2.2.2.1 _c.2.2.2.2.1 _c.2.2.2.2.2.1 _c.2.2.2.2.2.2 _s.1 _s.2 _kn) _N (_y49.1, _y49.1, (_y49.1.length : Int), _x1.1, _x1.2, _y49.2.1.1, _y49.2.1.2) ((0 : Int), (List.replicate (_y49.1.length : Int).toNat (0 : Int))))) else none))))))
noncomputable def D_keep_GraphForward (_N : Nat) (_x : Dens Ks_keep_GraphForward) : Option Rt_keep_GraphForward := keep_GraphForward_6 _N _x.1
theorem sp_keep_GraphForward (_N : Nat) : SpecD Tryd.prog Gs 3 Ks_keep_GraphForward Rk_keep_GraphForward (D_keep_GraphForward _N) := mkSpD (fn := Tryd.f3) (c := bodyOf Tryd.f3) (C := C_keep_GraphForward _N)
    (a := .two .none (.two .none (.two .none (.two .none (.two .none (.join 3 ⟨[(1, .ptr 0 0), (5, .slc 2 0)], [.cells [.sl (.pair (.int .i64) (.pair (.int .i64) (.pair (.int .i64) (.pair (.int .i64) (.int .i64))))), .sl (.pair (.int .i64) (.pair (.int .i64) (.int .i64)))], .cells [.int .i64, .int .i64], .row false 0 3 (.int .i64)]⟩ (.two .none (.one (.loop 3 ⟨[(1, .ptr 0 0), (3, .sl (.int .i64)), (5, .slc 2 0), (36, .sl (.int .i64)), (37, .int .i64), (38, .int .i64)], [.cells [.sl (.pair (.int .i64) (.pair (.int .i64) (.pair (.int .i64) (.pair (.int .i64) (.int .i64))))), .sl (.pair (.int .i64) (.pair (.int .i64) (.int .i64)))], .cells [.int .i64, .int .i64], .row false 0 3 (.int .i64)]⟩ [3, 8] .none))) (.join 3 ⟨[], [.cells [.sl (.pair (.int .i64) (.pair (.int .i64) (.pair (.int .i64) (.pair (.int .i64) (.int .i64))))), .sl (.pair (.int .i64) (.pair (.int .i64) (.int .i64)))], .cells [.int .i64, .int .i64], .row false 0 3 (.int .i64)]⟩ (.two .none (.one (.loop 3 ⟨[(1, .ptr 0 0), (5, .slc 2 0), (58, .sl (.pair (.int .i64) (.pair (.int .i64) (.int .i64)))), (59, .int .i64), (60, .int .i64)], [.cells [.sl (.pair (.int .i64) (.pair (.int .i64) (.pair (.int .i64) (.pair (.int .i64) (.int .i64))))), .sl (.pair (.int .i64) (.pair (.int .i64) (.int .i64)))], .cells [.int .i64, .int .i64], .row false 0 3 (.int .i64)]⟩ [2] (.two .none (.two .none (.join 4 ⟨[(1, .ptr 0 0), (5, .slc 2 0), (58, .sl (.pair (.int .i64) (.pair (.int .i64) (.int .i64)))), (59, .int .i64), (60, .int .i64), (71, .ptr 0 0), (72, .sl (.pair (.int .i64) (.pair (.int .i64) (.pair (.int .i64) (.pair (.int .i64) (.int .i64)))))), (73, .ptr 3 0), (74, .int .i64), (75, .fptr (.pair (.int .i64) (.pair (.int .i64) (.pair (.int .i64) (.pair (.int .i64) (.int .i64)))))), (76, .fptr (.int .i64)), (77, .int .i64), (78, .bool), (79, .bool), (91, .bool)], [.cells [.sl (.pair (.int .i64) (.pair (.int .i64) (.pair (.int .i64) (.pair (.int .i64) (.int .i64))))), .sl (.pair (.int .i64) (.pair (.int .i64) (.int .i64)))], .cells [.int .i64, .int .i64], .row false 0 3 (.int .i64), .cells [.int .i64, .int .i64, .int .i64]]⟩ (.one (.two .none (.two (.draw 0 (.pure :: .pure :: .rd [3] :: .rd [2] :: .rd [2] :: .pure :: .pure :: .pure :: .rd [0] :: .pure :: .rd [3] :: .pure :: .pure :: .pure :: .pure :: .pure :: .pure :: .pure :: .rd [3] :: .rd [2] :: .rd [2] :: .pure :: .pure :: .rd [3] :: .rd [2] :: .rd [2] :: .pure :: .pure :: .pure :: [])) .none))) .none)))))) .none)))))))
    (by kernel_rfl) rfl (by kernel_rfl) (by kernel_rfl) ⟨rfl, by unfold TOk; kernel_rfl, gOk_of rfl rfl (List.forall_mem_cons.2 ⟨qen_graph_Rank _N, (List.forall_mem_cons.2 ⟨en_ref_GraphCheck _N, (List.forall_mem_nil _)⟩)⟩), iOk_of rfl rfl (List.forall_mem_nil _), rfl⟩ (fun _x => by kernel_rfl)
theorem en_keep_GraphForward (_N : Nat) : EntOk Tryd.prog Gs (mkP 3 Ks_keep_GraphForward Rk_keep_GraphForward (D_keep_GraphForward _N)) := entP ⟨Tryd.f3, bodyOf Tryd.f3, by kernel_rfl, by kernel_rfl, rfl⟩ (by kernel_rfl) (sp_keep_GraphForward _N)
namespace Gh
theorem nd_inj {xs : List Nat} (h : xs.Nodup) {s t : Nat} (hs : s < xs.length) (ht : t < xs.length) (e : nth 0 xs s = nth 0 xs t) : s = t := by
  rw [nth_lt hs, nth_lt ht] at e
  rcases Nat.lt_trichotomy s t with q | q | q
  · exact absurd e (List.pairwise_iff_getElem.1 h s t hs ht q)
  · exact q
  · exact absurd e.symm (List.pairwise_iff_getElem.1 h t s ht hs q)
theorem fwd {N : Nat} (hN : 1000 ≤ N) (ns : List Nd) (es : List Ed) : D_keep_GraphForward N ((ns, es), ()) = some (true, ()) := by
  obtain ⟨c, p, e1, e2⟩ := GraphCheck_eq (N := N) hN ns es
  by_cases hg : GrOk ns es
  case neg =>
    obtain ⟨p', e3⟩ := Rank_bad (N := N) hN (fun h => hg (codeG_zero.1 h))
    simp only [D_keep_GraphForward, keep_GraphForward_6, e1, e3, Option.bind_some]
    rw [show (c != 0) = true from bne_iff_ne.2 fun h => hg (e2.1 h), cond_true, show (codeG ns es != 0) = true from bne_iff_ne.2 fun h => hg (codeG_zero.1 h)]
  have hn := hg.n12
  have he := hg.e20
  obtain ⟨xs, e3, hxl, hrk⟩ := Rank_ok (N := N) hN hg
  simp only [D_keep_GraphForward, keep_GraphForward_6, e1, e3, Option.bind_some, e2.2 hg, bne_self_eq_false, cond_false, List.length_map, hxl]
  rw [d_true (show (0 : Int) ≤ ns.length by omega), d_true (show ((ns.length : Int)) * 8 ≤ 281474976710656 by omega), d_true (Int.le_refl _), Bool.and_self, Bool.and_self, cond_true, Int.toNat_natCast]
  simp only [joinD, loopE]
  have hcov : ∀ a, a < ns.length → ∃ t, t < xs.length ∧ nth 0 xs t = a := fun a ha => by
    by_cases q : a ∈ xs
    · exact mem_nth q
    · have h1 := hrk.nd.length_le_of_subset (l₂ := (List.range ns.length).filter fun b => decide (b ≠ a)) fun x hx => List.mem_filter.2 ⟨List.mem_range.2 (hrk.lt x hx), decide_eq_true fun h => q (h ▸ hx)⟩
      have h2 := Go.Abs.filter_lt (p := fun b => decide (b ≠ a)) (q := fun _ => true) (List.range ns.length) (fun _ _ _ => rfl) ⟨a, List.mem_range.2 ha, rfl, by simp⟩
      rw [List.filter_eq_self.2 (fun _ _ => rfl), List.length_range] at h2
      omega
  have hcast : ∀ t, t < xs.length → nth (0 : Int) (xs.map fun (x : Nat) => (x : Int)) t = ((nth 0 xs t : Nat) : Int) := fun t ht => by
    rw [nth_lt (by simpa using ht), nth_lt ht, List.getElem_map]
  have hlt : ∀ t, t < xs.length → nth 0 xs t < ns.length := fun t ht => hrk.lt _ (nth_mem ht)
  refine loopD_Q (fun r => r = some (true, ())) ns.length (fun i s => s.1 = (i : Int) ∧ s.2.length = ns.length ∧ ∀ t, t < i → nth 0 s.2 (nth 0 xs t) = (t : Int) + 1) ?_ ?_ (by omega) ⟨rfl, by simp, fun t ht => absurd ht (Nat.not_lt_zero _)⟩
  · rintro i ⟨_, at'⟩ hi ⟨rfl, hl, hI⟩ kn hk
    simp only at hl hI
    have hi' : i < xs.length := by omega
    simp only [keep_GraphForward_5, lt_d hi, ge0_d, List.length_map, hxl, Bool.and_self, cond_true, Int.toNat_natCast, hcast i hi', hl, lt_d (hlt i hi'), ix1 hi (show ns.length ≤ 100000 by omega)]
    rw [d_false (show ¬ ((nth 0 xs i : Nat) : Int) < 0 by omega), d_false (show ¬ ((nth 0 xs i : Nat) : Int) ≥ ns.length by have := hlt i hi'; omega), cond_false, cond_false, backE_eq]
    refine hk _ ⟨by simp, by simp [hl], fun t ht => ?_⟩
    simp only
    rw [set_nth]
    by_cases q : t = i
    · subst q; rw [if_pos ⟨rfl, by rw [hl]; exact hlt t hi'⟩]
    · rw [if_neg (fun h => ?_), hI t (by omega)]
      exact q (nd_inj hrk.nd hi' (show t < xs.length by omega) h.1).symm
  · rintro ⟨_, at'⟩ ⟨rfl, hl, hI⟩ kn
    simp only at hl hI
    simp only [keep_GraphForward_5, lt_self, cond_false, keep_GraphForward_4, joinD, loopE]
    refine loopD_Q (fun r => r = some (true, ())) es.length (fun i s => s = (i : Int)) ?_ ?_ (by omega) rfl
    · rintro i _ hi rfl kn' hk'
      have hed := hg.edges i hi
      have f0 : 0 ≤ (nth ((0 : Int), (0 : Int), (0 : Int)) es i).1 := hed.f0
      have fn : (nth ((0 : Int), (0 : Int), (0 : Int)) es i).1 < ns.length := hed.fn
      have t0 : 0 ≤ (nth ((0 : Int), (0 : Int), (0 : Int)) es i).2.1 := hed.t0
      have tn : (nth ((0 : Int), (0 : Int), (0 : Int)) es i).2.1 < ns.length := hed.tn
      obtain ⟨s, hs, es'⟩ := hcov (nth ((0 : Int), (0 : Int), (0 : Int)) es i).1.toNat (by omega)
      obtain ⟨t, ht, et⟩ := hcov (nth ((0 : Int), (0 : Int), (0 : Int)) es i).2.1.toNat (by omega)
      have hs1 := hI s (by omega)
      have ht1 := hI t (by omega)
      rw [es'] at hs1
      rw [et] at ht1
      simp only [keep_GraphForward_3, lt_d hi, ge0_d, Bool.and_self, cond_true, Int.toNat_natCast, hl, d_true f0, d_true fn, d_true t0, d_true tn, joinD, keep_GraphForward_2, hs1, ht1, ix1 hi (show es.length ≤ 100000 by omega)]
      rw [show ((s : Int) + 1 == 0) = false from beq_false_of_ne (by omega), cond_false, backE_eq]
      have hgo := hk' ((i : Int) + 1) (by omega)
      by_cases q6 : (nth z5 ns (nth ((0 : Int), (0 : Int), (0 : Int)) es i).1.toNat).1 = 6
      · have e6 : ((nth ((0 : Int), (0 : Int), (0 : Int), (0 : Int), (0 : Int)) ns (nth ((0 : Int), (0 : Int), (0 : Int)) es i).1.toNat).1 != 6) = false := by
          have : (nth ((0 : Int), (0 : Int), (0 : Int), (0 : Int), (0 : Int)) ns (nth ((0 : Int), (0 : Int), (0 : Int)) es i).1.toNat).1 = 6 := q6
          rw [this]; rfl
        rw [e6, cond_false]; exact hgo
      · have e6 : ((nth ((0 : Int), (0 : Int), (0 : Int), (0 : Int), (0 : Int)) ns (nth ((0 : Int), (0 : Int), (0 : Int)) es i).1.toNat).1 != 6) = true := bne_iff_ne.2 q6
        rw [e6, cond_true]
        obtain ⟨s', hs', es2⟩ := hrk.fw t ht (nth ((0 : Int), (0 : Int), (0 : Int)) es i).1.toNat (by rw [et]; exact ⟨nth ((0 : Int), (0 : Int), (0 : Int)) es i, nth_mem hi, by omega, by omega, q6⟩)
        have hss : s' = s := nd_inj hrk.nd (show s' < xs.length by omega) hs (by rw [es2, es'])
        rw [d_false (show ¬ ((s : Int) + 1 ≥ (t : Int) + 1) by omega), cond_false]; exact hgo
    · rintro _ rfl kn'
      simp only [keep_GraphForward_3, lt_self, cond_false, keep_GraphForward_1]
end Gh
theorem law_GraphForward (g : List (Int × Int × Int × Int × Int) × List (Int × Int × Int)) (_hg : wfS (.pair (.sl (.pair (.int .i64) (.pair (.int .i64) (.pair (.int .i64) (.pair (.int .i64) (.int .i64)))))) (.sl (.pair (.int .i64) (.pair (.int .i64) (.int .i64))))) g) : ∃ N, D_keep_GraphForward N (g, ()) = some (true, ()) :=
  ⟨1000, Gh.fwd (Nat.le_refl _) g.1 g.2⟩
set_option maxRecDepth 100000 in
theorem lifted_GraphForward (os : Os) (started : os.Started) (H : Type) (enc : TypeId × Value → H) :
    ReturnsInHanded {} Tryd.checked os 3 .any (fun w args => (Rows.graphForwardSpec.pre enc Tryd.prog Tryd.f3 [] false w args ∧ laidMetH Tryd.prog Rows.graphForwardRow.laid w) ∧ sizedMet enc Tryd.prog Tryd.f3 (OpenSpec.ofChange Rows.graphForwardSpec) false w args) (Rows.graphForwardSpec.post enc Tryd.prog Tryd.f3 false true false false) := by
  refine returnsInHanded_of_change_and (C := Tryd.checked) (X := fun w _ => laidMetH Tryd.prog Rows.graphForwardRow.laid w) (fun _ _ _ hh h => h.of_heap hh) own started (by kernel_rfl) Tryd.func3
    (ChangeSpec.witness_shaped (enc := enc) (C := Tryd.checked) (os := os) (X := fun w _ => laidMetH Tryd.prog Rows.graphForwardRow.laid w) false (World.doorLaid Tryd.prog 400 os) #[.agg #[.slice none 0 0, .slice none 0 0]] 8 rfl (World.shaped_of_RefB (by kernel_rfl) (by kernel_rfl)) (by kernel_rfl) (by kernel_rfl) (by kernel_rfl) (door_met os _)) ?_
  intro W base args ds gs before hval0 hW _ hsz0 hL _
  have hgw : GW Gs W := gw_of hL
  have hval : ∀ (j : Nat) t v, Tryd.f3.params[j]? = some t → args[j]? = some v → Value.okWide Tryd.prog W .any base t v := hval0
  have hW' := hW
  obtain ⟨p, q, hA0, hV, rfl, _, _⟩ := hW
  have hA : DataW.TrodAll enc Tryd.prog W 0 (fun _ => true) true Tryd.f3.params.toList args.toList ds p := hA0
  rw [Tryd.params3] at hA hval
  obtain ⟨v0, vs0, d0, ds0, p0, q0, hargs, rfl, rfl, h0, r0⟩ := trodAll_cons hA
  obtain ⟨rfl, rfl, rfl⟩ := trodAll_nil r0
  obtain rfl : args = #[v0] := by cases args; simp_all
  obtain ⟨rfl, rfl⟩ := trodVars_none hV
  have hall := List.all_eq_true.1 hsz0
  clear hA0 hval0 hsz0
  simp only [List.append_nil] at hW'
  have hlt0 : ∀ x ∈ p0, x.block < W.heap.size := fun x hx => hW'.lt x (by simp [hx])
  obtain ⟨x0, g0, w0⟩ := open_kd (k := .dat (.pair (.sl (.pair (.int .i64) (.pair (.int .i64) (.pair (.int .i64) (.pair (.int .i64) (.int .i64)))))) (.sl (.pair (.int .i64) (.pair (.int .i64) (.int .i64)))))) (by kernel_rfl) (hval 0 25 v0 rfl rfl) h0
  obtain ⟨N, hN⟩ := law_GraphForward x0 w0
  refine (sp_keep_GraphForward N (fun _ => False) W (x0, ()) (true, ()) [v0] (fun _ h => h.elim) hgw ⟨v0, _, rfl, g0, rfl⟩ hN).mono ?_
  rintro e W' ⟨v, rfl, hg, hr⟩
  replace hg := hg.old
  have hr : v = .bool true := by simpa only [kvals, retV, Kd.val, Go.Abs.enc, RV] using hr
  subst hr
  exact ⟨_, rfl, _, _, _, [], p0 ++ [], [], hW', (trodAll_cons_mk (shut_bool (show Tryd.prog.underlying 4 = some .bool by kernel_rfl) _) trodAll_mk0), (trodAll_cons_mk (Below.trod laidOut (by kernel_rfl) (of_decide_eq_true (by kernel_rfl)) h0 hg hlt0) trodAll_mk0), rfl, hg.frame _, fun h => by cases h⟩

/-- The statement: whatever the arguments, the law's function returns true and leaves them as they were. -/
theorem graphForward_holds : Rows.GraphForwardSaid :=
  OpenClaim.holds_of_wide 3 Tryd.f3 rfl rfl rfl rfl rfl rfl rfl ⟨rfl, rfl, rfl, rfl, rfl⟩ rfl rfl rfl rfl rfl (by kernel_rfl) Tryd.func3 (by kernel_rfl)
    (of_decide_eq_true (by kernel_rfl)) (by unfold Func.isWrapper; first | (rw [if_pos (by decide +kernel)]; kernel_rfl) | (rw [if_neg (by decide +kernel)]; exact ⟨rfl, rfl⟩))
    (fun os started H enc _ => lifted_GraphForward os started H enc)
/-- The statement's card: the variable that the road reads is tied to the program's text. -/
theorem graphForward_card : Rows.GraphForwardCardSaid :=
  Claim7.holds_tied_plain_at .later [] [.data] true (true, "53aaabe498ee24901d841402e858b9bdaa2b8a79f61746a2a730730b093e8b9c") false graphForward_holds (fun _ h => by cases h) (by kernel_rfl) (fun _ h => by cases h) graphForward_row_tie rfl ⟨rfl, rfl⟩ (by kernel_rfl) rfl
    (fun f fn hf hfn => by
      obtain rfl : f = 3 := Option.some.inj ((show Tryd.prog.funcNamed "watershed/watershedkeep.GraphForward" = some 3 by kernel_rfl).symm.trans hf) |>.symm
      obtain rfl : fn = Tryd.f3 := (Option.some.inj (Tryd.func3.symm.trans hfn)).symm
      exact ⟨by kernel_rfl, fun j t ht => by
        have h3 := List.all_eq_true.1 (show (Tryd.f3.params.toList.all fun t => !(Tryd.prog.wantsStandIn t)) = true by kernel_rfl) t (by rw [← Array.getElem?_toList] at ht; exact List.mem_of_getElem? ht)
        have h4 : Tryd.prog.wantsStandIn t = false := by simpa using h3
        exact h4⟩)
    (by kernel_rfl)
end Go.Proofs.YtnlkjgfopenmnaaDoor
