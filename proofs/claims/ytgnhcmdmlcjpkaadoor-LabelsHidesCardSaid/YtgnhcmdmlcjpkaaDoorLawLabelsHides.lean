/- LabelsHides. No condition. -/
import Derived.Test.YtgnhcmdmlcjpkaaDoorLabS
import Derived.Test.YtgnhcmdmlcjpkaaDoorFrame
namespace Go.Proofs.YtgnhcmdmlcjpkaaDoor
open Go Go.ChangeShapes Go.WideShapes Go.ChangeAt Go.WideMaps Go.WideElems Go.RowKit Go.Abs Go.Gr
-- watershed/watershedkeep.LabelsHides
abbrev Ks_keep_LabelsHides : List Kd := [.dat (.pair (.int .i64) (.sl (.int .u32))), .dat (.pair (.sl (.pair (.int .i64) (.pair (.int .i64) (.pair (.int .i64) (.pair (.int .i64) (.int .i64)))))) (.sl (.pair (.int .i64) (.pair (.int .i64) (.int .i64))))), .dat (.sl (.int .i64)), .dat (.int .i64), .dat (.int .i64)]
abbrev Rk_keep_LabelsHides : List Kd := [.dat (.bool)]
abbrev Rt_keep_LabelsHides : Type := Dens Rk_keep_LabelsHides
noncomputable def C_keep_LabelsHides (_N : Nat) : Ctx := { T := [(3, ⟨.int .i64, 1, 8, some (.int .i64), [.int .i64 (0 : Int)], false, []⟩), (24, ⟨.struct [(0, 3), (1, 22)], 2, 32, some (.pair (.int .i64) (.sl (.int .u32))), [.int .i64 (0 : Int), .nil], false, []⟩), (26, ⟨.slice 48, 1, 24, some (.sl (.pair (.int .i64) (.pair (.int .i64) (.int .i64)))), [.nil], false, []⟩), (28, ⟨.struct [(0, 25), (1, 26)], 2, 48, some (.pair (.sl (.pair (.int .i64) (.pair (.int .i64) (.pair (.int .i64) (.pair (.int .i64) (.int .i64)))))) (.sl (.pair (.int .i64) (.pair (.int .i64) (.int .i64))))), [.nil, .nil], false, []⟩), (29, ⟨.slice 3, 1, 24, some (.sl (.int .i64)), [.nil], false, []⟩), (30, ⟨.int .i64, 1, 8, some (.int .i64), [.int .i64 (0 : Int)], false, []⟩), (32, ⟨.struct [(0, 30), (1, 3)], 2, 16, some (.pair (.int .i64) (.int .i64)), [.int .i64 (0 : Int), .int .i64 (0 : Int)], true, []⟩), (48, ⟨.struct [(0, 3), (1, 3), (2, 3)], 3, 24, some (.pair (.int .i64) (.pair (.int .i64) (.int .i64))), [.int .i64 (0 : Int), .int .i64 (0 : Int), .int .i64 (0 : Int)], true, []⟩)], G := findE [mkQ 16 Ks_labels_Sees Rk_labels_Sees (D_labels_Sees _N), mkP 13 Ks_ref_LabelsCheck Rk_ref_LabelsCheck (D_ref_LabelsCheck _N), mkP 15 Ks_keep_within Rk_keep_within (D_keep_within _N), mkP 17 Ks_keep_below Rk_keep_below (D_keep_below _N), mkP 18 Ks_ref_Has Rk_ref_Has (D_ref_Has _N)], I := findI [], N := _N, n := 124, fx := [], fl := 0, gs := Gs }
noncomputable def keep_LabelsHides_1 (_N : Nat) : Option Rt_keep_LabelsHides :=
  (some (true, ()))
noncomputable def keep_LabelsHides_2 (_N : Nat) (_k74 : Unit → Option Rt_keep_LabelsHides) (_v55 : Int) (_v56 : Int) (_v57 : List Int) (_v58 : List Int) (_v60 : Int) (_v61 : List Int) (_v62 : Int) (_v63 : Int) (_v59 : Int) (_kn75 : (Int × Int × List Int × List Int × Int × List Int × Int × Int) × Int → Option Rt_keep_LabelsHides) : Option Rt_keep_LabelsHides :=
  (bif (decide (_v59 < (_v57.length : Int))) then (bif (_v62 == (0 : Int)) then ((D_keep_within _N (_v60, [_v56], ())).bind fun _y76 => (bif _y76.1 then ((D_keep_below _N ((_v60, _v61), _v55, _v56, ())).bind fun _y77 => (bif _y77.1 then (bif (decide (0 ≤ _v59) && decide (_v59 < (_v57.length : Int))) then ((D_ref_Has _N (_v58, (nth (0 : Int) _v57 (_v59).toNat), ())).bind fun _y78 => (bif (!_y78.1) then (some (false, ())) else (_kn75 ((_v55, _v56, _v57, _v58, _v60, _v61, _v62, _v63), (IntKind.i64.wrap (_v59 + (1 : Int))))))) else none) else (_k74 ()))) else (_k74 ()))) else (_k74 ())) else (_k74 ()))
noncomputable def keep_LabelsHides_3 (_N : Nat) (_v47 : Int) (_v48 : Int) (_v49 : List Int) (_v50 : List Int) (_v51 : Int) (_v52 : List Int) (_v53 : Int) (_v54 : Int) : Option Rt_keep_LabelsHides :=
  (joinD (fun (_s : Unit) => keep_LabelsHides_1 _N) fun _k74 => (loopE (fun (_c : Int × Int × List Int × List Int × Int × List Int × Int × Int) (_s : Int) _kn => keep_LabelsHides_2 _N _k74 _c.1 _c.2.1 _c.2.2.1 _c.2.2.2.1 _c.2.2.2.2.1 _c.2.2.2.2.2.1 _c.2.2.2.2.2.2.1 _c.2.2.2.2.2.2.2 _s _kn) _N (_v47, _v48, _v49, _v50, _v51, _v52, _v53, _v54) (0 : Int)))
noncomputable def keep_LabelsHides_4 (_N : Nat) (_k79 : (Int × Int × List Int × List Int × Int × List Int × Int × Int) → Option Rt_keep_LabelsHides) (_v32 : Int) (_v33 : Int) (_v34 : List Int) (_v35 : List Int) (_v36 : List (Int × Int × Int)) (_v37 : Int) (_v39 : Int) (_v40 : List Int) (_v41 : Int) (_v42 : Int) (_v38 : Int) (_kn80 : (Int × Int × List Int × List Int × (List (Int × Int × Int)) × Int × Int × List Int × Int × Int) × Int → Option Rt_keep_LabelsHides) : Option Rt_keep_LabelsHides :=
  (bif (decide (_v38 < _v37)) then (bif (decide (0 ≤ _v38) && decide (_v38 < (_v36.length : Int))) then ((D_ref_Has _N (_v34, ((nth ((0 : Int), ((0 : Int), (0 : Int))) _v36 (_v38).toNat).2).1, ())).bind fun _y81 => (bif _y81.1 then ((D_ref_Has _N (_v34, (nth ((0 : Int), ((0 : Int), (0 : Int))) _v36 (_v38).toNat).1, ())).bind fun _y82 => (bif (!_y82.1) then (some (false, ())) else (_kn80 ((_v32, _v33, _v34, _v35, _v36, _v37, _v39, _v40, _v41, _v42), (IntKind.i64.wrap (_v38 + (1 : Int))))))) else (_kn80 ((_v32, _v33, _v34, _v35, _v36, _v37, _v39, _v40, _v41, _v42), (IntKind.i64.wrap (_v38 + (1 : Int))))))) else none) else (_k79 (_v32, _v33, _v34, _v35, _v39, _v40, _v41, _v42)))
noncomputable def keep_LabelsHides_5 (_N : Nat) (_v21 : Int) (_v22 : Int) (_v23 : List Int) (_v24 : List Int) (_v25 : Int) (_v26 : Int) (_v27 : List Int) (_v29 : List (Int × Int × Int)) (_v30 : Int) (_v31 : Int) : Option Rt_keep_LabelsHides :=
  (bif ((_v23.length : Int) != _v25) then (some (false, ())) else (joinD (fun (_s : Int × Int × List Int × List Int × Int × List Int × Int × Int) => keep_LabelsHides_3 _N _s.1 _s.2.1 _s.2.2.1 _s.2.2.2.1 _s.2.2.2.2.1 _s.2.2.2.2.2.1 _s.2.2.2.2.2.2.1 _s.2.2.2.2.2.2.2) fun _k79 => (loopE (fun (_c : Int × Int × List Int × List Int × (List (Int × Int × Int)) × Int × Int × List Int × Int × Int) (_s : Int) _kn => keep_LabelsHides_4 _N _k79 _c.1 _c.2.1 _c.2.2.1 _c.2.2.2.1 _c.2.2.2.2.1 _c.2.2.2.2.2.1 _c.2.2.2.2.2.2.1 _c.2.2.2.2.2.2.2.1 _c.2.2.2.2.2.2.2.2.1 _c.2.2.2.2.2.2.2.2.2 _s _kn) _N (_v21, _v22, _v23, _v24, _v29, (_v29.length : Int), _v26, _v27, _v30, _v31) (0 : Int))))
noncomputable def keep_LabelsHides_6 (_N : Nat) (_k83 : (Int × Int × List Int × List Int × Int × Int × List Int × (List (Int × Int × Int × Int × Int)) × (List (Int × Int × Int)) × Int × Int) → Option Rt_keep_LabelsHides) (_v5 : Int) (_v6 : Int) (_v7 : List Int) (_v8 : List Int) (_v10 : List Int) (_v11 : Int) (_v13 : Int) (_v14 : List Int) (_v15 : List (Int × Int × Int × Int × Int)) (_v16 : List (Int × Int × Int)) (_v17 : Int) (_v18 : Int) (_v9 : Int) (_v12 : Int) (_kn84 : (Int × Int × List Int × List Int × List Int × Int × Int × List Int × (List (Int × Int × Int × Int × Int)) × (List (Int × Int × Int)) × Int × Int) × (Int × Int) → Option Rt_keep_LabelsHides) : Option Rt_keep_LabelsHides :=
  (bif (decide (_v12 < _v11)) then (bif (decide (0 ≤ _v12) && decide (_v12 < (_v10.length : Int))) then ((D_keep_below _N ((_v13, _v14), (nth (0 : Int) _v10 (_v12).toNat), _v5, ())).bind fun _y85 => (bif _y85.1 then (_kn84 ((_v5, _v6, _v7, _v8, _v10, _v11, _v13, _v14, _v15, _v16, _v17, _v18), ((IntKind.i64.wrap (_v9 + (1 : Int))), (IntKind.i64.wrap (_v12 + (1 : Int)))))) else (_kn84 ((_v5, _v6, _v7, _v8, _v10, _v11, _v13, _v14, _v15, _v16, _v17, _v18), (_v9, (IntKind.i64.wrap (_v12 + (1 : Int)))))))) else none) else (_k83 (_v5, _v6, _v7, _v8, _v9, _v13, _v14, _v15, _v16, _v17, _v18)))
noncomputable def keep_LabelsHides_7 (_N : Nat) (_x1 : Int × List Int) (_x2 : List (Int × Int × Int × Int × Int) × List (Int × Int × Int)) (_x3 : List Int) (_x4 : Int) (_x5 : Int) : Option Rt_keep_LabelsHides :=
  ((D_labels_Sees _N ((_x1.1, _x1.2), (_x2.1, _x2.2), _x3, _x4, ())).bind fun _y70 => ((D_labels_Sees _N ((_x1.1, _x1.2), (_x2.1, _x2.2), _x3, _x5, ())).bind fun _y71 => (bif (_y70.2.1.1 != (0 : Int)) then (some (((_y70.1.length : Int) == (0 : Int)), ())) else ((D_ref_LabelsCheck _N ((_x1.1, _x1.2), (_x2.1, _x2.2), _x3, ())).bind fun _y72 => (bif (_y72.1.1 != (0 : Int)) then (some (false, ())) else ((D_keep_within _N (_x1.1, [_x4], ())).bind fun _y73 => (bif (!_y73.1) then (some (false, ())) else (joinD (fun (_s : Int × Int × List Int × List Int × Int × Int × List Int × (List (Int × Int × Int × Int × Int)) × (List (Int × Int × Int)) × Int × Int) => keep_LabelsHides_5 _N _s.1 _s.2.1 _s.2.2.1 _s.2.2.2.1 _s.2.2.2.2.1 _s.2.2.2.2.2.1 _s.2.2.2.2.2.2.1 _s.2.2.2.2.2.2.2.2.1 _s.2.2.2.2.2.2.2.2.2.1 _s.2.2.2.2.2.2.2.2.2.2) fun _k83 => (loopE (fun (_c : Int × Int × List Int × List Int × List Int × Int × Int × List Int × (List (Int × Int × Int × Int × Int)) × (List (Int × Int × Int)) × Int × Int) (_s : Int × Int) _kn => keep_LabelsHides_6 _N _k83 _c.1 _c.2.1 _c.2.2.1 _c.2.2.2.1 _c.2.2.2.2.1 _c.2.2.2.2.2.1 _c.2.2.2.2.2.2.1 _c.2.2.2.2.2.2.2.1 _c.2.2.2.2.2.2.2.2.1 _c.2.2.2.2.2.2.2.2.2.1 _c.2.2.2.2.2.2.2.2.2.2.1 _c.2.2.2.2.2.2.2.2.2.2.2 _s.1 _s.2 _kn) _N (_x4, _x5, _y70.1, _y71.1, _x3, (_x3.length : Int), _x1.1, _x1.2, _x2.1, _x2.2, _y71.2.1.1, _y71.2.1.2) ((0 : Int), (0 : Int)))))))))))
noncomputable def D_keep_LabelsHides (_N : Nat) (_x : Dens Ks_keep_LabelsHides) : Option Rt_keep_LabelsHides := keep_LabelsHides_7 _N _x.1 _x.2.1 _x.2.2.1 _x.2.2.2.1 _x.2.2.2.2.1
theorem sp_keep_LabelsHides (_N : Nat) : SpecD Tryd.prog Gs 4 Ks_keep_LabelsHides Rk_keep_LabelsHides (D_keep_LabelsHides _N) := mkSpD (fn := Tryd.f4) (c := bodyOf Tryd.f4) (C := C_keep_LabelsHides _N)
    (a := .two .none (.two .none (.two .none (.two .none (.two .none (.two .none (.join 5 ⟨[(3, .int .i64), (4, .int .i64), (5, .ptr 0 0), (6, .ptr 1 0), (11, .sl (.int .i64)), (13, .sl (.int .i64)), (14, .ptr 3 0), (15, .int .i64)], [.cells [.int .i64, .sl (.int .u32)], .cells [.sl (.pair (.int .i64) (.pair (.int .i64) (.pair (.int .i64) (.pair (.int .i64) (.int .i64))))), .sl (.pair (.int .i64) (.pair (.int .i64) (.int .i64)))], .none, .cells [.int .i64, .int .i64], .none]⟩ (.two .none (.one (.loop 5 ⟨[(3, .int .i64), (4, .int .i64), (5, .ptr 0 0), (6, .ptr 1 0), (11, .sl (.int .i64)), (13, .sl (.int .i64)), (14, .ptr 3 0), (15, .int .i64), (57, .sl (.int .i64)), (58, .int .i64), (59, .int .i64)], [.cells [.int .i64, .sl (.int .u32)], .cells [.sl (.pair (.int .i64) (.pair (.int .i64) (.pair (.int .i64) (.pair (.int .i64) (.int .i64))))), .sl (.pair (.int .i64) (.pair (.int .i64) (.int .i64)))], .none, .cells [.int .i64, .int .i64], .none]⟩ [4, 7] .none))) (.two .none (.join 5 ⟨[(3, .int .i64), (4, .int .i64), (5, .ptr 0 0), (11, .sl (.int .i64)), (13, .sl (.int .i64)), (14, .ptr 3 0)], [.cells [.int .i64, .sl (.int .u32)], .none, .none, .cells [.int .i64, .int .i64], .none]⟩ (.two .none (.one (.loop 5 ⟨[(3, .int .i64), (4, .int .i64), (5, .ptr 0 0), (11, .sl (.int .i64)), (13, .sl (.int .i64)), (14, .ptr 3 0), (75, .sl (.pair (.int .i64) (.pair (.int .i64) (.int .i64)))), (76, .int .i64), (77, .int .i64)], [.cells [.int .i64, .sl (.int .u32)], .none, .none, .cells [.int .i64, .int .i64], .none]⟩ [6] .none))) (.join 5 ⟨[], [.none, .none, .none, .none, .none]⟩ (.two .none (.one (.loop 5 ⟨[(3, .int .i64), (4, .int .i64), (5, .ptr 0 0), (11, .sl (.int .i64)), (13, .sl (.int .i64)), (14, .ptr 3 0), (20, .int .i64)], [.cells [.int .i64, .sl (.int .u32)], .none, .none, .cells [.int .i64, .int .i64], .none]⟩ [4] .none))) .none))))))))))
    (by kernel_rfl) rfl (by kernel_rfl) (by kernel_rfl) ⟨rfl, by unfold TOk; kernel_rfl, gOk_of rfl rfl (List.forall_mem_cons.2 ⟨qen_labels_Sees _N, (List.forall_mem_cons.2 ⟨en_ref_LabelsCheck _N, (List.forall_mem_cons.2 ⟨en_keep_within _N, (List.forall_mem_cons.2 ⟨en_keep_below _N, (List.forall_mem_cons.2 ⟨en_ref_Has _N, (List.forall_mem_nil _)⟩)⟩)⟩)⟩)⟩), iOk_of rfl rfl (List.forall_mem_nil _), rfl⟩ (fun _x => by kernel_rfl)
theorem en_keep_LabelsHides (_N : Nat) : EntOk Tryd.prog Gs (mkP 4 Ks_keep_LabelsHides Rk_keep_LabelsHides (D_keep_LabelsHides _N)) := entP ⟨Tryd.f4, bodyOf Tryd.f4, by kernel_rfl, by kernel_rfl, rfl⟩ (by kernel_rfl) (sp_keep_LabelsHides _N)
namespace Gh
/-- The nodes whose labels are below a level. -/
abbrev seen (up : List Int) (n : Nat) (ls : List Int) (l : Nat) : List Int := ((List.range n).filter fun i => decide (le up (nth 0 ls i).toNat l)).map fun (i : Nat) => (i : Int)
theorem mem_seen {up ls : List Int} {n l : Nat} {x : Int} : x ∈ seen up n ls l ↔ 0 ≤ x ∧ x < n ∧ le up (nth 0 ls x.toNat).toNat l := by
  simp only [seen, List.mem_map, List.mem_filter, List.mem_range, decide_eq_true_eq]
  constructor
  · rintro ⟨i, ⟨h1, h2⟩, rfl⟩
    exact ⟨by omega, by omega, by simpa using h2⟩
  · rintro ⟨h1, h2, h3⟩
    exact ⟨x.toNat, ⟨by omega, h3⟩, by omega⟩
theorem seen_len {up ls : List Int} {n l : Nat} : (seen up n ls l).length ≤ n := by
  simpa using List.length_filter_le (fun i => decide (le up (nth 0 ls i).toNat l)) (List.range n)
theorem lab_hides {N : Nat} (hN : 1000 ≤ N) {up : List Int} (hw : WL up) (n : Int) (ns : List Nd) (es : List Ed) (ls : List Int) (lv hv : Int) (hl : ls.length < N) :
    D_keep_LabelsHides N ((n, up), (ns, es), ls, lv, hv, ()) = some (true, ()) := by
  obtain ⟨h2, c2, p2, e2, e2'⟩ : ∃ s c p, D_labels_Sees N ((n, up), (ns, es), ls, hv, ()) = some (s, (c, p), ()) ∧ (c = 0 → (0 ≤ hv ∧ hv < n) ∧ s = seen up ns.length ls hv.toNat) := by
    rcases Sees_eq hN hw n ns es ls hv hl with ⟨_, c, p, hc, e⟩ | ⟨h, e⟩
    · exact ⟨_, c, p, e, fun h => absurd h hc⟩
    · exact ⟨_, 0, 0, e, fun _ => ⟨h.2.2, rfl⟩⟩
  simp only [D_keep_LabelsHides, keep_LabelsHides_7, e2, Option.bind_some]
  rcases Sees_eq hN hw n ns es ls lv hl with ⟨_, c, p, hc, e⟩ | ⟨h, e⟩
  · simp only [e, Option.bind_some, show (c != 0) = true from bne_iff_ne.2 hc, cond_true]; rfl
  obtain ⟨hok, hL, hv0, hvn⟩ := h
  obtain ⟨c, p, e3, e4⟩ := LabelsCheck_eq hN hw n ns es ls hl
  obtain ⟨b, e5, e6⟩ := within_eq (N := N) (n := n) (xs := [lv]) (by simp; omega) (by simp)
  obtain ⟨m, rfl⟩ : ∃ m : Nat, n = (m : Int) := ⟨n.toNat, by omega⟩
  obtain ⟨l, rfl⟩ : ∃ l : Nat, lv = (l : Int) := ⟨lv.toNat, by omega⟩
  have hm : m ≤ 16 := by have := hok.ord.h1; omega
  have hul : up.length = m := by have := hok.ord.len; omega
  have hlk : LOk m ns.length ls := by simpa using hok.lab
  have hll := hlk.len
  have hn12 := hok.gr.n12
  have he20 := hok.gr.e20
  simp only [Int.toNat_natCast] at e
  simp only [e, Option.bind_some, bne_self_eq_false, cond_false, e3, e4.2 hok, e5, e6.2 (by simp; omega), Bool.not_true, joinD, loopE]
  have hsl := seen_len (up := up) (ls := ls) (n := ns.length) (l := l)
  have tr := fun {i j k : Nat} (hi : i < m) (hj : j < m) (a : le up i j) (b : le up j k) => hok.ord.trans i j k (by omega) (by omega) a b
  -- how many there are
  refine loopD_path ls.length (fun i => ((((List.range i).filter fun i => decide (le up (nth 0 ls i).toNat l)).length : Int), (i : Int))) (fun i hi kn => ?_) (fun kn => ?_) (by omega)
  · have hx := hlk.rg i (by omega)
    have hc : nth 0 ls i = (((nth 0 ls i).toNat : Nat) : Int) := by omega
    have hlen : ((List.range i).filter fun i => decide (le up (nth 0 ls i).toNat l)).length ≤ i := by simpa using List.length_filter_le (fun i => decide (le up (nth 0 ls i).toNat l)) (List.range i)
    simp only [keep_LabelsHides_6, lt_d hi, ge0_d, Bool.and_self, cond_true, Int.toNat_natCast]
    rw [show D_keep_below N (((m : Int), up), nth 0 ls i, (l : Int), ()) = some (bt (nth 0 up (nth 0 ls i).toNat) l, ()) from by
      rw [hc]; exact kbelow_eq (n := (m : Int)) N hw (show (nth 0 ls i).toNat < up.length by omega) (show l < 4611686018427387904 by omega)]
    simp only [Option.bind_some, ix1 hi (show ls.length ≤ 100000 by omega), List.range_succ, List.filter_append, List.filter_cons, List.filter_nil, List.length_append, backE_eq]
    unfold le at hlen ⊢
    rw [w64 (by omega) (by omega)]
    by_cases q : bt (nth 0 up (nth 0 ls i).toNat) l = true
    · simp [q]
    · rw [Bool.not_eq_true] at q
      simp [q]
  · simp only [keep_LabelsHides_6, lt_self, cond_false, keep_LabelsHides_5, List.length_map, hll, bne_self_eq_false, joinD, loopE]
    refine loopD_pass (n := es.length) (by omega) (fun i hi kn => ?_) (fun kn => ?_) (by omega)
    · have hed := hok.gr.edges i hi
      have f0 : 0 ≤ (nth z3 es i).1 := hed.f0
      have fn : (nth z3 es i).1 < ns.length := hed.fn
      have t0 : 0 ≤ (nth z3 es i).2.1 := hed.t0
      have tn : (nth z3 es i).2.1 < ns.length := hed.tn
      obtain ⟨b1, g1, g2⟩ := keepHas_eq (N := N) (xs := seen up ns.length ls l) (by omega) (by omega) (nth z3 es i).2.1
      obtain ⟨b2, g3, g4⟩ := keepHas_eq (N := N) (xs := seen up ns.length ls l) (by omega) (by omega) (nth z3 es i).1
      simp only [keep_LabelsHides_4, lt_d hi, ge0_d, Bool.and_self, cond_true, Int.toNat_natCast, g1, g3, Option.bind_some, ix1 hi (show es.length ≤ 100000 by omega), backE_eq]
      cases b1 with
      | false => rfl
      | true =>
        have h1 := mem_seen.1 (g2.1 rfl)
        have : b2 = true := g4.2 (mem_seen.2 ⟨f0, fn, tr (by have := (hlk.cast f0 fn).2; exact this) (by have := (hlk.cast t0 tn).2; exact this) (hL i hi) h1.2.2⟩)
        rw [this]; rfl
    · simp only [keep_LabelsHides_4, lt_self, cond_false, keep_LabelsHides_3, joinD, loopE]
      by_cases q : c2 = 0 ∧ (0 ≤ hv ∧ hv < m) ∧ le up l hv.toNat
      · obtain ⟨rfl, hvr, hle⟩ := q
        obtain ⟨_, rfl⟩ := e2' rfl
        obtain ⟨h, rfl⟩ : ∃ h : Nat, hv = (h : Int) := ⟨hv.toNat, by omega⟩
        simp only [Int.toNat_natCast] at hle ⊢
        have hsl2 := seen_len (up := up) (ls := ls) (n := ns.length) (l := h)
        obtain ⟨b, e7, e8⟩ := within_eq (N := N) (n := (m : Int)) (xs := [(h : Int)]) (by simp; omega) (by simp)
        refine loopD_pass (n := (seen up ns.length ls l).length) (by omega) (fun i hi kn => ?_) (fun kn => ?_) (by omega)
        · obtain ⟨b1, g1, g2⟩ := keepHas_eq (N := N) (xs := seen up ns.length ls h) (by omega) (by omega) (nth 0 (seen up ns.length ls l) i)
          have h1 := mem_seen.1 (nth_mem (z := 0) hi)
          have : b1 = true := g2.2 (mem_seen.2 ⟨h1.1, h1.2.1, tr (by have := hlk.rg (nth 0 (seen up ns.length ls l) i).toNat (by omega); omega) (show l < m by omega) h1.2.2 hle⟩)
          subst this
          simp only [keep_LabelsHides_2, lt_d hi, cond_true, beq_self_eq_true, e7, e8.2 (by simp; omega), Option.bind_some, kbelow_eq (n := (m : Int)) N hw (show l < up.length by omega) (show h < 4611686018427387904 by omega), show bt (nth 0 up l) h = true from hle, ge0_d, Bool.and_self, Int.toNat_natCast, g1, Bool.not_true, cond_false, ix1 hi (show (seen up ns.length ls l).length ≤ 100000 by omega), backE_eq]
        · simp only [keep_LabelsHides_2, lt_self, cond_false, keep_LabelsHides_1]
      · obtain ⟨M, rfl⟩ : ∃ M, N = M + 1 := ⟨N - 1, by omega⟩
        rw [loopD_s]
        simp only [keep_LabelsHides_2]
        by_cases k0 : (0 : Int) < (seen up ns.length ls l).length
        case neg => rw [d_false k0]; rfl
        rw [d_true k0, cond_true]
        by_cases k1 : c2 = 0
        case neg => rw [show (c2 == 0) = false from beq_false_of_ne k1]; rfl
        rw [show (c2 == 0) = true from beq_iff_eq.2 k1, cond_true]
        obtain ⟨b, e7, e8⟩ := within_eq (N := M + 1) (n := (m : Int)) (xs := [hv]) (by simp; omega) (by simp)
        rw [e7, Option.bind_some]
        have hhv := (e2' k1).1
        obtain ⟨h, rfl⟩ : ∃ h : Nat, hv = (h : Int) := ⟨hv.toNat, by omega⟩
        rw [e8.2 (by simp; omega), cond_true, kbelow_eq (n := (m : Int)) (M + 1) hw (show l < up.length by omega) (show h < 4611686018427387904 by omega), Option.bind_some]
        cases k2 : bt (nth 0 up l) h with
        | false => rfl
        | true => exact absurd ⟨k1, hhv, k2⟩ q
end Gh
theorem law_LabelsHides (o : Int × List Int) (g : List (Int × Int × Int × Int × Int) × List (Int × Int × Int)) (l : List Int) (a b : Int) (wo : wfS (.pair (.int .i64) (.sl (.int .u32))) o) (_wg : wfS (.pair (.sl (.pair (.int .i64) (.pair (.int .i64) (.pair (.int .i64) (.pair (.int .i64) (.int .i64)))))) (.sl (.pair (.int .i64) (.pair (.int .i64) (.int .i64))))) g) (_wl : wfS (.sl (.int .i64)) l) (_wa : wfS (.int .i64) a) (_wb : wfS (.int .i64) b) : ∃ N, D_keep_LabelsHides N (o, g, l, a, b, ()) = some (true, ()) :=
  ⟨1000 + l.length, Gh.lab_hides (by omega) wo.2.2 o.1 g.1 g.2 l a b (by omega)⟩
set_option maxRecDepth 100000 in
theorem lifted_LabelsHides (os : Os) (started : os.Started) (H : Type) (enc : TypeId × Value → H) :
    ReturnsInHanded {} Tryd.checked os 4 .any (fun w args => (Rows.labelsHidesSpec.pre enc Tryd.prog Tryd.f4 [] false w args ∧ laidMetH Tryd.prog Rows.labelsHidesRow.laid w) ∧ sizedMet enc Tryd.prog Tryd.f4 (OpenSpec.ofChange Rows.labelsHidesSpec) false w args) (Rows.labelsHidesSpec.post enc Tryd.prog Tryd.f4 false true false false) := by
  refine returnsInHanded_of_change_and (C := Tryd.checked) (X := fun w _ => laidMetH Tryd.prog Rows.labelsHidesRow.laid w) (fun _ _ _ hh h => h.of_heap hh) own started (by kernel_rfl) Tryd.func4
    (ChangeSpec.witness_shaped (enc := enc) (C := Tryd.checked) (os := os) (X := fun w _ => laidMetH Tryd.prog Rows.labelsHidesRow.laid w) false (World.doorLaid Tryd.prog 400 os) #[.agg #[.int .i64 0, .slice none 0 0], .agg #[.slice none 0 0, .slice none 0 0], .slice none 0 0, .int .i64 0, .int .i64 0] 8 rfl (World.shaped_of_RefB (by kernel_rfl) (by kernel_rfl)) (by kernel_rfl) (by kernel_rfl) (by kernel_rfl) (door_met os _)) ?_
  intro W base args ds gs before hval0 hW _ hsz0 hL _
  have hgw : GW Gs W := gw_of hL
  have hval : ∀ (j : Nat) t v, Tryd.f4.params[j]? = some t → args[j]? = some v → Value.okWide Tryd.prog W .any base t v := hval0
  have hW' := hW
  obtain ⟨p, q, hA0, hV, rfl, _, _⟩ := hW
  have hA : DataW.TrodAll enc Tryd.prog W 0 (fun _ => true) true Tryd.f4.params.toList args.toList ds p := hA0
  rw [Tryd.params4] at hA hval
  obtain ⟨v0, vs0, d0, ds0, p0, q0, hargs, rfl, rfl, h0, r0⟩ := trodAll_cons hA
  obtain ⟨v1, vs1, d1, ds1, p1, q1, rfl, rfl, rfl, h1, r1⟩ := trodAll_cons r0
  obtain ⟨v2, vs2, d2, ds2, p2, q2, rfl, rfl, rfl, h2, r2⟩ := trodAll_cons r1
  obtain ⟨v3, vs3, d3, ds3, p3, q3, rfl, rfl, rfl, h3, r3⟩ := trodAll_cons r2
  obtain ⟨v4, vs4, d4, ds4, p4, q4, rfl, rfl, rfl, h4, r4⟩ := trodAll_cons r3
  obtain ⟨rfl, rfl, rfl⟩ := trodAll_nil r4
  obtain rfl : args = #[v0, v1, v2, v3, v4] := by cases args; simp_all
  obtain ⟨rfl, rfl⟩ := trodVars_none hV
  have hall := List.all_eq_true.1 hsz0
  clear hA0 hval0 hsz0
  simp only [List.append_nil] at hW'
  have hlt0 : ∀ x ∈ p0, x.block < W.heap.size := fun x hx => hW'.lt x (by simp [hx])
  have hlt1 : ∀ x ∈ p1, x.block < W.heap.size := fun x hx => hW'.lt x (by simp [hx])
  have hlt2 : ∀ x ∈ p2, x.block < W.heap.size := fun x hx => hW'.lt x (by simp [hx])
  have hlt3 : ∀ x ∈ p3, x.block < W.heap.size := fun x hx => hW'.lt x (by simp [hx])
  have hlt4 : ∀ x ∈ p4, x.block < W.heap.size := fun x hx => hW'.lt x (by simp [hx])
  obtain ⟨x0, g0, w0⟩ := open_kd (k := .dat (.pair (.int .i64) (.sl (.int .u32)))) (by kernel_rfl) (hval 0 24 v0 rfl rfl) h0
  obtain ⟨x1, g1, w1⟩ := open_kd (k := .dat (.pair (.sl (.pair (.int .i64) (.pair (.int .i64) (.pair (.int .i64) (.pair (.int .i64) (.int .i64)))))) (.sl (.pair (.int .i64) (.pair (.int .i64) (.int .i64)))))) (by kernel_rfl) (hval 1 28 v1 rfl rfl) h1
  obtain ⟨x2, g2, w2⟩ := open_kd (k := .dat (.sl (.int .i64))) (by kernel_rfl) (hval 2 29 v2 rfl rfl) h2
  obtain ⟨x3, g3, w3⟩ := open_kd (k := .dat (.int .i64)) (by kernel_rfl) (hval 3 3 v3 rfl rfl) h3
  obtain ⟨x4, g4, w4⟩ := open_kd (k := .dat (.int .i64)) (by kernel_rfl) (hval 4 3 v4 rfl rfl) h4
  obtain ⟨N, hN⟩ := law_LabelsHides x0 x1 x2 x3 x4 w0 w1 w2 w3 w4
  refine (sp_keep_LabelsHides N (fun _ => False) W (x0, x1, x2, x3, x4, ()) (true, ()) [v0, v1, v2, v3, v4] (fun _ h => h.elim) hgw ⟨v0, _, rfl, g0, ⟨v1, _, rfl, g1, ⟨v2, _, rfl, g2, ⟨v3, _, rfl, g3, ⟨v4, _, rfl, g4, rfl⟩⟩⟩⟩⟩ hN).mono ?_
  rintro e W' ⟨v, rfl, hg, hr⟩
  replace hg := hg.old
  have hr : v = .bool true := by simpa only [kvals, retV, Kd.val, Go.Abs.enc, RV] using hr
  subst hr
  exact ⟨_, rfl, _, _, _, [], p0 ++ (p1 ++ (p2 ++ (p3 ++ (p4 ++ [])))), [], hW', (trodAll_cons_mk (shut_bool (show Tryd.prog.underlying 4 = some .bool by kernel_rfl) _) trodAll_mk0), (trodAll_cons_mk (Below.trod laidOut (by kernel_rfl) (of_decide_eq_true (by kernel_rfl)) h0 hg hlt0) (trodAll_cons_mk (Below.trod laidOut (by kernel_rfl) (of_decide_eq_true (by kernel_rfl)) h1 hg hlt1) (trodAll_cons_mk (Below.trod laidOut (by kernel_rfl) (of_decide_eq_true (by kernel_rfl)) h2 hg hlt2) (trodAll_cons_mk (Below.trod laidOut (by kernel_rfl) (of_decide_eq_true (by kernel_rfl)) h3 hg hlt3) (trodAll_cons_mk (Below.trod laidOut (by kernel_rfl) (of_decide_eq_true (by kernel_rfl)) h4 hg hlt4) trodAll_mk0))))), rfl, hg.frame _, fun h => by cases h⟩

/-- The statement: whatever the arguments, the law's function returns true and leaves them as they were. -/
theorem labelsHides_holds : Rows.LabelsHidesSaid :=
  OpenClaim.holds_of_wide 4 Tryd.f4 rfl rfl rfl rfl rfl rfl rfl ⟨rfl, rfl, rfl, rfl, rfl⟩ rfl rfl rfl rfl rfl (by kernel_rfl) Tryd.func4 (by kernel_rfl)
    (of_decide_eq_true (by kernel_rfl)) (by unfold Func.isWrapper; first | (rw [if_pos (by decide +kernel)]; kernel_rfl) | (rw [if_neg (by decide +kernel)]; exact ⟨rfl, rfl⟩))
    (fun os started H enc _ => lifted_LabelsHides os started H enc)
/-- The statement's card: the variable that the road reads is tied to the program's text. -/
theorem labelsHides_card : Rows.LabelsHidesCardSaid :=
  Claim7.holds_tied_plain_at .later [] [.data] true (true, "65abc2aaf7183d6748ea4ca63c5ffe01ee343b6a2ad66bd6fe5683088795bba2") true labelsHides_holds (fun _ h => by cases h) (by kernel_rfl) (fun _ h => by cases h) labelsHides_row_tie rfl ⟨rfl, rfl⟩ (by kernel_rfl) rfl
    (fun f fn hf hfn => by
      obtain rfl : f = 4 := Option.some.inj ((show Tryd.prog.funcNamed "watershed/watershedkeep.LabelsHides" = some 4 by kernel_rfl).symm.trans hf) |>.symm
      obtain rfl : fn = Tryd.f4 := (Option.some.inj (Tryd.func4.symm.trans hfn)).symm
      exact ⟨by kernel_rfl, fun j t ht => by
        have h3 := List.all_eq_true.1 (show (Tryd.f4.params.toList.all fun t => !(Tryd.prog.wantsStandIn t)) = true by kernel_rfl) t (by rw [← Array.getElem?_toList] at ht; exact List.mem_of_getElem? ht)
        have h4 : Tryd.prog.wantsStandIn t = false := by simpa using h3
        exact h4⟩)
    (by kernel_rfl)
end Go.Proofs.YtgnhcmdmlcjpkaaDoor
