/- Of an operator that works row by row the outcome changes by what the operator makes of each change: the law answers true for every operator and every history. -/
import Derived.Test.YtnieamciihdfpaaGreatIncT
import Derived.Test.YtnieamciihdfpaaGreatFrame0
namespace Go.Proofs.YtnieamciihdfpaaGreat
open Go Go.ChangeShapes Go.WideShapes Go.ChangeAt Go.WideMaps Go.WideElems Go.RowKit Go.Abs Go.Bag Go.His
-- watershed/watershedkeep.IncrStraight
abbrev Ks_keep_IncrStraight : List Kd := [.dat (.pair (.int .i64) (.pair (.int .i64) (.int .i64))), .dat (.sl (.pair (.sl (.int .i64)) (.sl (.pair (.int .i64) (.pair (.int .i64) (.int .i64))))))]
abbrev Rk_keep_IncrStraight : List Kd := [.dat (.bool)]
abbrev Rt_keep_IncrStraight : Type := Dens Rk_keep_IncrStraight
noncomputable def C_keep_IncrStraight (_N : Nat) : Ctx := { T := [(3, ⟨.int .i64, 1, 8, some (.int .i64), [.int .i64 (0 : Int)], false, []⟩), (23, ⟨.struct [(0, 3), (1, 2), (2, 2)], 3, 24, some (.pair (.int .i64) (.pair (.int .i64) (.int .i64))), [.int .i64 (0 : Int), .int .i64 (0 : Int), .int .i64 (0 : Int)], true, []⟩), (24, ⟨.slice 28, 1, 24, some (.sl (.pair (.sl (.int .i64)) (.sl (.pair (.int .i64) (.pair (.int .i64) (.int .i64)))))), [.nil], false, []⟩), (25, ⟨.slice 3, 1, 24, some (.sl (.int .i64)), [.nil], false, []⟩), (26, ⟨.slice 58, 1, 24, some (.sl (.pair (.int .i64) (.pair (.int .i64) (.int .i64)))), [.nil], false, []⟩), (28, ⟨.struct [(0, 25), (1, 26)], 2, 48, some (.pair (.sl (.int .i64)) (.sl (.pair (.int .i64) (.pair (.int .i64) (.int .i64))))), [.nil, .nil], false, []⟩)], G := findE [mkQ 12 Ks_incr_One Rk_incr_One (D_incr_One _N), mkQ 15 Ks_diffs_Tidy Rk_diffs_Tidy (D_diffs_Tidy _N), mkP 16 Ks_ops_Linear Rk_ops_Linear (D_ops_Linear _N), mkD 15 Ks_diffs_Tidy Rk_diffs_Tidy (D_diffs_Tidy _N), mkP 18 Ks_ref_DiffsSame Rk_ref_DiffsSame (D_ref_DiffsSame _N), mkQ 17 Ks_ops_One Rk_ops_One (D_ops_One _N)], I := findI [], N := _N, n := 80, fx := [1], fl := 0, gs := [] }
noncomputable def keep_IncrStraight_1 (_N : Nat) (_v15 : List (List Int × List (Int × Int × Int))) (_v16 : List (List Int × List (Int × Int × Int))) : Option Rt_keep_IncrStraight :=
  ((D_diffs_Tidy _N (_v16, ())).bind fun _y22 => (bif (_y22.2.1 == (0 : Int)) then ((D_ref_DiffsSame _N (_v15, _y22.1, ())).bind fun _y23 => (some (_y23.1, ()))) else (some (false, ()))))
noncomputable def keep_IncrStraight_2 (_N : Nat) (_k24 : ((List (List Int × List (Int × Int × Int))) × (List (List Int × List (Int × Int × Int)))) → Option Rt_keep_IncrStraight) (_v4 : List (List Int × List (Int × Int × Int))) (_v5 : List (List Int × List (Int × Int × Int))) (_v6 : Int) (_v8 : Int) (_v9 : Int) (_v10 : Int) (_v7 : Int) (_v12 : List (List Int × List (Int × Int × Int))) (_kn25 : ((List (List Int × List (Int × Int × Int))) × (List (List Int × List (Int × Int × Int))) × Int × Int × Int × Int) × (Int × (List (List Int × List (Int × Int × Int)))) → Option Rt_keep_IncrStraight) : Option Rt_keep_IncrStraight :=
  (bif (decide (_v7 < _v6)) then (bif (decide (0 ≤ _v7) && decide (_v7 < (_v5.length : Int))) then ((D_ops_One _N ((_v8, (_v9, _v10)), (nth ([], []) _v5 (_v7).toNat).2, ())).bind fun _y26 => (bif (_y26.2.1 != (0 : Int)) then (some (false, ())) else (bif (decide ((_v12.length + ([((nth ([], []) _v5 (_v7).toNat).1, _y26.1)]).length) * 48 ≤ 140737488355328) && Nat.ble 1 48) then (_kn25 ((_v4, _v5, _v6, _v8, _v9, _v10), ((IntKind.i64.wrap (_v7 + (1 : Int))), (_v12 ++ [((nth ([], []) _v5 (_v7).toNat).1, _y26.1)])))) else none))) else none) else (_k24 (_v4, _v12)))
noncomputable def keep_IncrStraight_3 (_N : Nat) (_x1 : Int × Int × Int) (_x2 : List (List Int × List (Int × Int × Int))) : Option Rt_keep_IncrStraight :=
  ((D_incr_One _N ((_x1.1, (_x1.2.1, _x1.2.2)), _x2, ())).bind fun _y19 => ((D_diffs_Tidy _N (_x2, ())).bind fun _y20 => (bif (_y19.2.1 != (0 : Int)) then (some (true, ())) else (bif (_y20.2.1 != (0 : Int)) then (some (true, ())) else (bif (decide (_x1.1 < (1 : Int))) then (some (true, ())) else (bif (decide (_x1.1 > (4 : Int))) then (some (true, ())) else ((D_ops_Linear _N ((_x1.1, (_x1.2.1, _x1.2.2)), ())).bind fun _y21 => (bif (!_y21.1) then (some (false, ())) else (joinD (fun (_s : (List (List Int × List (Int × Int × Int))) × (List (List Int × List (Int × Int × Int)))) => keep_IncrStraight_1 _N _s.1 _s.2) fun _k24 => (loopE (fun (_c : (List (List Int × List (Int × Int × Int))) × (List (List Int × List (Int × Int × Int))) × Int × Int × Int × Int) (_s : Int × (List (List Int × List (Int × Int × Int)))) _kn => keep_IncrStraight_2 _N _k24 _c.1 _c.2.1 _c.2.2.1 _c.2.2.2.1 _c.2.2.2.2.1 _c.2.2.2.2.2 _s.1 _s.2 _kn) _N (_y19.1, _y20.1, (_y20.1.length : Int), _x1.1, _x1.2.1, _x1.2.2) ((0 : Int), [])))))))))))
noncomputable def D_keep_IncrStraight (_N : Nat) (_x : Dens Ks_keep_IncrStraight) : Option Rt_keep_IncrStraight := keep_IncrStraight_3 _N _x.1 _x.2.1
theorem sp_keep_IncrStraight (_N : Nat) : SpecD Tryz.prog [] 4 Ks_keep_IncrStraight Rk_keep_IncrStraight (D_keep_IncrStraight _N) := mkSpD (fn := Tryz.f4) (c := bodyOf Tryz.f4) (C := C_keep_IncrStraight _N)
    (a := .two .none (.two .none (.two .none (.two .none (.two .none (.two .none (.join 2 ⟨[(5, .sl (.pair (.sl (.int .i64)) (.sl (.pair (.int .i64) (.pair (.int .i64) (.int .i64)))))), (9, .slc 1 0)], [.none, .row false 0 28 (.pair (.sl (.int .i64)) (.sl (.pair (.int .i64) (.pair (.int .i64) (.int .i64)))))]⟩ (.two .none (.one (.obj 9 28 (.pair (.sl (.int .i64)) (.sl (.pair (.int .i64) (.pair (.int .i64) (.int .i64))))) (.loop 2 ⟨[(2, .ptr 0 0), (5, .sl (.pair (.sl (.int .i64)) (.sl (.pair (.int .i64) (.pair (.int .i64) (.int .i64)))))), (9, .slc 1 0), (45, .sl (.pair (.sl (.int .i64)) (.sl (.pair (.int .i64) (.pair (.int .i64) (.int .i64)))))), (46, .int .i64), (47, .int .i64)], [.cells [.int .i64, .int .i64, .int .i64], .row false 0 28 (.pair (.sl (.int .i64)) (.sl (.pair (.int .i64) (.pair (.int .i64) (.int .i64)))))]⟩ [3, 7] .none)))) .none)))))))
    (by kernel_rfl) rfl (by kernel_rfl) (by kernel_rfl) ⟨rfl, by unfold TOk; kernel_rfl, gOk_of rfl rfl (List.forall_mem_cons.2 ⟨qen_incr_One _N, (List.forall_mem_cons.2 ⟨qen_diffs_Tidy _N, (List.forall_mem_cons.2 ⟨en_ops_Linear _N, (List.forall_mem_cons.2 ⟨en_diffs_Tidy _N, (List.forall_mem_cons.2 ⟨en_ref_DiffsSame _N, (List.forall_mem_cons.2 ⟨qen_ops_One _N, (List.forall_mem_nil _)⟩)⟩)⟩)⟩)⟩)⟩), iOk_of rfl rfl (List.forall_mem_nil _), rfl⟩ (fun _x => by kernel_rfl)
theorem Linear_eq {N : Nat} (k A B : Int) (hk : 1 ≤ k) (hk4 : k ≤ 4) : D_ops_Linear N ((k, A, B), ()) = some (true, ()) := by
  simp only [D_ops_Linear, ops_Linear_1, D_ops_linear_h, ops_linear_h_1]
  rcases (by omega : k = 1 ∨ k = 2 ∨ k = 3 ∨ k = 4) with rfl | rfl | rfl | rfl <;> rfl
theorem law_IncrStraight (op : Int × Int × Int) (h : List Df) (_wo : wfS (.pair (.int .i64) (.pair (.int .i64) (.int .i64))) op) (_wh : wfS (.sl (.pair (.sl (.int .i64)) (.sl (.pair (.int .i64) (.pair (.int .i64) (.int .i64)))))) h) (hz : h.length * 48 ≤ reachBytes) :
    ∃ N, D_keep_IncrStraight N (op, h, ()) = some (true, ()) := by
  have hw : h.length < 4611686018427387903 - 1000000 := by unfold reachBytes at hz; omega
  obtain ⟨N, hN⟩ : ∃ N, N = h.length + 1000000 := ⟨_, rfl⟩
  refine ⟨N, ?_⟩
  obtain ⟨k, A, B⟩ := op
  obtain ⟨l, e, a1, a2⟩ := incOne_eq (N := N) (by omega) k A B (h := h) (by omega) (by omega)
  obtain ⟨h', x, t1, t2⟩ := dTidy_eq (N := N) (by omega) (h := h) (by omega) (by omega)
  simp only [D_keep_IncrStraight, keep_IncrStraight_3, a1, t1, Option.bind_some]
  rcases a2 with ⟨rfl, I⟩ | ⟨he, -⟩
  case inr => rw [bne_iff_ne.2 he, cond_true]
  rcases t2 with ⟨rfl, -, i1, O1⟩ | ⟨he, -, -⟩
  case inr => rw [bne_self_eq_false, cond_false, bne_iff_ne.2 he, cond_true]
  simp only [bne_self_eq_false, cond_false]
  have hh := I.his.len
  have hl := I.out.len
  have hh' := O1.len
  by_cases hk4 : k ≤ 4
  case neg => rw [d_false (show ¬ k < 1 by have := I.kind.1; omega), cond_false, d_true (show k > 4 by omega), cond_true]
  rw [d_false (show ¬ k < 1 by have := I.kind.1; omega), cond_false, d_false (show ¬ k > 4 by omega), cond_false, Linear_eq k A B I.kind.1 hk4, Option.bind_some]
  simp only [Bool.not_true, cond_false, joinD, loopE]
  obtain ⟨st, ⟨S, rfl, g1, g2, g3⟩, hs⟩ := loopD_inv (N := N) (g := fun (s : Int × List Df) kn => keep_IncrStraight_2 N (fun s => keep_IncrStraight_1 N s.1 s.2) l h' (h'.length : Int) k A B s.1 s.2 (backE (l, h', (h'.length : Int), k, A, B) kn)) (k := fun s => keep_IncrStraight_1 N l s.2) h'.length
    (fun i s => ∃ S : List Df, s = ((i : Int), S) ∧ S.map Prod.fst = (h'.take i).map Prod.fst ∧ cntR S ≤ cntR (h'.take i) ∧ ∀ (p : List Int → Bool) z, Cg (amt (His.sel p S) z) (amt ((His.sel p (h'.take i)).filterMap (rowF k A B)) z))
    (fun i s hi hI => by
      obtain ⟨S, rfl, g1, g2, g3⟩ := hI
      have hd := nth_mem (z := zd) hi
      obtain ⟨rows, r1, r2, r3⟩ := opsOne_eq (N := N) (by omega) k A B I.kind.1 I.kind.2 (i1.bag _ hd) (O1.row hd)
      have hop : opF k A B (nth zd h' i).2 = (nth zd h' i).2.filterMap (rowF k A B) := by unfold opF; rw [if_pos hk4]
      rw [hop] at r2
      have hSl : S.length = i := by
        have := congrArg List.length g1
        simp only [List.length_map, List.length_take] at this
        omega
      refine ⟨_, ⟨S ++ [((nth zd h' i).1, rows)], rfl, ?_, ?_, fun p z => ?_⟩, fun kn => ?_⟩
      · rw [take_nd hi, List.map_append, List.map_append, g1]; rfl
      · rw [cntR_take hi, cntR_app]
        have : cntR [((nth zd h' i).1, rows)] = rows.length := by simp [cntR]
        omega
      · rw [take_nd hi, sel_snoc, sel_snoc, amt_append, List.filterMap_append, amt_append]
        refine (g3 p z).add ?_
        split
        · exact r2.amt_cg z
        · exact Cg.rfl
      · simp only [keep_IncrStraight_2, lt_d hi, ge0_d, Bool.and_self, cond_true, Int.toNat_natCast, r1, Option.bind_some, bne_self_eq_false, cond_false]
        rw [d_true (show (S.length + ([((nth zd h' i).1, rows)] : List Df).length) * 48 ≤ 140737488355328 by simp only [List.length_singleton]; omega), show Nat.ble 1 48 = true from rfl, Bool.and_self, cond_true, backE_eq, ix1 hi (show h'.length ≤ 4611686018427387904 by omega)]
        rfl)
    (fun s hI kn => by
      obtain ⟨S, rfl, _⟩ := hI
      simp only [keep_IncrStraight_2, lt_self, cond_false])
    (by omega) (s := (0, [])) ⟨[], rfl, rfl, Nat.le_refl _, fun p z => Cg.rfl⟩
  rw [List.take_length] at g1 g2 g3
  refine hs.trans ?_
  simp only [keep_IncrStraight_1]
  have hSl : S.length = h'.length := by simpa using congrArg List.length g1
  have hr := O1.rows
  have hSh : ∀ d ∈ S, ∃ e ∈ h', e.1 = d.1 := fun d hd => by
    have : d.1 ∈ S.map Prod.fst := List.mem_map.2 ⟨d, hd, rfl⟩
    rw [g1] at this
    obtain ⟨e, he, h1⟩ := List.mem_map.1 this
    exact ⟨e, he, h1⟩
  have OS : HOkk S := O1.of hSh (by omega) (by omega)
  obtain ⟨m, y, m1, m2⟩ := dTidy_eq (N := N) (by omega) (h := S) (by omega) (by omega)
  rcases m2 with ⟨rfl, -, i2, O2⟩ | ⟨-, hno, -⟩
  case inr => exact absurd OS hno
  have hlm : l = m := by
    obtain ⟨G, hG⟩ := I.told
    refine hG.self.same i2 fun t z => ?_
    by_cases hne : h = []
    · have hl0 := I.nil hne
      have hS0 : S = [] := by
        cases S with
        | nil => rfl
        | cons d S =>
          obtain ⟨e, he, -⟩ := hSh d (by simp)
          obtain ⟨f, hf, -⟩ := i1.times e he
          rw [hne] at hf; cases hf
      rw [hl0, hS0]; exact Cg.rfl
    obtain ⟨d0, hd0⟩ := List.exists_mem_of_ne_nil h hne
    have hin : ∀ d, d ∈ l ∨ d ∈ S → tok d.1 = true ∧ d.1.length = d0.1.length := fun d hd => by
      rcases hd with hd | hd
      · exact ⟨I.out.tok hd, I.one d hd d0 hd0⟩
      · obtain ⟨e, he, e1⟩ := hSh d hd
        obtain ⟨f, hf, f1⟩ := i1.times e he
        rw [← e1, ← f1]
        exact ⟨I.his.tok hf, I.his.one hf hd0⟩
    refine st_uniq (k := d0.1.length) (fun d hd => ⟨(hin d hd).2, fun x hx => ?_⟩) z (fun d hd => ?_) t
    · obtain ⟨j, hj, rfl⟩ := mem_nth (z := (0 : Int)) hx
      exact ((tok_iff.1 (hin d hd).1).2 j hj).1
    · obtain ⟨a, s1, s2, s3⟩ := I.st d.1 (hin d hd).1 fun x hx => by rw [(hin d hd).2]; exact I.his.one hx hd0
      have hop : opF k A B a = a.filterMap (rowF k A B) := by unfold opF; rw [if_pos hk4]
      rw [hop] at s3
      refine (s3 z).trans (Cg.trans ?_ (g3 (fun u => undr u d.1) z).symm)
      refine lin_cg k A B (fun e => ?_) z
      exact (s1.amt_cg e).trans (His.HEq.sel (fun t z => (i1.rows t z).symm) (fun u => undr u d.1) e)
  subst hlm
  rw [m1, Option.bind_some, beq_self_eq_true, cond_true, DSame_eq (N := N) (by omega) (fun d hd => by have := tok4 (I.out.tok hd); omega) (fun d hd => by have := I.out.row hd; omega) (by omega)]
  simp
set_option maxRecDepth 100000 in
theorem lifted_IncrStraight (os : Os) (started : os.Started) (H : Type) (enc : TypeId × Value → H) :
    ReturnsInHanded {} Tryz.checked os 4 .any (Rows.incrStraightSpec.pre6 enc Tryz.prog Tryz.f4 Rows.incrStraightRow.domain false) (Rows.incrStraightSpec.post enc Tryz.prog Tryz.f4 false true false false) := by
  refine returnsInHanded_of_change_sized (C := Tryz.checked) own started (by kernel_rfl) Tryz.func4
    (ChangeSpec.witness6 (enc := enc) (C := Tryz.checked) false ⟨#[], #[.agg #[.int .i64 0, .int .i64 0, .int .i64 0], .slice none 0 0], []⟩ 8 (by kernel_rfl) (by kernel_rfl) (by kernel_rfl) (by kernel_rfl)) ?_
  intro W base args ds gs before hval0 hW _ hsz0 _
  have hgw : GW [] W := fun _ h => nomatch h
  have hval : ∀ (j : Nat) t v, Tryz.f4.params[j]? = some t → args[j]? = some v → Value.okWide Tryz.prog W .any base t v := hval0
  have hW' := hW
  obtain ⟨p, q, hA0, hV, rfl, _, _⟩ := hW
  have hA : DataW.TrodAll enc Tryz.prog W 0 (fun _ => true) true Tryz.f4.params.toList args.toList ds p := hA0
  rw [Tryz.params4] at hA hval
  obtain ⟨v0, vs0, d0, ds0, p0, q0, hargs, rfl, rfl, h0, r0⟩ := trodAll_cons hA
  obtain ⟨v1, vs1, d1, ds1, p1, q1, rfl, rfl, rfl, h1, r1⟩ := trodAll_cons r0
  obtain ⟨rfl, rfl, rfl⟩ := trodAll_nil r1
  obtain rfl : args = #[v0, v1] := by cases args; simp_all
  obtain ⟨rfl, rfl⟩ := trodVars_none hV
  have hall := List.all_eq_true.1 hsz0
  clear hA0 hval0 hsz0
  simp only [List.append_nil] at hW'
  have hlt0 : ∀ x ∈ p0, x.block < W.heap.size := fun x hx => hW'.lt x (by simp [hx])
  have hlt1 : ∀ x ∈ p1, x.block < W.heap.size := fun x hx => hW'.lt x (by simp [hx])
  obtain ⟨x0, g0, w0⟩ := open_kd (k := .dat (.pair (.int .i64) (.pair (.int .i64) (.int .i64)))) (by kernel_rfl) (hval 0 23 v0 rfl rfl) h0
  obtain ⟨x1, g1, w1⟩ := open_kd (k := .dat (.sl (.pair (.sl (.int .i64)) (.sl (.pair (.int .i64) (.pair (.int .i64) (.int .i64))))))) (by kernel_rfl) (hval 1 24 v1 rfl rfl) h1
  have z1 : x1.length * Tryz.prog.bytesOf 28 ≤ reachBytes := open_room (t := 24) (r1 := []) (by kernel_rfl) g1 h1 fun n hn => by
    refine of_decide_eq_true (hall n ?_)
    rw [Tryz.params4]
    change n ∈ DataW.weightsEach Tryz.prog [23, 24] [d0, d1]
    simp only [DataW.weightsEach]
    exact List.mem_append_right _ (List.mem_append_left _ (by simpa using hn))
  obtain ⟨N, hN⟩ := law_IncrStraight x0 x1 w0 w1 (by simpa only [show Tryz.prog.bytesOf 28 = 48 by kernel_rfl] using z1)
  refine (sp_keep_IncrStraight N (fun _ => False) W (x0, x1, ()) (true, ()) [v0, v1] (fun _ h => h.elim) hgw ⟨v0, _, rfl, g0, ⟨v1, _, rfl, g1, rfl⟩⟩ hN).mono ?_
  rintro e W' ⟨v, rfl, hg, hr⟩
  replace hg := hg.old
  have hr : v = .bool true := by simpa only [kvals, retV, Kd.val, Go.Abs.enc, RV] using hr
  subst hr
  exact ⟨_, rfl, _, _, _, [], p0 ++ (p1 ++ []), [], hW', (trodAll_cons_mk (shut_bool (show Tryz.prog.underlying 4 = some .bool by kernel_rfl) _) trodAll_mk0), (trodAll_cons_mk (Below.trod laidOut (by kernel_rfl) (of_decide_eq_true (by kernel_rfl)) h0 hg hlt0) (trodAll_cons_mk (Below.trod laidOut (by kernel_rfl) (of_decide_eq_true (by kernel_rfl)) h1 hg hlt1) trodAll_mk0)), rfl, hg.frame _, fun h => by cases h⟩

/-- The statement: whatever the arguments, the law's function returns true and leaves them as they were. -/
theorem incrStraight_holds : Rows.IncrStraightSaid :=
  OpenClaim.holds_of_wide 4 Tryz.f4 rfl rfl rfl rfl rfl rfl rfl ⟨rfl, rfl, rfl, rfl, rfl⟩ rfl rfl rfl rfl rfl (by kernel_rfl) Tryz.func4 (by kernel_rfl)
    (of_decide_eq_true (by kernel_rfl)) (by unfold Func.isWrapper; first | (rw [if_pos (by decide +kernel)]; kernel_rfl) | (rw [if_neg (by decide +kernel)]; exact ⟨rfl, rfl⟩))
    (fun os started H enc _ => lifted_IncrStraight os started H enc)
end Go.Proofs.YtnieamciihdfpaaGreat
