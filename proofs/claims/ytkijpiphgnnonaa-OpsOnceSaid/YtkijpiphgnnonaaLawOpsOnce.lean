/- Distinct, count and min agree with one another: the law answers true for every list of rows. No condition. -/
import Derived.Test.YtkijpiphgnnonaaOpsR
import Derived.Test.YtkijpiphgnnonaaOpsT
import Derived.Test.YtkijpiphgnnonaaOpsU
import Derived.Test.YtkijpiphgnnonaaFrame0
namespace Go.Proofs.Ytkijpiphgnnonaa
open Go Go.ChangeShapes Go.WideShapes Go.ChangeAt Go.WideMaps Go.WideElems Go.RowKit Go.Abs Go.Bag
-- watershed/watershedkeep.OpsOnce
abbrev Ks_keep_OpsOnce : List Kd := [.dat (.sl (.pair (.int .i64) (.pair (.int .i64) (.int .i64))))]
abbrev Rk_keep_OpsOnce : List Kd := [.dat (.bool)]
abbrev Rt_keep_OpsOnce : Type := Dens Rk_keep_OpsOnce
noncomputable def C_keep_OpsOnce (_N : Nat) : Ctx := { T := [(2, ⟨.int .i64, 1, 8, some (.int .i64), [.int .i64 (0 : Int)], false, []⟩), (3, ⟨.int .i64, 1, 8, some (.int .i64), [.int .i64 (0 : Int)], false, []⟩), (22, ⟨.slice 44, 1, 24, some (.sl (.pair (.int .i64) (.pair (.int .i64) (.int .i64)))), [.nil], false, []⟩), (40, ⟨.struct [(0, 3), (1, 2), (2, 2)], 3, 24, some (.pair (.int .i64) (.pair (.int .i64) (.int .i64))), [.int .i64 (0 : Int), .int .i64 (0 : Int), .int .i64 (0 : Int)], true, []⟩), (44, ⟨.struct [(0, 2), (1, 2), (2, 2)], 3, 24, some (.pair (.int .i64) (.pair (.int .i64) (.int .i64))), [.int .i64 (0 : Int), .int .i64 (0 : Int), .int .i64 (0 : Int)], true, []⟩)], G := findE [mkQ 24 Ks_ops_One Rk_ops_One (D_ops_One _N), mkF 15 Ks_ref_There 44 (.pair (.int .i64) (.pair (.int .i64) (.int .i64))) (D_ref_There _N), mkF 25 Ks_keep_keyed 44 (.pair (.int .i64) (.pair (.int .i64) (.int .i64))) (D_keep_keyed _N), mkP 16 Ks_ref_BagsSame Rk_ref_BagsSame (D_ref_BagsSame _N)], I := findI [], N := _N, n := 120, fx := [], fl := 0, gs := [] }
noncomputable def keep_OpsOnce_1 (_N : Nat) : Option Rt_keep_OpsOnce :=
  (some (true, ()))
noncomputable def keep_OpsOnce_2 (_N : Nat) (_k25 : (List (Int × Int × Int)) → Option Rt_keep_OpsOnce) (_v12 : List (Int × Int × Int)) (_v13 : List (Int × Int × Int)) (_v14 : List (Int × Int × Int)) (_v16 : List (Int × Int × Int)) (_v15 : Int) (_kn26 : ((List (Int × Int × Int)) × (List (Int × Int × Int)) × (List (Int × Int × Int)) × (List (Int × Int × Int))) × Int → Option Rt_keep_OpsOnce) : Option Rt_keep_OpsOnce :=
  (bif (decide (_v15 < (_v13.length : Int))) then (bif (decide (0 ≤ _v15) && decide (_v15 < (_v13.length : Int))) then ((D_keep_keyed _N (_v12, (nth ((0 : Int), ((0 : Int), (0 : Int))) _v13 (_v15).toNat).1, ())).bind fun _y27 => (bif (decide (0 ≤ _v15) && decide (_v15 < (_v13.length : Int))) then (bif ((_y27.length : Int) != (((nth ((0 : Int), ((0 : Int), (0 : Int))) _v13 (_v15).toNat).2).1)) then (some (false, ())) else (bif ((_y27.length : Int) == (0 : Int)) then (some (false, ())) else (bif (decide (0 ≤ _v15) && decide (_v15 < (_v13.length : Int))) then (bif ((((nth ((0 : Int), ((0 : Int), (0 : Int))) _v13 (_v15).toNat).2).2) != (1 : Int)) then (some (false, ())) else (bif (decide (0 ≤ _v15) && decide (_v15 < (_v14.length : Int))) then (bif (decide (0 ≤ (0 : Int)) && decide ((0 : Int) < (_y27.length : Int))) then (bif (!(eqD (.pair (.int .i64) (.pair (.int .i64) (.int .i64))) ((nth ((0 : Int), ((0 : Int), (0 : Int))) _v14 (_v15).toNat).1, (((nth ((0 : Int), ((0 : Int), (0 : Int))) _v14 (_v15).toNat).2).1, ((nth ((0 : Int), ((0 : Int), (0 : Int))) _v14 (_v15).toNat).2).2)) ((nth ((0 : Int), ((0 : Int), (0 : Int))) _y27 ((0 : Int).toNat)).1, (((nth ((0 : Int), ((0 : Int), (0 : Int))) _y27 ((0 : Int).toNat)).2).1, ((nth ((0 : Int), ((0 : Int), (0 : Int))) _y27 ((0 : Int).toNat)).2).2)))) then (some (false, ())) else (_kn26 ((_v12, _v13, _v14, _v16), (IntKind.i64.wrap (_v15 + (1 : Int)))))) else none) else none)) else none))) else none)) else none) else (_k25 _v16))
noncomputable def keep_OpsOnce_3 (_N : Nat) (_v7 : List (Int × Int × Int)) (_v8 : List (Int × Int × Int)) (_v9 : List (Int × Int × Int)) (_v10 : Bool) (_v11 : List (Int × Int × Int)) : Option Rt_keep_OpsOnce :=
  (bif _v10 then (some (false, ())) else (joinD (fun (_s : (List (Int × Int × Int))) => keep_OpsOnce_1 _N) fun _k25 => (loopE (fun (_c : (List (Int × Int × Int)) × (List (Int × Int × Int)) × (List (Int × Int × Int)) × (List (Int × Int × Int))) (_s : Int) _kn => keep_OpsOnce_2 _N _k25 _c.1 _c.2.1 _c.2.2.1 _c.2.2.2 _s _kn) _N (_v7, _v8, _v9, _v11) (0 : Int))))
noncomputable def keep_OpsOnce_4 (_N : Nat) (_x1 : List (Int × Int × Int)) : Option Rt_keep_OpsOnce :=
  ((D_ops_One _N (((7 : Int), ((0 : Int), (0 : Int))), _x1, ())).bind fun _y20 => (bif (_y20.2.1 != (0 : Int)) then (bif (_y20.2.1 != (0 : Int)) then (some (((_y20.1.length : Int) == (0 : Int)), ())) else (some (false, ()))) else ((D_ref_There _N (_x1, ())).bind fun _y21 => (bif ((_y20.1.length : Int) != (_y21.length : Int)) then (bif (_y20.2.1 != (0 : Int)) then (some (((_y20.1.length : Int) == (0 : Int)), ())) else (some (false, ()))) else ((D_ops_One _N (((7 : Int), ((0 : Int), (0 : Int))), _y20.1, ())).bind fun _y22 => ((D_ops_One _N (((6 : Int), ((0 : Int), (0 : Int))), _y20.1, ())).bind fun _y23 => ((D_ops_One _N (((8 : Int), ((0 : Int), (0 : Int))), _x1, ())).bind fun _y24 => (joinD (fun (_s : (List (Int × Int × Int)) × (List (Int × Int × Int)) × (List (Int × Int × Int)) × Bool × (List (Int × Int × Int))) => keep_OpsOnce_3 _N _s.1 _s.2.1 _s.2.2.1 _s.2.2.2.1 _s.2.2.2.2) fun _k28 => (bif (_y22.2.1 != (0 : Int)) then (_k28 (_y20.1, _y23.1, _y24.1, true, _y21)) else (bif (_y23.2.1 != (0 : Int)) then (_k28 (_y20.1, _y23.1, _y24.1, true, _y21)) else (bif (_y24.2.1 != (0 : Int)) then (_k28 (_y20.1, _y23.1, _y24.1, true, _y21)) else ((D_ref_BagsSame _N (_y20.1, _y22.1, ())).bind fun _y29 => (bif (!_y29.1) then (_k28 (_y20.1, _y23.1, _y24.1, true, _y21)) else (_k28 (_y20.1, _y23.1, _y24.1, ((_y23.1.length : Int) != (_y24.1.length : Int)), _y21)))))))))))))))
noncomputable def D_keep_OpsOnce (_N : Nat) (_x : Dens Ks_keep_OpsOnce) : Option Rt_keep_OpsOnce := keep_OpsOnce_4 _N _x.1
theorem sp_keep_OpsOnce (_N : Nat) : SpecD Try.prog [] 8 Ks_keep_OpsOnce Rk_keep_OpsOnce (D_keep_OpsOnce _N) := mkSpD (fn := Try.f8) (c := bodyOf Try.f8) (C := C_keep_OpsOnce _N)
    (a := .two .none (.two .none (.two .none (.two .none (.two .none (.two .none (.two (.join 1 ⟨[(3, .sl (.pair (.int .i64) (.pair (.int .i64) (.int .i64)))), (6, .sl (.pair (.int .i64) (.pair (.int .i64) (.int .i64)))), (8, .sl (.pair (.int .i64) (.pair (.int .i64) (.int .i64)))), (75, .bool)], [.row false 0 44 (.pair (.int .i64) (.pair (.int .i64) (.int .i64)))]⟩ .none .none) (.join 1 ⟨[], [.row false 0 44 (.pair (.int .i64) (.pair (.int .i64) (.int .i64)))]⟩ (.two .none (.one (.loop 1 ⟨[(3, .sl (.pair (.int .i64) (.pair (.int .i64) (.int .i64)))), (6, .sl (.pair (.int .i64) (.pair (.int .i64) (.int .i64)))), (8, .sl (.pair (.int .i64) (.pair (.int .i64) (.int .i64)))), (10, .int .i64)], [.row false 0 44 (.pair (.int .i64) (.pair (.int .i64) (.int .i64)))]⟩ [3] (.two .none (.two (.one (.two .none (.two (.draw 0 (.pure :: .rd [1] :: .pure :: .pure :: .pure :: .pure :: .pure :: .pure :: .pure :: .pure :: .rd [1] :: .pure :: .pure :: .pure :: .pure :: .pure :: .pure :: .pure :: .pure :: .pure :: .pure :: .pure :: .pure :: .pure :: .pure :: .pure :: .pure :: .rd [1] :: .rd [1] :: .pure :: .pure :: [])) .none))) .none))))) .none))))))))
    (by kernel_rfl) rfl (by kernel_rfl) (by kernel_rfl) ⟨rfl, by unfold TOk; kernel_rfl, gOk_of rfl rfl (List.forall_mem_cons.2 ⟨qen_ops_One _N, (List.forall_mem_cons.2 ⟨en_ref_There _N, (List.forall_mem_cons.2 ⟨en_keep_keyed _N, (List.forall_mem_cons.2 ⟨en_ref_BagsSame _N, (List.forall_mem_nil _)⟩)⟩)⟩)⟩), iOk_of rfl rfl (List.forall_mem_nil _), rfl⟩ (fun _x => by kernel_rfl)
theorem en_keep_OpsOnce (_N : Nat) : EntOk Try.prog [] (mkP 8 Ks_keep_OpsOnce Rk_keep_OpsOnce (D_keep_OpsOnce _N)) := entP ⟨Try.f8, bodyOf Try.f8, by kernel_rfl, by kernel_rfl, rfl⟩ (by kernel_rfl) (sp_keep_OpsOnce _N)
theorem outG7_eq (t : List Row) : outG 7 t = (t.filter fun r => decide (r.2.2 > 0)).map oneR := by unfold outG; rw [if_pos rfl]
theorem law_OpsOnce (a : List Row) (_wa : wfS (.sl (.pair (.int .i64) (.pair (.int .i64) (.int .i64)))) a) : ∃ N, D_keep_OpsOnce N (a, ()) = some (true, ()) := by
  refine ⟨1000, ?_⟩
  generalize hNd : 1000 = N
  have hN : 1000 ≤ N := by omega
  simp only [D_keep_OpsOnce, keep_OpsOnce_4]
  rcases One_agg hN 7 0 0 (by omega) (by omega) a with ⟨la, t, t1, t2, t3⟩ | ⟨la, t3⟩
  case inr => rw [t3, Option.bind_some]; rfl
  obtain ⟨t', u1, u2, u3⟩ := There_eq hN a la fun r hr => by
    obtain ⟨g1, g2, g3⟩ := _wa.2 r hr
    exact w_in' g3
  obtain rfl := u1.uniq t1
  have hs7 : (outG 7 t').Pairwise rlt := outG_sorted t1.rise
  have hl7 : (outG 7 t').length ≤ t'.length := outG_len t1.rise
  have hb7 : IsBag (amt (outG 7 t')) (outG 7 t') := outG_bag t1.rise
  rw [t3, Option.bind_some, bne_self_eq_false, cond_false, u3, Option.bind_some, ← outG7_eq, bne_self_eq_false, cond_false]
  rcases One_agg hN 7 0 0 (by omega) (by omega) (outG 7 t') with ⟨-, v, v1, v2, v3⟩ | ⟨lb, -⟩
  case inr => omega
  obtain rfl := v1.uniq hb7
  rcases One_agg hN 6 0 0 (by omega) (by omega) (outG 7 t') with ⟨-, x, x1, x2, x3⟩ | ⟨lb, -⟩
  case inr => omega
  obtain rfl := x1.uniq hb7
  rcases One_agg hN 8 0 0 (by omega) (by omega) a with ⟨-, y, y1, y2, y3⟩ | ⟨lb, -⟩
  case inr => omega
  obtain rfl := t1.uniq y1
  rw [v3, Option.bind_some, x3, Option.bind_some, y3, Option.bind_some, outG7_again]
  obtain ⟨o1, o2⟩ := once_rows t1.rise (by omega)
  have hl6 : (outG 6 (outG 7 t')).length ≤ (outG 7 t').length := outG_len hs7
  simp only [joinD, bne_self_eq_false, cond_false, Same_eq (N := N) (a := outG 7 t') (b := outG 7 t') (by omega) (by omega), Option.bind_some, decide_true, Bool.not_true, o1, keep_OpsOnce_3, loopE]
  generalize hc : outG 6 (outG 7 t') = c at *
  generalize hm : outG 8 t' = m at *
  generalize hd : outG 7 t' = d at *
  refine loopD_path (n := c.length) (st := fun i => (i : Int)) (fun i hi kn => ?_) (fun kn => ?_) (by omega)
  · have hi' : i < m.length := by omega
    obtain ⟨w1, w2, l, w3⟩ := o2 i (nth (0, 0, 0) c i) (nth (0, 0, 0) m i) (nth_get _ _ _ hi) (nth_get _ _ _ hi')
    rw [hd] at w2 w3
    have hk : D_keep_keyed N (d, (nth ((0 : Int), (0 : Int), (0 : Int)) c i).1, ()) = some (keyF d (nth (0, 0, 0) c i).1) := keyed_eq (N := N) d _ (by omega) (by omega)
    simp only [keep_OpsOnce_2, lt_d hi, lt_d hi', ge0_d, Bool.and_self, cond_true, Int.toNat_natCast, hk, Option.bind_some, w2, bne_self_eq_false, cond_false, w1, backE_eq]
    have hpos : (nth ((0 : Int), (0 : Int), (0 : Int)) c i).2.1 > 0 := by rw [← w2, w3]; simp only [List.length_cons]; omega
    rw [show (((nth ((0 : Int), (0 : Int), (0 : Int)) c i).2.1) == 0) = false from beq_false_of_ne (by omega), cond_false, w3,
      show (decide ((0 : Int) ≤ 0) && decide ((0 : Int) < (nth ((0 : Int), (0 : Int), (0 : Int)) c i).2.1)) = true by simp only [Bool.and_eq_true, decide_eq_true_eq]; omega, cond_true]
    rw [w64 (n := (i : Int) + 1) (by omega) (by omega)]
    rw [show eqD (.pair (.int .i64) (.pair (.int .i64) (.int .i64))) ((nth ((0 : Int), (0 : Int), (0 : Int)) m i).1, ((nth ((0 : Int), (0 : Int), (0 : Int)) m i).2.1, (nth ((0 : Int), (0 : Int), (0 : Int)) m i).2.2))
      ((nth ((0 : Int), (0 : Int), (0 : Int)) (nth (0, 0, 0) m i :: l) (Int.toNat 0)).1, ((nth ((0 : Int), (0 : Int), (0 : Int)) (nth (0, 0, 0) m i :: l) (Int.toNat 0)).2.1, (nth ((0 : Int), (0 : Int), (0 : Int)) (nth (0, 0, 0) m i :: l) (Int.toNat 0)).2.2)) = true from eqD_refl (s := .pair (.int .i64) (.pair (.int .i64) (.int .i64))) rfl _]; rfl
  · simp only [keep_OpsOnce_2, lt_self, cond_false]; rfl
set_option maxRecDepth 100000 in
theorem lifted_OpsOnce (os : Os) (started : os.Started) (H : Type) (enc : TypeId × Value → H) :
    ReturnsInHanded {} Try.checked os 8 .any (Rows.opsOnceSpec.pre6 enc Try.prog Try.f8 Rows.opsOnceRow.domain false) (Rows.opsOnceSpec.post enc Try.prog Try.f8 false true false false) := by
  refine returnsInHanded_of_change_sized (C := Try.checked) own started (by kernel_rfl) Try.func8
    (ChangeSpec.witness6 (enc := enc) (C := Try.checked) false ⟨#[], #[.slice none 0 0], []⟩ 8 (by kernel_rfl) (by kernel_rfl) (by kernel_rfl) (by kernel_rfl)) ?_
  intro W base args ds gs before hval0 hW _ hsz0 _
  have hgw : GW [] W := fun _ h => nomatch h
  have hval : ∀ (j : Nat) t v, Try.f8.params[j]? = some t → args[j]? = some v → Value.okWide Try.prog W .any base t v := hval0
  have hW' := hW
  obtain ⟨p, q, hA0, hV, rfl, _, _⟩ := hW
  have hA : DataW.TrodAll enc Try.prog W 0 (fun _ => true) true Try.f8.params.toList args.toList ds p := hA0
  rw [Try.params8] at hA hval
  obtain ⟨v0, vs0, d0, ds0, p0, q0, hargs, rfl, rfl, h0, r0⟩ := trodAll_cons hA
  obtain ⟨rfl, rfl, rfl⟩ := trodAll_nil r0
  obtain rfl : args = #[v0] := by cases args; simp_all
  obtain ⟨rfl, rfl⟩ := trodVars_none hV
  have hall := List.all_eq_true.1 hsz0
  clear hA0 hval0 hsz0
  simp only [List.append_nil] at hW'
  have hlt0 : ∀ x ∈ p0, x.block < W.heap.size := fun x hx => hW'.lt x (by simp [hx])
  obtain ⟨x0, g0, w0⟩ := open_kd (k := .dat (.sl (.pair (.int .i64) (.pair (.int .i64) (.int .i64))))) (by kernel_rfl) (hval 0 22 v0 rfl rfl) h0
  obtain ⟨N, hN⟩ := law_OpsOnce x0 w0
  refine (sp_keep_OpsOnce N (fun _ => False) W (x0, ()) (true, ()) [v0] (fun _ h => h.elim) hgw ⟨v0, _, rfl, g0, rfl⟩ hN).mono ?_
  rintro e W' ⟨v, rfl, hg, hr⟩
  replace hg := hg.old
  have hr : v = .bool true := by simpa only [kvals, retV, Kd.val, Go.Abs.enc, RV] using hr
  subst hr
  exact ⟨_, rfl, _, _, _, [], p0 ++ [], [], hW', (trodAll_cons_mk (shut_bool (show Try.prog.underlying 4 = some .bool by kernel_rfl) _) trodAll_mk0), (trodAll_cons_mk (Below.trod laidOut (by kernel_rfl) (of_decide_eq_true (by kernel_rfl)) h0 hg hlt0) trodAll_mk0), rfl, hg.frame _, fun h => by cases h⟩

/-- The statement: whatever the arguments, the law's function returns true and leaves them as they were. -/
theorem opsOnce_holds : Rows.OpsOnceSaid :=
  OpenClaim.holds_of_wide 8 Try.f8 rfl rfl rfl rfl rfl rfl rfl ⟨rfl, rfl, rfl, rfl, rfl⟩ rfl rfl rfl rfl rfl (by kernel_rfl) Try.func8 (by kernel_rfl)
    (of_decide_eq_true (by kernel_rfl)) (by unfold Func.isWrapper; first | (rw [if_pos (by decide +kernel)]; kernel_rfl) | (rw [if_neg (by decide +kernel)]; exact ⟨rfl, rfl⟩))
    (fun os started H enc _ => lifted_OpsOnce os started H enc)
end Go.Proofs.Ytkijpiphgnnonaa
