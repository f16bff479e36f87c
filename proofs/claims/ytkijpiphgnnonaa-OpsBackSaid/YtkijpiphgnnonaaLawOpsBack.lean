/- Exchanged twice, negated twice, moved there and back, a bag is as it was: the law answers true for any two numbers and every list of rows. No condition. -/
import Derived.Test.YtkijpiphgnnonaaOpsS
import Derived.Test.YtkijpiphgnnonaaFrame0
namespace Go.Proofs.Ytkijpiphgnnonaa
open Go Go.ChangeShapes Go.WideShapes Go.ChangeAt Go.WideMaps Go.WideElems Go.RowKit Go.Abs Go.Bag
-- watershed/watershedkeep.OpsBack
abbrev Ks_keep_OpsBack : List Kd := [.dat (.int .i64), .dat (.int .i64), .dat (.sl (.pair (.int .i64) (.pair (.int .i64) (.int .i64))))]
abbrev Rk_keep_OpsBack : List Kd := [.dat (.bool)]
abbrev Rt_keep_OpsBack : Type := Dens Rk_keep_OpsBack
noncomputable def C_keep_OpsBack (_N : Nat) : Ctx := { T := [(2, ⟨.int .i64, 1, 8, some (.int .i64), [.int .i64 (0 : Int)], false, []⟩), (3, ⟨.int .i64, 1, 8, some (.int .i64), [.int .i64 (0 : Int)], false, []⟩), (40, ⟨.struct [(0, 3), (1, 2), (2, 2)], 3, 24, some (.pair (.int .i64) (.pair (.int .i64) (.int .i64))), [.int .i64 (0 : Int), .int .i64 (0 : Int), .int .i64 (0 : Int)], true, []⟩), (47, ⟨.slice 40, 1, 24, some (.sl (.pair (.int .i64) (.pair (.int .i64) (.int .i64)))), [.nil], false, []⟩)], G := findE [mkQ 27 Ks_bags_Tidy Rk_bags_Tidy (D_bags_Tidy _N), mkP 22 Ks_keep_total Rk_keep_total (D_keep_total _N), mkQ 24 Ks_ops_One Rk_ops_One (D_ops_One _N), mkP 16 Ks_ref_BagsSame Rk_ref_BagsSame (D_ref_BagsSame _N)], I := findI [], N := _N, n := 78, fx := [], fl := 0, gs := [] }
noncomputable def keep_OpsBack_1 (_N : Nat) : Option Rt_keep_OpsBack :=
  (some (true, ()))
noncomputable def keep_OpsBack_2 (_N : Nat) (_k18 : (List (Int × Int × Int)) → Option Rt_keep_OpsBack) (_v4 : List (Int × Int × Int)) (_v5 : List (Int × Int × Int)) (_v7 : List (Int × Int × Int)) (_v6 : Int) (_kn19 : ((List (Int × Int × Int)) × (List (Int × Int × Int)) × (List (Int × Int × Int))) × Int → Option Rt_keep_OpsBack) : Option Rt_keep_OpsBack :=
  (bif (decide (_v6 < (_v7.length : Int))) then (bif (decide (0 ≤ _v6) && decide (_v6 < (_v7.length : Int))) then ((D_ops_One _N (((nth ((0 : Int), ((0 : Int), (0 : Int))) _v7 ((_v6).toNat)).1, (((nth ((0 : Int), ((0 : Int), (0 : Int))) _v7 ((_v6).toNat)).2).1, ((nth ((0 : Int), ((0 : Int), (0 : Int))) _v7 ((_v6).toNat)).2).2)), _v4, ())).bind fun _y20 => (bif (_y20.2.1 != (0 : Int)) then (some (false, ())) else (bif (decide (0 ≤ (IntKind.i64.wrap (_v6 + (1 : Int)))) && decide ((IntKind.i64.wrap (_v6 + (1 : Int))) < (_v7.length : Int))) then ((D_ops_One _N (((nth ((0 : Int), ((0 : Int), (0 : Int))) _v7 ((IntKind.i64.wrap (_v6 + (1 : Int))).toNat)).1, (((nth ((0 : Int), ((0 : Int), (0 : Int))) _v7 ((IntKind.i64.wrap (_v6 + (1 : Int))).toNat)).2).1, ((nth ((0 : Int), ((0 : Int), (0 : Int))) _v7 ((IntKind.i64.wrap (_v6 + (1 : Int))).toNat)).2).2)), _y20.1, ())).bind fun _y21 => (bif (_y21.2.1 != (0 : Int)) then (some (false, ())) else ((D_ref_BagsSame _N (_y21.1, _v5, ())).bind fun _y22 => (bif (!_y22.1) then (some (false, ())) else (_kn19 ((_v4, _v5, _v7), (IntKind.i64.wrap (_v6 + (2 : Int))))))))) else none))) else none) else (_k18 _v7))
noncomputable def keep_OpsBack_3 (_N : Nat) (_x1 : Int) (_x2 : Int) (_x3 : List (Int × Int × Int)) : Option Rt_keep_OpsBack :=
  ((D_bags_Tidy _N (_x3, ())).bind fun _y15 => (bif (_y15.2.1 != (0 : Int)) then (some ((_y15.2.1 != (0 : Int)), ())) else ((D_keep_total _N (_y15.1, ())).bind fun _y16 => ((D_keep_total _N (_x3, ())).bind fun _y17 => (bif (_y16.1 != _y17.1) then (some ((_y15.2.1 != (0 : Int)), ())) else (joinD (fun (_s : (List (Int × Int × Int))) => keep_OpsBack_1 _N) fun _k18 => (loopE (fun (_c : (List (Int × Int × Int)) × (List (Int × Int × Int)) × (List (Int × Int × Int))) (_s : Int) _kn => keep_OpsBack_2 _N _k18 _c.1 _c.2.1 _c.2.2 _s _kn) _N (_x3, _y15.1, [((2 : Int), ((0 : Int), (0 : Int))), ((2 : Int), ((0 : Int), (0 : Int))), ((4 : Int), ((0 : Int), (0 : Int))), ((4 : Int), ((0 : Int), (0 : Int))), ((1 : Int), (_x1, _x2)), ((1 : Int), ((IntKind.i64.wrap (0 - _x1)), (IntKind.i64.wrap (0 - _x2))))]) (0 : Int))))))))
noncomputable def D_keep_OpsBack (_N : Nat) (_x : Dens Ks_keep_OpsBack) : Option Rt_keep_OpsBack := keep_OpsBack_3 _N _x.1 _x.2.1 _x.2.2.1
theorem sp_keep_OpsBack (_N : Nat) : SpecD Try.prog [] 9 Ks_keep_OpsBack Rk_keep_OpsBack (D_keep_OpsBack _N) := mkSpD (fn := Try.f9) (c := bodyOf Try.f9) (C := C_keep_OpsBack _N)
    (a := .two .none (.two .none (.two .none (.two .none (.join 1 ⟨[], [.row false 0 40 (.pair (.int .i64) (.pair (.int .i64) (.int .i64)))]⟩ (.two .none (.one (.loop 1 ⟨[(2, .sl (.pair (.int .i64) (.pair (.int .i64) (.int .i64)))), (7, .sl (.pair (.int .i64) (.pair (.int .i64) (.int .i64)))), (9, .slc 0 0), (10, .int .i64)], [.row false 0 40 (.pair (.int .i64) (.pair (.int .i64) (.int .i64)))]⟩ [2] .none))) .none)))))
    (by kernel_rfl) rfl (by kernel_rfl) (by kernel_rfl) ⟨rfl, by unfold TOk; kernel_rfl, gOk_of rfl rfl (List.forall_mem_cons.2 ⟨qen_bags_Tidy _N, (List.forall_mem_cons.2 ⟨en_keep_total _N, (List.forall_mem_cons.2 ⟨qen_ops_One _N, (List.forall_mem_cons.2 ⟨en_ref_BagsSame _N, (List.forall_mem_nil _)⟩)⟩)⟩)⟩), iOk_of rfl rfl (List.forall_mem_nil _), rfl⟩ (fun _x => by kernel_rfl)
theorem en_keep_OpsBack (_N : Nat) : EntOk Try.prog [] (mkP 9 Ks_keep_OpsBack Rk_keep_OpsBack (D_keep_OpsBack _N)) := entP ⟨Try.f9, bodyOf Try.f9, by kernel_rfl, by kernel_rfl, rfl⟩ (by kernel_rfl) (sp_keep_OpsBack _N)
theorem back_step {N : Nat} (hN : 1000 ≤ N) (k A B k' A' B' : Int) (hk : 1 ≤ k) (hk4 : k ≤ 4) (hk' : 1 ≤ k') (hk4' : k' ≤ 4) {a t : List Row} (ha : a.length ≤ 128) (ht : IsBag (amt a) t)
    (hinv : ∀ r ∈ a, ∀ e, Cg (amt (([r].filterMap (rowF k A B)).filterMap (rowF k' A' B')) e) (amt [r] e)) :
    ∃ x, D_ops_One N ((k, A, B), a, ()) = some (x, 0, ()) ∧ D_ops_One N ((k', A', B'), x, ()) = some (t, 0, ()) := by
  obtain ⟨x, c, o1, p1⟩ := One_lin hN k A B hk hk4 a
  rcases p1 with ⟨-, rfl, hx, ix⟩ | p1
  case inr => omega
  obtain ⟨y, c, o2, p2⟩ := One_lin hN k' A' B' hk' hk4' x
  rcases p2 with ⟨-, rfl, hy, iy⟩ | p2
  case inr => omega
  refine ⟨x, o1, ?_⟩
  have : y = t := iy.same ht fun e => by
    refine (lin_cg k' A' B' (fun e => ix.amt_cg e) e).trans ?_
    clear ix iy o1 o2 hx hy ha ht
    induction a with
    | nil => exact Cg.rfl
    | cons r a ih =>
      have h1 := hinv r (by simp) e
      have h2 := ih fun r' hr' => hinv r' (by simp [hr'])
      have e1 : r :: a = [r] ++ a := rfl
      rw [e1, List.filterMap_append, List.filterMap_append, amt_append, amt_append]
      exact h1.add h2
  rw [← this]; exact o2
theorem w_in {n : Int} (h : IntKind.i64.min ≤ n ∧ n ≤ IntKind.i64.max) : w n = n := by
  have h1 : IntKind.i64.min = -9223372036854775808 := rfl
  have h2 : IntKind.i64.max = 9223372036854775807 := rfl
  exact w_id (by omega) (by omega)
theorem w_back (k m : Int) : w (w (k + m) + w (0 - m)) = w k := by
  have h1 : Cg (w (k + m) + w (0 - m)) k := ((cg_w (k + m)).add (cg_w (0 - m))).trans (.of_eq (by omega))
  exact h1
theorem law_OpsBack (m n : Int) (a : List Row) (_wm : wfS (.int .i64) m) (_wn : wfS (.int .i64) n) (_wa : wfS (.sl (.pair (.int .i64) (.pair (.int .i64) (.int .i64)))) a) :
    ∃ N, D_keep_OpsBack N (m, n, a, ()) = some (true, ()) := by
  obtain ⟨M, hM⟩ : ∃ M, 1000 = M + 4 := ⟨996, rfl⟩
  refine ⟨M + 4, ?_⟩
  have hN : 1000 ≤ M + 4 := by omega
  obtain ⟨t, e, h1, t1⟩ := Tidy_eq hN a
  simp only [D_keep_OpsBack, keep_OpsBack_3, h1, Option.bind_some]
  by_cases q1 : e = 0
  case neg => rw [show (e != 0) = true from bne_iff_ne.2 q1]; rfl
  subst q1
  obtain ⟨l1, l2, i1⟩ := t1.ok rfl
  have ha : a.length ≤ 128 := by omega
  rw [bne_self_eq_false, cond_false, total_eq (by omega) (by omega), total_eq (by omega) (by omega)]
  have htot : w (tot t) = w (tot a) := tot_cg fun k => i1.amt_cg k
  simp only [Option.bind_some, htot, bne_self_eq_false, cond_false, joinD]
  have hw : ∀ r ∈ a, w r.1 = r.1 ∧ w r.2.1 = r.2.1 := fun r hr => by
    obtain ⟨g1, g2, g3⟩ := _wa.2 r hr
    exact ⟨w_in g1, w_in g2⟩
  obtain ⟨x1, p1, p2⟩ := back_step hN 2 0 0 2 0 0 (by omega) (by omega) (by omega) (by omega) ha i1 (fun r hr e => Cg.rfl)
  obtain ⟨x2, p3, p4⟩ := back_step hN 4 0 0 4 0 0 (by omega) (by omega) (by omega) (by omega) ha i1 (fun r hr e => by
    show Cg (amt [(r.1, r.2.1, w (0 - w (0 - r.2.2)))] e) (amt [r] e)
    simp only [amt, Int.add_zero]
    by_cases q : ky r = e
    · rw [if_pos q, if_pos (show ky (r.1, r.2.1, w (0 - w (0 - r.2.2))) = e from q)]
      refine (cg_w _).trans ?_
      have := (Cg.rfl (a := 0)).add ((Cg.rfl (a := -1)).mul (cg_w (0 - r.2.2)))
      exact (Cg.of_eq (by omega)).trans (this.trans (.of_eq (by omega)))
    · rw [if_neg q, if_neg (show ¬ ky (r.1, r.2.1, w (0 - w (0 - r.2.2))) = e from q)]; exact Cg.rfl)
  obtain ⟨x3, p5, p6⟩ := back_step hN 1 m n 1 (w (0 - m)) (w (0 - n)) (by omega) (by omega) (by omega) (by omega) ha i1 (fun r hr e => by
    show Cg (amt [(w (w (r.1 + m) + w (0 - m)), w (w (r.2.1 + n) + w (0 - n)), r.2.2)] e) (amt [r] e)
    obtain ⟨g1, g2⟩ := hw r hr
    rw [w_back, w_back, g1, g2]; exact Cg.rfl)
  have hs : D_ref_BagsSame (M + 4) (t, t, ()) = some (true, ()) := by rw [Same_eq (by omega) (by omega)]; simp
  unfold loopE
  have hm0 : IntKind.i64.wrap (0 - m) = w (0 - m) := rfl
  have hn0 : IntKind.i64.wrap (0 - n) = w (0 - n) := rfl
  rw [hm0, hn0]
  generalize w (0 - m) = m' at p6 ⊢
  generalize w (0 - n) = n' at p6 ⊢
  generalize hps : ([(2, 0, 0), (2, 0, 0), (4, 0, 0), (4, 0, 0), (1, m, n), (1, m', n')] : List (Int × Int × Int)) = ps
  have hl : (ps.length : Int) = 6 := by rw [← hps]; rfl
  have n0 : nth ((0 : Int), (0 : Int), (0 : Int)) ps ((0 : Int)).toNat = (2, 0, 0) := by rw [← hps]; rfl
  have n1 : nth ((0 : Int), (0 : Int), (0 : Int)) ps ((1 : Int)).toNat = (2, 0, 0) := by rw [← hps]; rfl
  have n2 : nth ((0 : Int), (0 : Int), (0 : Int)) ps ((2 : Int)).toNat = (4, 0, 0) := by rw [← hps]; rfl
  have n3 : nth ((0 : Int), (0 : Int), (0 : Int)) ps ((3 : Int)).toNat = (4, 0, 0) := by rw [← hps]; rfl
  have n4 : nth ((0 : Int), (0 : Int), (0 : Int)) ps ((4 : Int)).toNat = (1, m, n) := by rw [← hps]; rfl
  have n5 : nth ((0 : Int), (0 : Int), (0 : Int)) ps ((5 : Int)).toNat = (1, m', n') := by rw [← hps]; rfl
  have w1 : IntKind.i64.wrap ((0 : Int) + 1) = 1 := rfl
  have w2 : IntKind.i64.wrap ((0 : Int) + 2) = 2 := rfl
  have w3 : IntKind.i64.wrap ((2 : Int) + 1) = 3 := rfl
  have w4 : IntKind.i64.wrap ((2 : Int) + 2) = 4 := rfl
  have w5 : IntKind.i64.wrap ((4 : Int) + 1) = 5 := rfl
  have w6 : IntKind.i64.wrap ((4 : Int) + 2) = 6 := rfl
  have d06 : decide ((0 : Int) < 6) = true := rfl
  have d16 : decide ((1 : Int) < 6) = true := rfl
  have d26 : decide ((2 : Int) < 6) = true := rfl
  have d36 : decide ((3 : Int) < 6) = true := rfl
  have d46 : decide ((4 : Int) < 6) = true := rfl
  have d56 : decide ((5 : Int) < 6) = true := rfl
  have d66 : decide ((6 : Int) < 6) = false := rfl
  have g0 : decide ((0 : Int) ≤ 0) = true := rfl
  have g1 : decide ((0 : Int) ≤ 1) = true := rfl
  have g2 : decide ((0 : Int) ≤ 2) = true := rfl
  have g3 : decide ((0 : Int) ≤ 3) = true := rfl
  have g4 : decide ((0 : Int) ≤ 4) = true := rfl
  have g5 : decide ((0 : Int) ≤ 5) = true := rfl
  rw [show loopD _ (M + 4) _ = _ from loopD_s _ (M + 3) _]
  simp only [keep_OpsBack_2, hl, n0, n1, w1, w2, d06, d16, g0, g1, p1, p2, Bool.and_self, cond_true, hs, Option.bind_some, bne_self_eq_false, cond_false, Bool.not_true, backE_eq]
  rw [show loopD _ (M + 3) _ = _ from loopD_s _ (M + 2) _]
  simp only [hl, n2, n3, w3, w4, d26, d36, g2, g3, p3, p4, Bool.and_self, cond_true, hs, Option.bind_some, bne_self_eq_false, cond_false, Bool.not_true, backE_eq]
  rw [show loopD _ (M + 2) _ = _ from loopD_s _ (M + 1) _]
  simp only [hl, n4, n5, w5, w6, d46, d56, g4, g5, p5, p6, Bool.and_self, cond_true, hs, Option.bind_some, bne_self_eq_false, cond_false, Bool.not_true, backE_eq]
  rw [show loopD _ (M + 1) _ = _ from loopD_s _ M _]
  simp only [hl, d66, cond_false, keep_OpsBack_1]
set_option maxRecDepth 100000 in
theorem lifted_OpsBack (os : Os) (started : os.Started) (H : Type) (enc : TypeId × Value → H) :
    ReturnsInHanded {} Try.checked os 9 .any (Rows.opsBackSpec.pre6 enc Try.prog Try.f9 Rows.opsBackRow.domain false) (Rows.opsBackSpec.post enc Try.prog Try.f9 false true false false) := by
  refine returnsInHanded_of_change_sized (C := Try.checked) own started (by kernel_rfl) Try.func9
    (ChangeSpec.witness6 (enc := enc) (C := Try.checked) false ⟨#[], #[.int .i64 0, .int .i64 0, .slice none 0 0], []⟩ 8 (by kernel_rfl) (by kernel_rfl) (by kernel_rfl) (by kernel_rfl)) ?_
  intro W base args ds gs before hval0 hW _ hsz0 _
  have hgw : GW [] W := fun _ h => nomatch h
  have hval : ∀ (j : Nat) t v, Try.f9.params[j]? = some t → args[j]? = some v → Value.okWide Try.prog W .any base t v := hval0
  have hW' := hW
  obtain ⟨p, q, hA0, hV, rfl, _, _⟩ := hW
  have hA : DataW.TrodAll enc Try.prog W 0 (fun _ => true) true Try.f9.params.toList args.toList ds p := hA0
  rw [Try.params9] at hA hval
  obtain ⟨v0, vs0, d0, ds0, p0, q0, hargs, rfl, rfl, h0, r0⟩ := trodAll_cons hA
  obtain ⟨v1, vs1, d1, ds1, p1, q1, rfl, rfl, rfl, h1, r1⟩ := trodAll_cons r0
  obtain ⟨v2, vs2, d2, ds2, p2, q2, rfl, rfl, rfl, h2, r2⟩ := trodAll_cons r1
  obtain ⟨rfl, rfl, rfl⟩ := trodAll_nil r2
  obtain rfl : args = #[v0, v1, v2] := by cases args; simp_all
  obtain ⟨rfl, rfl⟩ := trodVars_none hV
  have hall := List.all_eq_true.1 hsz0
  clear hA0 hval0 hsz0
  simp only [List.append_nil] at hW'
  have hlt0 : ∀ x ∈ p0, x.block < W.heap.size := fun x hx => hW'.lt x (by simp [hx])
  have hlt1 : ∀ x ∈ p1, x.block < W.heap.size := fun x hx => hW'.lt x (by simp [hx])
  have hlt2 : ∀ x ∈ p2, x.block < W.heap.size := fun x hx => hW'.lt x (by simp [hx])
  obtain ⟨x0, g0, w0⟩ := open_kd (k := .dat (.int .i64)) (by kernel_rfl) (hval 0 2 v0 rfl rfl) h0
  obtain ⟨x1, g1, w1⟩ := open_kd (k := .dat (.int .i64)) (by kernel_rfl) (hval 1 2 v1 rfl rfl) h1
  obtain ⟨x2, g2, w2⟩ := open_kd (k := .dat (.sl (.pair (.int .i64) (.pair (.int .i64) (.int .i64))))) (by kernel_rfl) (hval 2 22 v2 rfl rfl) h2
  obtain ⟨N, hN⟩ := law_OpsBack x0 x1 x2 w0 w1 w2
  refine (sp_keep_OpsBack N (fun _ => False) W (x0, x1, x2, ()) (true, ()) [v0, v1, v2] (fun _ h => h.elim) hgw ⟨v0, _, rfl, g0, ⟨v1, _, rfl, g1, ⟨v2, _, rfl, g2, rfl⟩⟩⟩ hN).mono ?_
  rintro e W' ⟨v, rfl, hg, hr⟩
  replace hg := hg.old
  have hr : v = .bool true := by simpa only [kvals, retV, Kd.val, Go.Abs.enc, RV] using hr
  subst hr
  exact ⟨_, rfl, _, _, _, [], p0 ++ (p1 ++ (p2 ++ [])), [], hW', (trodAll_cons_mk (shut_bool (show Try.prog.underlying 4 = some .bool by kernel_rfl) _) trodAll_mk0), (trodAll_cons_mk (Below.trod laidOut (by kernel_rfl) (of_decide_eq_true (by kernel_rfl)) h0 hg hlt0) (trodAll_cons_mk (Below.trod laidOut (by kernel_rfl) (of_decide_eq_true (by kernel_rfl)) h1 hg hlt1) (trodAll_cons_mk (Below.trod laidOut (by kernel_rfl) (of_decide_eq_true (by kernel_rfl)) h2 hg hlt2) trodAll_mk0))), rfl, hg.frame _, fun h => by cases h⟩

/-- The statement: whatever the arguments, the law's function returns true and leaves them as they were. -/
theorem opsBack_holds : Rows.OpsBackSaid :=
  OpenClaim.holds_of_wide 9 Try.f9 rfl rfl rfl rfl rfl rfl rfl ⟨rfl, rfl, rfl, rfl, rfl⟩ rfl rfl rfl rfl rfl (by kernel_rfl) Try.func9 (by kernel_rfl)
    (of_decide_eq_true (by kernel_rfl)) (by unfold Func.isWrapper; first | (rw [if_pos (by decide +kernel)]; kernel_rfl) | (rw [if_neg (by decide +kernel)]; exact ⟨rfl, rfl⟩))
    (fun os started H enc _ => lifted_OpsBack os started H enc)
end Go.Proofs.Ytkijpiphgnnonaa
