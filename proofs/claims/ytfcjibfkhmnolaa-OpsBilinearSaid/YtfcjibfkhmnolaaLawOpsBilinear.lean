/- A join is linear in each bag, and turned round it makes the same: the law answers true for any two numbers and any three lists of rows. No condition. -/
import Derived.Test.YtfcjibfkhmnolaaJoinU
import Derived.Test.YtfcjibfkhmnolaaFrame0
namespace Go.Proofs.Ytfcjibfkhmnolaa
open Go Go.ChangeShapes Go.WideShapes Go.ChangeAt Go.WideMaps Go.WideElems Go.RowKit Go.Abs Go.Bag
-- watershed/watershedkeep.OpsBilinear
abbrev Ks_keep_OpsBilinear : List Kd := [.dat (.int .i64), .dat (.int .i64), .dat (.sl (.pair (.int .i64) (.pair (.int .i64) (.int .i64)))), .dat (.sl (.pair (.int .i64) (.pair (.int .i64) (.int .i64)))), .dat (.sl (.pair (.int .i64) (.pair (.int .i64) (.int .i64))))]
abbrev Rk_keep_OpsBilinear : List Kd := [.dat (.bool)]
abbrev Rt_keep_OpsBilinear : Type := Dens Rk_keep_OpsBilinear
noncomputable def C_keep_OpsBilinear (_N : Nat) : Ctx := { T := [(2, ⟨.int .i64, 1, 8, some (.int .i64), [.int .i64 (0 : Int)], false, []⟩), (3, ⟨.int .i64, 1, 8, some (.int .i64), [.int .i64 (0 : Int)], false, []⟩), (71, ⟨.struct [(0, 3), (1, 2), (2, 2)], 3, 24, some (.pair (.int .i64) (.pair (.int .i64) (.int .i64))), [.int .i64 (0 : Int), .int .i64 (0 : Int), .int .i64 (0 : Int)], true, []⟩)], G := findE [mkQ 28 Ks_ops_Two Rk_ops_Two (D_ops_Two _N), mkP 22 Ks_keep_same Rk_keep_same (D_keep_same _N), mkP 29 Ks_keep_total Rk_keep_total (D_keep_total _N), mkP 30 Ks_keep_totalPairs Rk_keep_totalPairs (D_keep_totalPairs _N), mkQ 32 Ks_bags_Plus Rk_bags_Plus (D_bags_Plus _N), mkP 31 Ks_ref_BagsSame Rk_ref_BagsSame (D_ref_BagsSame _N)], I := findI [], N := _N, n := 105, fx := [], fl := 0, gs := [] }
noncomputable def keep_OpsBilinear_1 (_N : Nat) (_x1 : Int) (_x2 : Int) (_x3 : List (Int × Int × Int)) (_x4 : List (Int × Int × Int)) (_x5 : List (Int × Int × Int)) : Option Rt_keep_OpsBilinear :=
  ((D_ops_Two _N (((10 : Int), (_x1, _x2)), _x3, _x5, ())).bind fun _y16 => ((D_ops_Two _N (((10 : Int), (_x2, _x1)), _x5, _x3, ())).bind fun _y17 => ((D_keep_same _N (_y16.1, _y16.2.1, _y17.1, _y17.2.1, ())).bind fun _y18 => (bif (!_y18.1) then (some (false, ())) else (bif (_y16.2.1 == (0 : Int)) then ((D_keep_total _N (_y16.1, ())).bind fun _y19 => ((D_keep_totalPairs _N (_x3, _x5, ())).bind fun _y20 => (bif (_y19.1 != _y20.1) then (some (false, ())) else ((D_bags_Plus _N (_x3, _x4, ())).bind fun _y21 => ((D_ops_Two _N (((10 : Int), (_x1, _x2)), _x4, _x5, ())).bind fun _y22 => (bif (_y16.2.1 != (0 : Int)) then (some (true, ())) else (bif (_y21.2.1 != (0 : Int)) then (some (true, ())) else (bif (_y22.2.1 != (0 : Int)) then (some (true, ())) else ((D_ops_Two _N (((10 : Int), (_x1, _x2)), _y21.1, _x5, ())).bind fun _y23 => ((D_bags_Plus _N (_y16.1, _y22.1, ())).bind fun _y24 => (bif (_y23.2.1 != (0 : Int)) then (some (true, ())) else (bif (_y24.2.1 != (0 : Int)) then (some (true, ())) else ((D_ref_BagsSame _N (_y23.1, _y24.1, ())).bind fun _y25 => (some (_y25.1, ()))))))))))))))) else ((D_bags_Plus _N (_x3, _x4, ())).bind fun _y26 => ((D_ops_Two _N (((10 : Int), (_x1, _x2)), _x4, _x5, ())).bind fun _y27 => (bif (_y16.2.1 != (0 : Int)) then (some (true, ())) else (bif (_y26.2.1 != (0 : Int)) then (some (true, ())) else (bif (_y27.2.1 != (0 : Int)) then (some (true, ())) else ((D_ops_Two _N (((10 : Int), (_x1, _x2)), _y26.1, _x5, ())).bind fun _y28 => ((D_bags_Plus _N (_y16.1, _y27.1, ())).bind fun _y29 => (bif (_y28.2.1 != (0 : Int)) then (some (true, ())) else (bif (_y29.2.1 != (0 : Int)) then (some (true, ())) else ((D_ref_BagsSame _N (_y28.1, _y29.1, ())).bind fun _y30 => (some (_y30.1, ())))))))))))))))))
noncomputable def D_keep_OpsBilinear (_N : Nat) (_x : Dens Ks_keep_OpsBilinear) : Option Rt_keep_OpsBilinear := keep_OpsBilinear_1 _N _x.1 _x.2.1 _x.2.2.1 _x.2.2.2.1 _x.2.2.2.2.1
theorem sp_keep_OpsBilinear (_N : Nat) : SpecD Try.prog [] 11 Ks_keep_OpsBilinear Rk_keep_OpsBilinear (D_keep_OpsBilinear _N) := mkSpD (fn := Try.f11) (c := bodyOf Try.f11) (C := C_keep_OpsBilinear _N)
    (a := .none)
    (by kernel_rfl) rfl (by kernel_rfl) (by kernel_rfl) ⟨rfl, by unfold TOk; kernel_rfl, gOk_of rfl rfl (List.forall_mem_cons.2 ⟨qen_ops_Two _N, (List.forall_mem_cons.2 ⟨en_keep_same _N, (List.forall_mem_cons.2 ⟨en_keep_total _N, (List.forall_mem_cons.2 ⟨en_keep_totalPairs _N, (List.forall_mem_cons.2 ⟨qen_bags_Plus _N, (List.forall_mem_cons.2 ⟨en_ref_BagsSame _N, (List.forall_mem_nil _)⟩)⟩)⟩)⟩)⟩)⟩), iOk_of rfl rfl (List.forall_mem_nil _), rfl⟩ (fun _x => by kernel_rfl)
theorem law_OpsBilinear (m n : Int) (a b c : List Row) (_wm : wfS (.int .i64) m) (_wn : wfS (.int .i64) n) (_wa : wfS (.sl (.pair (.int .i64) (.pair (.int .i64) (.int .i64)))) a) (_wb : wfS (.sl (.pair (.int .i64) (.pair (.int .i64) (.int .i64)))) b) (_wc : wfS (.sl (.pair (.int .i64) (.pair (.int .i64) (.int .i64)))) c) :
    ∃ N, D_keep_OpsBilinear N (m, n, a, b, c, ()) = some (true, ()) := by
  obtain ⟨N, hN, hn0⟩ : ∃ N : Nat, 20000 ≤ N ∧ True := ⟨20000, Nat.le_refl _, trivial⟩
  refine ⟨N, ?_⟩
  obtain ⟨ac, e, o1, t1⟩ := Two_eq hN 10 m n (.inr rfl) a c
  obtain ⟨ca, x, o2, t2⟩ := Two_eq hN 10 n m (.inr rfl) c a
  obtain ⟨ab, x', o3, t3⟩ := Plus_eq (N := N) (by omega) a b
  obtain ⟨bc, y, o4, t4⟩ := Two_eq hN 10 m n (.inr rfl) b c
  obtain ⟨s1, s2⟩ := t1.same t2 (fun e => JL_turn m n a c e) (by omega)
  have hac : ac.length ≤ 128 := by
    by_cases q : e = 0
    · exact (t1.ok q).1
    · rcases t1 with ⟨h, -⟩ | ⟨-, h, -⟩
      · exact absurd h q
      · rw [h]; simp
  have hsame : D_keep_same N (ac, e, ca, x, ()) = some (true, ()) := by
    rw [same_eq (by omega) (by omega), d_true ⟨s2, s1⟩]
  subst s1 s2
  simp only [D_keep_OpsBilinear, keep_OpsBilinear_1, o1, o2, o3, o4, hsame, Option.bind_some, Bool.not_true, cond_false]
  by_cases q1 : e = 0
  case neg => simp only [show (e == 0) = false from beq_false_of_ne q1, cond_false, show (e != 0) = true from bne_iff_ne.2 q1, cond_true]
  subst q1
  obtain ⟨l1, l2, i1⟩ := t1.ok rfl
  have ht : w (tot ac) = w (tot (JL m n a c)) := tot_cg' fun e => i1.amt_cg e
  simp only [beq_self_eq_true, cond_true, total_eq (N := N) (l := ac) (by omega) (by omega), totalPairs_eq (N := N) m n a c (by omega) (by omega) (by omega) (by omega), Option.bind_some, ht, bne_self_eq_false, cond_false]
  by_cases q2 : x' = 0
  case neg => rw [show (x' != 0) = true from bne_iff_ne.2 q2]; rfl
  by_cases q3 : y = 0
  case neg => rw [q2, bne_self_eq_false, cond_false, show (y != 0) = true from bne_iff_ne.2 q3]; rfl
  subst q2 q3
  obtain ⟨l3, l4, i3⟩ := t3.ok rfl
  obtain ⟨l5, l6, i4⟩ := t4.ok rfl
  obtain ⟨l, e, o5, t5⟩ := Two_eq hN 10 m n (.inr rfl) ab c
  obtain ⟨s, x, o6, t6⟩ := Plus_eq (N := N) (by omega) ac bc
  simp only [o5, o6, Option.bind_some, bne_self_eq_false, cond_false]
  by_cases q4 : e = 0
  case neg => rw [show (e != 0) = true from bne_iff_ne.2 q4]; rfl
  by_cases q5 : x = 0
  case neg => rw [q4, bne_self_eq_false, cond_false, show (x != 0) = true from bne_iff_ne.2 q5]; rfl
  subst q4 q5
  obtain ⟨l7, l8, i5⟩ := t5.ok rfl
  obtain ⟨l9, l10, i6⟩ := t6.ok rfl
  have hs : l = s := i5.same i6 fun e => by
    refine (JL_cg m n (a' := a ++ b) (b' := c) (fun e => (i3.amt_cg e).trans (.of_eq (by rw [amt_append]; omega))) (fun e => Cg.rfl) e).trans ?_
    rw [JL_append, amt_append]
    exact (((i1.amt_cg e).add (i4.amt_cg e)).symm).trans (.of_eq (by omega))
  rw [bne_self_eq_false, cond_false, cond_false, Same_eq (by omega) (by omega), hs]
  simp
set_option maxRecDepth 100000 in
theorem lifted_OpsBilinear (os : Os) (started : os.Started) (H : Type) (enc : TypeId × Value → H) :
    ReturnsInHanded {} Try.checked os 11 .any (Rows.opsBilinearSpec.pre6 enc Try.prog Try.f11 Rows.opsBilinearRow.domain false) (Rows.opsBilinearSpec.post enc Try.prog Try.f11 false true false false) := by
  refine returnsInHanded_of_change_sized (C := Try.checked) own started (by kernel_rfl) Try.func11
    (ChangeSpec.witness6 (enc := enc) (C := Try.checked) false ⟨#[], #[.int .i64 0, .int .i64 0, .slice none 0 0, .slice none 0 0, .slice none 0 0], []⟩ 8 (by kernel_rfl) (by kernel_rfl) (by kernel_rfl) (by kernel_rfl)) ?_
  intro W base args ds gs before hval0 hW _ hsz0 _
  have hgw : GW [] W := fun _ h => nomatch h
  have hval : ∀ (j : Nat) t v, Try.f11.params[j]? = some t → args[j]? = some v → Value.okWide Try.prog W .any base t v := hval0
  have hW' := hW
  obtain ⟨p, q, hA0, hV, rfl, _, _⟩ := hW
  have hA : DataW.TrodAll enc Try.prog W 0 (fun _ => true) true Try.f11.params.toList args.toList ds p := hA0
  rw [Try.params11] at hA hval
  obtain ⟨v0, vs0, d0, ds0, p0, q0, hargs, rfl, rfl, h0, r0⟩ := trodAll_cons hA
  obtain ⟨v1, vs1, d1, ds1, p1, q1, rfl, rfl, rfl, h1, r1⟩ := trodAll_cons r0
  obtain ⟨v2, vs2, d2, ds2, p2, q2, rfl, rfl, rfl, h2, r2⟩ := trodAll_cons r1
  obtain ⟨v3, vs3, d3, ds3, p3, q3, rfl, rfl, rfl, h3, r3⟩ := trodAll_cons r2
  obtain ⟨v4, vs4, d4, ds4, p4, q4, rfl, rfl, rfl, h4, r4⟩ := trodAll_cons r3
  obtain ⟨rfl, rfl, rfl⟩ := trodAll_nil r4
  obtain rfl : args = #[v0, v1, v2, v3, v4] := by cases args; simp_all
  obtain ⟨rfl, rfl⟩ := trodVars_none hV
  have hall := List.all_eq_true.1 hsz0
  clear hA0 hval0 hsz0
  simp only [List.append_nil] at hW'
  have hlt0 : ∀ x ∈ p0, x.block < W.heap.size := fun x hx => hW'.lt x (by simp [hx])
  have hlt1 : ∀ x ∈ p1, x.block < W.heap.size := fun x hx => hW'.lt x (by simp [hx])
  have hlt2 : ∀ x ∈ p2, x.block < W.heap.size := fun x hx => hW'.lt x (by simp [hx])
  have hlt3 : ∀ x ∈ p3, x.block < W.heap.size := fun x hx => hW'.lt x (by simp [hx])
  have hlt4 : ∀ x ∈ p4, x.block < W.heap.size := fun x hx => hW'.lt x (by simp [hx])
  obtain ⟨x0, g0, w0⟩ := open_kd (k := .dat (.int .i64)) (by kernel_rfl) (hval 0 2 v0 rfl rfl) h0
  obtain ⟨x1, g1, w1⟩ := open_kd (k := .dat (.int .i64)) (by kernel_rfl) (hval 1 2 v1 rfl rfl) h1
  obtain ⟨x2, g2, w2⟩ := open_kd (k := .dat (.sl (.pair (.int .i64) (.pair (.int .i64) (.int .i64))))) (by kernel_rfl) (hval 2 46 v2 rfl rfl) h2
  obtain ⟨x3, g3, w3⟩ := open_kd (k := .dat (.sl (.pair (.int .i64) (.pair (.int .i64) (.int .i64))))) (by kernel_rfl) (hval 3 46 v3 rfl rfl) h3
  obtain ⟨x4, g4, w4⟩ := open_kd (k := .dat (.sl (.pair (.int .i64) (.pair (.int .i64) (.int .i64))))) (by kernel_rfl) (hval 4 46 v4 rfl rfl) h4
  obtain ⟨N, hN⟩ := law_OpsBilinear x0 x1 x2 x3 x4 w0 w1 w2 w3 w4
  refine (sp_keep_OpsBilinear N (fun _ => False) W (x0, x1, x2, x3, x4, ()) (true, ()) [v0, v1, v2, v3, v4] (fun _ h => h.elim) hgw ⟨v0, _, rfl, g0, ⟨v1, _, rfl, g1, ⟨v2, _, rfl, g2, ⟨v3, _, rfl, g3, ⟨v4, _, rfl, g4, rfl⟩⟩⟩⟩⟩ hN).mono ?_
  rintro e W' ⟨v, rfl, hg, hr⟩
  replace hg := hg.old
  have hr : v = .bool true := by simpa only [kvals, retV, Kd.val, Go.Abs.enc, RV] using hr
  subst hr
  exact ⟨_, rfl, _, _, _, [], p0 ++ (p1 ++ (p2 ++ (p3 ++ (p4 ++ [])))), [], hW', (trodAll_cons_mk (shut_bool (show Try.prog.underlying 4 = some .bool by kernel_rfl) _) trodAll_mk0), (trodAll_cons_mk (Below.trod laidOut (by kernel_rfl) (of_decide_eq_true (by kernel_rfl)) h0 hg hlt0) (trodAll_cons_mk (Below.trod laidOut (by kernel_rfl) (of_decide_eq_true (by kernel_rfl)) h1 hg hlt1) (trodAll_cons_mk (Below.trod laidOut (by kernel_rfl) (of_decide_eq_true (by kernel_rfl)) h2 hg hlt2) (trodAll_cons_mk (Below.trod laidOut (by kernel_rfl) (of_decide_eq_true (by kernel_rfl)) h3 hg hlt3) (trodAll_cons_mk (Below.trod laidOut (by kernel_rfl) (of_decide_eq_true (by kernel_rfl)) h4 hg hlt4) trodAll_mk0))))), rfl, hg.frame _, fun h => by cases h⟩

/-- The statement: whatever the arguments, the law's function returns true and leaves them as they were. -/
theorem opsBilinear_holds : Rows.OpsBilinearSaid :=
  OpenClaim.holds_of_wide 11 Try.f11 rfl rfl rfl rfl rfl rfl rfl ⟨rfl, rfl, rfl, rfl, rfl⟩ rfl rfl rfl rfl rfl (by kernel_rfl) Try.func11 (by kernel_rfl)
    (of_decide_eq_true (by kernel_rfl)) (by unfold Func.isWrapper; first | (rw [if_pos (by decide +kernel)]; kernel_rfl) | (rw [if_neg (by decide +kernel)]; exact ⟨rfl, rfl⟩))
    (fun os started H enc _ => lifted_OpsBilinear os started H enc)
end Go.Proofs.Ytfcjibfkhmnolaa
