/- A join with the sum of values does not hang on brackets: the law answers true for any three lists of rows. No condition. -/
import Derived.Test.YtfcjibfkhmnolaaJoinU
import Derived.Test.YtfcjibfkhmnolaaFrame0
namespace Go.Proofs.Ytfcjibfkhmnolaa
open Go Go.ChangeShapes Go.WideShapes Go.ChangeAt Go.WideMaps Go.WideElems Go.RowKit Go.Abs Go.Bag
-- watershed/watershedkeep.OpsBrackets
abbrev Ks_keep_OpsBrackets : List Kd := [.dat (.sl (.pair (.int .i64) (.pair (.int .i64) (.int .i64)))), .dat (.sl (.pair (.int .i64) (.pair (.int .i64) (.int .i64)))), .dat (.sl (.pair (.int .i64) (.pair (.int .i64) (.int .i64))))]
abbrev Rk_keep_OpsBrackets : List Kd := [.dat (.bool)]
abbrev Rt_keep_OpsBrackets : Type := Dens Rk_keep_OpsBrackets
noncomputable def C_keep_OpsBrackets (_N : Nat) : Ctx := { T := [(2, ⟨.int .i64, 1, 8, some (.int .i64), [.int .i64 (0 : Int)], false, []⟩), (3, ⟨.int .i64, 1, 8, some (.int .i64), [.int .i64 (0 : Int)], false, []⟩), (71, ⟨.struct [(0, 3), (1, 2), (2, 2)], 3, 24, some (.pair (.int .i64) (.pair (.int .i64) (.int .i64))), [.int .i64 (0 : Int), .int .i64 (0 : Int), .int .i64 (0 : Int)], true, []⟩)], G := findE [mkQ 28 Ks_ops_Two Rk_ops_Two (D_ops_Two _N), mkP 29 Ks_keep_total Rk_keep_total (D_keep_total _N), mkP 30 Ks_keep_totalPairs Rk_keep_totalPairs (D_keep_totalPairs _N), mkP 31 Ks_ref_BagsSame Rk_ref_BagsSame (D_ref_BagsSame _N)], I := findI [], N := _N, n := 70, fx := [], fl := 0, gs := [] }
noncomputable def keep_OpsBrackets_1 (_N : Nat) (_x1 : List (Int × Int × Int)) (_x2 : List (Int × Int × Int)) (_x3 : List (Int × Int × Int)) : Option Rt_keep_OpsBrackets :=
  ((D_ops_Two _N (((10 : Int), ((1 : Int), (1 : Int))), _x1, _x2, ())).bind fun _y11 => ((D_ops_Two _N (((10 : Int), ((1 : Int), (1 : Int))), _x2, _x3, ())).bind fun _y12 => (bif (_y11.2.1 == (0 : Int)) then ((D_keep_total _N (_y11.1, ())).bind fun _y13 => ((D_keep_totalPairs _N (_x1, _x2, ())).bind fun _y14 => (bif (_y13.1 != _y14.1) then (some (false, ())) else (bif (_y11.2.1 != (0 : Int)) then (some (true, ())) else (bif (_y12.2.1 != (0 : Int)) then (some (true, ())) else ((D_ops_Two _N (((10 : Int), ((1 : Int), (1 : Int))), _y11.1, _x3, ())).bind fun _y15 => ((D_ops_Two _N (((10 : Int), ((1 : Int), (1 : Int))), _x1, _y12.1, ())).bind fun _y16 => (bif (_y15.2.1 != (0 : Int)) then (some (true, ())) else (bif (_y16.2.1 != (0 : Int)) then (some (true, ())) else ((D_ref_BagsSame _N (_y15.1, _y16.1, ())).bind fun _y17 => (some (_y17.1, ())))))))))))) else (bif (_y11.2.1 != (0 : Int)) then (some (true, ())) else (bif (_y12.2.1 != (0 : Int)) then (some (true, ())) else ((D_ops_Two _N (((10 : Int), ((1 : Int), (1 : Int))), _y11.1, _x3, ())).bind fun _y18 => ((D_ops_Two _N (((10 : Int), ((1 : Int), (1 : Int))), _x1, _y12.1, ())).bind fun _y19 => (bif (_y18.2.1 != (0 : Int)) then (some (true, ())) else (bif (_y19.2.1 != (0 : Int)) then (some (true, ())) else ((D_ref_BagsSame _N (_y18.1, _y19.1, ())).bind fun _y20 => (some (_y20.1, ()))))))))))))
noncomputable def D_keep_OpsBrackets (_N : Nat) (_x : Dens Ks_keep_OpsBrackets) : Option Rt_keep_OpsBrackets := keep_OpsBrackets_1 _N _x.1 _x.2.1 _x.2.2.1
theorem sp_keep_OpsBrackets (_N : Nat) : SpecD Try.prog [] 10 Ks_keep_OpsBrackets Rk_keep_OpsBrackets (D_keep_OpsBrackets _N) := mkSpD (fn := Try.f10) (c := bodyOf Try.f10) (C := C_keep_OpsBrackets _N)
    (a := .none)
    (by kernel_rfl) rfl (by kernel_rfl) (by kernel_rfl) ⟨rfl, by unfold TOk; kernel_rfl, gOk_of rfl rfl (List.forall_mem_cons.2 ⟨qen_ops_Two _N, (List.forall_mem_cons.2 ⟨en_keep_total _N, (List.forall_mem_cons.2 ⟨en_keep_totalPairs _N, (List.forall_mem_cons.2 ⟨en_ref_BagsSame _N, (List.forall_mem_nil _)⟩)⟩)⟩)⟩), iOk_of rfl rfl (List.forall_mem_nil _), rfl⟩ (fun _x => by kernel_rfl)
theorem law_OpsBrackets (a b c : List Row) (_wa : wfS (.sl (.pair (.int .i64) (.pair (.int .i64) (.int .i64)))) a) (_wb : wfS (.sl (.pair (.int .i64) (.pair (.int .i64) (.int .i64)))) b) (_wc : wfS (.sl (.pair (.int .i64) (.pair (.int .i64) (.int .i64)))) c) :
    ∃ N, D_keep_OpsBrackets N (a, b, c, ()) = some (true, ()) := by
  obtain ⟨N, hN, hn0⟩ : ∃ N : Nat, 20000 ≤ N ∧ True := ⟨20000, Nat.le_refl _, trivial⟩
  refine ⟨N, ?_⟩
  obtain ⟨ab, e, o1, t1⟩ := Two_eq hN 10 1 1 (.inr rfl) a b
  obtain ⟨bc, x, o2, t2⟩ := Two_eq hN 10 1 1 (.inr rfl) b c
  simp only [D_keep_OpsBrackets, keep_OpsBrackets_1, o1, o2, Option.bind_some]
  by_cases q1 : e = 0
  case neg => rw [show (e == 0) = false from beq_false_of_ne q1, cond_false, show (e != 0) = true from bne_iff_ne.2 q1]; rfl
  subst q1
  obtain ⟨l1, l2, i1⟩ := t1.ok rfl
  rw [beq_self_eq_true, cond_true, total_eq (by omega) (by omega), totalPairs_eq 1 1 a b (by omega) (by omega) (by omega) (by omega)]
  have ht : w (tot ab) = w (tot (JL 1 1 a b)) := tot_cg' fun e => i1.amt_cg e
  simp only [Option.bind_some, ht, bne_self_eq_false, cond_false]
  by_cases q2 : x = 0
  case neg => rw [show (x != 0) = true from bne_iff_ne.2 q2]; rfl
  subst q2
  obtain ⟨l3, l4, i2⟩ := t2.ok rfl
  obtain ⟨l, e, o3, t3⟩ := Two_eq hN 10 1 1 (.inr rfl) ab c
  obtain ⟨m, x, o4, t4⟩ := Two_eq hN 10 1 1 (.inr rfl) a bc
  simp only [o3, o4, Option.bind_some, bne_self_eq_false, cond_false]
  by_cases q3 : e = 0
  case neg => rw [show (e != 0) = true from bne_iff_ne.2 q3]; rfl
  by_cases q4 : x = 0
  case neg => rw [q3, bne_self_eq_false, cond_false, show (x != 0) = true from bne_iff_ne.2 q4]; rfl
  subst q3 q4
  obtain ⟨l5, l6, i3⟩ := t3.ok rfl
  obtain ⟨l7, l8, i4⟩ := t4.ok rfl
  have hs : l = m := i3.same i4 fun e => (JL_cg 1 1 (fun e => i1.amt_cg e) (fun e => Cg.rfl) e).trans ((JL_assoc a b c e).trans (JL_cg 1 1 (fun e => Cg.rfl) (fun e => (i2.amt_cg e).symm) e))
  rw [bne_self_eq_false, cond_false, cond_false, Same_eq (by omega) (by omega), hs]
  simp
set_option maxRecDepth 100000 in
theorem lifted_OpsBrackets (os : Os) (started : os.Started) (H : Type) (enc : TypeId × Value → H) :
    ReturnsInHanded {} Try.checked os 10 .any (Rows.opsBracketsSpec.pre6 enc Try.prog Try.f10 Rows.opsBracketsRow.domain false) (Rows.opsBracketsSpec.post enc Try.prog Try.f10 false true false false) := by
  refine returnsInHanded_of_change_sized (C := Try.checked) own started (by kernel_rfl) Try.func10
    (ChangeSpec.witness6 (enc := enc) (C := Try.checked) false ⟨#[], #[.slice none 0 0, .slice none 0 0, .slice none 0 0], []⟩ 8 (by kernel_rfl) (by kernel_rfl) (by kernel_rfl) (by kernel_rfl)) ?_
  intro W base args ds gs before hval0 hW _ hsz0 _
  have hgw : GW [] W := fun _ h => nomatch h
  have hval : ∀ (j : Nat) t v, Try.f10.params[j]? = some t → args[j]? = some v → Value.okWide Try.prog W .any base t v := hval0
  have hW' := hW
  obtain ⟨p, q, hA0, hV, rfl, _, _⟩ := hW
  have hA : DataW.TrodAll enc Try.prog W 0 (fun _ => true) true Try.f10.params.toList args.toList ds p := hA0
  rw [Try.params10] at hA hval
  obtain ⟨v0, vs0, d0, ds0, p0, q0, hargs, rfl, rfl, h0, r0⟩ := trodAll_cons hA
  obtain ⟨v1, vs1, d1, ds1, p1, q1, rfl, rfl, rfl, h1, r1⟩ := trodAll_cons r0
  obtain ⟨v2, vs2, d2, ds2, p2, q2, rfl, rfl, rfl, h2, r2⟩ := trodAll_cons r1
  obtain ⟨rfl, rfl, rfl⟩ := trodAll_nil r2
  obtain rfl : args = #[v0, v1, v2] := by cases args; simp_all
  obtain ⟨rfl, rfl⟩ := trodVars_none hV
  have hall := List.all_eq_true.1 hsz0
  clear hA0 hval0 hsz0
  simp only [List.append_nil] at hW'
  have hlt0 : ∀ x ∈ p0, x.block < W.heap.size := fun x hx => hW'.lt x (by simp [hx])
  have hlt1 : ∀ x ∈ p1, x.block < W.heap.size := fun x hx => hW'.lt x (by simp [hx])
  have hlt2 : ∀ x ∈ p2, x.block < W.heap.size := fun x hx => hW'.lt x (by simp [hx])
  obtain ⟨x0, g0, w0⟩ := open_kd (k := .dat (.sl (.pair (.int .i64) (.pair (.int .i64) (.int .i64))))) (by kernel_rfl) (hval 0 46 v0 rfl rfl) h0
  obtain ⟨x1, g1, w1⟩ := open_kd (k := .dat (.sl (.pair (.int .i64) (.pair (.int .i64) (.int .i64))))) (by kernel_rfl) (hval 1 46 v1 rfl rfl) h1
  obtain ⟨x2, g2, w2⟩ := open_kd (k := .dat (.sl (.pair (.int .i64) (.pair (.int .i64) (.int .i64))))) (by kernel_rfl) (hval 2 46 v2 rfl rfl) h2
  obtain ⟨N, hN⟩ := law_OpsBrackets x0 x1 x2 w0 w1 w2
  refine (sp_keep_OpsBrackets N (fun _ => False) W (x0, x1, x2, ()) (true, ()) [v0, v1, v2] (fun _ h => h.elim) hgw ⟨v0, _, rfl, g0, ⟨v1, _, rfl, g1, ⟨v2, _, rfl, g2, rfl⟩⟩⟩ hN).mono ?_
  rintro e W' ⟨v, rfl, hg, hr⟩
  replace hg := hg.old
  have hr : v = .bool true := by simpa only [kvals, retV, Kd.val, Go.Abs.enc, RV] using hr
  subst hr
  exact ⟨_, rfl, _, _, _, [], p0 ++ (p1 ++ (p2 ++ [])), [], hW', (trodAll_cons_mk (shut_bool (show Try.prog.underlying 4 = some .bool by kernel_rfl) _) trodAll_mk0), (trodAll_cons_mk (Below.trod laidOut (by kernel_rfl) (of_decide_eq_true (by kernel_rfl)) h0 hg hlt0) (trodAll_cons_mk (Below.trod laidOut (by kernel_rfl) (of_decide_eq_true (by kernel_rfl)) h1 hg hlt1) (trodAll_cons_mk (Below.trod laidOut (by kernel_rfl) (of_decide_eq_true (by kernel_rfl)) h2 hg hlt2) trodAll_mk0))), rfl, hg.frame _, fun h => by cases h⟩

/-- The statement: whatever the arguments, the law's function returns true and leaves them as they were. -/
theorem opsBrackets_holds : Rows.OpsBracketsSaid :=
  OpenClaim.holds_of_wide 10 Try.f10 rfl rfl rfl rfl rfl rfl rfl ⟨rfl, rfl, rfl, rfl, rfl⟩ rfl rfl rfl rfl rfl (by kernel_rfl) Try.func10 (by kernel_rfl)
    (of_decide_eq_true (by kernel_rfl)) (by unfold Func.isWrapper; first | (rw [if_pos (by decide +kernel)]; kernel_rfl) | (rw [if_neg (by decide +kernel)]; exact ⟨rfl, rfl⟩))
    (fun os started H enc _ => lifted_OpsBrackets os started H enc)
end Go.Proofs.Ytfcjibfkhmnolaa
