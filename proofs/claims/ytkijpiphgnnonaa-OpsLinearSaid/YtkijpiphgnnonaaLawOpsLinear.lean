/- Of a sum an operator that works row by row makes the sum of what it makes of each: the law answers true for every operator and all lists of rows. No condition. -/
import Derived.Test.YtkijpiphgnnonaaOpsS
import Derived.Test.YtkijpiphgnnonaaFrame0
namespace Go.Proofs.Ytkijpiphgnnonaa
open Go Go.ChangeShapes Go.WideShapes Go.ChangeAt Go.WideMaps Go.WideElems Go.RowKit Go.Abs Go.Bag
-- watershed/watershedkeep.OpsLinear
abbrev Ks_keep_OpsLinear : List Kd := [.dat (.pair (.int .i64) (.pair (.int .i64) (.int .i64))), .dat (.sl (.pair (.int .i64) (.pair (.int .i64) (.int .i64)))), .dat (.sl (.pair (.int .i64) (.pair (.int .i64) (.int .i64))))]
abbrev Rk_keep_OpsLinear : List Kd := [.dat (.bool)]
abbrev Rt_keep_OpsLinear : Type := Dens Rk_keep_OpsLinear
noncomputable def C_keep_OpsLinear (_N : Nat) : Ctx := { T := [(3, ⟨.int .i64, 1, 8, some (.int .i64), [.int .i64 (0 : Int)], false, []⟩), (40, ⟨.struct [(0, 3), (1, 2), (2, 2)], 3, 24, some (.pair (.int .i64) (.pair (.int .i64) (.int .i64))), [.int .i64 (0 : Int), .int .i64 (0 : Int), .int .i64 (0 : Int)], true, []⟩)], G := findE [mkQ 19 Ks_bags_Plus Rk_bags_Plus (D_bags_Plus _N), mkP 28 Ks_ops_Linear Rk_ops_Linear (D_ops_Linear _N), mkQ 24 Ks_ops_One Rk_ops_One (D_ops_One _N), mkP 16 Ks_ref_BagsSame Rk_ref_BagsSame (D_ref_BagsSame _N)], I := findI [], N := _N, n := 80, fx := [], fl := 0, gs := [] }
noncomputable def keep_OpsLinear_1 (_N : Nat) (_x1 : Int × Int × Int) (_x2 : List (Int × Int × Int)) (_x3 : List (Int × Int × Int)) : Option Rt_keep_OpsLinear :=
  ((D_bags_Plus _N (_x2, _x3, ())).bind fun _y8 => (bif (_y8.2.1 != (0 : Int)) then (some (true, ())) else (bif (decide (_x1.1 < (1 : Int))) then (some (true, ())) else (bif (decide (_x1.1 > (4 : Int))) then (some (true, ())) else ((D_ops_Linear _N ((_x1.1, (_x1.2.1, _x1.2.2)), ())).bind fun _y9 => (bif (!_y9.1) then (some (false, ())) else ((D_ops_One _N ((_x1.1, (_x1.2.1, _x1.2.2)), _y8.1, ())).bind fun _y10 => ((D_ops_One _N ((_x1.1, (_x1.2.1, _x1.2.2)), _x2, ())).bind fun _y11 => ((D_ops_One _N ((_x1.1, (_x1.2.1, _x1.2.2)), _x3, ())).bind fun _y12 => ((D_bags_Plus _N (_y11.1, _y12.1, ())).bind fun _y13 => (bif (_y10.2.1 == (0 : Int)) then (bif (_y11.2.1 == (0 : Int)) then (bif (_y12.2.1 == (0 : Int)) then (bif (_y13.2.1 != (0 : Int)) then (some (true, ())) else ((D_ref_BagsSame _N (_y10.1, _y13.1, ())).bind fun _y14 => (some (_y14.1, ())))) else (some (false, ()))) else (some (false, ()))) else (some (false, ())))))))))))))
noncomputable def D_keep_OpsLinear (_N : Nat) (_x : Dens Ks_keep_OpsLinear) : Option Rt_keep_OpsLinear := keep_OpsLinear_1 _N _x.1 _x.2.1 _x.2.2.1
theorem sp_keep_OpsLinear (_N : Nat) : SpecD Try.prog [] 10 Ks_keep_OpsLinear Rk_keep_OpsLinear (D_keep_OpsLinear _N) := mkSpD (fn := Try.f10) (c := bodyOf Try.f10) (C := C_keep_OpsLinear _N)
    (a := .none)
    (by kernel_rfl) rfl (by kernel_rfl) (by kernel_rfl) ⟨rfl, by unfold TOk; kernel_rfl, gOk_of rfl rfl (List.forall_mem_cons.2 ⟨qen_bags_Plus _N, (List.forall_mem_cons.2 ⟨en_ops_Linear _N, (List.forall_mem_cons.2 ⟨qen_ops_One _N, (List.forall_mem_cons.2 ⟨en_ref_BagsSame _N, (List.forall_mem_nil _)⟩)⟩)⟩)⟩), iOk_of rfl rfl (List.forall_mem_nil _), rfl⟩ (fun _x => by kernel_rfl)
theorem en_keep_OpsLinear (_N : Nat) : EntOk Try.prog [] (mkP 10 Ks_keep_OpsLinear Rk_keep_OpsLinear (D_keep_OpsLinear _N)) := entP ⟨Try.f10, bodyOf Try.f10, by kernel_rfl, by kernel_rfl, rfl⟩ (by kernel_rfl) (sp_keep_OpsLinear _N)
theorem Linear_eq {N : Nat} (k A B : Int) (hk : 1 ≤ k) (hk4 : k ≤ 4) : D_ops_Linear N ((k, A, B), ()) = some (true, ()) := by
  simp only [D_ops_Linear, ops_Linear_1, D_ops_linear_h, ops_linear_h_1]
  rcases (by omega : k = 1 ∨ k = 2 ∨ k = 3 ∨ k = 4) with rfl | rfl | rfl | rfl <;> rfl
theorem law_OpsLinear (op : Int × Int × Int) (a b : List Row) (_wo : wfS (.pair (.int .i64) (.pair (.int .i64) (.int .i64))) op) (_wa : wfS (.sl (.pair (.int .i64) (.pair (.int .i64) (.int .i64)))) a) (_wb : wfS (.sl (.pair (.int .i64) (.pair (.int .i64) (.int .i64)))) b) :
    ∃ N, D_keep_OpsLinear N (op, a, b, ()) = some (true, ()) := by
  refine ⟨1000, ?_⟩
  obtain ⟨k, A, B⟩ := op
  have hN : 1000 ≤ 1000 := Nat.le_refl _
  obtain ⟨ab, e, h1, t1⟩ := Plus_eq hN a b
  simp only [D_keep_OpsLinear, keep_OpsLinear_1, h1, Option.bind_some]
  by_cases q1 : e = 0
  case neg => rw [show (e != 0) = true from bne_iff_ne.2 q1]; rfl
  subst q1
  obtain ⟨l1, l2, i1⟩ := t1.ok rfl
  rw [bne_self_eq_false, cond_false]
  by_cases hk : k < 1
  · rw [d_true hk, cond_true]
  rw [d_false hk, cond_false]
  by_cases hk4 : k > 4
  · rw [d_true hk4, cond_true]
  rw [d_false hk4, cond_false]
  obtain ⟨x, cx, o1, p1⟩ := One_lin hN k A B (by omega) (by omega) ab
  obtain ⟨y, cy, o2, p2⟩ := One_lin hN k A B (by omega) (by omega) a
  obtain ⟨z, cz, o3, p3⟩ := One_lin hN k A B (by omega) (by omega) b
  obtain ⟨s, h, o4, p4⟩ := Plus_eq hN y z
  rcases p1 with ⟨-, rfl, hx, ix⟩ | p1
  case inr => omega
  rcases p2 with ⟨-, rfl, hy, iy⟩ | p2
  case inr => omega
  rcases p3 with ⟨-, rfl, hz, iz⟩ | p3
  case inr => omega
  simp only [Linear_eq (N := 1000) k A B (by omega) (by omega), o1, o2, o3, o4, Option.bind_some, Bool.not_true, cond_false, beq_self_eq_true, cond_true]
  by_cases q : h = 0
  · obtain ⟨hs, -, is⟩ := p4.ok q
    have hsame : x = s := ix.same is fun e => by
      have c1 : Cg (amt (ab.filterMap (rowF k A B)) e) (amt ((a ++ b).filterMap (rowF k A B)) e) := lin_cg k A B (fun e => (i1.amt_cg e).trans (.of_eq (by rw [amt_append]; omega))) e
      rw [List.filterMap_append, amt_append] at c1
      exact c1.trans (((iy.amt_cg e).add (iz.amt_cg e)).symm.trans (.of_eq (by omega)))
    rw [Same_eq (by omega) (by omega), q, hsame]
    simp
  · rw [show (h != 0) = true from bne_iff_ne.2 q]; rfl
set_option maxRecDepth 100000 in
theorem lifted_OpsLinear (os : Os) (started : os.Started) (H : Type) (enc : TypeId × Value → H) :
    ReturnsInHanded {} Try.checked os 10 .any (Rows.opsLinearSpec.pre6 enc Try.prog Try.f10 Rows.opsLinearRow.domain false) (Rows.opsLinearSpec.post enc Try.prog Try.f10 false true false false) := by
  refine returnsInHanded_of_change_sized (C := Try.checked) own started (by kernel_rfl) Try.func10
    (ChangeSpec.witness6 (enc := enc) (C := Try.checked) false ⟨#[], #[.agg #[.int .i64 0, .int .i64 0, .int .i64 0], .slice none 0 0, .slice none 0 0], []⟩ 8 (by kernel_rfl) (by kernel_rfl) (by kernel_rfl) (by kernel_rfl)) ?_
  intro W base args ds gs before hval0 hW _ hsz0 _
  have hgw : GW [] W := fun _ h => nomatch h
  have hval : ∀ (j : Nat) t v, Try.f10.params[j]? = some t → args[j]? = some v → Value.okWide Try.prog W .any base t v := hval0
  have hW' := hW
  obtain ⟨p, q, hA0, hV, rfl, _, _⟩ := hW
  have hA : DataW.TrodAll enc Try.prog W 0 (fun _ => true) true Try.f10.params.toList args.toList ds p := hA0
  rw [Try.params10] at hA hval
  obtain ⟨v0, vs0, d0, ds0, p0, q0, hargs, rfl, rfl, h0, r0⟩ := trodAll_cons hA
  obtain ⟨v1, vs1, d1, ds1, p1, q1, rfl, rfl, rfl, h1, r1⟩ := trodAll_cons r0
  obtain ⟨v2, vs2, d2, ds2, p2, q2, rfl, rfl, rfl, h2, r2⟩ := trodAll_cons r1
  obtain ⟨rfl, rfl, rfl⟩ := trodAll_nil r2
  obtain rfl : args = #[v0, v1, v2] := by cases args; simp_all
  obtain ⟨rfl, rfl⟩ := trodVars_none hV
  have hall := List.all_eq_true.1 hsz0
  clear hA0 hval0 hsz0
  simp only [List.append_nil] at hW'
  have hlt0 : ∀ x ∈ p0, x.block < W.heap.size := fun x hx => hW'.lt x (by simp [hx])
  have hlt1 : ∀ x ∈ p1, x.block < W.heap.size := fun x hx => hW'.lt x (by simp [hx])
  have hlt2 : ∀ x ∈ p2, x.block < W.heap.size := fun x hx => hW'.lt x (by simp [hx])
  obtain ⟨x0, g0, w0⟩ := open_kd (k := .dat (.pair (.int .i64) (.pair (.int .i64) (.int .i64)))) (by kernel_rfl) (hval 0 40 v0 rfl rfl) h0
  obtain ⟨x1, g1, w1⟩ := open_kd (k := .dat (.sl (.pair (.int .i64) (.pair (.int .i64) (.int .i64))))) (by kernel_rfl) (hval 1 22 v1 rfl rfl) h1
  obtain ⟨x2, g2, w2⟩ := open_kd (k := .dat (.sl (.pair (.int .i64) (.pair (.int .i64) (.int .i64))))) (by kernel_rfl) (hval 2 22 v2 rfl rfl) h2
  obtain ⟨N, hN⟩ := law_OpsLinear x0 x1 x2 w0 w1 w2
  refine (sp_keep_OpsLinear N (fun _ => False) W (x0, x1, x2, ()) (true, ()) [v0, v1, v2] (fun _ h => h.elim) hgw ⟨v0, _, rfl, g0, ⟨v1, _, rfl, g1, ⟨v2, _, rfl, g2, rfl⟩⟩⟩ hN).mono ?_
  rintro e W' ⟨v, rfl, hg, hr⟩
  replace hg := hg.old
  have hr : v = .bool true := by simpa only [kvals, retV, Kd.val, Go.Abs.enc, RV] using hr
  subst hr
  exact ⟨_, rfl, _, _, _, [], p0 ++ (p1 ++ (p2 ++ [])), [], hW', (trodAll_cons_mk (shut_bool (show Try.prog.underlying 4 = some .bool by kernel_rfl) _) trodAll_mk0), (trodAll_cons_mk (Below.trod laidOut (by kernel_rfl) (of_decide_eq_true (by kernel_rfl)) h0 hg hlt0) (trodAll_cons_mk (Below.trod laidOut (by kernel_rfl) (of_decide_eq_true (by kernel_rfl)) h1 hg hlt1) (trodAll_cons_mk (Below.trod laidOut (by kernel_rfl) (of_decide_eq_true (by kernel_rfl)) h2 hg hlt2) trodAll_mk0))), rfl, hg.frame _, fun h => by cases h⟩

/-- The statement: whatever the arguments, the law's function returns true and leaves them as they were. -/
theorem opsLinear_holds : Rows.OpsLinearSaid :=
  OpenClaim.holds_of_wide 10 Try.f10 rfl rfl rfl rfl rfl rfl rfl ⟨rfl, rfl, rfl, rfl, rfl⟩ rfl rfl rfl rfl rfl (by kernel_rfl) Try.func10 (by kernel_rfl)
    (of_decide_eq_true (by kernel_rfl)) (by unfold Func.isWrapper; first | (rw [if_pos (by decide +kernel)]; kernel_rfl) | (rw [if_neg (by decide +kernel)]; exact ⟨rfl, rfl⟩))
    (fun os started H enc _ => lifted_OpsLinear os started H enc)
end Go.Proofs.Ytkijpiphgnnonaa
