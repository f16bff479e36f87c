/- One operator behind the other makes, at each time, what they make of what stands: the law answers true for any two operators, every history and every time. -/
import Derived.Test.YtnieamciihdfpaaGreatIncT
import Derived.Test.YtnieamciihdfpaaGreatFrame0
namespace Go.Proofs.YtnieamciihdfpaaGreat
open Go Go.ChangeShapes Go.WideShapes Go.ChangeAt Go.WideMaps Go.WideElems Go.RowKit Go.Abs Go.Bag Go.His
-- watershed/watershedkeep.IncrChain
abbrev Ks_keep_IncrChain : List Kd := [.dat (.pair (.int .i64) (.pair (.int .i64) (.int .i64))), .dat (.pair (.int .i64) (.pair (.int .i64) (.int .i64))), .dat (.sl (.pair (.sl (.int .i64)) (.sl (.pair (.int .i64) (.pair (.int .i64) (.int .i64)))))), .dat (.sl (.int .i64))]
abbrev Rk_keep_IncrChain : List Kd := [.dat (.bool)]
abbrev Rt_keep_IncrChain : Type := Dens Rk_keep_IncrChain
noncomputable def C_keep_IncrChain (_N : Nat) : Ctx := { T := [(23, ⟨.struct [(0, 3), (1, 2), (2, 2)], 3, 24, some (.pair (.int .i64) (.pair (.int .i64) (.int .i64))), [.int .i64 (0 : Int), .int .i64 (0 : Int), .int .i64 (0 : Int)], true, []⟩)], G := findE [mkQ 12 Ks_incr_One Rk_incr_One (D_incr_One _N), mkQ 9 Ks_diffs_At Rk_diffs_At (D_diffs_At _N), mkQ 17 Ks_ops_One Rk_ops_One (D_ops_One _N), mkP 10 Ks_keep_total Rk_keep_total (D_keep_total _N), mkP 11 Ks_keep_totalAt Rk_keep_totalAt (D_keep_totalAt _N), mkP 14 Ks_ref_BagsSame Rk_ref_BagsSame (D_ref_BagsSame _N)], I := findI [], N := _N, n := 85, fx := [], fl := 0, gs := [] }
noncomputable def keep_IncrChain_1 (_N : Nat) (_x1 : Int × Int × Int) (_x2 : Int × Int × Int) (_x3 : List (List Int × List (Int × Int × Int))) (_x4 : List Int) : Option Rt_keep_IncrChain :=
  ((D_incr_One _N ((_x1.1, (_x1.2.1, _x1.2.2)), _x3, ())).bind fun _y12 => (bif (_y12.2.1 != (0 : Int)) then (some (true, ())) else ((D_incr_One _N ((_x2.1, (_x2.2.1, _x2.2.2)), _y12.1, ())).bind fun _y13 => ((D_diffs_At _N (_x3, _x4, ())).bind fun _y14 => (bif (_y13.2.1 != (0 : Int)) then (some (true, ())) else (bif (_y14.2.1 != (0 : Int)) then (some (true, ())) else ((D_ops_One _N ((_x1.1, (_x1.2.1, _x1.2.2)), _y14.1, ())).bind fun _y15 => ((D_ops_One _N ((_x2.1, (_x2.2.1, _x2.2.2)), _y15.1, ())).bind fun _y16 => ((D_diffs_At _N (_y13.1, _x4, ())).bind fun _y17 => (bif (_y15.2.1 == (0 : Int)) then (bif (_y16.2.1 == (0 : Int)) then (bif (_y17.2.1 != (0 : Int)) then ((D_keep_total _N (_y14.1, ())).bind fun _y18 => ((D_keep_totalAt _N (_x3, _x4, ())).bind fun _y19 => (some ((_y18.1 == _y19.1), ())))) else ((D_ref_BagsSame _N (_y16.1, _y17.1, ())).bind fun _y20 => (bif _y20.1 then ((D_keep_total _N (_y14.1, ())).bind fun _y21 => ((D_keep_totalAt _N (_x3, _x4, ())).bind fun _y22 => (some ((_y21.1 == _y22.1), ())))) else (some (false, ()))))) else (some (false, ()))) else (some (false, ()))))))))))))
noncomputable def D_keep_IncrChain (_N : Nat) (_x : Dens Ks_keep_IncrChain) : Option Rt_keep_IncrChain := keep_IncrChain_1 _N _x.1 _x.2.1 _x.2.2.1 _x.2.2.2.1
theorem sp_keep_IncrChain (_N : Nat) : SpecD Tryz.prog [] 6 Ks_keep_IncrChain Rk_keep_IncrChain (D_keep_IncrChain _N) := mkSpD (fn := Tryz.f6) (c := bodyOf Tryz.f6) (C := C_keep_IncrChain _N)
    (a := .none)
    (by kernel_rfl) rfl (by kernel_rfl) (by kernel_rfl) ⟨rfl, by unfold TOk; kernel_rfl, gOk_of rfl rfl (List.forall_mem_cons.2 ⟨qen_incr_One _N, (List.forall_mem_cons.2 ⟨qen_diffs_At _N, (List.forall_mem_cons.2 ⟨qen_ops_One _N, (List.forall_mem_cons.2 ⟨en_keep_total _N, (List.forall_mem_cons.2 ⟨en_keep_totalAt _N, (List.forall_mem_cons.2 ⟨en_ref_BagsSame _N, (List.forall_mem_nil _)⟩)⟩)⟩)⟩)⟩)⟩), iOk_of rfl rfl (List.forall_mem_nil _), rfl⟩ (fun _x => by kernel_rfl)
theorem law_IncrChain (op next : Int × Int × Int) (h : List Df) (t : List Int) (_wo : wfS (.pair (.int .i64) (.pair (.int .i64) (.int .i64))) op) (_wn : wfS (.pair (.int .i64) (.pair (.int .i64) (.int .i64))) next) (_wh : wfS (.sl (.pair (.sl (.int .i64)) (.sl (.pair (.int .i64) (.pair (.int .i64) (.int .i64)))))) h) (_wt : wfS (.sl (.int .i64)) t) (hz : h.length * 48 ≤ reachBytes) :
    ∃ N, D_keep_IncrChain N (op, next, h, t, ()) = some (true, ()) := by
  have hw : h.length < 4611686018427387903 - 1000000 := by unfold reachBytes at hz; omega
  obtain ⟨N, hN⟩ : ∃ N, N = h.length + 1000000 := ⟨_, rfl⟩
  refine ⟨N, ?_⟩
  obtain ⟨k, A, B⟩ := op
  obtain ⟨k2, A2, B2⟩ := next
  obtain ⟨l, e, a1, a2⟩ := incOne_eq (N := N) (by omega) k A B (h := h) (by omega) (by omega)
  simp only [D_keep_IncrChain, keep_IncrChain_1, a1, Option.bind_some]
  rcases a2 with ⟨rfl, I⟩ | ⟨he, -⟩
  case inr => rw [bne_iff_ne.2 he, cond_true]
  rw [bne_self_eq_false, cond_false]
  have hh := I.his.len
  have hl := I.out.len
  obtain ⟨m, e2, m1, m2⟩ := incOne_eq (N := N) (by omega) k2 A2 B2 (h := l) (by omega) (by omega)
  obtain ⟨a, e, b1, b2⟩ := At_eq (N := N) (by omega) (h := h) (by omega) (by omega) t
  simp only [m1, b1, Option.bind_some]
  rcases m2 with ⟨rfl, J⟩ | ⟨he, -⟩
  case inr => rw [bne_iff_ne.2 he, cond_true]
  rw [bne_self_eq_false, cond_false]
  by_cases q : e = 0
  case neg => rw [bne_iff_ne.2 q, cond_true]
  subst q
  obtain ⟨HO, ia, la⟩ := b2 rfl
  rw [bne_self_eq_false, cond_false]
  have hm := J.out.len
  have hone : ∀ d ∈ l, d.1.length = t.length := fun d hd => by
    cases h with
    | nil => rw [I.nil rfl] at hd; cases hd
    | cons y g => rw [I.one d hd y (by simp)]; exact HO.one y (by simp)
  obtain ⟨a', s1, s2, s3⟩ := I.st t HO.tt HO.one
  obtain rfl := s1.uniq ia
  obtain ⟨b, o1, o2, o3⟩ := opsOne_eq (N := N) (by omega) k A B I.kind.1 I.kind.2 ia la
  obtain ⟨c, p1, p2, p3⟩ := opsOne_eq (N := N) (by omega) k2 A2 B2 J.kind.1 J.kind.2 o2 (by omega)
  obtain ⟨b', r1, r2, r3⟩ := J.st t HO.tt hone
  have hbb : b = b' := o2.same r1 fun z => (s3 z).symm
  subst hbb
  obtain ⟨d, y, d1, d2⟩ := At_eq (N := N) (by omega) (h := m) (by omega) (by omega) t
  have htot : w (tot a') = w (tot (stL h t)) := tot_cg fun z => ia.amt_cg z
  rw [o1, Option.bind_some, p1, Option.bind_some, d1, Option.bind_some, beq_self_eq_true, cond_true, cond_true]
  have hfin : (D_keep_total N (a', ())).bind (fun y18 => (D_keep_totalAt N (h, t, ())).bind fun y19 => (some ((y18.1 == y19.1), ()) : Option (Bool × Unit))) = some (true, ()) := by
    rw [total_eq (by omega) (by omega), Option.bind_some, totalAt_eq (N := N) (by omega) (by omega) (fun d hd => by have := I.his.row hd; omega) (by omega), Option.bind_some, sel_leq HO]
    simp only [htot, beq_self_eq_true]
  by_cases q : y = 0
  case neg => rw [bne_iff_ne.2 q, cond_true]; exact hfin
  subst q
  obtain ⟨-, id, -⟩ := d2 rfl
  have hcd : c = d := p2.same id fun z => (r3 z).symm
  subst hcd
  rw [bne_self_eq_false, cond_false, Same_eq (by show c.length < N; omega) (by show c.length ≤ _; omega), Option.bind_some, d_true rfl, cond_true]
  exact hfin
set_option maxRecDepth 100000 in
theorem lifted_IncrChain (os : Os) (started : os.Started) (H : Type) (enc : TypeId × Value → H) :
    ReturnsInHanded {} Tryz.checked os 6 .any (Rows.incrChainSpec.pre6 enc Tryz.prog Tryz.f6 Rows.incrChainRow.domain false) (Rows.incrChainSpec.post enc Tryz.prog Tryz.f6 false true false false) := by
  refine returnsInHanded_of_change_sized (C := Tryz.checked) own started (by kernel_rfl) Tryz.func6
    (ChangeSpec.witness6 (enc := enc) (C := Tryz.checked) false ⟨#[], #[.agg #[.int .i64 0, .int .i64 0, .int .i64 0], .agg #[.int .i64 0, .int .i64 0, .int .i64 0], .slice none 0 0, .slice none 0 0], []⟩ 8 (by kernel_rfl) (by kernel_rfl) (by kernel_rfl) (by kernel_rfl)) ?_
  intro W base args ds gs before hval0 hW _ hsz0 _
  have hgw : GW [] W := fun _ h => nomatch h
  have hval : ∀ (j : Nat) t v, Tryz.f6.params[j]? = some t → args[j]? = some v → Value.okWide Tryz.prog W .any base t v := hval0
  have hW' := hW
  obtain ⟨p, q, hA0, hV, rfl, _, _⟩ := hW
  have hA : DataW.TrodAll enc Tryz.prog W 0 (fun _ => true) true Tryz.f6.params.toList args.toList ds p := hA0
  rw [Tryz.params6] at hA hval
  obtain ⟨v0, vs0, d0, ds0, p0, q0, hargs, rfl, rfl, h0, r0⟩ := trodAll_cons hA
  obtain ⟨v1, vs1, d1, ds1, p1, q1, rfl, rfl, rfl, h1, r1⟩ := trodAll_cons r0
  obtain ⟨v2, vs2, d2, ds2, p2, q2, rfl, rfl, rfl, h2, r2⟩ := trodAll_cons r1
  obtain ⟨v3, vs3, d3, ds3, p3, q3, rfl, rfl, rfl, h3, r3⟩ := trodAll_cons r2
  obtain ⟨rfl, rfl, rfl⟩ := trodAll_nil r3
  obtain rfl : args = #[v0, v1, v2, v3] := by cases args; simp_all
  obtain ⟨rfl, rfl⟩ := trodVars_none hV
  have hall := List.all_eq_true.1 hsz0
  clear hA0 hval0 hsz0
  simp only [List.append_nil] at hW'
  have hlt0 : ∀ x ∈ p0, x.block < W.heap.size := fun x hx => hW'.lt x (by simp [hx])
  have hlt1 : ∀ x ∈ p1, x.block < W.heap.size := fun x hx => hW'.lt x (by simp [hx])
  have hlt2 : ∀ x ∈ p2, x.block < W.heap.size := fun x hx => hW'.lt x (by simp [hx])
  have hlt3 : ∀ x ∈ p3, x.block < W.heap.size := fun x hx => hW'.lt x (by simp [hx])
  obtain ⟨x0, g0, w0⟩ := open_kd (k := .dat (.pair (.int .i64) (.pair (.int .i64) (.int .i64)))) (by kernel_rfl) (hval 0 23 v0 rfl rfl) h0
  obtain ⟨x1, g1, w1⟩ := open_kd (k := .dat (.pair (.int .i64) (.pair (.int .i64) (.int .i64)))) (by kernel_rfl) (hval 1 23 v1 rfl rfl) h1
  obtain ⟨x2, g2, w2⟩ := open_kd (k := .dat (.sl (.pair (.sl (.int .i64)) (.sl (.pair (.int .i64) (.pair (.int .i64) (.int .i64))))))) (by kernel_rfl) (hval 2 24 v2 rfl rfl) h2
  obtain ⟨x3, g3, w3⟩ := open_kd (k := .dat (.sl (.int .i64))) (by kernel_rfl) (hval 3 25 v3 rfl rfl) h3
  have z2 : x2.length * Tryz.prog.bytesOf 28 ≤ reachBytes := open_room (t := 24) (r1 := []) (by kernel_rfl) g2 h2 fun n hn => by
    refine of_decide_eq_true (hall n ?_)
    rw [Tryz.params6]
    change n ∈ DataW.weightsEach Tryz.prog [23, 23, 24, 25] [d0, d1, d2, d3]
    simp only [DataW.weightsEach]
    exact List.mem_append_right _ (List.mem_append_right _ (List.mem_append_left _ (by simpa using hn)))
  obtain ⟨N, hN⟩ := law_IncrChain x0 x1 x2 x3 w0 w1 w2 w3 (by simpa only [show Tryz.prog.bytesOf 28 = 48 by kernel_rfl] using z2)
  refine (sp_keep_IncrChain N (fun _ => False) W (x0, x1, x2, x3, ()) (true, ()) [v0, v1, v2, v3] (fun _ h => h.elim) hgw ⟨v0, _, rfl, g0, ⟨v1, _, rfl, g1, ⟨v2, _, rfl, g2, ⟨v3, _, rfl, g3, rfl⟩⟩⟩⟩ hN).mono ?_
  rintro e W' ⟨v, rfl, hg, hr⟩
  replace hg := hg.old
  have hr : v = .bool true := by simpa only [kvals, retV, Kd.val, Go.Abs.enc, RV] using hr
  subst hr
  exact ⟨_, rfl, _, _, _, [], p0 ++ (p1 ++ (p2 ++ (p3 ++ []))), [], hW', (trodAll_cons_mk (shut_bool (show Tryz.prog.underlying 4 = some .bool by kernel_rfl) _) trodAll_mk0), (trodAll_cons_mk (Below.trod laidOut (by kernel_rfl) (of_decide_eq_true (by kernel_rfl)) h0 hg hlt0) (trodAll_cons_mk (Below.trod laidOut (by kernel_rfl) (of_decide_eq_true (by kernel_rfl)) h1 hg hlt1) (trodAll_cons_mk (Below.trod laidOut (by kernel_rfl) (of_decide_eq_true (by kernel_rfl)) h2 hg hlt2) (trodAll_cons_mk (Below.trod laidOut (by kernel_rfl) (of_decide_eq_true (by kernel_rfl)) h3 hg hlt3) trodAll_mk0)))), rfl, hg.frame _, fun h => by cases h⟩

/-- The statement: whatever the arguments, the law's function returns true and leaves them as they were. -/
theorem incrChain_holds : Rows.IncrChainSaid :=
  OpenClaim.holds_of_wide 6 Tryz.f6 rfl rfl rfl rfl rfl rfl rfl ⟨rfl, rfl, rfl, rfl, rfl⟩ rfl rfl rfl rfl rfl (by kernel_rfl) Tryz.func6 (by kernel_rfl)
    (of_decide_eq_true (by kernel_rfl)) (by unfold Func.isWrapper; first | (rw [if_pos (by decide +kernel)]; kernel_rfl) | (rw [if_neg (by decide +kernel)]; exact ⟨rfl, rfl⟩))
    (fun os started H enc _ => lifted_IncrChain os started H enc)
end Go.Proofs.YtnieamciihdfpaaGreat
