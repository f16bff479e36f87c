/- What stands of the outcome is what the operator makes of what stands: the law answers true for every operator, every history and every time. -/
import Derived.Test.YtnieamciihdfpaaGreatIncT
import Derived.Test.YtnieamciihdfpaaGreatFrame0
namespace Go.Proofs.YtnieamciihdfpaaGreat
open Go Go.ChangeShapes Go.WideShapes Go.ChangeAt Go.WideMaps Go.WideElems Go.RowKit Go.Abs Go.Bag Go.His
-- watershed/watershedkeep.IncrRight
abbrev Ks_keep_IncrRight : List Kd := [.dat (.pair (.int .i64) (.pair (.int .i64) (.int .i64))), .dat (.sl (.pair (.sl (.int .i64)) (.sl (.pair (.int .i64) (.pair (.int .i64) (.int .i64)))))), .dat (.sl (.int .i64))]
abbrev Rk_keep_IncrRight : List Kd := [.dat (.bool)]
abbrev Rt_keep_IncrRight : Type := Dens Rk_keep_IncrRight
noncomputable def C_keep_IncrRight (_N : Nat) : Ctx := { T := [(23, ⟨.struct [(0, 3), (1, 2), (2, 2)], 3, 24, some (.pair (.int .i64) (.pair (.int .i64) (.int .i64))), [.int .i64 (0 : Int), .int .i64 (0 : Int), .int .i64 (0 : Int)], true, []⟩), (24, ⟨.slice 28, 1, 24, some (.sl (.pair (.sl (.int .i64)) (.sl (.pair (.int .i64) (.pair (.int .i64) (.int .i64)))))), [.nil], false, []⟩)], G := findE [mkQ 12 Ks_incr_One Rk_incr_One (D_incr_One _N), mkQ 9 Ks_diffs_At Rk_diffs_At (D_diffs_At _N), mkQ 17 Ks_ops_One Rk_ops_One (D_ops_One _N), mkP 14 Ks_ref_BagsSame Rk_ref_BagsSame (D_ref_BagsSame _N), mkP 10 Ks_keep_total Rk_keep_total (D_keep_total _N), mkP 11 Ks_keep_totalAt Rk_keep_totalAt (D_keep_totalAt _N)], I := findI [], N := _N, n := 65, fx := [], fl := 0, gs := [] }
noncomputable def keep_IncrRight_1 (_N : Nat) (_x1 : Int × Int × Int) (_x2 : List (List Int × List (Int × Int × Int))) (_x3 : List Int) : Option Rt_keep_IncrRight :=
  ((D_incr_One _N ((_x1.1, (_x1.2.1, _x1.2.2)), _x2, ())).bind fun _y8 => (bif (_y8.2.1 != (0 : Int)) then (some (((_y8.1.length : Int) == (0 : Int)), ())) else ((D_diffs_At _N (_x2, _x3, ())).bind fun _y9 => ((D_diffs_At _N (_y8.1, _x3, ())).bind fun _y10 => (bif (_y9.2.1 != (0 : Int)) then (some ((_y9.2.1 != (0 : Int)), ())) else (bif (_y10.2.1 != (0 : Int)) then (some ((_y9.2.1 != (0 : Int)), ())) else ((D_ops_One _N ((_x1.1, (_x1.2.1, _x1.2.2)), _y9.1, ())).bind fun _y11 => (bif (_y11.2.1 == (0 : Int)) then ((D_ref_BagsSame _N (_y10.1, _y11.1, ())).bind fun _y12 => (bif _y12.1 then ((D_keep_total _N (_y9.1, ())).bind fun _y13 => ((D_keep_totalAt _N (_x2, _x3, ())).bind fun _y14 => (some ((_y13.1 == _y14.1), ())))) else (some (false, ())))) else (some (false, ()))))))))))
noncomputable def D_keep_IncrRight (_N : Nat) (_x : Dens Ks_keep_IncrRight) : Option Rt_keep_IncrRight := keep_IncrRight_1 _N _x.1 _x.2.1 _x.2.2.1
theorem sp_keep_IncrRight (_N : Nat) : SpecD Tryz.prog [] 5 Ks_keep_IncrRight Rk_keep_IncrRight (D_keep_IncrRight _N) := mkSpD (fn := Tryz.f5) (c := bodyOf Tryz.f5) (C := C_keep_IncrRight _N)
    (a := .none)
    (by kernel_rfl) rfl (by kernel_rfl) (by kernel_rfl) ⟨rfl, by unfold TOk; kernel_rfl, gOk_of rfl rfl (List.forall_mem_cons.2 ⟨qen_incr_One _N, (List.forall_mem_cons.2 ⟨qen_diffs_At _N, (List.forall_mem_cons.2 ⟨qen_ops_One _N, (List.forall_mem_cons.2 ⟨en_ref_BagsSame _N, (List.forall_mem_cons.2 ⟨en_keep_total _N, (List.forall_mem_cons.2 ⟨en_keep_totalAt _N, (List.forall_mem_nil _)⟩)⟩)⟩)⟩)⟩)⟩), iOk_of rfl rfl (List.forall_mem_nil _), rfl⟩ (fun _x => by kernel_rfl)
theorem law_IncrRight (op : Int × Int × Int) (h : List Df) (t : List Int) (_wo : wfS (.pair (.int .i64) (.pair (.int .i64) (.int .i64))) op) (_wh : wfS (.sl (.pair (.sl (.int .i64)) (.sl (.pair (.int .i64) (.pair (.int .i64) (.int .i64)))))) h) (_wt : wfS (.sl (.int .i64)) t) (hz : h.length * 48 ≤ reachBytes) :
    ∃ N, D_keep_IncrRight N (op, h, t, ()) = some (true, ()) := by
  have hw : h.length < 4611686018427387903 - 1000000 := by unfold reachBytes at hz; omega
  obtain ⟨N, hN⟩ : ∃ N, N = h.length + 1000000 := ⟨_, rfl⟩
  refine ⟨N, ?_⟩
  obtain ⟨k, A, B⟩ := op
  obtain ⟨l, e, a1, a2⟩ := incOne_eq (N := N) (by omega) k A B (h := h) (by omega) (by omega)
  simp only [D_keep_IncrRight, keep_IncrRight_1, a1, Option.bind_some]
  rcases a2 with ⟨rfl, I⟩ | ⟨he, rfl⟩
  case inr => rw [bne_iff_ne.2 he, cond_true]; rfl
  rw [bne_self_eq_false, cond_false]
  have hh := I.his.len
  have hl := I.out.len
  obtain ⟨a, e, b1, b2⟩ := At_eq (N := N) (by omega) (h := h) (by omega) (by omega) t
  obtain ⟨b, x, c1, c2⟩ := At_eq (N := N) (by omega) (h := l) (by omega) (by omega) t
  simp only [b1, c1, Option.bind_some]
  by_cases q : e = 0
  case neg => rw [bne_iff_ne.2 q, cond_true]
  subst q
  obtain ⟨HO, ia, la⟩ := b2 rfl
  rw [bne_self_eq_false, cond_false]
  have hone : ∀ d ∈ l, d.1.length = t.length := fun d hd => by
    cases h with
    | nil => rw [I.nil rfl] at hd; cases hd
    | cons y g => rw [I.one d hd y (by simp)]; exact HO.one y (by simp)
  obtain ⟨b', c3, c4, c5⟩ := At_ok (N := N) (by omega) I.out HO.tt hone (by omega)
  rw [c1] at c3
  simp only [Option.some.injEq, Prod.mk.injEq, and_true] at c3
  obtain ⟨rfl, rfl⟩ := c3
  rw [bne_self_eq_false, cond_false]
  obtain ⟨a', s1, s2, s3⟩ := I.st t HO.tt HO.one
  obtain rfl := s1.uniq ia
  obtain ⟨c, o1, o2, o3⟩ := opsOne_eq (N := N) (by omega) k A B I.kind.1 I.kind.2 ia la
  have hbc : b = c := c4.same o2 s3
  subst hbc
  have htot : w (tot a') = w (tot (stL h t)) := tot_cg fun z => ia.amt_cg z
  rw [o1, Option.bind_some, beq_self_eq_true, cond_true, Same_eq (by omega) (by omega), Option.bind_some, d_true rfl, cond_true, total_eq (by omega) (by omega), Option.bind_some, totalAt_eq (N := N) (by omega) (by omega) (fun d hd => by have := I.his.row hd; omega) (by omega), Option.bind_some, sel_leq HO]
  simp only [htot, beq_self_eq_true]
set_option maxRecDepth 100000 in
theorem lifted_IncrRight (os : Os) (started : os.Started) (H : Type) (enc : TypeId × Value → H) :
    ReturnsInHanded {} Tryz.checked os 5 .any (Rows.incrRightSpec.pre6 enc Tryz.prog Tryz.f5 Rows.incrRightRow.domain false) (Rows.incrRightSpec.post enc Tryz.prog Tryz.f5 false true false false) := by
  refine returnsInHanded_of_change_sized (C := Tryz.checked) own started (by kernel_rfl) Tryz.func5
    (ChangeSpec.witness6 (enc := enc) (C := Tryz.checked) false ⟨#[], #[.agg #[.int .i64 0, .int .i64 0, .int .i64 0], .slice none 0 0, .slice none 0 0], []⟩ 8 (by kernel_rfl) (by kernel_rfl) (by kernel_rfl) (by kernel_rfl)) ?_
  intro W base args ds gs before hval0 hW _ hsz0 _
  have hgw : GW [] W := fun _ h => nomatch h
  have hval : ∀ (j : Nat) t v, Tryz.f5.params[j]? = some t → args[j]? = some v → Value.okWide Tryz.prog W .any base t v := hval0
  have hW' := hW
  obtain ⟨p, q, hA0, hV, rfl, _, _⟩ := hW
  have hA : DataW.TrodAll enc Tryz.prog W 0 (fun _ => true) true Tryz.f5.params.toList args.toList ds p := hA0
  rw [Tryz.params5] at hA hval
  obtain ⟨v0, vs0, d0, ds0, p0, q0, hargs, rfl, rfl, h0, r0⟩ := trodAll_cons hA
  obtain ⟨v1, vs1, d1, ds1, p1, q1, rfl, rfl, rfl, h1, r1⟩ := trodAll_cons r0
  obtain ⟨v2, vs2, d2, ds2, p2, q2, rfl, rfl, rfl, h2, r2⟩ := trodAll_cons r1
  obtain ⟨rfl, rfl, rfl⟩ := trodAll_nil r2
  obtain rfl : args = #[v0, v1, v2] := by cases args; simp_all
  obtain ⟨rfl, rfl⟩ := trodVars_none hV
  have hall := List.all_eq_true.1 hsz0
  clear hA0 hval0 hsz0
  simp only [List.append_nil] at hW'
  have hlt0 : ∀ x ∈ p0, x.block < W.heap.size := fun x hx => hW'.lt x (by simp [hx])
  have hlt1 : ∀ x ∈ p1, x.block < W.heap.size := fun x hx => hW'.lt x (by simp [hx])
  have hlt2 : ∀ x ∈ p2, x.block < W.heap.size := fun x hx => hW'.lt x (by simp [hx])
  obtain ⟨x0, g0, w0⟩ := open_kd (k := .dat (.pair (.int .i64) (.pair (.int .i64) (.int .i64)))) (by kernel_rfl) (hval 0 23 v0 rfl rfl) h0
  obtain ⟨x1, g1, w1⟩ := open_kd (k := .dat (.sl (.pair (.sl (.int .i64)) (.sl (.pair (.int .i64) (.pair (.int .i64) (.int .i64))))))) (by kernel_rfl) (hval 1 24 v1 rfl rfl) h1
  obtain ⟨x2, g2, w2⟩ := open_kd (k := .dat (.sl (.int .i64))) (by kernel_rfl) (hval 2 25 v2 rfl rfl) h2
  have z1 : x1.length * Tryz.prog.bytesOf 28 ≤ reachBytes := open_room (t := 24) (r1 := []) (by kernel_rfl) g1 h1 fun n hn => by
    refine of_decide_eq_true (hall n ?_)
    rw [Tryz.params5]
    change n ∈ DataW.weightsEach Tryz.prog [23, 24, 25] [d0, d1, d2]
    simp only [DataW.weightsEach]
    exact List.mem_append_right _ (List.mem_append_left _ (by simpa using hn))
  obtain ⟨N, hN⟩ := law_IncrRight x0 x1 x2 w0 w1 w2 (by simpa only [show Tryz.prog.bytesOf 28 = 48 by kernel_rfl] using z1)
  refine (sp_keep_IncrRight N (fun _ => False) W (x0, x1, x2, ()) (true, ()) [v0, v1, v2] (fun _ h => h.elim) hgw ⟨v0, _, rfl, g0, ⟨v1, _, rfl, g1, ⟨v2, _, rfl, g2, rfl⟩⟩⟩ hN).mono ?_
  rintro e W' ⟨v, rfl, hg, hr⟩
  replace hg := hg.old
  have hr : v = .bool true := by simpa only [kvals, retV, Kd.val, Go.Abs.enc, RV] using hr
  subst hr
  exact ⟨_, rfl, _, _, _, [], p0 ++ (p1 ++ (p2 ++ [])), [], hW', (trodAll_cons_mk (shut_bool (show Tryz.prog.underlying 4 = some .bool by kernel_rfl) _) trodAll_mk0), (trodAll_cons_mk (Below.trod laidOut (by kernel_rfl) (of_decide_eq_true (by kernel_rfl)) h0 hg hlt0) (trodAll_cons_mk (Below.trod laidOut (by kernel_rfl) (of_decide_eq_true (by kernel_rfl)) h1 hg hlt1) (trodAll_cons_mk (Below.trod laidOut (by kernel_rfl) (of_decide_eq_true (by kernel_rfl)) h2 hg hlt2) trodAll_mk0))), rfl, hg.frame _, fun h => by cases h⟩

/-- The statement: whatever the arguments, the law's function returns true and leaves them as they were. -/
theorem incrRight_holds : Rows.IncrRightSaid :=
  OpenClaim.holds_of_wide 5 Tryz.f5 rfl rfl rfl rfl rfl rfl rfl ⟨rfl, rfl, rfl, rfl, rfl⟩ rfl rfl rfl rfl rfl (by kernel_rfl) Tryz.func5 (by kernel_rfl)
    (of_decide_eq_true (by kernel_rfl)) (by unfold Func.isWrapper; first | (rw [if_pos (by decide +kernel)]; kernel_rfl) | (rw [if_neg (by decide +kernel)]; exact ⟨rfl, rfl⟩))
    (fun os started H enc _ => lifted_IncrRight os started H enc)
end Go.Proofs.YtnieamciihdfpaaGreat
