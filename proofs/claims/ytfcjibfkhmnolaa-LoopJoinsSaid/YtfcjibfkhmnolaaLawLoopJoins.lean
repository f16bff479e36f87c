/- The limit of two lists of rows together is that of each, together: the law answers true for any edges and any two lists of rows. No condition. -/
import Derived.Test.YtfcjibfkhmnolaaLopK
import Derived.Test.YtfcjibfkhmnolaaFrame0
namespace Go.Proofs.Ytfcjibfkhmnolaa
open Go Go.ChangeShapes Go.WideShapes Go.ChangeAt Go.WideMaps Go.WideElems Go.RowKit Go.Abs Go.Bag
-- watershed/watershedkeep.LoopJoins
abbrev Ks_keep_LoopJoins : List Kd := [.dat (.sl (.pair (.int .i64) (.pair (.int .i64) (.int .i64)))), .dat (.sl (.pair (.int .i64) (.pair (.int .i64) (.int .i64)))), .dat (.sl (.pair (.int .i64) (.pair (.int .i64) (.int .i64))))]
abbrev Rk_keep_LoopJoins : List Kd := [.dat (.bool)]
abbrev Rt_keep_LoopJoins : Type := Dens Rk_keep_LoopJoins
noncomputable def C_keep_LoopJoins (_N : Nat) : Ctx := { T := [], G := findE [mkQ 38 Ks_keep_once Rk_keep_once (D_keep_once _N), mkQ 34 Ks_loop_Limit Rk_loop_Limit (D_loop_Limit _N), mkF 36 Ks_ref_There 51 (.pair (.int .i64) (.pair (.int .i64) (.int .i64))) (D_ref_There _N), mkP 37 Ks_keep_inside Rk_keep_inside (D_keep_inside _N), mkQ 32 Ks_bags_Plus Rk_bags_Plus (D_bags_Plus _N), mkP 31 Ks_ref_BagsSame Rk_ref_BagsSame (D_ref_BagsSame _N)], I := findI [], N := _N, n := 106, fx := [], fl := 0, gs := [] }
noncomputable def keep_LoopJoins_1 (_N : Nat) (_x1 : List (Int × Int × Int)) (_x2 : List (Int × Int × Int)) (_x3 : List (Int × Int × Int)) : Option Rt_keep_LoopJoins :=
  ((D_keep_once _N (_x2, ())).bind fun _y12 => ((D_keep_once _N (_x3, ())).bind fun _y13 => ((D_loop_Limit _N (_x1, _x2, ())).bind fun _y14 => ((D_loop_Limit _N (_x1, _x3, ())).bind fun _y15 => (bif (_y12.2.1 != (0 : Int)) then (some (true, ())) else (bif (_y13.2.1 != (0 : Int)) then (some (true, ())) else (bif (_y14.2.2.1 != (0 : Int)) then (some (true, ())) else (bif (_y15.2.2.1 != (0 : Int)) then (some (true, ())) else ((D_ref_There _N (_x2, ())).bind fun _y16 => ((D_keep_inside _N (_y16, _y14.1, ())).bind fun _y17 => (bif (!_y17.1) then (some (false, ())) else ((D_bags_Plus _N (_y12.1, _y13.1, ())).bind fun _y18 => ((D_bags_Plus _N (_y14.1, _y15.1, ())).bind fun _y19 => (bif (_y18.2.1 != (0 : Int)) then (some (true, ())) else (bif (_y19.2.1 != (0 : Int)) then (some (true, ())) else ((D_loop_Limit _N (_x1, _y18.1, ())).bind fun _y20 => ((D_keep_once _N (_y19.1, ())).bind fun _y21 => (bif (_y20.2.2.1 == (0 : Int)) then (bif (_y21.2.1 == (0 : Int)) then ((D_ref_BagsSame _N (_y20.1, _y21.1, ())).bind fun _y22 => (some (_y22.1, ()))) else (some (false, ()))) else (some (false, ()))))))))))))))))))))
noncomputable def D_keep_LoopJoins (_N : Nat) (_x : Dens Ks_keep_LoopJoins) : Option Rt_keep_LoopJoins := keep_LoopJoins_1 _N _x.1 _x.2.1 _x.2.2.1
theorem sp_keep_LoopJoins (_N : Nat) : SpecD Try.prog [] 14 Ks_keep_LoopJoins Rk_keep_LoopJoins (D_keep_LoopJoins _N) := mkSpD (fn := Try.f14) (c := bodyOf Try.f14) (C := C_keep_LoopJoins _N)
    (a := .none)
    (by kernel_rfl) rfl (by kernel_rfl) (by kernel_rfl) ⟨rfl, by unfold TOk; kernel_rfl, gOk_of rfl rfl (List.forall_mem_cons.2 ⟨qen_keep_once _N, (List.forall_mem_cons.2 ⟨qen_loop_Limit _N, (List.forall_mem_cons.2 ⟨en_ref_There _N, (List.forall_mem_cons.2 ⟨en_keep_inside _N, (List.forall_mem_cons.2 ⟨qen_bags_Plus _N, (List.forall_mem_cons.2 ⟨en_ref_BagsSame _N, (List.forall_mem_nil _)⟩)⟩)⟩)⟩)⟩)⟩), iOk_of rfl rfl (List.forall_mem_nil _), rfl⟩ (fun _x => by kernel_rfl)
theorem law_LoopJoins (edges x y : List Row) (_we : wfS (.sl (.pair (.int .i64) (.pair (.int .i64) (.int .i64)))) edges) (_wx : wfS (.sl (.pair (.int .i64) (.pair (.int .i64) (.int .i64)))) x) (_wy : wfS (.sl (.pair (.int .i64) (.pair (.int .i64) (.int .i64)))) y) :
    ∃ N, D_keep_LoopJoins N (edges, x, y, ()) = some (true, ()) := by
  refine ⟨1000, ?_⟩
  generalize hNd : 1000 = N
  have hN : 1000 ≤ N := by omega
  simp only [D_keep_LoopJoins, keep_LoopJoins_1]
  rcases Limit_eq hN edges x with ⟨h, hbig⟩ | ⟨l1, l2, be, bx, b1, b2, b3, b4, hc⟩
  · rcases once_eq hN x with ⟨_, t, _, _, o1⟩ | ⟨_, o1⟩ <;> rcases once_eq hN y with ⟨_, t', _, _, o2⟩ | ⟨_, o2⟩ <;> rcases Limit_eq hN edges y with ⟨h', -⟩ | ⟨_, _, _, _, _, _, _, _, ⟨h', -⟩ | ⟨_, h', -⟩⟩ <;>
      (simp only [h, h', o1, o2, Option.bind_some]; rfl)
  rcases once_eq hN x with ⟨-, tx, t1, -, o1⟩ | ⟨h9, -⟩
  case inr => omega
  obtain rfl := t1.uniq b2
  rcases Limit_eq hN edges y with ⟨h', hbig⟩ | ⟨-, l3, be', byy, b5, b6, b7, b8, hc'⟩
  · rcases once_eq hN y with ⟨_, t', _, _, o2⟩ | ⟨_, o2⟩ <;> rcases hc with ⟨h, -⟩ | ⟨m, h, -⟩ <;> (simp only [h, h', o1, o2, Option.bind_some]; rfl)
  obtain rfl := b5.uniq b1
  rcases once_eq hN y with ⟨-, ty, t2, -, o2⟩ | ⟨h9, -⟩
  case inr => omega
  obtain rfl := t2.uniq b6
  rcases hc with ⟨h, -⟩ | ⟨m, h, f1, n1, -⟩
  · rcases hc' with ⟨h', -⟩ | ⟨m', h', -⟩ <;> (simp only [h, h', o1, o2, Option.bind_some]; rfl)
  rcases hc' with ⟨h', -⟩ | ⟨m', h', f2, n2, -⟩
  · simp only [h, h', o1, o2, Option.bind_some]; rfl
  obtain ⟨bx', c1, -, c3⟩ := There_eq hN x l2 fun r hr => by
    obtain ⟨g1, g2, g3⟩ := _wx.2 r hr
    exact w_in' g3
  obtain rfl := c1.uniq t1
  have c3 : D_ref_There N (x, ()) = some (thr bx') := c3
  have sE := thr_bag b5
  have sX := thr_bag c1
  have sY := thr_bag t2
  have sC := itr_s (E := thr be') sX m
  have sD := itr_s (E := thr be') sY m'
  have hXC : ∀ k ∈ (thr bx').map ky, k ∈ (itr (thr be') (thr bx') m).map ky := fun k hk => itr_mono (Nat.zero_le m) hk
  have hYD : ∀ k ∈ (thr ty).map ky, k ∈ (itr (thr be') (thr ty) m').map ky := fun k hk => itr_mono (Nat.zero_le m') hk
  have hin : ∀ r ∈ thr bx', r ∈ itr (thr be') (thr bx') m := (sub_rows sX sC).2 hXC
  have hX := thr_len bx'
  have hY := thr_len ty
  generalize hC : itr (thr be') (thr bx') m = C at *
  generalize hD : itr (thr be') (thr ty) m' = D at *
  simp only [h, h', o1, o2, c3, Option.bind_some, bne_self_eq_false, cond_false, inside_eq (N := N) (a := thr bx') (b := C) (by omega) (by omega) (by omega) (by omega), decide_eq_true hin, Bool.not_true]
  obtain ⟨ab, ca, p1, p2⟩ := Plus_eq hN (thr bx') (thr ty)
  obtain ⟨cd, cc, p3, p4⟩ := Plus_eq hN C D
  simp only [p1, p3, Option.bind_some]
  by_cases qa : ca = 0
  case neg => rw [show (ca != 0) = true from bne_iff_ne.2 qa]; rfl
  by_cases qc : cc = 0
  case neg => rw [qa, bne_self_eq_false, cond_false, show (cc != 0) = true from bne_iff_ne.2 qc]; rfl
  obtain ⟨q1, -, q2⟩ := p2.ok qa
  obtain ⟨q3, -, q4⟩ := p4.ok qc
  subst qa; subst qc
  simp only [bne_self_eq_false, cond_false]
  have mAB := fun k => sum_mem sX sY q2 k
  have mCD := fun k => sum_mem sC sD q4 k
  have sU : S1 (thr cd) := thr_s q4.rise
  have sV : S1 (thr ab) := thr_s q2.rise
  have lU := thr_len cd
  -- the union of both is not changed by a round
  have hfix : nxt (thr be') (thr cd) = thr cd := by
    refine (nxt_s _ _).uniq sU fun k => ⟨fun hk => ?_, fun hk => (nxt_mem k).2 (.inl hk)⟩
    rcases (nxt_mem k).1 hk with hk | ⟨a, ha, g⟩
    · exact hk
    · rcases (mCD a).1 ha with ha | ha
      · exact (mCD k).2 (.inl (by rw [← f1]; exact (nxt_mem k).2 (.inr ⟨a, ha, g⟩)))
      · exact (mCD k).2 (.inr (by rw [← f2]; exact (nxt_mem k).2 (.inr ⟨a, ha, g⟩)))
  have hsub : ∀ k ∈ (thr ab).map ky, k ∈ (thr cd).map ky := fun k hk => (mCD k).2 (((mAB k).1 hk).imp (hXC k) (hYD k))
  have hall := itr_in hsub hfix
  rcases once_eq hN cd with ⟨-, tu, u1, -, u3⟩ | ⟨h9, -⟩
  case inr => omega
  rcases Limit_eq hN edges ab with ⟨-, h9⟩ | ⟨-, -, be2, bab, w1, w2, -, -, hl⟩
  · omega
  obtain rfl := w1.uniq b5
  have bagOf : ∀ {f : Key → Int} {l b : List Row}, IsBag f l → IsBag (amt l) b → b = l := fun {f l b} h1 h2 => (h2.cg fun e => h1.amt_cg e).uniq h1
  obtain rfl := bagOf q2 w2
  obtain rfl := bagOf q4 u1
  rcases hl with ⟨-, i, hi⟩ | ⟨p, hp, fp, np, -⟩
  · have := sub_len (itr_s (E := thr be2) sV i) (hall i)
    omega
  simp only [hp, u3, Option.bind_some, beq_self_eq_true, cond_true]
  have sP := itr_s (E := thr be2) sV p
  have heq : itr (thr be2) (thr bab) p = thr tu := by
    refine sP.uniq sU fun k => ⟨hall p k, fun hk => ?_⟩
    rcases (mCD k).1 hk with hk | hk
    · rw [← hC] at hk
      exact itr_in (fun k hk => itr_mono (Nat.zero_le p) ((mAB k).2 (.inl hk))) fp m k hk
    · rw [← hD] at hk
      exact itr_in (fun k hk => itr_mono (Nat.zero_le p) ((mAB k).2 (.inr hk))) fp m' k hk
  simp only [heq, Same_eq (N := N) (a := thr tu) (b := thr tu) (by omega) (by omega), Option.bind_some, decide_true]
set_option maxRecDepth 100000 in
theorem lifted_LoopJoins (os : Os) (started : os.Started) (H : Type) (enc : TypeId × Value → H) :
    ReturnsInHanded {} Try.checked os 14 .any (Rows.loopJoinsSpec.pre6 enc Try.prog Try.f14 Rows.loopJoinsRow.domain false) (Rows.loopJoinsSpec.post enc Try.prog Try.f14 false true false false) := by
  refine returnsInHanded_of_change_sized (C := Try.checked) own started (by kernel_rfl) Try.func14
    (ChangeSpec.witness6 (enc := enc) (C := Try.checked) false ⟨#[], #[.slice none 0 0, .slice none 0 0, .slice none 0 0], []⟩ 8 (by kernel_rfl) (by kernel_rfl) (by kernel_rfl) (by kernel_rfl)) ?_
  intro W base args ds gs before hval0 hW _ hsz0 _
  have hgw : GW [] W := fun _ h => nomatch h
  have hval : ∀ (j : Nat) t v, Try.f14.params[j]? = some t → args[j]? = some v → Value.okWide Try.prog W .any base t v := hval0
  have hW' := hW
  obtain ⟨p, q, hA0, hV, rfl, _, _⟩ := hW
  have hA : DataW.TrodAll enc Try.prog W 0 (fun _ => true) true Try.f14.params.toList args.toList ds p := hA0
  rw [Try.params14] at hA hval
  obtain ⟨v0, vs0, d0, ds0, p0, q0, hargs, rfl, rfl, h0, r0⟩ := trodAll_cons hA
  obtain ⟨v1, vs1, d1, ds1, p1, q1, rfl, rfl, rfl, h1, r1⟩ := trodAll_cons r0
  obtain ⟨v2, vs2, d2, ds2, p2, q2, rfl, rfl, rfl, h2, r2⟩ := trodAll_cons r1
  obtain ⟨rfl, rfl, rfl⟩ := trodAll_nil r2
  obtain rfl : args = #[v0, v1, v2] := by cases args; simp_all
  obtain ⟨rfl, rfl⟩ := trodVars_none hV
  have hall := List.all_eq_true.1 hsz0
  clear hA0 hval0 hsz0
  simp only [List.append_nil] at hW'
  have hlt0 : ∀ x ∈ p0, x.block < W.heap.size := fun x hx => hW'.lt x (by simp [hx])
  have hlt1 : ∀ x ∈ p1, x.block < W.heap.size := fun x hx => hW'.lt x (by simp [hx])
  have hlt2 : ∀ x ∈ p2, x.block < W.heap.size := fun x hx => hW'.lt x (by simp [hx])
  obtain ⟨x0, g0, w0⟩ := open_kd (k := .dat (.sl (.pair (.int .i64) (.pair (.int .i64) (.int .i64))))) (by kernel_rfl) (hval 0 46 v0 rfl rfl) h0
  obtain ⟨x1, g1, w1⟩ := open_kd (k := .dat (.sl (.pair (.int .i64) (.pair (.int .i64) (.int .i64))))) (by kernel_rfl) (hval 1 46 v1 rfl rfl) h1
  obtain ⟨x2, g2, w2⟩ := open_kd (k := .dat (.sl (.pair (.int .i64) (.pair (.int .i64) (.int .i64))))) (by kernel_rfl) (hval 2 46 v2 rfl rfl) h2
  obtain ⟨N, hN⟩ := law_LoopJoins x0 x1 x2 w0 w1 w2
  refine (sp_keep_LoopJoins N (fun _ => False) W (x0, x1, x2, ()) (true, ()) [v0, v1, v2] (fun _ h => h.elim) hgw ⟨v0, _, rfl, g0, ⟨v1, _, rfl, g1, ⟨v2, _, rfl, g2, rfl⟩⟩⟩ hN).mono ?_
  rintro e W' ⟨v, rfl, hg, hr⟩
  replace hg := hg.old
  have hr : v = .bool true := by simpa only [kvals, retV, Kd.val, Go.Abs.enc, RV] using hr
  subst hr
  exact ⟨_, rfl, _, _, _, [], p0 ++ (p1 ++ (p2 ++ [])), [], hW', (trodAll_cons_mk (shut_bool (show Try.prog.underlying 4 = some .bool by kernel_rfl) _) trodAll_mk0), (trodAll_cons_mk (Below.trod laidOut (by kernel_rfl) (of_decide_eq_true (by kernel_rfl)) h0 hg hlt0) (trodAll_cons_mk (Below.trod laidOut (by kernel_rfl) (of_decide_eq_true (by kernel_rfl)) h1 hg hlt1) (trodAll_cons_mk (Below.trod laidOut (by kernel_rfl) (of_decide_eq_true (by kernel_rfl)) h2 hg hlt2) trodAll_mk0))), rfl, hg.frame _, fun h => by cases h⟩

/-- The statement: whatever the arguments, the law's function returns true and leaves them as they were. -/
theorem loopJoins_holds : Rows.LoopJoinsSaid :=
  OpenClaim.holds_of_wide 14 Try.f14 rfl rfl rfl rfl rfl rfl rfl ⟨rfl, rfl, rfl, rfl, rfl⟩ rfl rfl rfl rfl rfl (by kernel_rfl) Try.func14 (by kernel_rfl)
    (of_decide_eq_true (by kernel_rfl)) (by unfold Func.isWrapper; first | (rw [if_pos (by decide +kernel)]; kernel_rfl) | (rw [if_neg (by decide +kernel)]; exact ⟨rfl, rfl⟩))
    (fun os started H enc _ => lifted_LoopJoins os started H enc)
end Go.Proofs.Ytfcjibfkhmnolaa
