/- The limit is the least set of rows that has all of the beginning and is not changed by a round, come to within as many rounds as there are edges: the law answers true for any edges and any rows. No condition. -/
import Derived.Test.YtfcjibfkhmnolaaLopK
import Derived.Test.YtfcjibfkhmnolaaFrame0
namespace Go.Proofs.Ytfcjibfkhmnolaa
open Go Go.ChangeShapes Go.WideShapes Go.ChangeAt Go.WideMaps Go.WideElems Go.RowKit Go.Abs Go.Bag
-- watershed/watershedkeep.LoopKleene
abbrev Ks_keep_LoopKleene : List Kd := [.dat (.sl (.pair (.int .i64) (.pair (.int .i64) (.int .i64)))), .dat (.sl (.pair (.int .i64) (.pair (.int .i64) (.int .i64)))), .dat (.sl (.pair (.int .i64) (.pair (.int .i64) (.int .i64))))]
abbrev Rk_keep_LoopKleene : List Kd := [.dat (.bool)]
abbrev Rt_keep_LoopKleene : Type := Dens Rk_keep_LoopKleene
noncomputable def C_keep_LoopKleene (_N : Nat) : Ctx := { T := [(46, ⟨.slice 51, 1, 24, some (.sl (.pair (.int .i64) (.pair (.int .i64) (.int .i64)))), [.nil], false, []⟩)], G := findE [mkQ 34 Ks_loop_Limit Rk_loop_Limit (D_loop_Limit _N), mkQ 35 Ks_loop_Step Rk_loop_Step (D_loop_Step _N), mkF 36 Ks_ref_There 51 (.pair (.int .i64) (.pair (.int .i64) (.int .i64))) (D_ref_There _N), mkQ 38 Ks_keep_once Rk_keep_once (D_keep_once _N), mkP 31 Ks_ref_BagsSame Rk_ref_BagsSame (D_ref_BagsSame _N), mkP 37 Ks_keep_inside Rk_keep_inside (D_keep_inside _N)], I := findI [], N := _N, n := 95, fx := [], fl := 0, gs := [] }
noncomputable def keep_LoopKleene_1 (_N : Nat) (_v6 : List (Int × Int × Int)) (_v7 : List (Int × Int × Int)) (_v8 : List (Int × Int × Int)) (_v9 : Bool) (_v10 : List (Int × Int × Int)) : Option Rt_keep_LoopKleene :=
  (bif _v9 then (some (false, ())) else ((D_keep_once _N (_v7, ())).bind fun _y19 => ((D_loop_Step _N (_v6, _v7, ())).bind fun _y20 => (bif (_y19.2.1 != (0 : Int)) then (some (true, ())) else (bif (_y20.2.1 != (0 : Int)) then (some (true, ())) else ((D_ref_BagsSame _N (_y20.1, _y19.1, ())).bind fun _y21 => (bif (!_y21.1) then (some (true, ())) else ((D_keep_inside _N (_v10, _y19.1, ())).bind fun _y22 => (bif (!_y22.1) then (some (true, ())) else ((D_keep_inside _N (_v8, _y19.1, ())).bind fun _y23 => (some (_y23.1, ()))))))))))))
noncomputable def keep_LoopKleene_2 (_N : Nat) (_x1 : List (Int × Int × Int)) (_x2 : List (Int × Int × Int)) (_x3 : List (Int × Int × Int)) : Option Rt_keep_LoopKleene :=
  ((D_loop_Limit _N (_x1, _x2, ())).bind fun _y16 => (bif (_y16.2.2.1 != (0 : Int)) then (bif ((_y16.1.length : Int) == (0 : Int)) then (some ((_y16.2.1 == (0 : Int)), ())) else (some (false, ()))) else ((D_loop_Step _N (_x1, _y16.1, ())).bind fun _y17 => ((D_ref_There _N (_x2, ())).bind fun _y18 => (joinD (fun (_s : (List (Int × Int × Int)) × (List (Int × Int × Int)) × (List (Int × Int × Int)) × Bool × (List (Int × Int × Int))) => keep_LoopKleene_1 _N _s.1 _s.2.1 _s.2.2.1 _s.2.2.2.1 _s.2.2.2.2) fun _k24 => (bif (_y17.2.1 != (0 : Int)) then (_k24 (_x1, _x3, _y16.1, true, _y18)) else ((D_ref_BagsSame _N (_y17.1, _y16.1, ())).bind fun _y25 => (bif (!_y25.1) then (_k24 (_x1, _x3, _y16.1, true, _y18)) else ((D_keep_inside _N (_y18, _y16.1, ())).bind fun _y26 => (bif (!_y26.1) then (_k24 (_x1, _x3, _y16.1, true, _y18)) else (bif (decide (_y16.2.1 < (0 : Int))) then (_k24 (_x1, _x3, _y16.1, true, _y18)) else (_k24 (_x1, _x3, _y16.1, (decide (_y16.2.1 > (_x1.length : Int))), _y18)))))))))))))
noncomputable def D_keep_LoopKleene (_N : Nat) (_x : Dens Ks_keep_LoopKleene) : Option Rt_keep_LoopKleene := keep_LoopKleene_2 _N _x.1 _x.2.1 _x.2.2.1
theorem sp_keep_LoopKleene (_N : Nat) : SpecD Try.prog [] 13 Ks_keep_LoopKleene Rk_keep_LoopKleene (D_keep_LoopKleene _N) := mkSpD (fn := Try.f13) (c := bodyOf Try.f13) (C := C_keep_LoopKleene _N)
    (a := .two .none (.two .none (.two .none (.two .none (.two .none (.two (.join 1 ⟨[(0, .sl (.pair (.int .i64) (.pair (.int .i64) (.int .i64)))), (2, .sl (.pair (.int .i64) (.pair (.int .i64) (.int .i64)))), (7, .sl (.pair (.int .i64) (.pair (.int .i64) (.int .i64)))), (11, .slc 0 0), (62, .bool)], [.row false 0 51 (.pair (.int .i64) (.pair (.int .i64) (.int .i64)))]⟩ .none .none) .none))))))
    (by kernel_rfl) rfl (by kernel_rfl) (by kernel_rfl) ⟨rfl, by unfold TOk; kernel_rfl, gOk_of rfl rfl (List.forall_mem_cons.2 ⟨qen_loop_Limit _N, (List.forall_mem_cons.2 ⟨qen_loop_Step _N, (List.forall_mem_cons.2 ⟨en_ref_There _N, (List.forall_mem_cons.2 ⟨qen_keep_once _N, (List.forall_mem_cons.2 ⟨en_ref_BagsSame _N, (List.forall_mem_cons.2 ⟨en_keep_inside _N, (List.forall_mem_nil _)⟩)⟩)⟩)⟩)⟩)⟩), iOk_of rfl rfl (List.forall_mem_nil _), rfl⟩ (fun _x => by kernel_rfl)
theorem law_LoopKleene (edges x y : List Row) (_we : wfS (.sl (.pair (.int .i64) (.pair (.int .i64) (.int .i64)))) edges) (_wx : wfS (.sl (.pair (.int .i64) (.pair (.int .i64) (.int .i64)))) x) (_wy : wfS (.sl (.pair (.int .i64) (.pair (.int .i64) (.int .i64)))) y) :
    ∃ N, D_keep_LoopKleene N (edges, x, y, ()) = some (true, ()) := by
  refine ⟨1000, ?_⟩
  generalize hNd : 1000 = N
  have hN : 1000 ≤ N := by omega
  simp only [D_keep_LoopKleene, keep_LoopKleene_2]
  rcases Limit_eq hN edges x with ⟨h, -⟩ | ⟨l1, l2, be, bx, b1, b2, b3, b4, hc⟩
  · simp only [h, Option.bind_some]; rfl
  rcases hc with ⟨h, -⟩ | ⟨m, h, hfix, hlen, hmin⟩
  · simp only [h, Option.bind_some]; rfl
  have sE := thr_bag b1
  have sX := thr_bag b2
  have hm := rounds_le (E := thr be) sX hmin
  have hE := thr_len be
  obtain ⟨bx', c1, -, c3⟩ := There_eq hN x l2 fun r hr => by
    obtain ⟨g1, g2, g3⟩ := _wx.2 r hr
    exact w_in' g3
  obtain rfl := c1.uniq b2
  have c3 : D_ref_There N (x, ()) = some (thr bx') := c3
  have sM := itr_s (E := thr be) sX m
  generalize hM : itr (thr be) (thr bx') m = M at *
  simp only [h, Option.bind_some, bne_self_eq_false, cond_false]
  rcases Step_eq hN edges M with ⟨-, h2⟩ | ⟨-, -, be', bM, d1, d2, -, -, hs⟩
  · omega
  obtain rfl := d1.uniq b1
  obtain rfl := bag_set sM d2
  rw [sM.t, hfix, if_neg (by omega)] at hs
  have hin : ∀ r ∈ thr bx', r ∈ bM := (sub_rows sX sM).2 fun k hk => by rw [← hM]; exact itr_mono (Nat.zero_le m) hk
  have hX := thr_len bx'
  have hbl : bx'.length ≤ x.length := b4
  simp only [hs, c3, Option.bind_some, bne_self_eq_false, cond_false, Same_eq (N := N) (a := bM) (b := bM) (by omega) (by omega), decide_true, Bool.not_true, joinD,
    inside_eq (N := N) (a := thr bx') (b := bM) (by omega) (by omega) (by omega) (by omega), decide_eq_true hin,
    d_false (show ¬ ((m : Int) < 0) by omega), d_false (show ¬ ((m : Int) > (edges.length : Int)) by omega), keep_LoopKleene_1]
  rcases once_eq hN y with ⟨ly, ty, t1, t2, t3⟩ | ⟨ly, t3⟩
  case inr =>
    rcases Step_eq hN edges y with ⟨h2, -⟩ | ⟨-, h2, -⟩
    · simp only [t3, h2, Option.bind_some]; rfl
    · omega
  rcases Step_eq hN edges y with ⟨-, h2⟩ | ⟨-, -, be2, by2, e1, e2, -, -, hs2⟩
  · omega
  obtain rfl := e1.uniq d1
  obtain rfl := e2.uniq t1
  have sY := thr_bag e2
  have hY := thr_len by2
  simp only [t3, Option.bind_some, bne_self_eq_false, cond_false, hs2]
  by_cases q1 : (nxt (thr be2) (thr by2)).length > 128
  · rw [if_pos q1]; rfl
  rw [if_neg q1]
  simp only [Option.bind_some, bne_self_eq_false, cond_false, Same_eq (N := N) (a := nxt (thr be2) (thr by2)) (b := thr by2) (by omega) (by omega)]
  by_cases q2 : nxt (thr be2) (thr by2) = thr by2
  case neg => rw [decide_eq_false q2]; rfl
  rw [decide_eq_true q2, Bool.not_true, cond_false]
  simp only [inside_eq (N := N) (a := thr bx') (b := thr by2) (by omega) (by omega) (by omega) (by omega), Option.bind_some]
  by_cases q3 : ∀ r ∈ thr bx', r ∈ thr by2
  case neg => rw [decide_eq_false q3]; rfl
  rw [decide_eq_true q3, Bool.not_true, cond_false]
  have hfin : ∀ r ∈ bM, r ∈ thr by2 := (sub_rows sM sY).2 fun k hk => by
    rw [← hM] at hk
    exact itr_in ((sub_rows sX sY).1 q3) q2 m k hk
  simp only [inside_eq (N := N) (a := bM) (b := thr by2) (by omega) (by omega) (by omega) (by omega), Option.bind_some, decide_eq_true hfin]
set_option maxRecDepth 100000 in
theorem lifted_LoopKleene (os : Os) (started : os.Started) (H : Type) (enc : TypeId × Value → H) :
    ReturnsInHanded {} Try.checked os 13 .any (Rows.loopKleeneSpec.pre6 enc Try.prog Try.f13 Rows.loopKleeneRow.domain false) (Rows.loopKleeneSpec.post enc Try.prog Try.f13 false true false false) := by
  refine returnsInHanded_of_change_sized (C := Try.checked) own started (by kernel_rfl) Try.func13
    (ChangeSpec.witness6 (enc := enc) (C := Try.checked) false ⟨#[], #[.slice none 0 0, .slice none 0 0, .slice none 0 0], []⟩ 8 (by kernel_rfl) (by kernel_rfl) (by kernel_rfl) (by kernel_rfl)) ?_
  intro W base args ds gs before hval0 hW _ hsz0 _
  have hgw : GW [] W := fun _ h => nomatch h
  have hval : ∀ (j : Nat) t v, Try.f13.params[j]? = some t → args[j]? = some v → Value.okWide Try.prog W .any base t v := hval0
  have hW' := hW
  obtain ⟨p, q, hA0, hV, rfl, _, _⟩ := hW
  have hA : DataW.TrodAll enc Try.prog W 0 (fun _ => true) true Try.f13.params.toList args.toList ds p := hA0
  rw [Try.params13] at hA hval
  obtain ⟨v0, vs0, d0, ds0, p0, q0, hargs, rfl, rfl, h0, r0⟩ := trodAll_cons hA
  obtain ⟨v1, vs1, d1, ds1, p1, q1, rfl, rfl, rfl, h1, r1⟩ := trodAll_cons r0
  obtain ⟨v2, vs2, d2, ds2, p2, q2, rfl, rfl, rfl, h2, r2⟩ := trodAll_cons r1
  obtain ⟨rfl, rfl, rfl⟩ := trodAll_nil r2
  obtain rfl : args = #[v0, v1, v2] := by cases args; simp_all
  obtain ⟨rfl, rfl⟩ := trodVars_none hV
  have hall := List.all_eq_true.1 hsz0
  clear hA0 hval0 hsz0
  simp only [List.append_nil] at hW'
  have hlt0 : ∀ x ∈ p0, x.block < W.heap.size := fun x hx => hW'.lt x (by simp [hx])
  have hlt1 : ∀ x ∈ p1, x.block < W.heap.size := fun x hx => hW'.lt x (by simp [hx])
  have hlt2 : ∀ x ∈ p2, x.block < W.heap.size := fun x hx => hW'.lt x (by simp [hx])
  obtain ⟨x0, g0, w0⟩ := open_kd (k := .dat (.sl (.pair (.int .i64) (.pair (.int .i64) (.int .i64))))) (by kernel_rfl) (hval 0 46 v0 rfl rfl) h0
  obtain ⟨x1, g1, w1⟩ := open_kd (k := .dat (.sl (.pair (.int .i64) (.pair (.int .i64) (.int .i64))))) (by kernel_rfl) (hval 1 46 v1 rfl rfl) h1
  obtain ⟨x2, g2, w2⟩ := open_kd (k := .dat (.sl (.pair (.int .i64) (.pair (.int .i64) (.int .i64))))) (by kernel_rfl) (hval 2 46 v2 rfl rfl) h2
  obtain ⟨N, hN⟩ := law_LoopKleene x0 x1 x2 w0 w1 w2
  refine (sp_keep_LoopKleene N (fun _ => False) W (x0, x1, x2, ()) (true, ()) [v0, v1, v2] (fun _ h => h.elim) hgw ⟨v0, _, rfl, g0, ⟨v1, _, rfl, g1, ⟨v2, _, rfl, g2, rfl⟩⟩⟩ hN).mono ?_
  rintro e W' ⟨v, rfl, hg, hr⟩
  replace hg := hg.old
  have hr : v = .bool true := by simpa only [kvals, retV, Kd.val, Go.Abs.enc, RV] using hr
  subst hr
  exact ⟨_, rfl, _, _, _, [], p0 ++ (p1 ++ (p2 ++ [])), [], hW', (trodAll_cons_mk (shut_bool (show Try.prog.underlying 4 = some .bool by kernel_rfl) _) trodAll_mk0), (trodAll_cons_mk (Below.trod laidOut (by kernel_rfl) (of_decide_eq_true (by kernel_rfl)) h0 hg hlt0) (trodAll_cons_mk (Below.trod laidOut (by kernel_rfl) (of_decide_eq_true (by kernel_rfl)) h1 hg hlt1) (trodAll_cons_mk (Below.trod laidOut (by kernel_rfl) (of_decide_eq_true (by kernel_rfl)) h2 hg hlt2) trodAll_mk0))), rfl, hg.frame _, fun h => by cases h⟩

/-- The statement: whatever the arguments, the law's function returns true and leaves them as they were. -/
theorem loopKleene_holds : Rows.LoopKleeneSaid :=
  OpenClaim.holds_of_wide 13 Try.f13 rfl rfl rfl rfl rfl rfl rfl ⟨rfl, rfl, rfl, rfl, rfl⟩ rfl rfl rfl rfl rfl (by kernel_rfl) Try.func13 (by kernel_rfl)
    (of_decide_eq_true (by kernel_rfl)) (by unfold Func.isWrapper; first | (rw [if_pos (by decide +kernel)]; kernel_rfl) | (rw [if_neg (by decide +kernel)]; exact ⟨rfl, rfl⟩))
    (fun os started H enc _ => lifted_LoopKleene os started H enc)
end Go.Proofs.Ytfcjibfkhmnolaa
