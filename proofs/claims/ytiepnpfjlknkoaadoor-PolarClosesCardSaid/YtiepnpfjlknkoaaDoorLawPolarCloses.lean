/- Up and down a set grows, up again it is as it was; more rows have less in common; and what both have in common is what all of them have: the law answers true for every context and every two sets. No condition. -/
import Derived.Test.YtiepnpfjlknkoaaDoorPolarS
import Derived.Test.YtiepnpfjlknkoaaDoorFrame
namespace Go.Proofs.YtiepnpfjlknkoaaDoor
open Go Go.ChangeShapes Go.WideShapes Go.ChangeAt Go.WideMaps Go.WideElems Go.RowKit Go.Abs
theorem law_PolarCloses (c : List Int × Int) (x y : Int) (hc : wfS (.pair (.sl (.int .u32)) (.int .i64)) c) (hx : wfS (.int .u32) x) (hy : wfS (.int .u32) y) : ∃ N, D_keep_PolarCloses N (c, x, y, ()) = some (true, ()) := by
  obtain ⟨rows, n⟩ := c
  have hw : WL rows := WL_of hc.1
  have hx := wfS_u32.1 hx
  have hy := wfS_u32.1 hy
  refine ⟨rows.length + 1, ?_⟩
  simp only [D_keep_PolarCloses, keep_PolarCloses_1]
  have hN : rows.length < rows.length + 1 := Nat.lt_succ_self _
  obtain ⟨u, e, h1, h2, h3⟩ := Up_spec hw n hN hx
  obtain ⟨v, f, k1, k2, k3⟩ := Up_spec hw n hN hy
  simp only [h1, k1, Option.bind_some]
  by_cases he : e = 0
  case neg => rw [show (e != 0) = true from bne_iff_ne.2 he]; rfl
  by_cases hf : f = 0
  case neg => rw [show (e != 0) = false from by subst he; rfl, show (f != 0) = true from bne_iff_ne.2 hf]; rfl
  subst he; subst hf
  obtain ⟨hc, hs⟩ := h2.1 rfl
  obtain ⟨_, ks⟩ := k2.1 rfl
  obtain ⟨hu, hub⟩ := h3 rfl
  obtain ⟨hv, hvb⟩ := k3 rfl
  obtain ⟨d, g, l1, l2, l3⟩ := Down_spec hw n hN hu
  obtain rfl := l2.2 ⟨hc, fun j hj => ((hub j).1 hj).1⟩
  obtain ⟨hd, hdb⟩ := l3 rfl
  obtain ⟨u', g', m1, m2, m3⟩ := Up_spec hw n hN hd
  obtain rfl := m2.2 ⟨hc, fun j hj => ((hdb j).1 hj).1⟩
  obtain ⟨hu', hub'⟩ := m3 rfl
  have hor : W32 (ior .u32 x y) := W32.ior
  have hob : ∀ i, bt (ior .u32 x y) i = true ↔ bt x i = true ∨ bt y i = true := fun i => by rw [bt_ior hx hy]; simp
  obtain ⟨a, g', n1, n2, n3⟩ := Up_spec hw n hN hor
  obtain rfl := n2.2 ⟨hc, fun j hj => ((hob j).1 hj).elim (hs j) (ks j)⟩
  obtain ⟨ha, hab⟩ := n3 rfl
  simp only [l1, m1, n1, Option.bind_some, bne_self_eq_false, beq_self_eq_true, cond_false, cond_true]
  have t1 : (ior .u32 x d == d) = true := (or_eq_iff hx hd).2 fun i hi => (hdb i).2 ⟨hs i hi, fun j hj => ((hub j).1 hj).2 i hi⟩
  have t2 : (u' == u) = true := beq_iff_eq.2 (bt_ext hu' hu fun j _ => by
    rw [Bool.eq_iff_iff, hub', hub]
    refine and_congr_right fun hj => ⟨fun h i hi => h i ((hdb i).2 ⟨hs i hi, fun j hj => ((hub j).1 hj).2 i hi⟩), fun h i hi => ((hdb i).1 hi).2 j ((hub j).2 ⟨hj, h⟩)⟩)
  have t3 : (a == iand .u32 u v) = true := beq_iff_eq.2 (bt_ext ha W32.iand fun j _ => by
    rw [Bool.eq_iff_iff, bt_iand hu hv, hab, Bool.and_eq_true, hub, hvb]
    refine ⟨fun h => ⟨⟨h.1, fun i hi => h.2 i ((hob i).2 (.inl hi))⟩, h.1, fun i hi => h.2 i ((hob i).2 (.inr hi))⟩, fun h => ⟨h.1.1, fun i hi => ((hob i).1 hi).elim (h.1.2 i) (h.2.2 i)⟩⟩)
  rw [t1, t2, t3]
  simp only [cond_true]
  cases hq : (ior .u32 x y != y) with
  | true => rfl
  | false =>
    have hq' : (ior .u32 x y == y) = true := by simpa [bne] using hq
    have hsub := (or_eq_iff hx hy).1 hq'
    have t4 : (ior .u32 u v == u) = true := beq_iff_eq.2 (bt_ext W32.ior hu fun j _ => by
      rw [Bool.eq_iff_iff, bt_ior hu hv, Bool.or_eq_true]
      refine ⟨fun h => h.elim id fun h => ?_, .inl⟩
      obtain ⟨h5, h6⟩ := (hvb j).1 h
      exact (hub j).2 ⟨h5, fun i hi => h6 i (hsub i hi)⟩)
    rw [t4]; rfl
set_option maxRecDepth 100000 in
theorem lifted_PolarCloses (os : Os) (started : os.Started) (H : Type) (enc : TypeId × Value → H) :
    ReturnsInHanded {} Tryd.checked os 5 .any (fun w args => (Rows.polarClosesSpec.pre enc Tryd.prog Tryd.f5 [] false w args ∧ laidMetH Tryd.prog Rows.polarClosesRow.laid w) ∧ sizedMet enc Tryd.prog Tryd.f5 (OpenSpec.ofChange Rows.polarClosesSpec) false w args) (Rows.polarClosesSpec.post enc Tryd.prog Tryd.f5 false true false false) := by
  refine returnsInHanded_of_change_and (C := Tryd.checked) (X := fun w _ => laidMetH Tryd.prog Rows.polarClosesRow.laid w) (fun _ _ _ hh h => h.of_heap hh) own started (by kernel_rfl) Tryd.func5
    (ChangeSpec.witness_shaped (enc := enc) (C := Tryd.checked) (os := os) (X := fun w _ => laidMetH Tryd.prog Rows.polarClosesRow.laid w) false (World.doorLaid Tryd.prog 400 os) #[.agg #[.slice none 0 0, .int .i64 0], .int .u32 0, .int .u32 0] 8 rfl (World.shaped_of_RefB (by kernel_rfl) (by kernel_rfl)) (by kernel_rfl) (by kernel_rfl) (by kernel_rfl) (door_met os _)) ?_
  intro W base args ds gs before hval0 hW _ hsz0 hL _
  have hgw : GW Gs W := gw_of hL
  have hval : ∀ (j : Nat) t v, Tryd.f5.params[j]? = some t → args[j]? = some v → Value.okWide Tryd.prog W .any base t v := hval0
  have hW' := hW
  obtain ⟨p, q, hA0, hV, rfl, _, _⟩ := hW
  have hA : DataW.TrodAll enc Tryd.prog W 0 (fun _ => true) true Tryd.f5.params.toList args.toList ds p := hA0
  rw [Tryd.params5] at hA hval
  obtain ⟨v0, vs0, d0, ds0, p0, q0, hargs, rfl, rfl, h0, r0⟩ := trodAll_cons hA
  obtain ⟨v1, vs1, d1, ds1, p1, q1, rfl, rfl, rfl, h1, r1⟩ := trodAll_cons r0
  obtain ⟨v2, vs2, d2, ds2, p2, q2, rfl, rfl, rfl, h2, r2⟩ := trodAll_cons r1
  obtain ⟨rfl, rfl, rfl⟩ := trodAll_nil r2
  obtain rfl : args = #[v0, v1, v2] := by cases args; simp_all
  obtain ⟨rfl, rfl⟩ := trodVars_none hV
  clear hA0 hval0 hsz0
  simp only [List.append_nil] at hW'
  have hlt0 : ∀ x ∈ p0, x.block < W.heap.size := fun x hx => hW'.lt x (by simp [hx])
  have hlt1 : ∀ x ∈ p1, x.block < W.heap.size := fun x hx => hW'.lt x (by simp [hx])
  have hlt2 : ∀ x ∈ p2, x.block < W.heap.size := fun x hx => hW'.lt x (by simp [hx])
  obtain ⟨x0, g0, w0⟩ := open_kd (k := .dat (.pair (.sl (.int .u32)) (.int .i64))) (by kernel_rfl) (hval 0 24 v0 rfl rfl) h0
  obtain ⟨x1, g1, w1⟩ := open_kd (k := .dat (.int .u32)) (by kernel_rfl) (hval 1 25 v1 rfl rfl) h1
  obtain ⟨x2, g2, w2⟩ := open_kd (k := .dat (.int .u32)) (by kernel_rfl) (hval 2 25 v2 rfl rfl) h2
  obtain ⟨N, hN⟩ := law_PolarCloses x0 x1 x2 w0 w1 w2
  refine (sp_keep_PolarCloses N (fun _ => False) W (x0, x1, x2, ()) (true, ()) [v0, v1, v2] (fun _ h => h.elim) hgw ⟨v0, _, rfl, g0, ⟨v1, _, rfl, g1, ⟨v2, _, rfl, g2, rfl⟩⟩⟩ hN).mono ?_
  rintro e W' ⟨v, rfl, hg, hr⟩
  have hr : v = .bool true := by simpa only [kvals, retV, Kd.val, Go.Abs.enc, RV] using hr
  subst hr
  exact ⟨_, rfl, _, _, _, [], p0 ++ (p1 ++ (p2 ++ [])), [], hW', (trodAll_cons_mk (shut_bool (show Tryd.prog.underlying 4 = some .bool by kernel_rfl) _) trodAll_mk0), (trodAll_cons_mk (Below.trod laidOut (by kernel_rfl) (of_decide_eq_true (by kernel_rfl)) h0 hg hlt0) (trodAll_cons_mk (Below.trod laidOut (by kernel_rfl) (of_decide_eq_true (by kernel_rfl)) h1 hg hlt1) (trodAll_cons_mk (Below.trod laidOut (by kernel_rfl) (of_decide_eq_true (by kernel_rfl)) h2 hg hlt2) trodAll_mk0))), rfl, hg.frame _, fun h => by cases h⟩

/-- The statement: whatever the arguments, the law's function returns true and leaves them as they were. -/
theorem polarCloses_holds : Rows.PolarClosesSaid :=
  OpenClaim.holds_of_wide 5 Tryd.f5 rfl rfl rfl rfl rfl rfl rfl ⟨rfl, rfl, rfl, rfl, rfl⟩ rfl rfl rfl rfl rfl (by kernel_rfl) Tryd.func5 (by kernel_rfl)
    (of_decide_eq_true (by kernel_rfl)) (by unfold Func.isWrapper; first | (rw [if_pos (by decide +kernel)]; kernel_rfl) | (rw [if_neg (by decide +kernel)]; exact ⟨rfl, rfl⟩))
    (fun os started H enc _ => lifted_PolarCloses os started H enc)
/-- The statement's card: the variable that the road reads is tied to the program's text. -/
theorem polarCloses_card : Rows.PolarClosesCardSaid :=
  Claim7.holds_tied_plain_at .later [] [.data] true (true, "cbd544c05f2c0fdd660505a86de7bf34820ac41be0754ffecfa8b6dc1818dc70") false polarCloses_holds (fun _ h => by cases h) (by kernel_rfl) (fun _ h => by cases h) polarCloses_row_tie rfl ⟨rfl, rfl⟩ (by kernel_rfl) rfl
    (fun f fn hf hfn => by
      obtain rfl : f = 5 := Option.some.inj ((show Tryd.prog.funcNamed "watershed/watershedkeep.PolarCloses" = some 5 by kernel_rfl).symm.trans hf) |>.symm
      obtain rfl : fn = Tryd.f5 := (Option.some.inj (Tryd.func5.symm.trans hfn)).symm
      exact ⟨by kernel_rfl, fun j t ht => by
        have h3 := List.all_eq_true.1 (show (Tryd.f5.params.toList.all fun t => !(Tryd.prog.wantsStandIn t)) = true by kernel_rfl) t (by rw [← Array.getElem?_toList] at ht; exact List.mem_of_getElem? ht)
        have h4 : Tryd.prog.wantsStandIn t = false := by simpa using h3
        exact h4⟩)
    (by kernel_rfl)
end Go.Proofs.YtiepnpfjlknkoaaDoor
