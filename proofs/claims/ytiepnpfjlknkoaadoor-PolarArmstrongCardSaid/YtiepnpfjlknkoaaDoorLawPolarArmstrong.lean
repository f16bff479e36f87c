/- What is had is had; what follows follows beside others; and what follows of what follows follows: the law answers true for every context and all sets of columns. No condition. -/
import Derived.Test.YtiepnpfjlknkoaaDoorPolarS
import Derived.Test.YtiepnpfjlknkoaaDoorFrame
namespace Go.Proofs.YtiepnpfjlknkoaaDoor
open Go Go.ChangeShapes Go.WideShapes Go.ChangeAt Go.WideMaps Go.WideElems Go.RowKit Go.Abs
theorem Implies_spec {N : Nat} {rows : List Int} (hw : WL rows) (n : Int) (hN : rows.length < N) {x y : Int} (hx : W32 x) (hy : W32 y) :
    ∃ r e, D_polar_Implies N ((rows, n), x, y, ()) = some (r, e, ()) ∧ (e = 0 ↔ ctxOk rows n ∧ sub x n.toNat ∧ sub y n.toNat) ∧
      (e = 0 → (r = true ↔ ∀ i, i < rows.length → (∀ j, bt x j = true → bt (nth 0 rows i) j = true) → ∀ j, bt y j = true → bt (nth 0 rows i) j = true)) := by
  simp only [D_polar_Implies, polar_Implies_1]
  obtain ⟨u, e, h1, h2, h3⟩ := Down_spec hw n hN hx
  obtain ⟨v, f, k1, k2, k3⟩ := Down_spec hw n hN hy
  simp only [h1, k1, Option.bind_some]
  by_cases he : e = 0
  case neg =>
    rw [show (e != 0) = true from bne_iff_ne.2 he, cond_true]
    exact ⟨_, _, rfl, ⟨fun h => absurd h he, fun h => h2.2 ⟨h.1, h.2.1⟩⟩, fun h => absurd h he⟩
  subst he
  obtain ⟨hc, hs⟩ := h2.1 rfl
  rw [show ((0 : Int) != 0) = false from rfl, cond_false]
  by_cases hf : f = 0
  case neg =>
    rw [show (f == 0) = false from beq_false_of_ne hf, cond_false]
    exact ⟨_, _, rfl, ⟨fun h => absurd h hf, fun h => k2.2 ⟨h.1, h.2.2⟩⟩, fun h => absurd h hf⟩
  subst hf
  obtain ⟨_, ks⟩ := k2.1 rfl
  obtain ⟨hu, hub⟩ := h3 rfl
  obtain ⟨hv, hvb⟩ := k3 rfl
  rw [show ((0 : Int) == 0) = true from rfl, cond_true]
  refine ⟨_, _, rfl, ⟨fun _ => ⟨hc, hs, ks⟩, fun _ => rfl⟩, fun _ => ?_⟩
  rw [beq_iff_eq, eq_zero_iff W32.iandNot]
  refine ⟨fun h i hi ha => ?_, fun h i => ?_⟩
  · have := h i
    rw [bt_iandNot hu hv, (hub i).2 ⟨hi, ha⟩] at this
    simp only [Bool.true_and, Bool.not_eq_false'] at this
    exact ((hvb i).1 this).2
  · rw [bt_iandNot hu hv]
    cases hb : bt u i with
    | false => rfl
    | true =>
      obtain ⟨h5, h6⟩ := (hub i).1 hb
      rw [(hvb i).2 ⟨h5, h i h5 h6⟩]; rfl
theorem law_PolarArmstrong (c : List Int × Int) (x y z : Int) (hc : wfS (.pair (.sl (.int .u32)) (.int .i64)) c) (hx : wfS (.int .u32) x) (hy : wfS (.int .u32) y) (hz : wfS (.int .u32) z) : ∃ N, D_keep_PolarArmstrong N (c, x, y, z, ()) = some (true, ()) := by
  obtain ⟨rows, n⟩ := c
  have hw : WL rows := WL_of hc.1
  have hx := wfS_u32.1 hx
  have hy := wfS_u32.1 hy
  have hz := wfS_u32.1 hz
  refine ⟨rows.length + 1, ?_⟩
  simp only [D_keep_PolarArmstrong, keep_PolarArmstrong_1]
  have hN : rows.length < rows.length + 1 := Nat.lt_succ_self _
  obtain ⟨a, e, h1, h2, h3⟩ := Implies_spec hw n hN hx hy
  obtain ⟨b, f, k1, k2, k3⟩ := Implies_spec hw n hN hy hz
  simp only [h1, k1, Option.bind_some]
  by_cases he : e = 0
  case neg =>
    obtain ⟨_, _, e1, _⟩ := Implies_spec hw n hN (x := ior .u32 x y) W32.ior hy
    rw [show (e != 0) = true from bne_iff_ne.2 he]; rfl
  by_cases hf : f = 0
  case neg => rw [show (e != 0) = false from by subst he; rfl, show (f != 0) = true from bne_iff_ne.2 hf]; rfl
  subst he; subst hf
  obtain ⟨hc, hs, ks⟩ := h2.1 rfl
  obtain ⟨_, _, zs⟩ := k2.1 rfl
  have ha := h3 rfl
  have hb := k3 rfl
  have ob : ∀ {p q : Int}, W32 p → W32 q → ∀ i, bt (ior .u32 p q) i = true ↔ bt p i = true ∨ bt q i = true := fun hp hq i => by rw [bt_ior hp hq]; simp
  have os : ∀ {p q : Int}, W32 p → W32 q → sub p n.toNat → sub q n.toNat → sub (ior .u32 p q) n.toNat := fun hp hq h h' i hi => ((ob hp hq i).1 hi).elim (h i) (h' i)
  obtain ⟨r1, g, l1, l2, l3⟩ := Implies_spec hw n hN (x := ior .u32 x y) W32.ior hy
  obtain rfl := l2.2 ⟨hc, os hx hy hs ks, ks⟩
  obtain ⟨r2, g, m1, m2, m3⟩ := Implies_spec hw n hN (x := ior .u32 x z) (y := ior .u32 y z) W32.ior W32.ior
  obtain rfl := m2.2 ⟨hc, os hx hz hs zs, os hy hz ks zs⟩
  obtain ⟨r3, g, n1, n2, n3⟩ := Implies_spec hw n hN hx hz
  obtain rfl := n2.2 ⟨hc, hs, zs⟩
  simp only [l1, m1, n1, Option.bind_some, bne_self_eq_false, beq_self_eq_true, cond_false, cond_true]
  have t1 : r1 = true := (l3 rfl).2 fun i hi h j hj => h j ((ob hx hy j).2 (.inr hj))
  have t2 : a = true → r2 = true := fun h => (m3 rfl).2 fun i hi h' j hj => ((ob hy hz j).1 hj).elim (fun hj => ha.1 h i hi (fun j hj => h' j ((ob hx hz j).2 (.inl hj))) j hj) (fun hj => h' j ((ob hx hz j).2 (.inr hj)))
  have t3 : a = true → b = true → r3 = true := fun h h' => (n3 rfl).2 fun i hi h'' => hb.1 h' i hi (ha.1 h i hi h'')
  subst t1
  cases a with
  | false => rfl
  | true =>
    rw [t2 rfl]
    cases b with
    | false => rfl
    | true => rw [t3 rfl rfl]; rfl
set_option maxRecDepth 100000 in
theorem lifted_PolarArmstrong (os : Os) (started : os.Started) (H : Type) (enc : TypeId × Value → H) :
    ReturnsInHanded {} Tryd.checked os 3 .any (fun w args => (Rows.polarArmstrongSpec.pre enc Tryd.prog Tryd.f3 [] false w args ∧ laidMetH Tryd.prog Rows.polarArmstrongRow.laid w) ∧ sizedMet enc Tryd.prog Tryd.f3 (OpenSpec.ofChange Rows.polarArmstrongSpec) false w args) (Rows.polarArmstrongSpec.post enc Tryd.prog Tryd.f3 false true false false) := by
  refine returnsInHanded_of_change_and (C := Tryd.checked) (X := fun w _ => laidMetH Tryd.prog Rows.polarArmstrongRow.laid w) (fun _ _ _ hh h => h.of_heap hh) own started (by kernel_rfl) Tryd.func3
    (ChangeSpec.witness_shaped (enc := enc) (C := Tryd.checked) (os := os) (X := fun w _ => laidMetH Tryd.prog Rows.polarArmstrongRow.laid w) false (World.doorLaid Tryd.prog 400 os) #[.agg #[.slice none 0 0, .int .i64 0], .int .u32 0, .int .u32 0, .int .u32 0] 8 rfl (World.shaped_of_RefB (by kernel_rfl) (by kernel_rfl)) (by kernel_rfl) (by kernel_rfl) (by kernel_rfl) (door_met os _)) ?_
  intro W base args ds gs before hval0 hW _ hsz0 hL _
  have hgw : GW Gs W := gw_of hL
  have hval : ∀ (j : Nat) t v, Tryd.f3.params[j]? = some t → args[j]? = some v → Value.okWide Tryd.prog W .any base t v := hval0
  have hW' := hW
  obtain ⟨p, q, hA0, hV, rfl, _, _⟩ := hW
  have hA : DataW.TrodAll enc Tryd.prog W 0 (fun _ => true) true Tryd.f3.params.toList args.toList ds p := hA0
  rw [Tryd.params3] at hA hval
  obtain ⟨v0, vs0, d0, ds0, p0, q0, hargs, rfl, rfl, h0, r0⟩ := trodAll_cons hA
  obtain ⟨v1, vs1, d1, ds1, p1, q1, rfl, rfl, rfl, h1, r1⟩ := trodAll_cons r0
  obtain ⟨v2, vs2, d2, ds2, p2, q2, rfl, rfl, rfl, h2, r2⟩ := trodAll_cons r1
  obtain ⟨v3, vs3, d3, ds3, p3, q3, rfl, rfl, rfl, h3, r3⟩ := trodAll_cons r2
  obtain ⟨rfl, rfl, rfl⟩ := trodAll_nil r3
  obtain rfl : args = #[v0, v1, v2, v3] := by cases args; simp_all
  obtain ⟨rfl, rfl⟩ := trodVars_none hV
  clear hA0 hval0 hsz0
  simp only [List.append_nil] at hW'
  have hlt0 : ∀ x ∈ p0, x.block < W.heap.size := fun x hx => hW'.lt x (by simp [hx])
  have hlt1 : ∀ x ∈ p1, x.block < W.heap.size := fun x hx => hW'.lt x (by simp [hx])
  have hlt2 : ∀ x ∈ p2, x.block < W.heap.size := fun x hx => hW'.lt x (by simp [hx])
  have hlt3 : ∀ x ∈ p3, x.block < W.heap.size := fun x hx => hW'.lt x (by simp [hx])
  obtain ⟨x0, g0, w0⟩ := open_kd (k := .dat (.pair (.sl (.int .u32)) (.int .i64))) (by kernel_rfl) (hval 0 24 v0 rfl rfl) h0
  obtain ⟨x1, g1, w1⟩ := open_kd (k := .dat (.int .u32)) (by kernel_rfl) (hval 1 25 v1 rfl rfl) h1
  obtain ⟨x2, g2, w2⟩ := open_kd (k := .dat (.int .u32)) (by kernel_rfl) (hval 2 25 v2 rfl rfl) h2
  obtain ⟨x3, g3, w3⟩ := open_kd (k := .dat (.int .u32)) (by kernel_rfl) (hval 3 25 v3 rfl rfl) h3
  obtain ⟨N, hN⟩ := law_PolarArmstrong x0 x1 x2 x3 w0 w1 w2 w3
  refine (sp_keep_PolarArmstrong N (fun _ => False) W (x0, x1, x2, x3, ()) (true, ()) [v0, v1, v2, v3] (fun _ h => h.elim) hgw ⟨v0, _, rfl, g0, ⟨v1, _, rfl, g1, ⟨v2, _, rfl, g2, ⟨v3, _, rfl, g3, rfl⟩⟩⟩⟩ hN).mono ?_
  rintro e W' ⟨v, rfl, hg, hr⟩
  have hr : v = .bool true := by simpa only [kvals, retV, Kd.val, Go.Abs.enc, RV] using hr
  subst hr
  exact ⟨_, rfl, _, _, _, [], p0 ++ (p1 ++ (p2 ++ (p3 ++ []))), [], hW', (trodAll_cons_mk (shut_bool (show Tryd.prog.underlying 4 = some .bool by kernel_rfl) _) trodAll_mk0), (trodAll_cons_mk (Below.trod laidOut (by kernel_rfl) (of_decide_eq_true (by kernel_rfl)) h0 hg hlt0) (trodAll_cons_mk (Below.trod laidOut (by kernel_rfl) (of_decide_eq_true (by kernel_rfl)) h1 hg hlt1) (trodAll_cons_mk (Below.trod laidOut (by kernel_rfl) (of_decide_eq_true (by kernel_rfl)) h2 hg hlt2) (trodAll_cons_mk (Below.trod laidOut (by kernel_rfl) (of_decide_eq_true (by kernel_rfl)) h3 hg hlt3) trodAll_mk0)))), rfl, hg.frame _, fun h => by cases h⟩

/-- The statement: whatever the arguments, the law's function returns true and leaves them as they were. -/
theorem polarArmstrong_holds : Rows.PolarArmstrongSaid :=
  OpenClaim.holds_of_wide 3 Tryd.f3 rfl rfl rfl rfl rfl rfl rfl ⟨rfl, rfl, rfl, rfl, rfl⟩ rfl rfl rfl rfl rfl (by kernel_rfl) Tryd.func3 (by kernel_rfl)
    (of_decide_eq_true (by kernel_rfl)) (by unfold Func.isWrapper; first | (rw [if_pos (by decide +kernel)]; kernel_rfl) | (rw [if_neg (by decide +kernel)]; exact ⟨rfl, rfl⟩))
    (fun os started H enc _ => lifted_PolarArmstrong os started H enc)
/-- The statement's card: the variable that the road reads is tied to the program's text. -/
theorem polarArmstrong_card : Rows.PolarArmstrongCardSaid :=
  Claim7.holds_tied_plain_at .later [] [.data] true (true, "cbd544c05f2c0fdd660505a86de7bf34820ac41be0754ffecfa8b6dc1818dc70") false polarArmstrong_holds (fun _ h => by cases h) (by kernel_rfl) (fun _ h => by cases h) polarArmstrong_row_tie rfl ⟨rfl, rfl⟩ (by kernel_rfl) rfl
    (fun f fn hf hfn => by
      obtain rfl : f = 3 := Option.some.inj ((show Tryd.prog.funcNamed "watershed/watershedkeep.PolarArmstrong" = some 3 by kernel_rfl).symm.trans hf) |>.symm
      obtain rfl : fn = Tryd.f3 := (Option.some.inj (Tryd.func3.symm.trans hfn)).symm
      exact ⟨by kernel_rfl, fun j t ht => by
        have h3 := List.all_eq_true.1 (show (Tryd.f3.params.toList.all fun t => !(Tryd.prog.wantsStandIn t)) = true by kernel_rfl) t (by rw [← Array.getElem?_toList] at ht; exact List.mem_of_getElem? ht)
        have h4 : Tryd.prog.wantsStandIn t = false := by simpa using h3
        exact h4⟩)
    (by kernel_rfl)
end Go.Proofs.YtiepnpfjlknkoaaDoor
