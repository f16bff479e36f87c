/- Bottom and Top come to what stays within as many steps as the longest chain has elements, less one: the law answers true for every order and every map. No condition. -/
import Derived.Test.YtdlhfddmbdbedaaDoorFixedS
import Derived.Test.YtdlhfddmbdbedaaDoorClimbS
import Derived.Test.YtdlhfddmbdbedaaDoorFrame
namespace Go.Proofs.YtdlhfddmbdbedaaDoor
open Go Go.ChangeShapes Go.WideShapes Go.ChangeAt Go.WideMaps Go.WideElems Go.RowKit Go.Abs
-- watershed/watershedkeep.FixedKleene
abbrev Ks_keep_FixedKleene : List Kd := [.dat (.pair (.int .i64) (.sl (.int .u32))), .dat (.sl (.int .i64))]
abbrev Rk_keep_FixedKleene : List Kd := [.dat (.bool)]
abbrev Rt_keep_FixedKleene : Type := Dens Rk_keep_FixedKleene
def T_keep_FixedKleene : List (Nat × TE) := [(24, ⟨.struct [(0, 3), (1, 22)], 2, 32, some (.pair (.int .i64) (.sl (.int .u32))), [.int .i64 (0 : Int), .nil]⟩),
  (25, ⟨.slice 3, 1, 24, some (.sl (.int .i64)), [.nil]⟩)]
noncomputable def C_keep_FixedKleene (_N : Nat) : Ctx := { T := T_keep_FixedKleene, G := findE [mkP 17 Ks_fixed_Least Rk_fixed_Least (D_fixed_Least _N), mkP 18 Ks_fixed_Greatest Rk_fixed_Greatest (D_fixed_Greatest _N), mkQ 23 Ks_order_Chain Rk_order_Chain (D_order_Chain _N)], I := findI [], N := _N, n := 63, fx := [], fl := 0, gs := Gs }
noncomputable def keep_FixedKleene_1 (_N : Nat) (_x1 : Int × List Int) (_x2 : List Int) : Option Rt_keep_FixedKleene :=
  ((D_fixed_Least _N ((_x1.1, _x1.2), _x2, ())).bind fun _y4 => ((D_fixed_Greatest _N ((_x1.1, _x1.2), _x2, ())).bind fun _y5 => ((D_order_Chain _N ((_x1.1, _x1.2), ())).bind fun _y6 => (bif (_y4.2.2.1 != (0 : Int)) then (some ((_y4.2.2.1 == _y5.2.2.1), ())) else (bif (_y5.2.2.1 != (0 : Int)) then (some ((_y4.2.2.1 == _y5.2.2.1), ())) else (bif (_y6.2.1 != (0 : Int)) then (some ((_y4.2.2.1 == _y5.2.2.1), ())) else (bif (decide (_y4.2.1 ≥ (0 : Int))) then (bif (decide (_y5.2.1 ≥ (0 : Int))) then (bif (decide (_y4.2.1 < (_y6.1.length : Int))) then (some ((decide (_y5.2.1 < (_y6.1.length : Int))), ())) else (some (false, ()))) else (some (false, ()))) else (some (false, ())))))))))
theorem keep_FixedKleene_1e (_N : Nat) (_x1 : Int × List Int) (_x2 : List Int) :
    exec (C_keep_FixedKleene _N) (cAt (bodyOf Tryd.f4) []) .none [(0, .agg [.int .i64 _x1.1, .sl (.int .u32) _x1.2]), (1, .sl (.int .i64) _x2)] [] (canonR (fun _i _t _h => none) (finK (C_keep_FixedKleene _N) [.tmp 4] (finD Rk_keep_FixedKleene))) = keep_FixedKleene_1 _N _x1 _x2 :=
  by kernel_rfl
noncomputable def D_keep_FixedKleene (_N : Nat) (x : Dens Ks_keep_FixedKleene) : Option Rt_keep_FixedKleene := keep_FixedKleene_1 _N x.1 x.2.1
theorem E_keep_FixedKleene (_N : Nat) (x : Dens Ks_keep_FixedKleene) : exec (C_keep_FixedKleene _N) (bodyOf Tryd.f4) .none (argS 0 (kvals Ks_keep_FixedKleene x)) [] (finK (C_keep_FixedKleene _N) [.tmp 4] (finD Rk_keep_FixedKleene)) = D_keep_FixedKleene _N x :=
  (congrArg (fun K => exec (C_keep_FixedKleene _N) (bodyOf Tryd.f4) .none (argS 0 (kvals Ks_keep_FixedKleene x)) [] K) canonR_fin).trans (keep_FixedKleene_1e _N x.1 x.2.1)
theorem ok_keep_FixedKleene (_N : Nat) : CtxOk Tryd.prog Gs Tryd.f4 (C_keep_FixedKleene _N) := ⟨rfl, by unfold TOk; kernel_rfl, gOk_of rfl rfl (List.forall_mem_cons.2 ⟨en_fixed_Least _N, (List.forall_mem_cons.2 ⟨en_fixed_Greatest _N, (List.forall_mem_cons.2 ⟨qen_order_Chain _N, (List.forall_mem_nil _)⟩)⟩)⟩), iOk_of rfl rfl (List.forall_mem_nil _), rfl⟩
theorem hb_keep_FixedKleene : HasBody Tryd.prog 4 := ⟨Tryd.f4, bodyOf Tryd.f4, by kernel_rfl, by kernel_rfl, rfl⟩
theorem sp_keep_FixedKleene (_N : Nat) : SpecD Tryd.prog Gs 4 Ks_keep_FixedKleene Rk_keep_FixedKleene (D_keep_FixedKleene _N) := specD_of (c := bodyOf Tryd.f4) (by kernel_rfl) rfl (by kernel_rfl) (Nat.le_of_ble_eq_true (by kernel_rfl)) fun x y _h => ⟨C_keep_FixedKleene _N, .none, ok_keep_FixedKleene _N, (E_keep_FixedKleene _N x).trans _h⟩
theorem en_keep_FixedKleene (_N : Nat) : EntOk Tryd.prog Gs (mkP 4 Ks_keep_FixedKleene Rk_keep_FixedKleene (D_keep_FixedKleene _N)) := entP hb_keep_FixedKleene (by kernel_rfl) (sp_keep_FixedKleene _N)
theorem Chain_any {N : Nat} (hN : 40 ≤ N) {up : List Int} (hw : WL up) (n : Int) : ∃ c e, D_order_Chain N ((n, up), ()) = some (c, e, ()) := by
  by_cases h : Ord n up
  · obtain ⟨m, rfl⟩ : ∃ m : Nat, n = (m : Int) := ⟨n.toNat, by have := h.h0; omega⟩
    obtain ⟨c, h1, -⟩ := Chain_eq hN hw h
    exact ⟨_, _, h1⟩
  · obtain ⟨e, k1, k2⟩ := Check_spec (N := N) hN hw n
    have he : e ≠ 0 := fun e' => h (k2.1 e')
    refine ⟨[], e, ?_⟩
    simp only [D_order_Chain, order_Chain_1, order_Chain_2, order_Chain_3, order_Chain_4, order_Chain_5, order_Chain_6, order_Chain_7, order_Chain_8, order_Chain_9, order_Chain_10, order_Chain_11, order_Chain_12, order_Chain_13, order_Chain_14, order_Chain_15, order_Chain_16, order_Chain_17, order_Chain_18, order_Chain_19, order_Chain_20, order_Chain_21, order_Chain_22, order_Chain_23, order_Chain_24, order_Chain_25, order_Chain_26, order_Chain_27, k1, Option.bind_some, show (e != 0) = true from bne_iff_ne.2 he, cond_true]
theorem law_FixedKleene (o : Int × List Int) (f : List Int) (ho : wfS (.pair (.int .i64) (.sl (.int .u32))) o) (hf : wfS (.sl (.int .i64)) f) : ∃ N, D_keep_FixedKleene N (o, f, ()) = some (true, ()) := by
  obtain ⟨n, up⟩ := o
  have hw : WL up := WL_of ho.2
  have hl : f.length ≤ 9223372036854775807 := hf.1
  refine ⟨1000 + f.length, ?_⟩
  have hN : 1000 ≤ 1000 + f.length := by omega
  have hfN : f.length < 1000 + f.length := by omega
  generalize 1000 + f.length = N at hN hfN
  simp only [D_keep_FixedKleene, keep_FixedKleene_1]
  rcases LG_spec hN hfN hl hw (n := n) with ⟨e, he, q1, q2, -⟩ | ⟨m, J, M, b, t, p, k, y, l, rfl, hm, hlu, ho, hL, hmp, q1, q2, sp, sy⟩
  · obtain ⟨c, e', h1⟩ := Chain_any (N := N) (by omega) hw n
    simp only [q1, q2, h1, Option.bind_some, show (e != 0) = true from bne_iff_ne.2 he, cond_true, beq_self_eq_true]
  obtain ⟨c, h1, -, h3⟩ := Chain_eq (N := N) (by omega) hw ho
  have lat := hL.lat
  have hbl := lat.blt
  have htl := lat.tlt
  simp only [Int.toNat_natCast] at lat hbl htl
  obtain ⟨v, H, c1, c2, c3⟩ := h3 (by omega)
  have hlt := hmp.lt
  have up1 : ∀ j, itf (fm f) b j < m ∧ le up (itf (fm f) b j) (fm f (itf (fm f) b j)) := fun j => by
    induction j with
    | zero => exact ⟨hbl, lat.ble _ (hlt b hbl)⟩
    | succ j ih =>
      have : itf (fm f) b (j + 1) = fm f (itf (fm f) b j) := rfl
      rw [this]
      exact ⟨hlt _ ih.1, hmp.mono _ _ ih.1 (hlt _ ih.1) ih.2⟩
  have dn1 : ∀ j, itf (fm f) t j < m ∧ le up (fm f (itf (fm f) t j)) (itf (fm f) t j) := fun j => by
    induction j with
    | zero => exact ⟨htl, lat.tle _ (hlt t htl)⟩
    | succ j ih =>
      have : itf (fm f) t (j + 1) = fm f (itf (fm f) t j) := rfl
      rw [this]
      exact ⟨hlt _ ih.1, hmp.mono _ _ (hlt _ ih.1) ih.1 ih.2⟩
  have hk : ∀ j, j ≤ k → hv v (itf (fm f) b j) + j ≤ hv v b := fun j => by
    induction j with
    | zero => intro _; exact Nat.le_refl _
    | succ j ih =>
      intro hj
      have h0 := ih (by omega)
      have : itf (fm f) b (j + 1) = fm f (itf (fm f) b j) := rfl
      have := c1.above (itf (fm f) b j) (itf (fm f) b (j + 1)) (up1 j).1 (up1 (j + 1)).1 (up1 j).2 (sp.first j (by omega))
      omega
  have hl2 : ∀ j, j ≤ l → j ≤ hv v (itf (fm f) t j) := fun j => by
    induction j with
    | zero => intro _; exact Nat.zero_le _
    | succ j ih =>
      intro hj
      have h0 := ih (by omega)
      have := c1.above (itf (fm f) t (j + 1)) (itf (fm f) t j) (dn1 (j + 1)).1 (dn1 j).1 (dn1 j).2 (fun e => sy.first j (by omega) e.symm)
      omega
  have a1 := hk k (Nat.le_refl _)
  have a2 := hl2 l (Nat.le_refl _)
  have a3 := c3.top b hbl
  have a4 := c3.top _ (dn1 l).1
  have a5 := c3.len
  simp only [q1, q2, h1, Option.bind_some, bne_self_eq_false, cond_false, List.length_map, d_true (show (k : Int) ≥ 0 by omega), d_true (show (l : Int) ≥ 0 by omega), cond_true, lt_d (show k < c.length by omega), lt_d (show l < c.length by omega)]
set_option maxRecDepth 100000 in
theorem lifted_FixedKleene (os : Os) (started : os.Started) (H : Type) (enc : TypeId × Value → H) :
    ReturnsInHanded {} Tryd.checked os 4 .any (fun w args => (Rows.fixedKleeneSpec.pre enc Tryd.prog Tryd.f4 [] false w args ∧ laidMetH Tryd.prog Rows.fixedKleeneRow.laid w) ∧ sizedMet enc Tryd.prog Tryd.f4 (OpenSpec.ofChange Rows.fixedKleeneSpec) false w args) (Rows.fixedKleeneSpec.post enc Tryd.prog Tryd.f4 false true false false) := by
  refine returnsInHanded_of_change_and (C := Tryd.checked) (X := fun w _ => laidMetH Tryd.prog Rows.fixedKleeneRow.laid w) (fun _ _ _ hh h => h.of_heap hh) own started (by kernel_rfl) Tryd.func4
    (ChangeSpec.witness_shaped (enc := enc) (C := Tryd.checked) (os := os) (X := fun w _ => laidMetH Tryd.prog Rows.fixedKleeneRow.laid w) false (World.doorLaid Tryd.prog 400 os) #[.agg #[.int .i64 0, .slice none 0 0], .slice none 0 0] 8 rfl (World.shaped_of_RefB (by kernel_rfl) (by kernel_rfl)) (by kernel_rfl) (by kernel_rfl) (by kernel_rfl) (door_met os _)) ?_
  intro W base args ds gs before hval0 hW _ hsz0 hL _
  have hgw : GW Gs W := gw_of hL
  have hval : ∀ (j : Nat) t v, Tryd.f4.params[j]? = some t → args[j]? = some v → Value.okWide Tryd.prog W .any base t v := hval0
  have hW' := hW
  obtain ⟨p, q, hA0, hV, rfl, _, _⟩ := hW
  have hA : DataW.TrodAll enc Tryd.prog W 0 (fun _ => true) true Tryd.f4.params.toList args.toList ds p := hA0
  rw [Tryd.params4] at hA hval
  obtain ⟨v0, vs0, d0, ds0, p0, q0, hargs, rfl, rfl, h0, r0⟩ := trodAll_cons hA
  obtain ⟨v1, vs1, d1, ds1, p1, q1, rfl, rfl, rfl, h1, r1⟩ := trodAll_cons r0
  obtain ⟨rfl, rfl, rfl⟩ := trodAll_nil r1
  obtain rfl : args = #[v0, v1] := by cases args; simp_all
  obtain ⟨rfl, rfl⟩ := trodVars_none hV
  clear hA0 hval0 hsz0
  simp only [List.append_nil] at hW'
  have hlt0 : ∀ x ∈ p0, x.block < W.heap.size := fun x hx => hW'.lt x (by simp [hx])
  have hlt1 : ∀ x ∈ p1, x.block < W.heap.size := fun x hx => hW'.lt x (by simp [hx])
  obtain ⟨x0, g0, w0⟩ := open_kd (k := .dat (.pair (.int .i64) (.sl (.int .u32)))) (by kernel_rfl) (hval 0 24 v0 rfl rfl) h0
  obtain ⟨x1, g1, w1⟩ := open_kd (k := .dat (.sl (.int .i64))) (by kernel_rfl) (hval 1 25 v1 rfl rfl) h1
  obtain ⟨N, hN⟩ := law_FixedKleene x0 x1 w0 w1
  refine (sp_keep_FixedKleene N (fun _ => False) W (x0, x1, ()) (true, ()) [v0, v1] (fun _ h => h.elim) hgw ⟨v0, _, rfl, g0, ⟨v1, _, rfl, g1, rfl⟩⟩ hN).mono ?_
  rintro e W' ⟨v, rfl, hg, hr⟩
  have hr : v = .bool true := by simpa only [kvals, retV, Kd.val, Go.Abs.enc, RV] using hr
  subst hr
  exact ⟨_, rfl, _, _, _, [], p0 ++ (p1 ++ []), [], hW', (trodAll_cons_mk (shut_bool (show Tryd.prog.underlying 4 = some .bool by kernel_rfl) _) trodAll_mk0), (trodAll_cons_mk (Below.trod laidOut (by kernel_rfl) (of_decide_eq_true (by kernel_rfl)) h0 hg hlt0) (trodAll_cons_mk (Below.trod laidOut (by kernel_rfl) (of_decide_eq_true (by kernel_rfl)) h1 hg hlt1) trodAll_mk0)), rfl, hg.frame _, fun h => by cases h⟩

/-- The statement: whatever the arguments, the law's function returns true and leaves them as they were. -/
theorem fixedKleene_holds : Rows.FixedKleeneSaid :=
  OpenClaim.holds_of_wide 4 Tryd.f4 rfl rfl rfl rfl rfl rfl rfl ⟨rfl, rfl, rfl, rfl, rfl⟩ rfl rfl rfl rfl rfl (by kernel_rfl) Tryd.func4 (by kernel_rfl)
    (of_decide_eq_true (by kernel_rfl)) (by unfold Func.isWrapper; first | (rw [if_pos (by decide +kernel)]; kernel_rfl) | (rw [if_neg (by decide +kernel)]; exact ⟨rfl, rfl⟩))
    (fun os started H enc _ => lifted_FixedKleene os started H enc)
/-- The statement's card: the variable that the road reads is tied to the program's text. -/
theorem fixedKleene_card : Rows.FixedKleeneCardSaid :=
  Claim7.holds_tied_plain_at .later [] [.data] true (true, "95f6ea9d403f7937751d645b60a9924f7afd7c18e9047aef24e3dc8f01e8eb85") false fixedKleene_holds (fun _ h => by cases h) (by kernel_rfl) (fun _ h => by cases h) fixedKleene_row_tie rfl ⟨rfl, rfl⟩ (by kernel_rfl) rfl
    (fun f fn hf hfn => by
      obtain rfl : f = 4 := Option.some.inj ((show Tryd.prog.funcNamed "watershed/watershedkeep.FixedKleene" = some 4 by kernel_rfl).symm.trans hf) |>.symm
      obtain rfl : fn = Tryd.f4 := (Option.some.inj (Tryd.func4.symm.trans hfn)).symm
      exact ⟨by kernel_rfl, fun j t ht => by
        have h3 := List.all_eq_true.1 (show (Tryd.f4.params.toList.all fun t => !(Tryd.prog.wantsStandIn t)) = true by kernel_rfl) t (by rw [← Array.getElem?_toList] at ht; exact List.mem_of_getElem? ht)
        have h4 : Tryd.prog.wantsStandIn t = false := by simpa using h3
        exact h4⟩)
    (by kernel_rfl)
end Go.Proofs.YtdlhfddmbdbedaaDoor
