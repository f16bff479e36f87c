/- What comes of Top is what comes of Bottom of the dual, as soon: the law answers true for every order and every map. No condition. -/
import Derived.Test.YtdbjfdjpmoackaaDoorFixedS
import Derived.Test.YtdbjfdjpmoackaaDoorFrame
namespace Go.Proofs.YtdbjfdjpmoackaaDoor
open Go Go.ChangeShapes Go.WideShapes Go.ChangeAt Go.WideMaps Go.WideElems Go.RowKit Go.Abs
-- watershed/watershedkeep.FixedDual
abbrev Ks_keep_FixedDual : List Kd := [.dat (.pair (.int .i64) (.sl (.int .u32))), .dat (.sl (.int .i64))]
abbrev Rk_keep_FixedDual : List Kd := [.dat (.bool)]
abbrev Rt_keep_FixedDual : Type := Dens Rk_keep_FixedDual
def T_keep_FixedDual : List (Nat × TE) := [(3, ⟨.int .i64, 1, 8, some (.int .i64), [.int .i64 (0 : Int)]⟩),
  (24, ⟨.struct [(0, 3), (1, 22)], 2, 32, some (.pair (.int .i64) (.sl (.int .u32))), [.int .i64 (0 : Int), .nil]⟩),
  (25, ⟨.slice 3, 1, 24, some (.sl (.int .i64)), [.nil]⟩)]
noncomputable def C_keep_FixedDual (_N : Nat) : Ctx := { T := T_keep_FixedDual, G := findE [mkP 29 Ks_keep_mapped Rk_keep_mapped (D_keep_mapped _N), mkP 30 Ks_fixed_Check Rk_fixed_Check (D_fixed_Check _N), mkQ 16 Ks_order_Dual Rk_order_Dual (D_order_Dual _N), mkP 32 Ks_fixed_Greatest Rk_fixed_Greatest (D_fixed_Greatest _N), mkP 31 Ks_fixed_Least Rk_fixed_Least (D_fixed_Least _N), mkP 20 Ks_keep_within Rk_keep_within (D_keep_within _N)], I := findI [], N := _N, n := 74, fx := [], fl := 0, gs := Gs }
noncomputable def keep_FixedDual_1 (_N : Nat) (_x1 : Int × List Int) (_x2 : List Int) : Option Rt_keep_FixedDual :=
  ((D_keep_mapped _N ((_x1.1, _x1.2), _x2, ())).bind fun _y7 => (bif (!_y7.1) then ((D_fixed_Check _N ((_x1.1, _x1.2), _x2, ())).bind fun _y8 => (some ((_y8.1 != (0 : Int)), ()))) else ((D_order_Dual _N ((_x1.1, _x1.2), ())).bind fun _y9 => (bif (_y9.2.1 != (0 : Int)) then (some (false, ())) else ((D_fixed_Greatest _N ((_x1.1, _x1.2), _x2, ())).bind fun _y10 => ((D_fixed_Least _N ((_y9.1.1, _y9.1.2), _x2, ())).bind fun _y11 => (bif (_y10.2.2.1 != (0 : Int)) then (some ((_y10.2.2.1 == _y11.2.2.1), ())) else (bif (_y10.2.2.1 == _y11.2.2.1) then (bif (_y10.1 == _y11.1) then (bif (_y10.2.1 == _y11.2.1) then ((D_keep_within _N (_x1.1, [_y10.1], ())).bind fun _y12 => (bif _y12.1 then (bif (decide (0 ≤ _y10.1) && decide (_y10.1 < (_x2.length : Int))) then (some (((nth (0 : Int) _x2 (_y10.1).toNat) == _y10.1), ())) else none) else (some (false, ())))) else (some (false, ()))) else (some (false, ()))) else (some (false, ()))))))))))
theorem keep_FixedDual_1e (_N : Nat) (_x1 : Int × List Int) (_x2 : List Int) :
    exec (C_keep_FixedDual _N) (cAt (bodyOf Tryd.f13) []) .none [(0, .agg [.int .i64 _x1.1, .sl (.int .u32) _x1.2]), (1, .sl (.int .i64) _x2)] [] (canonR (fun _i _t _h => none) (finK (C_keep_FixedDual _N) [.tmp 4] (finD Rk_keep_FixedDual))) = keep_FixedDual_1 _N _x1 _x2 :=
  by kernel_rfl
noncomputable def D_keep_FixedDual (_N : Nat) (x : Dens Ks_keep_FixedDual) : Option Rt_keep_FixedDual := keep_FixedDual_1 _N x.1 x.2.1
theorem E_keep_FixedDual (_N : Nat) (x : Dens Ks_keep_FixedDual) : exec (C_keep_FixedDual _N) (bodyOf Tryd.f13) .none (argS 0 (kvals Ks_keep_FixedDual x)) [] (finK (C_keep_FixedDual _N) [.tmp 4] (finD Rk_keep_FixedDual)) = D_keep_FixedDual _N x :=
  (congrArg (fun K => exec (C_keep_FixedDual _N) (bodyOf Tryd.f13) .none (argS 0 (kvals Ks_keep_FixedDual x)) [] K) canonR_fin).trans (keep_FixedDual_1e _N x.1 x.2.1)
theorem ok_keep_FixedDual (_N : Nat) : CtxOk Tryd.prog Gs Tryd.f13 (C_keep_FixedDual _N) := ⟨rfl, by unfold TOk; kernel_rfl, gOk_of rfl rfl (List.forall_mem_cons.2 ⟨en_keep_mapped _N, (List.forall_mem_cons.2 ⟨en_fixed_Check _N, (List.forall_mem_cons.2 ⟨qen_order_Dual _N, (List.forall_mem_cons.2 ⟨en_fixed_Greatest _N, (List.forall_mem_cons.2 ⟨en_fixed_Least _N, (List.forall_mem_cons.2 ⟨en_keep_within _N, (List.forall_mem_nil _)⟩)⟩)⟩)⟩)⟩)⟩), iOk_of rfl rfl (List.forall_mem_nil _), rfl⟩
theorem hb_keep_FixedDual : HasBody Tryd.prog 13 := ⟨Tryd.f13, bodyOf Tryd.f13, by kernel_rfl, by kernel_rfl, rfl⟩
theorem sp_keep_FixedDual (_N : Nat) : SpecD Tryd.prog Gs 13 Ks_keep_FixedDual Rk_keep_FixedDual (D_keep_FixedDual _N) := specD_of (c := bodyOf Tryd.f13) (by kernel_rfl) rfl (by kernel_rfl) (Nat.le_of_ble_eq_true (by kernel_rfl)) fun x y _h => ⟨C_keep_FixedDual _N, .none, ok_keep_FixedDual _N, (E_keep_FixedDual _N x).trans _h⟩
theorem en_keep_FixedDual (_N : Nat) : EntOk Tryd.prog Gs (mkP 13 Ks_keep_FixedDual Rk_keep_FixedDual (D_keep_FixedDual _N)) := entP hb_keep_FixedDual (by kernel_rfl) (sp_keep_FixedDual _N)
theorem law_FixedDual (o : Int × List Int) (f : List Int) (ho : wfS (.pair (.int .i64) (.sl (.int .u32))) o) (hf : wfS (.sl (.int .i64)) f) : ∃ N, D_keep_FixedDual N (o, f, ()) = some (true, ()) := by
  obtain ⟨n, up⟩ := o
  have hw : WL up := WL_of ho.2
  have hl : f.length ≤ 9223372036854775807 := hf.1
  refine ⟨1000 + f.length, ?_⟩
  have hN : 1000 ≤ 1000 + f.length := by omega
  have hfN : f.length < 1000 + f.length := by omega
  generalize 1000 + f.length = N at hN hfN
  obtain ⟨b1, m1, m2⟩ := mapped_eq hN hfN hl hw (n := n)
  obtain ⟨e1, c1, c2⟩ := fCheck_eq hN hfN hl hw (n := n)
  simp only [D_keep_FixedDual, keep_FixedDual_1, m1, Option.bind_some]
  rcases bcase m2 with ⟨⟨ho', hmp'⟩, rfl⟩ | ⟨hno, rfl⟩
  case inr =>
    have : (e1 != 0) = true := bne_iff_ne.2 fun e => hno (c2.1 e)
    simp only [Bool.not_false, cond_true, c1, Option.bind_some, this]
  have hwd : WL (colsS up n up.length) := WL.colsS _ _ _
  have hd := ho'.dual
  have hled : ∀ i j, i < n.toNat → j < n.toNat → (le (colsS up n up.length) j i ↔ le up i j) := fun i j hi hj => le_dual ho' hi hj
  have hmd : Mapd n.toNat (colsS up n up.length) f := ⟨hmp'.len, hmp'.all, fun a b ha hb e => (hled _ _ (hmp'.lt b hb) (hmp'.lt a ha)).2 (hmp'.mono b a hb ha ((hled b a hb ha).1 e))⟩
  simp only [Bool.not_true, cond_false, Dual_eq (N := N) (by omega) hw ho', Option.bind_some, bne_self_eq_false]
  generalize colsS up n up.length = dn at *
  rcases LG_spec hN hfN hl hw (n := n) with ⟨e, he, q1, q2, q3⟩ | ⟨m, J, M, b, t, p, k, y, l, rfl, hm, hlu, ho, hL, hmp, q1, q2, sp, sy⟩
  · obtain ⟨rfl, hnl⟩ := q3 ho' hmp'
    rcases LG_spec hN hfN hl hwd (n := n) with ⟨e, he, r1, r2, r3⟩ | ⟨m, J, M, b, t, p, k, y, l, rfl, hm, hlu, ho, hL, hmp, r1, r2, sp, sy⟩
    · obtain ⟨rfl, -⟩ := r3 hd hmd
      simp only [q2, r1, Option.bind_some, show ((5 : Int) != 0) = true from rfl, cond_true, beq_self_eq_true]
    · exact absurd ⟨_, _, _, _, hL.lat.swap fun i j hi hj => (hled j i (by omega) (by omega)).symm⟩ hnl
  · rcases LG_spec hN hfN hl hwd (n := (m : Int)) with ⟨e, he, r1, r2, r3⟩ | ⟨m', J', M', b', t', p', k', y', l', hmm, hm', hlu', ho2, hL', hmp2, r1, r2, sp', sy'⟩
    · obtain ⟨-, hnl⟩ := r3 hd hmd
      exact absurd ⟨_, _, _, _, hL.lat.swap fun i j hi hj => hled i j (by omega) (by omega)⟩ hnl
    · obtain rfl : m = m' := by omega
      have l1 := hL.lat
      have l2 := hL'.lat
      have g1 := l1.tlt
      have g2 := l2.blt
      have g3 := l1.tle
      have g4 := l2.ble
      simp only [Int.toNat_natCast] at g1 g2 g3 g4 hled
      have hbt : b' = t := ho.anti b' t (by omega) (by omega) (g3 b' g2) ((hled t b' g1 g2).1 (g4 t g1))
      subst hbt
      have hkl : k' = l := by
        rcases Nat.lt_trichotomy k' l with h | h | h
        · exact absurd (sp'.it ▸ sp'.stays) (sy.first k' h)
        · exact h
        · exact absurd (sy.it ▸ sy.stays) (sp'.first l h)
      subst hkl
      have hxy : p' = y := sp'.it.trans sy.it.symm
      subst hxy
      have hy := sy.lt
      have hlen := hmp.len
      obtain ⟨w1, p1, p2⟩ := within_eq (N := N) (n := (m : Int)) (xs := [(p' : Int)]) (by simp; omega) (by simp)
      obtain rfl := p2.2 (by simp; omega)
      simp only [q2, r1, Option.bind_some, bne_self_eq_false, cond_false, beq_self_eq_true, cond_true, p1, ge0_d, lt_d (show p' < f.length by omega), Bool.and_self, Int.toNat_natCast, hmp.val p' hy, sy.stays]
set_option maxRecDepth 100000 in
theorem lifted_FixedDual (os : Os) (started : os.Started) (H : Type) (enc : TypeId × Value → H) :
    ReturnsInHanded {} Tryd.checked os 13 .any (fun w args => (Rows.fixedDualSpec.pre enc Tryd.prog Tryd.f13 [] false w args ∧ laidMetH Tryd.prog Rows.fixedDualRow.laid w) ∧ sizedMet enc Tryd.prog Tryd.f13 (OpenSpec.ofChange Rows.fixedDualSpec) false w args) (Rows.fixedDualSpec.post enc Tryd.prog Tryd.f13 false true false false) := by
  refine returnsInHanded_of_change_and (C := Tryd.checked) (X := fun w _ => laidMetH Tryd.prog Rows.fixedDualRow.laid w) (fun _ _ _ hh h => h.of_heap hh) own started (by kernel_rfl) Tryd.func13
    (ChangeSpec.witness_shaped (enc := enc) (C := Tryd.checked) (os := os) (X := fun w _ => laidMetH Tryd.prog Rows.fixedDualRow.laid w) false (World.doorLaid Tryd.prog 400 os) #[.agg #[.int .i64 0, .slice none 0 0], .slice none 0 0] 8 rfl (World.shaped_of_RefB (by kernel_rfl) (by kernel_rfl)) (by kernel_rfl) (by kernel_rfl) (by kernel_rfl) (door_met os _)) ?_
  intro W base args ds gs before hval0 hW _ hsz0 hL _
  have hgw : GW Gs W := gw_of hL
  have hval : ∀ (j : Nat) t v, Tryd.f13.params[j]? = some t → args[j]? = some v → Value.okWide Tryd.prog W .any base t v := hval0
  have hW' := hW
  obtain ⟨p, q, hA0, hV, rfl, _, _⟩ := hW
  have hA : DataW.TrodAll enc Tryd.prog W 0 (fun _ => true) true Tryd.f13.params.toList args.toList ds p := hA0
  rw [Tryd.params13] at hA hval
  obtain ⟨v0, vs0, d0, ds0, p0, q0, hargs, rfl, rfl, h0, r0⟩ := trodAll_cons hA
  obtain ⟨v1, vs1, d1, ds1, p1, q1, rfl, rfl, rfl, h1, r1⟩ := trodAll_cons r0
  obtain ⟨rfl, rfl, rfl⟩ := trodAll_nil r1
  obtain rfl : args = #[v0, v1] := by cases args; simp_all
  obtain ⟨rfl, rfl⟩ := trodVars_none hV
  clear hA0 hval0 hsz0
  simp only [List.append_nil] at hW'
  have hlt0 : ∀ x ∈ p0, x.block < W.heap.size := fun x hx => hW'.lt x (by simp [hx])
  have hlt1 : ∀ x ∈ p1, x.block < W.heap.size := fun x hx => hW'.lt x (by simp [hx])
  obtain ⟨x0, g0, w0⟩ := open_kd (k := .dat (.pair (.int .i64) (.sl (.int .u32)))) (by kernel_rfl) (hval 0 24 v0 rfl rfl) h0
  obtain ⟨x1, g1, w1⟩ := open_kd (k := .dat (.sl (.int .i64))) (by kernel_rfl) (hval 1 25 v1 rfl rfl) h1
  obtain ⟨N, hN⟩ := law_FixedDual x0 x1 w0 w1
  refine (sp_keep_FixedDual N (fun _ => False) W (x0, x1, ()) (true, ()) [v0, v1] (fun _ h => h.elim) hgw ⟨v0, _, rfl, g0, ⟨v1, _, rfl, g1, rfl⟩⟩ hN).mono ?_
  rintro e W' ⟨v, rfl, hg, hr⟩
  have hr : v = .bool true := by simpa only [kvals, retV, Kd.val, Go.Abs.enc, RV] using hr
  subst hr
  exact ⟨_, rfl, _, _, _, [], p0 ++ (p1 ++ []), [], hW', (trodAll_cons_mk (shut_bool (show Tryd.prog.underlying 4 = some .bool by kernel_rfl) _) trodAll_mk0), (trodAll_cons_mk (Below.trod laidOut (by kernel_rfl) (of_decide_eq_true (by kernel_rfl)) h0 hg hlt0) (trodAll_cons_mk (Below.trod laidOut (by kernel_rfl) (of_decide_eq_true (by kernel_rfl)) h1 hg hlt1) trodAll_mk0)), rfl, hg.frame _, fun h => by cases h⟩

/-- The statement: whatever the arguments, the law's function returns true and leaves them as they were. -/
theorem fixedDual_holds : Rows.FixedDualSaid :=
  OpenClaim.holds_of_wide 13 Tryd.f13 rfl rfl rfl rfl rfl rfl rfl ⟨rfl, rfl, rfl, rfl, rfl⟩ rfl rfl rfl rfl rfl (by kernel_rfl) Tryd.func13 (by kernel_rfl)
    (of_decide_eq_true (by kernel_rfl)) (by unfold Func.isWrapper; first | (rw [if_pos (by decide +kernel)]; kernel_rfl) | (rw [if_neg (by decide +kernel)]; exact ⟨rfl, rfl⟩))
    (fun os started H enc _ => lifted_FixedDual os started H enc)
/-- The statement's card: the variable that the road reads is tied to the program's text. -/
theorem fixedDual_card : Rows.FixedDualCardSaid :=
  Claim7.holds_tied_plain_at .later [] [.data] true (true, "f7a6d2b8554754a98a473bd2733a624cf4bb6698be02ac50fe61eaa0509daf44") false fixedDual_holds (fun _ h => by cases h) (by kernel_rfl) (fun _ h => by cases h) fixedDual_row_tie rfl ⟨rfl, rfl⟩ (by kernel_rfl) rfl
    (fun f fn hf hfn => by
      obtain rfl : f = 13 := Option.some.inj ((show Tryd.prog.funcNamed "watershed/watershedkeep.FixedDual" = some 13 by kernel_rfl).symm.trans hf) |>.symm
      obtain rfl : fn = Tryd.f13 := (Option.some.inj (Tryd.func13.symm.trans hfn)).symm
      exact ⟨by kernel_rfl, fun j t ht => by
        have h3 := List.all_eq_true.1 (show (Tryd.f13.params.toList.all fun t => !(Tryd.prog.wantsStandIn t)) = true by kernel_rfl) t (by rw [← Array.getElem?_toList] at ht; exact List.mem_of_getElem? ht)
        have h4 : Tryd.prog.wantsStandIn t = false := by simpa using h3
        exact h4⟩)
    (by kernel_rfl)
end Go.Proofs.YtdbjfdjpmoackaaDoor
