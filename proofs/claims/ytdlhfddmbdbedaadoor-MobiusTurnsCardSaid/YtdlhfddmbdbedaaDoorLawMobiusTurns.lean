/- The inverse is two-sided, and the inverse of the inverse is the table: the law answers true for every order and every table. No condition. -/
import Derived.Test.YtdlhfddmbdbedaaDoorMobI
import Derived.Test.YtdlhfddmbdbedaaDoorKeepS
import Derived.Test.YtdlhfddmbdbedaaDoorFrame
namespace Go.Proofs.YtdlhfddmbdbedaaDoor
open Go Go.ChangeShapes Go.WideShapes Go.ChangeAt Go.WideMaps Go.WideElems Go.RowKit Go.Abs
-- watershed/watershedkeep.MobiusTurns
abbrev Ks_keep_MobiusTurns : List Kd := [.dat (.pair (.int .i64) (.sl (.int .u32))), .dat (.sl (.int .i64))]
abbrev Rk_keep_MobiusTurns : List Kd := [.dat (.bool)]
abbrev Rt_keep_MobiusTurns : Type := Dens Rk_keep_MobiusTurns
def T_keep_MobiusTurns : List (Nat × TE) := [(3, ⟨.int .i64, 1, 8, some (.int .i64), [.int .i64 (0 : Int)]⟩),
  (24, ⟨.struct [(0, 3), (1, 22)], 2, 32, some (.pair (.int .i64) (.sl (.int .u32))), [.int .i64 (0 : Int), .nil]⟩),
  (40, ⟨.slice 2, 1, 24, some (.sl (.int .i64)), [.nil]⟩)]
noncomputable def C_keep_MobiusTurns (_N : Nat) : Ctx := { T := T_keep_MobiusTurns, G := findE [mkP 24 Ks_keep_sound Rk_keep_sound (D_keep_sound _N), mkP 25 Ks_keep_refused Rk_keep_refused (D_keep_refused _N), mkQ 31 Ks_mobius_Inverse Rk_mobius_Inverse (D_mobius_Inverse _N), mkQ 26 Ks_mobius_Times Rk_mobius_Times (D_mobius_Times _N), mkP 30 Ks_ref_Longs Rk_ref_Longs (D_ref_Longs _N), mkF 29 Ks_keep_ones 2 (.int .i64) (D_keep_ones _N)], I := findI [], N := _N, n := 77, fx := [], fl := 0, gs := Gs }
noncomputable def keep_MobiusTurns_1 (_N : Nat) (_x1 : Int × List Int) (_x2 : List Int) : Option Rt_keep_MobiusTurns :=
  ((D_keep_sound _N ((_x1.1, _x1.2), ())).bind fun _y12 => (bif (!_y12.1) then ((D_keep_refused _N ((_x1.1, _x1.2), ())).bind fun _y13 => (some (_y13.1, ()))) else ((D_mobius_Inverse _N ((_x1.1, _x1.2), _x2, ())).bind fun _y14 => (bif (_y14.2.1 != (0 : Int)) then (some (((_y14.1.length : Int) == (0 : Int)), ())) else ((D_mobius_Inverse _N ((_x1.1, _x1.2), _y14.1, ())).bind fun _y15 => ((D_mobius_Times _N ((_x1.1, _x1.2), _x2, _y14.1, ())).bind fun _y16 => ((D_mobius_Times _N ((_x1.1, _x1.2), _y14.1, _x2, ())).bind fun _y17 => (bif (_y15.2.1 == (0 : Int)) then (bif (_y16.2.1 == (0 : Int)) then (bif (_y17.2.1 == (0 : Int)) then ((D_ref_Longs _N (_y15.1, _x2, ())).bind fun _y18 => (bif _y18.1 then ((D_keep_ones _N (_x1.1, ())).bind fun _y19 => ((D_ref_Longs _N (_y16.1, _y19, ())).bind fun _y20 => (bif _y20.1 then ((D_keep_ones _N (_x1.1, ())).bind fun _y21 => ((D_ref_Longs _N (_y17.1, _y21, ())).bind fun _y22 => (some (_y22.1, ())))) else (some (false, ()))))) else (some (false, ())))) else (some (false, ()))) else (some (false, ()))) else (some (false, ()))))))))))
theorem keep_MobiusTurns_1e (_N : Nat) (_x1 : Int × List Int) (_x2 : List Int) :
    exec (C_keep_MobiusTurns _N) (cAt (bodyOf Tryd.f6) []) .none [(0, .agg [.int .i64 _x1.1, .sl (.int .u32) _x1.2]), (1, .sl (.int .i64) _x2)] [] (canonR (fun _i _t _h => none) (finK (C_keep_MobiusTurns _N) [.tmp 4] (finD Rk_keep_MobiusTurns))) = keep_MobiusTurns_1 _N _x1 _x2 :=
  by kernel_rfl
noncomputable def D_keep_MobiusTurns (_N : Nat) (x : Dens Ks_keep_MobiusTurns) : Option Rt_keep_MobiusTurns := keep_MobiusTurns_1 _N x.1 x.2.1
theorem E_keep_MobiusTurns (_N : Nat) (x : Dens Ks_keep_MobiusTurns) : exec (C_keep_MobiusTurns _N) (bodyOf Tryd.f6) .none (argS 0 (kvals Ks_keep_MobiusTurns x)) [] (finK (C_keep_MobiusTurns _N) [.tmp 4] (finD Rk_keep_MobiusTurns)) = D_keep_MobiusTurns _N x :=
  (congrArg (fun K => exec (C_keep_MobiusTurns _N) (bodyOf Tryd.f6) .none (argS 0 (kvals Ks_keep_MobiusTurns x)) [] K) canonR_fin).trans (keep_MobiusTurns_1e _N x.1 x.2.1)
theorem ok_keep_MobiusTurns (_N : Nat) : CtxOk Tryd.prog Gs Tryd.f6 (C_keep_MobiusTurns _N) := ⟨rfl, by unfold TOk; kernel_rfl, gOk_of rfl rfl (List.forall_mem_cons.2 ⟨en_keep_sound _N, (List.forall_mem_cons.2 ⟨en_keep_refused _N, (List.forall_mem_cons.2 ⟨qen_mobius_Inverse _N, (List.forall_mem_cons.2 ⟨qen_mobius_Times _N, (List.forall_mem_cons.2 ⟨en_ref_Longs _N, (List.forall_mem_cons.2 ⟨en_keep_ones _N, (List.forall_mem_nil _)⟩)⟩)⟩)⟩)⟩)⟩), iOk_of rfl rfl (List.forall_mem_nil _), rfl⟩
theorem hb_keep_MobiusTurns : HasBody Tryd.prog 6 := ⟨Tryd.f6, bodyOf Tryd.f6, by kernel_rfl, by kernel_rfl, rfl⟩
theorem sp_keep_MobiusTurns (_N : Nat) : SpecD Tryd.prog Gs 6 Ks_keep_MobiusTurns Rk_keep_MobiusTurns (D_keep_MobiusTurns _N) := specD_of (c := bodyOf Tryd.f6) (by kernel_rfl) rfl (by kernel_rfl) (Nat.le_of_ble_eq_true (by kernel_rfl)) fun x y _h => ⟨C_keep_MobiusTurns _N, .none, ok_keep_MobiusTurns _N, (E_keep_MobiusTurns _N x).trans _h⟩
theorem en_keep_MobiusTurns (_N : Nat) : EntOk Tryd.prog Gs (mkP 6 Ks_keep_MobiusTurns Rk_keep_MobiusTurns (D_keep_MobiusTurns _N)) := entP hb_keep_MobiusTurns (by kernel_rfl) (sp_keep_MobiusTurns _N)
theorem law_MobiusTurns (o : Int × List Int) (f : List Int) (wo : wfS (.pair (.int .i64) (.sl (.int .u32))) o) (wf : wfS (.sl (.int .i64)) f) : ∃ N, D_keep_MobiusTurns N (o, f, ()) = some (true, ()) := by
  obtain ⟨n, up⟩ := o
  have hw : WL up := WL_of wo.2
  refine ⟨1000, ?_⟩
  simp only [D_keep_MobiusTurns, keep_MobiusTurns_1]
  obtain ⟨s, s1, s2⟩ := sound_eq (N := 1000) (by omega) hw n
  by_cases ho : Ord n up
  case neg =>
    obtain ⟨r, r1, r2⟩ := refused_eq (N := 1000) (by omega) hw n
    obtain rfl := r2.2 ho
    obtain rfl : s = false := Bool.eq_false_iff.2 fun h => ho (s2.1 h)
    simp only [s1, r1, Option.bind_some, Bool.not_false, cond_true]
  obtain rfl := s2.2 ho
  obtain ⟨m, rfl⟩ : ∃ m : Nat, n = (m : Int) := ⟨n.toNat, by have := ho.h0; omega⟩
  have hm : m ≤ 16 := by have := ho.h1; omega
  have hmm : m * m ≤ 16 * 16 := Nat.mul_le_mul hm hm
  simp only [s1, Option.bind_some, Bool.not_true, cond_false]
  by_cases hf : Tab m up f
  case neg =>
    simp only [Inverse_bad (N := 1000) (Nat.le_refl _) hm hw ho hf, Option.bind_some]
    rfl
  by_cases hu : Unit1 m f
  case neg =>
    simp only [Inverse_none (N := 1000) (Nat.le_refl _) hm hw ho hf hu, Option.bind_some]
    rfl
  have cf : Cel m f := ⟨hf.len, fun x hx => wfS_i64.1 (wf.2 x hx)⟩
  obtain ⟨g, g1, g2, g3, g4⟩ := Inverse_eq (N := 1000) (Nat.le_refl _) hm hw ho hf hu
  obtain ⟨h, h1, h2, h3, h4⟩ := Inverse_eq (N := 1000) (Nat.le_refl _) hm hw ho g3 (inv_unit ho hf g3 g2 hu g4)
  obtain ⟨b1, b2⟩ := inv_both g4 h4
  obtain ⟨fg, p1, p2, p3⟩ := Times_eq (N := 1000) hm hw ho hf g3 (Nat.le_refl _)
  obtain ⟨gf, q1, q2, q3⟩ := Times_eq (N := 1000) hm hw ho g3 hf (Nat.le_refl _)
  obtain ⟨u, u1, u2, u3⟩ := ones_eq (N := 1000) (Nat.le_refl _) hm
  have ud : EqT m (tv m u) dl := fun a b ha hb => by
    unfold tv dl
    rw [u3 a b ha hb]
    split <;> rfl
  obtain rfl : h = f := h2.ext cf b1
  obtain rfl : fg = u := p2.ext u2 fun a b ha hb => by rw [p3 a b ha hb, g4 a b ha hb, ud a b ha hb]
  obtain rfl : gf = fg := q2.ext p2 fun a b ha hb => by rw [q3 a b ha hb, b2 a b ha hb, ud a b ha hb]
  have hlong : ∀ x : List Int, Cel m x → D_ref_Longs 1000 (x, x, ()) = some (true, ()) := fun x hx => by
    obtain ⟨b, q1, q2⟩ := Longs_eq (N := 1000) (Nat.le_refl _) x x (by rw [hx.len]; omega)
    rw [q1, q2.2 rfl]
  simp only [g1, h1, p1, q1, u1, hlong _ cf, hlong _ p2, Option.bind_some, bne_self_eq_false, cond_false, beq_self_eq_true, cond_true]
set_option maxRecDepth 100000 in
theorem lifted_MobiusTurns (os : Os) (started : os.Started) (H : Type) (enc : TypeId × Value → H) :
    ReturnsInHanded {} Tryd.checked os 6 .any (fun w args => (Rows.mobiusTurnsSpec.pre enc Tryd.prog Tryd.f6 [] false w args ∧ laidMetH Tryd.prog Rows.mobiusTurnsRow.laid w) ∧ sizedMet enc Tryd.prog Tryd.f6 (OpenSpec.ofChange Rows.mobiusTurnsSpec) false w args) (Rows.mobiusTurnsSpec.post enc Tryd.prog Tryd.f6 false true false false) := by
  refine returnsInHanded_of_change_and (C := Tryd.checked) (X := fun w _ => laidMetH Tryd.prog Rows.mobiusTurnsRow.laid w) (fun _ _ _ hh h => h.of_heap hh) own started (by kernel_rfl) Tryd.func6
    (ChangeSpec.witness_shaped (enc := enc) (C := Tryd.checked) (os := os) (X := fun w _ => laidMetH Tryd.prog Rows.mobiusTurnsRow.laid w) false (World.doorLaid Tryd.prog 400 os) #[.agg #[.int .i64 0, .slice none 0 0], .slice none 0 0] 8 rfl (World.shaped_of_RefB (by kernel_rfl) (by kernel_rfl)) (by kernel_rfl) (by kernel_rfl) (by kernel_rfl) (door_met os _)) ?_
  intro W base args ds gs before hval0 hW _ hsz0 hL _
  have hgw : GW Gs W := gw_of hL
  have hval : ∀ (j : Nat) t v, Tryd.f6.params[j]? = some t → args[j]? = some v → Value.okWide Tryd.prog W .any base t v := hval0
  have hW' := hW
  obtain ⟨p, q, hA0, hV, rfl, _, _⟩ := hW
  have hA : DataW.TrodAll enc Tryd.prog W 0 (fun _ => true) true Tryd.f6.params.toList args.toList ds p := hA0
  rw [Tryd.params6] at hA hval
  obtain ⟨v0, vs0, d0, ds0, p0, q0, hargs, rfl, rfl, h0, r0⟩ := trodAll_cons hA
  obtain ⟨v1, vs1, d1, ds1, p1, q1, rfl, rfl, rfl, h1, r1⟩ := trodAll_cons r0
  obtain ⟨rfl, rfl, rfl⟩ := trodAll_nil r1
  obtain rfl : args = #[v0, v1] := by cases args; simp_all
  obtain ⟨rfl, rfl⟩ := trodVars_none hV
  clear hA0 hval0 hsz0
  simp only [List.append_nil] at hW'
  have hlt0 : ∀ x ∈ p0, x.block < W.heap.size := fun x hx => hW'.lt x (by simp [hx])
  have hlt1 : ∀ x ∈ p1, x.block < W.heap.size := fun x hx => hW'.lt x (by simp [hx])
  obtain ⟨x0, g0, w0⟩ := open_kd (k := .dat (.pair (.int .i64) (.sl (.int .u32)))) (by kernel_rfl) (hval 0 24 v0 rfl rfl) h0
  obtain ⟨x1, g1, w1⟩ := open_kd (k := .dat (.sl (.int .i64))) (by kernel_rfl) (hval 1 40 v1 rfl rfl) h1
  obtain ⟨N, hN⟩ := law_MobiusTurns x0 x1 w0 w1
  refine (sp_keep_MobiusTurns N (fun _ => False) W (x0, x1, ()) (true, ()) [v0, v1] (fun _ h => h.elim) hgw ⟨v0, _, rfl, g0, ⟨v1, _, rfl, g1, rfl⟩⟩ hN).mono ?_
  rintro e W' ⟨v, rfl, hg, hr⟩
  have hr : v = .bool true := by simpa only [kvals, retV, Kd.val, Go.Abs.enc, RV] using hr
  subst hr
  exact ⟨_, rfl, _, _, _, [], p0 ++ (p1 ++ []), [], hW', (trodAll_cons_mk (shut_bool (show Tryd.prog.underlying 4 = some .bool by kernel_rfl) _) trodAll_mk0), (trodAll_cons_mk (Below.trod laidOut (by kernel_rfl) (of_decide_eq_true (by kernel_rfl)) h0 hg hlt0) (trodAll_cons_mk (Below.trod laidOut (by kernel_rfl) (of_decide_eq_true (by kernel_rfl)) h1 hg hlt1) trodAll_mk0)), rfl, hg.frame _, fun h => by cases h⟩

/-- The statement: whatever the arguments, the law's function returns true and leaves them as they were. -/
theorem mobiusTurns_holds : Rows.MobiusTurnsSaid :=
  OpenClaim.holds_of_wide 6 Tryd.f6 rfl rfl rfl rfl rfl rfl rfl ⟨rfl, rfl, rfl, rfl, rfl⟩ rfl rfl rfl rfl rfl (by kernel_rfl) Tryd.func6 (by kernel_rfl)
    (of_decide_eq_true (by kernel_rfl)) (by unfold Func.isWrapper; first | (rw [if_pos (by decide +kernel)]; kernel_rfl) | (rw [if_neg (by decide +kernel)]; exact ⟨rfl, rfl⟩))
    (fun os started H enc _ => lifted_MobiusTurns os started H enc)
/-- The statement's card: the variable that the road reads is tied to the program's text. -/
theorem mobiusTurns_card : Rows.MobiusTurnsCardSaid :=
  Claim7.holds_tied_plain_at .later [] [.data] true (true, "95f6ea9d403f7937751d645b60a9924f7afd7c18e9047aef24e3dc8f01e8eb85") false mobiusTurns_holds (fun _ h => by cases h) (by kernel_rfl) (fun _ h => by cases h) mobiusTurns_row_tie rfl ⟨rfl, rfl⟩ (by kernel_rfl) rfl
    (fun f fn hf hfn => by
      obtain rfl : f = 6 := Option.some.inj ((show Tryd.prog.funcNamed "watershed/watershedkeep.MobiusTurns" = some 6 by kernel_rfl).symm.trans hf) |>.symm
      obtain rfl : fn = Tryd.f6 := (Option.some.inj (Tryd.func6.symm.trans hfn)).symm
      exact ⟨by kernel_rfl, fun j t ht => by
        have h3 := List.all_eq_true.1 (show (Tryd.f6.params.toList.all fun t => !(Tryd.prog.wantsStandIn t)) = true by kernel_rfl) t (by rw [← Array.getElem?_toList] at ht; exact List.mem_of_getElem? ht)
        have h4 : Tryd.prog.wantsStandIn t = false := by simpa using h3
        exact h4⟩)
    (by kernel_rfl)
end Go.Proofs.YtdlhfddmbdbedaaDoor
