/- What is below a set has it, and is below itself; what is below both together is what is below each; and what is below both alike is closed: the law answers true for every order and every two sets. No condition. -/
import Derived.Test.YtiepnpfjlknkoaaDoorDownsS
import Derived.Test.YtiepnpfjlknkoaaDoorFrame
namespace Go.Proofs.YtiepnpfjlknkoaaDoor
open Go Go.ChangeShapes Go.WideShapes Go.ChangeAt Go.WideMaps Go.WideElems Go.RowKit Go.Abs
-- watershed/watershedkeep.DownsCloses
abbrev Ks_keep_DownsCloses : List Kd := [.dat (.pair (.int .i64) (.sl (.int .u32))), .dat (.int .u32), .dat (.int .u32)]
abbrev Rk_keep_DownsCloses : List Kd := [.dat (.bool)]
abbrev Rt_keep_DownsCloses : Type := Dens Rk_keep_DownsCloses
def T_keep_DownsCloses : List (Nat × TE) := [(34, ⟨.struct [(0, 3), (1, 22)], 2, 32, some (.pair (.int .i64) (.sl (.int .u32))), [.int .i64 (0 : Int), .nil]⟩)]
noncomputable def C_keep_DownsCloses (_N : Nat) : Ctx := { T := T_keep_DownsCloses, G := findE [mkP 32 Ks_downs_Down Rk_downs_Down (D_downs_Down _N)], I := findI [], N := _N, n := 91, fx := [], fl := 0, gs := Gs }
noncomputable def keep_DownsCloses_1 (_N : Nat) (_x1 : Int × List Int) (_x2 : Int) (_x3 : Int) : Option Rt_keep_DownsCloses :=
  ((D_downs_Down _N ((_x1.1, _x1.2), _x2, ())).bind fun _y6 => ((D_downs_Down _N ((_x1.1, _x1.2), _x3, ())).bind fun _y7 => (bif (_y6.2.1 != (0 : Int)) then (some (true, ())) else (bif (_y7.2.1 != (0 : Int)) then (some (true, ())) else ((D_downs_Down _N ((_x1.1, _x1.2), (ior .u32 _x2 _x3), ())).bind fun _y8 => ((D_downs_Down _N ((_x1.1, _x1.2), _y6.1, ())).bind fun _y9 => ((D_downs_Down _N ((_x1.1, _x1.2), (iand .u32 _y6.1 _y7.1), ())).bind fun _y10 => (bif (_y8.2.1 == (0 : Int)) then (bif (_y9.2.1 == (0 : Int)) then (bif (_y10.2.1 == (0 : Int)) then (bif ((ior .u32 _y6.1 _x2) == _y6.1) then (bif (_y9.1 == _y6.1) then (bif (_y8.1 == (ior .u32 _y6.1 _y7.1)) then (some ((_y10.1 == (iand .u32 _y6.1 _y7.1)), ())) else (some (false, ()))) else (some (false, ()))) else (some (false, ()))) else (some (false, ()))) else (some (false, ()))) else (some (false, ()))))))))))
theorem keep_DownsCloses_1e (_N : Nat) (_x1 : Int × List Int) (_x2 : Int) (_x3 : Int) :
    exec (C_keep_DownsCloses _N) (cAt (bodyOf Tryd.f11) []) .none [(0, .agg [.int .i64 _x1.1, .sl (.int .u32) _x1.2]), (1, .int .u32 _x2), (2, .int .u32 _x3)] [] (canonR (fun _i _t _h => none) (finK (C_keep_DownsCloses _N) [.tmp 6] (finD Rk_keep_DownsCloses))) = keep_DownsCloses_1 _N _x1 _x2 _x3 :=
  by kernel_rfl
noncomputable def D_keep_DownsCloses (_N : Nat) (x : Dens Ks_keep_DownsCloses) : Option Rt_keep_DownsCloses := keep_DownsCloses_1 _N x.1 x.2.1 x.2.2.1
theorem E_keep_DownsCloses (_N : Nat) (x : Dens Ks_keep_DownsCloses) : exec (C_keep_DownsCloses _N) (bodyOf Tryd.f11) .none (argS 0 (kvals Ks_keep_DownsCloses x)) [] (finK (C_keep_DownsCloses _N) [.tmp 6] (finD Rk_keep_DownsCloses)) = D_keep_DownsCloses _N x :=
  (congrArg (fun K => exec (C_keep_DownsCloses _N) (bodyOf Tryd.f11) .none (argS 0 (kvals Ks_keep_DownsCloses x)) [] K) canonR_fin).trans (keep_DownsCloses_1e _N x.1 x.2.1 x.2.2.1)
theorem ok_keep_DownsCloses (_N : Nat) : CtxOk Tryd.prog Gs Tryd.f11 (C_keep_DownsCloses _N) := ⟨rfl, by unfold TOk; kernel_rfl, gOk_of rfl rfl (List.forall_mem_cons.2 ⟨en_downs_Down _N, (List.forall_mem_nil _)⟩), iOk_of rfl rfl (List.forall_mem_nil _), rfl⟩
theorem hb_keep_DownsCloses : HasBody Tryd.prog 11 := ⟨Tryd.f11, bodyOf Tryd.f11, by kernel_rfl, by kernel_rfl, rfl⟩
theorem sp_keep_DownsCloses (_N : Nat) : SpecD Tryd.prog Gs 11 Ks_keep_DownsCloses Rk_keep_DownsCloses (D_keep_DownsCloses _N) := specD_of (c := bodyOf Tryd.f11) (by kernel_rfl) rfl (by kernel_rfl) (Nat.le_of_ble_eq_true (by kernel_rfl)) fun x y _h => ⟨C_keep_DownsCloses _N, .none, ok_keep_DownsCloses _N, (E_keep_DownsCloses _N x).trans _h⟩
theorem en_keep_DownsCloses (_N : Nat) : EntOk Tryd.prog Gs (mkP 11 Ks_keep_DownsCloses Rk_keep_DownsCloses (D_keep_DownsCloses _N)) := entP hb_keep_DownsCloses (by kernel_rfl) (sp_keep_DownsCloses _N)
theorem law_DownsCloses (o : Int × List Int) (a b : Int) (ho : wfS (.pair (.int .i64) (.sl (.int .u32))) o) (ha : wfS (.int .u32) a) (hb : wfS (.int .u32) b) : ∃ N, D_keep_DownsCloses N (o, a, b, ()) = some (true, ()) := by
  obtain ⟨n, up⟩ := o
  have hw : WL up := WL_of ho.2
  have ha := wfS_u32.1 ha
  have hb := wfS_u32.1 hb
  have hN : 40 ≤ 1000 := by omega
  refine ⟨1000, ?_⟩
  simp only [D_keep_DownsCloses, keep_DownsCloses_1]
  obtain ⟨e, h1, h2⟩ := checked_spec hN hw n ha
  obtain ⟨f, k1, k2⟩ := checked_spec hN hw n hb
  by_cases he : e = 0
  case neg =>
    obtain ⟨d1, _⟩ := downs_bad h1 he
    rw [d1, Option.bind_some]
    by_cases hf : f = 0
    · obtain ⟨h, hin⟩ := k2.1 hf
      obtain ⟨y, l1, _⟩ := Down_spec' hN hw hb h hin
      rw [l1, Option.bind_some]
      simp only [show (e != 0) = true from bne_iff_ne.2 he, cond_true]
    · obtain ⟨l1, _⟩ := downs_bad k1 hf
      rw [l1, Option.bind_some]
      simp only [show (e != 0) = true from bne_iff_ne.2 he, cond_true]
  subst he
  obtain ⟨h, hina⟩ := h2.1 rfl
  obtain ⟨x, l1, hx, hxb⟩ := Down_spec' hN hw ha h hina
  rw [l1, Option.bind_some]
  by_cases hf : f = 0
  case neg =>
    obtain ⟨m1, _⟩ := downs_bad k1 hf
    rw [m1, Option.bind_some]
    simp only [bne_self_eq_false, cond_false, show (f != 0) = true from bne_iff_ne.2 hf, cond_true]
  subst hf
  obtain ⟨_, hinb⟩ := k2.1 rfl
  obtain ⟨y, m1, hy, hyb⟩ := Down_spec' hN hw hb h hinb
  have oab : ∀ i, bt (ior .u32 a b) i = true ↔ bt a i = true ∨ bt b i = true := fun i => by rw [bt_ior ha hb]; simp
  have axy : ∀ i, bt (iand .u32 x y) i = true ↔ bt x i = true ∧ bt y i = true := fun i => by rw [bt_iand hx hy]; simp
  have oxy : ∀ i, bt (ior .u32 x y) i = true ↔ bt x i = true ∨ bt y i = true := fun i => by rw [bt_ior hx hy]; simp
  obtain ⟨z, n1, hz, hzb⟩ := Down_spec' hN hw (x := ior .u32 a b) W32.ior h fun i hi => ((oab i).1 hi).elim (hina i) (hinb i)
  obtain ⟨g, p1, hg, hgb⟩ := Down_spec' hN hw hx h fun i hi => ((hxb i).1 hi).1
  obtain ⟨q, q1, hq, hqb⟩ := Down_spec' hN hw (x := iand .u32 x y) W32.iand h fun i hi => ((hxb i).1 ((axy i).1 hi).1).1
  rw [m1, Option.bind_some, n1, Option.bind_some, p1, Option.bind_some, q1, Option.bind_some]
  simp only [bne_self_eq_false, beq_self_eq_true, cond_false, cond_true]
  have t1 : (ior .u32 x a == x) = true := (or_eq_left hx ha).2 fun i hi => (hxb i).2 ⟨hina i hi, i, hi, h.refl i (hina i hi)⟩
  have t2 : (g == x) = true := beq_iff_eq.2 (bt_ext hg hx fun i _ => by
    rw [Bool.eq_iff_iff, hgb, hxb]
    constructor
    · rintro ⟨h5, j, h6, h7⟩
      obtain ⟨h8, k, h9, h10⟩ := (hxb j).1 h6
      exact ⟨h5, k, h9, h.trans i j k h5 h8 h7 h10⟩
    · rintro ⟨h5, h6⟩
      exact ⟨h5, i, (hxb i).2 ⟨h5, h6⟩, h.refl i h5⟩)
  have t3 : (z == ior .u32 x y) = true := beq_iff_eq.2 (bt_ext hz W32.ior fun i _ => by
    rw [Bool.eq_iff_iff, hzb, oxy, hxb, hyb]
    constructor
    · rintro ⟨h5, j, h6, h7⟩
      exact ((oab j).1 h6).imp (fun h6 => ⟨h5, j, h6, h7⟩) (fun h6 => ⟨h5, j, h6, h7⟩)
    · rintro (⟨h5, j, h6, h7⟩ | ⟨h5, j, h6, h7⟩)
      · exact ⟨h5, j, (oab j).2 (.inl h6), h7⟩
      · exact ⟨h5, j, (oab j).2 (.inr h6), h7⟩)
  have t4 : (q == iand .u32 x y) = true := beq_iff_eq.2 (bt_ext hq W32.iand fun i _ => by
    rw [Bool.eq_iff_iff, hqb, axy]
    constructor
    · rintro ⟨h5, j, h6, h7⟩
      obtain ⟨h8, h9⟩ := (axy j).1 h6
      obtain ⟨h10, k, h11, h12⟩ := (hxb j).1 h8
      obtain ⟨_, k', h13, h14⟩ := (hyb j).1 h9
      exact ⟨(hxb i).2 ⟨h5, k, h11, h.trans i j k h5 h10 h7 h12⟩, (hyb i).2 ⟨h5, k', h13, h.trans i j k' h5 h10 h7 h14⟩⟩
    · intro h5
      have h6 := ((hxb i).1 h5.1).1
      exact ⟨h6, i, (axy i).2 h5, h.refl i h6⟩)
  rw [t1, t2, t3, t4]
  rfl
set_option maxRecDepth 100000 in
theorem lifted_DownsCloses (os : Os) (started : os.Started) (H : Type) (enc : TypeId × Value → H) :
    ReturnsInHanded {} Tryd.checked os 11 .any (fun w args => (Rows.downsClosesSpec.pre enc Tryd.prog Tryd.f11 [] false w args ∧ laidMetH Tryd.prog Rows.downsClosesRow.laid w) ∧ sizedMet enc Tryd.prog Tryd.f11 (OpenSpec.ofChange Rows.downsClosesSpec) false w args) (Rows.downsClosesSpec.post enc Tryd.prog Tryd.f11 false true false false) := by
  refine returnsInHanded_of_change_and (C := Tryd.checked) (X := fun w _ => laidMetH Tryd.prog Rows.downsClosesRow.laid w) (fun _ _ _ hh h => h.of_heap hh) own started (by kernel_rfl) Tryd.func11
    (ChangeSpec.witness_shaped (enc := enc) (C := Tryd.checked) (os := os) (X := fun w _ => laidMetH Tryd.prog Rows.downsClosesRow.laid w) false (World.doorLaid Tryd.prog 400 os) #[.agg #[.int .i64 0, .slice none 0 0], .int .u32 0, .int .u32 0] 8 rfl (World.shaped_of_RefB (by kernel_rfl) (by kernel_rfl)) (by kernel_rfl) (by kernel_rfl) (by kernel_rfl) (door_met os _)) ?_
  intro W base args ds gs before hval0 hW _ hsz0 hL _
  have hgw : GW Gs W := gw_of hL
  have hval : ∀ (j : Nat) t v, Tryd.f11.params[j]? = some t → args[j]? = some v → Value.okWide Tryd.prog W .any base t v := hval0
  have hW' := hW
  obtain ⟨p, q, hA0, hV, rfl, _, _⟩ := hW
  have hA : DataW.TrodAll enc Tryd.prog W 0 (fun _ => true) true Tryd.f11.params.toList args.toList ds p := hA0
  rw [Tryd.params11] at hA hval
  obtain ⟨v0, vs0, d0, ds0, p0, q0, hargs, rfl, rfl, h0, r0⟩ := trodAll_cons hA
  obtain ⟨v1, vs1, d1, ds1, p1, q1, rfl, rfl, rfl, h1, r1⟩ := trodAll_cons r0
  obtain ⟨v2, vs2, d2, ds2, p2, q2, rfl, rfl, rfl, h2, r2⟩ := trodAll_cons r1
  obtain ⟨rfl, rfl, rfl⟩ := trodAll_nil r2
  obtain rfl : args = #[v0, v1, v2] := by cases args; simp_all
  obtain ⟨rfl, rfl⟩ := trodVars_none hV
  clear hA0 hval0 hsz0
  simp only [List.append_nil] at hW'
  have hlt0 : ∀ x ∈ p0, x.block < W.heap.size := fun x hx => hW'.lt x (by simp [hx])
  have hlt1 : ∀ x ∈ p1, x.block < W.heap.size := fun x hx => hW'.lt x (by simp [hx])
  have hlt2 : ∀ x ∈ p2, x.block < W.heap.size := fun x hx => hW'.lt x (by simp [hx])
  obtain ⟨x0, g0, w0⟩ := open_kd (k := .dat (.pair (.int .i64) (.sl (.int .u32)))) (by kernel_rfl) (hval 0 34 v0 rfl rfl) h0
  obtain ⟨x1, g1, w1⟩ := open_kd (k := .dat (.int .u32)) (by kernel_rfl) (hval 1 25 v1 rfl rfl) h1
  obtain ⟨x2, g2, w2⟩ := open_kd (k := .dat (.int .u32)) (by kernel_rfl) (hval 2 25 v2 rfl rfl) h2
  obtain ⟨N, hN⟩ := law_DownsCloses x0 x1 x2 w0 w1 w2
  refine (sp_keep_DownsCloses N (fun _ => False) W (x0, x1, x2, ()) (true, ()) [v0, v1, v2] (fun _ h => h.elim) hgw ⟨v0, _, rfl, g0, ⟨v1, _, rfl, g1, ⟨v2, _, rfl, g2, rfl⟩⟩⟩ hN).mono ?_
  rintro e W' ⟨v, rfl, hg, hr⟩
  have hr : v = .bool true := by simpa only [kvals, retV, Kd.val, Go.Abs.enc, RV] using hr
  subst hr
  exact ⟨_, rfl, _, _, _, [], p0 ++ (p1 ++ (p2 ++ [])), [], hW', (trodAll_cons_mk (shut_bool (show Tryd.prog.underlying 4 = some .bool by kernel_rfl) _) trodAll_mk0), (trodAll_cons_mk (Below.trod laidOut (by kernel_rfl) (of_decide_eq_true (by kernel_rfl)) h0 hg hlt0) (trodAll_cons_mk (Below.trod laidOut (by kernel_rfl) (of_decide_eq_true (by kernel_rfl)) h1 hg hlt1) (trodAll_cons_mk (Below.trod laidOut (by kernel_rfl) (of_decide_eq_true (by kernel_rfl)) h2 hg hlt2) trodAll_mk0))), rfl, hg.frame _, fun h => by cases h⟩

/-- The statement: whatever the arguments, the law's function returns true and leaves them as they were. -/
theorem downsCloses_holds : Rows.DownsClosesSaid :=
  OpenClaim.holds_of_wide 11 Tryd.f11 rfl rfl rfl rfl rfl rfl rfl ⟨rfl, rfl, rfl, rfl, rfl⟩ rfl rfl rfl rfl rfl (by kernel_rfl) Tryd.func11 (by kernel_rfl)
    (of_decide_eq_true (by kernel_rfl)) (by unfold Func.isWrapper; first | (rw [if_pos (by decide +kernel)]; kernel_rfl) | (rw [if_neg (by decide +kernel)]; exact ⟨rfl, rfl⟩))
    (fun os started H enc _ => lifted_DownsCloses os started H enc)
/-- The statement's card: the variable that the road reads is tied to the program's text. -/
theorem downsCloses_card : Rows.DownsClosesCardSaid :=
  Claim7.holds_tied_plain_at .later [] [.data] true (true, "cbd544c05f2c0fdd660505a86de7bf34820ac41be0754ffecfa8b6dc1818dc70") false downsCloses_holds (fun _ h => by cases h) (by kernel_rfl) (fun _ h => by cases h) downsCloses_row_tie rfl ⟨rfl, rfl⟩ (by kernel_rfl) rfl
    (fun f fn hf hfn => by
      obtain rfl : f = 11 := Option.some.inj ((show Tryd.prog.funcNamed "watershed/watershedkeep.DownsCloses" = some 11 by kernel_rfl).symm.trans hf) |>.symm
      obtain rfl : fn = Tryd.f11 := (Option.some.inj (Tryd.func11.symm.trans hfn)).symm
      exact ⟨by kernel_rfl, fun j t ht => by
        have h3 := List.all_eq_true.1 (show (Tryd.f11.params.toList.all fun t => !(Tryd.prog.wantsStandIn t)) = true by kernel_rfl) t (by rw [← Array.getElem?_toList] at ht; exact List.mem_of_getElem? ht)
        have h4 : Tryd.prog.wantsStandIn t = false := by simpa using h3
        exact h4⟩)
    (by kernel_rfl)
end Go.Proofs.YtiepnpfjlknkoaaDoor
