/- A set's maximal elements are those of all below it, and none of them is below another one; and what is below them is what is below it: the law answers true for every order and every set. No condition. -/
import Derived.Test.YtiepnpfjlknkoaaDoorDownsS
import Derived.Test.YtiepnpfjlknkoaaDoorFrame
namespace Go.Proofs.YtiepnpfjlknkoaaDoor
open Go Go.ChangeShapes Go.WideShapes Go.ChangeAt Go.WideMaps Go.WideElems Go.RowKit Go.Abs
-- watershed/watershedkeep.DownsAntichains
abbrev Ks_keep_DownsAntichains : List Kd := [.dat (.pair (.int .i64) (.sl (.int .u32))), .dat (.int .u32)]
abbrev Rk_keep_DownsAntichains : List Kd := [.dat (.bool)]
abbrev Rt_keep_DownsAntichains : Type := Dens Rk_keep_DownsAntichains
def T_keep_DownsAntichains : List (Nat × TE) := [(34, ⟨.struct [(0, 3), (1, 22)], 2, 32, some (.pair (.int .i64) (.sl (.int .u32))), [.int .i64 (0 : Int), .nil]⟩)]
noncomputable def C_keep_DownsAntichains (_N : Nat) : Ctx := { T := T_keep_DownsAntichains, G := findE [mkP 32 Ks_downs_Down Rk_downs_Down (D_downs_Down _N), mkP 33 Ks_downs_Maximal Rk_downs_Maximal (D_downs_Maximal _N), mkP 34 Ks_downs_Minimal Rk_downs_Minimal (D_downs_Minimal _N)], I := findI [], N := _N, n := 92, fx := [], fl := 0, gs := Gs }
noncomputable def keep_DownsAntichains_1 (_N : Nat) (_x1 : Int × List Int) (_x2 : Int) : Option Rt_keep_DownsAntichains :=
  ((D_downs_Down _N ((_x1.1, _x1.2), _x2, ())).bind fun _y6 => ((D_downs_Maximal _N ((_x1.1, _x1.2), _x2, ())).bind fun _y7 => (bif (_y6.2.1 != (0 : Int)) then (some ((_y6.2.1 == _y7.2.1), ())) else (bif (_y7.2.1 != (0 : Int)) then (some ((_y6.2.1 == _y7.2.1), ())) else ((D_downs_Maximal _N ((_x1.1, _x1.2), _y6.1, ())).bind fun _y8 => ((D_downs_Down _N ((_x1.1, _x1.2), _y7.1, ())).bind fun _y9 => ((D_downs_Minimal _N ((_x1.1, _x1.2), _y7.1, ())).bind fun _y10 => (bif (_y8.2.1 == (0 : Int)) then (bif (_y9.2.1 == (0 : Int)) then (bif (_y10.2.1 == (0 : Int)) then (bif (_y8.1 == _y7.1) then (bif (_y9.1 == _y6.1) then (bif (_y10.1 == _y7.1) then (bif ((ior .u32 _y7.1 _x2) == _x2) then (bif (_y7.1 != (0 : Int)) then (some (true, ())) else (some ((_x2 == (0 : Int)), ()))) else (some (false, ()))) else (some (false, ()))) else (some (false, ()))) else (some (false, ()))) else (some (false, ()))) else (some (false, ()))) else (some (false, ()))))))))))
theorem keep_DownsAntichains_1e (_N : Nat) (_x1 : Int × List Int) (_x2 : Int) :
    exec (C_keep_DownsAntichains _N) (cAt (bodyOf Tryd.f12) []) .none [(0, .agg [.int .i64 _x1.1, .sl (.int .u32) _x1.2]), (1, .int .u32 _x2)] [] (canonR (fun _i _t _h => none) (finK (C_keep_DownsAntichains _N) [.tmp 4] (finD Rk_keep_DownsAntichains))) = keep_DownsAntichains_1 _N _x1 _x2 :=
  by kernel_rfl
noncomputable def D_keep_DownsAntichains (_N : Nat) (x : Dens Ks_keep_DownsAntichains) : Option Rt_keep_DownsAntichains := keep_DownsAntichains_1 _N x.1 x.2.1
theorem E_keep_DownsAntichains (_N : Nat) (x : Dens Ks_keep_DownsAntichains) : exec (C_keep_DownsAntichains _N) (bodyOf Tryd.f12) .none (argS 0 (kvals Ks_keep_DownsAntichains x)) [] (finK (C_keep_DownsAntichains _N) [.tmp 4] (finD Rk_keep_DownsAntichains)) = D_keep_DownsAntichains _N x :=
  (congrArg (fun K => exec (C_keep_DownsAntichains _N) (bodyOf Tryd.f12) .none (argS 0 (kvals Ks_keep_DownsAntichains x)) [] K) canonR_fin).trans (keep_DownsAntichains_1e _N x.1 x.2.1)
theorem ok_keep_DownsAntichains (_N : Nat) : CtxOk Tryd.prog Gs Tryd.f12 (C_keep_DownsAntichains _N) := ⟨rfl, by unfold TOk; kernel_rfl, gOk_of rfl rfl (List.forall_mem_cons.2 ⟨en_downs_Down _N, (List.forall_mem_cons.2 ⟨en_downs_Maximal _N, (List.forall_mem_cons.2 ⟨en_downs_Minimal _N, (List.forall_mem_nil _)⟩)⟩)⟩), iOk_of rfl rfl (List.forall_mem_nil _), rfl⟩
theorem hb_keep_DownsAntichains : HasBody Tryd.prog 12 := ⟨Tryd.f12, bodyOf Tryd.f12, by kernel_rfl, by kernel_rfl, rfl⟩
theorem sp_keep_DownsAntichains (_N : Nat) : SpecD Tryd.prog Gs 12 Ks_keep_DownsAntichains Rk_keep_DownsAntichains (D_keep_DownsAntichains _N) := specD_of (c := bodyOf Tryd.f12) (by kernel_rfl) rfl (by kernel_rfl) (Nat.le_of_ble_eq_true (by kernel_rfl)) fun x y _h => ⟨C_keep_DownsAntichains _N, .none, ok_keep_DownsAntichains _N, (E_keep_DownsAntichains _N x).trans _h⟩
theorem en_keep_DownsAntichains (_N : Nat) : EntOk Tryd.prog Gs (mkP 12 Ks_keep_DownsAntichains Rk_keep_DownsAntichains (D_keep_DownsAntichains _N)) := entP hb_keep_DownsAntichains (by kernel_rfl) (sp_keep_DownsAntichains _N)
theorem law_DownsAntichains (o : Int × List Int) (a : Int) (ho : wfS (.pair (.int .i64) (.sl (.int .u32))) o) (ha : wfS (.int .u32) a) : ∃ N, D_keep_DownsAntichains N (o, a, ()) = some (true, ()) := by
  obtain ⟨n, up⟩ := o
  have hw : WL up := WL_of ho.2
  have ha := wfS_u32.1 ha
  have hN : 40 ≤ 1000 := by omega
  refine ⟨1000, ?_⟩
  simp only [D_keep_DownsAntichains, keep_DownsAntichains_1]
  obtain ⟨e, h1, h2⟩ := checked_spec hN hw n ha
  by_cases he : e = 0
  case neg =>
    obtain ⟨d1, d2⟩ := downs_bad h1 he
    rw [d1, Option.bind_some, d2, Option.bind_some]
    simp only [show (e != 0) = true from bne_iff_ne.2 he, cond_true, beq_self_eq_true]
  subst he
  obtain ⟨h, hina⟩ := h2.1 rfl
  obtain ⟨x, l1, hx, hxb⟩ := Down_spec' hN hw ha h hina
  obtain ⟨m, m1, hm, hmb⟩ := Max_spec hN hw ha h hina
  have hmin : within m n.toNat := fun i hi => hina i ((hmb i).1 hi).1
  have hxin : within x n.toNat := fun i hi => ((hxb i).1 hi).1
  obtain ⟨q, q1, hq, hqb⟩ := Max_spec hN hw hx h hxin
  obtain ⟨y, y1, hy, hyb⟩ := Down_spec' hN hw hm h hmin
  obtain ⟨k, k1, hk, hkb⟩ := Min_spec hN hw hm h hmin
  rw [l1, Option.bind_some, m1, Option.bind_some, q1, Option.bind_some, y1, Option.bind_some, k1, Option.bind_some]
  simp only [bne_self_eq_false, beq_self_eq_true, cond_false, cond_true]
  have hax : ∀ i, bt a i = true → bt x i = true := fun i hi => (hxb i).2 ⟨hina i hi, i, hi, h.refl i (hina i hi)⟩
  -- above each of the set stands a maximal one
  have top : ∀ i, bt a i = true → ∃ j, bt m j = true ∧ le up i j := fun i hi => by
    obtain ⟨j, hj, hp, hle, hmax⟩ := h.top (fun i => bt a i = true) (hina i hi) hi
    exact ⟨j, (hmb j).2 ⟨hp, fun z hz hza => hmax z (hina z hza) hza hz⟩, hle⟩
  have t1 : (q == m) = true := beq_iff_eq.2 (bt_ext hq hm fun i _ => by
    rw [Bool.eq_iff_iff, hqb, hmb]
    constructor
    · rintro ⟨h5, h6⟩
      obtain ⟨h7, j, h8, h9⟩ := (hxb i).1 h5
      have := h6 j h9 (hax j h8)
      subst this
      exact ⟨h8, fun z hz hza => h6 z hz (hax z hza)⟩
    · rintro ⟨h5, h6⟩
      refine ⟨hax i h5, fun z hz hzx => ?_⟩
      obtain ⟨h7, j, h8, h9⟩ := (hxb z).1 hzx
      have hi := hina i h5
      have := h6 j (h.trans i z j hi h7 hz h9) h8
      subst this
      exact h.anti z j h7 hi h9 hz)
  have t2 : (y == x) = true := beq_iff_eq.2 (bt_ext hy hx fun i _ => by
    rw [Bool.eq_iff_iff, hyb, hxb]
    refine and_congr_right fun hi => ⟨fun ⟨j, h5, h6⟩ => ⟨j, ((hmb j).1 h5).1, h6⟩, fun ⟨j, h5, h6⟩ => ?_⟩
    obtain ⟨z, h7, h8⟩ := top j h5
    exact ⟨z, h7, h.trans i j z hi (hina j h5) h6 h8⟩)
  have t3 : (k == m) = true := beq_iff_eq.2 (bt_ext hk hm fun i _ => by
    rw [Bool.eq_iff_iff, hkb]
    refine ⟨fun h => h.1, fun hi => ⟨hi, fun j hle hj => ?_⟩⟩
    exact (((hmb j).1 hj).2 i hle ((hmb i).1 hi).1).symm)
  have t4 : (ior .u32 m a == a) = true := (or_eq_iff hm ha).2 fun i hi => ((hmb i).1 hi).1
  rw [t1, t2, t3, t4]
  simp only [cond_true]
  cases h0 : (m != 0) with
  | true => rfl
  | false =>
    have hm0 : m = 0 := by simpa using h0
    have : a = 0 := (eq_zero_iff ha).2 fun i => Bool.eq_false_iff.2 fun hi => by
      obtain ⟨j, h5, _⟩ := top i hi
      rw [hm0, bt_zero] at h5; cases h5
    rw [this]; rfl
set_option maxRecDepth 100000 in
theorem lifted_DownsAntichains (os : Os) (started : os.Started) (H : Type) (enc : TypeId × Value → H) :
    ReturnsInHanded {} Tryd.checked os 12 .any (fun w args => (Rows.downsAntichainsSpec.pre enc Tryd.prog Tryd.f12 [] false w args ∧ laidMetH Tryd.prog Rows.downsAntichainsRow.laid w) ∧ sizedMet enc Tryd.prog Tryd.f12 (OpenSpec.ofChange Rows.downsAntichainsSpec) false w args) (Rows.downsAntichainsSpec.post enc Tryd.prog Tryd.f12 false true false false) := by
  refine returnsInHanded_of_change_and (C := Tryd.checked) (X := fun w _ => laidMetH Tryd.prog Rows.downsAntichainsRow.laid w) (fun _ _ _ hh h => h.of_heap hh) own started (by kernel_rfl) Tryd.func12
    (ChangeSpec.witness_shaped (enc := enc) (C := Tryd.checked) (os := os) (X := fun w _ => laidMetH Tryd.prog Rows.downsAntichainsRow.laid w) false (World.doorLaid Tryd.prog 400 os) #[.agg #[.int .i64 0, .slice none 0 0], .int .u32 0] 8 rfl (World.shaped_of_RefB (by kernel_rfl) (by kernel_rfl)) (by kernel_rfl) (by kernel_rfl) (by kernel_rfl) (door_met os _)) ?_
  intro W base args ds gs before hval0 hW _ hsz0 hL _
  have hgw : GW Gs W := gw_of hL
  have hval : ∀ (j : Nat) t v, Tryd.f12.params[j]? = some t → args[j]? = some v → Value.okWide Tryd.prog W .any base t v := hval0
  have hW' := hW
  obtain ⟨p, q, hA0, hV, rfl, _, _⟩ := hW
  have hA : DataW.TrodAll enc Tryd.prog W 0 (fun _ => true) true Tryd.f12.params.toList args.toList ds p := hA0
  rw [Tryd.params12] at hA hval
  obtain ⟨v0, vs0, d0, ds0, p0, q0, hargs, rfl, rfl, h0, r0⟩ := trodAll_cons hA
  obtain ⟨v1, vs1, d1, ds1, p1, q1, rfl, rfl, rfl, h1, r1⟩ := trodAll_cons r0
  obtain ⟨rfl, rfl, rfl⟩ := trodAll_nil r1
  obtain rfl : args = #[v0, v1] := by cases args; simp_all
  obtain ⟨rfl, rfl⟩ := trodVars_none hV
  clear hA0 hval0 hsz0
  simp only [List.append_nil] at hW'
  have hlt0 : ∀ x ∈ p0, x.block < W.heap.size := fun x hx => hW'.lt x (by simp [hx])
  have hlt1 : ∀ x ∈ p1, x.block < W.heap.size := fun x hx => hW'.lt x (by simp [hx])
  obtain ⟨x0, g0, w0⟩ := open_kd (k := .dat (.pair (.int .i64) (.sl (.int .u32)))) (by kernel_rfl) (hval 0 34 v0 rfl rfl) h0
  obtain ⟨x1, g1, w1⟩ := open_kd (k := .dat (.int .u32)) (by kernel_rfl) (hval 1 25 v1 rfl rfl) h1
  obtain ⟨N, hN⟩ := law_DownsAntichains x0 x1 w0 w1
  refine (sp_keep_DownsAntichains N (fun _ => False) W (x0, x1, ()) (true, ()) [v0, v1] (fun _ h => h.elim) hgw ⟨v0, _, rfl, g0, ⟨v1, _, rfl, g1, rfl⟩⟩ hN).mono ?_
  rintro e W' ⟨v, rfl, hg, hr⟩
  have hr : v = .bool true := by simpa only [kvals, retV, Kd.val, Go.Abs.enc, RV] using hr
  subst hr
  exact ⟨_, rfl, _, _, _, [], p0 ++ (p1 ++ []), [], hW', (trodAll_cons_mk (shut_bool (show Tryd.prog.underlying 4 = some .bool by kernel_rfl) _) trodAll_mk0), (trodAll_cons_mk (Below.trod laidOut (by kernel_rfl) (of_decide_eq_true (by kernel_rfl)) h0 hg hlt0) (trodAll_cons_mk (Below.trod laidOut (by kernel_rfl) (of_decide_eq_true (by kernel_rfl)) h1 hg hlt1) trodAll_mk0)), rfl, hg.frame _, fun h => by cases h⟩

/-- The statement: whatever the arguments, the law's function returns true and leaves them as they were. -/
theorem downsAntichains_holds : Rows.DownsAntichainsSaid :=
  OpenClaim.holds_of_wide 12 Tryd.f12 rfl rfl rfl rfl rfl rfl rfl ⟨rfl, rfl, rfl, rfl, rfl⟩ rfl rfl rfl rfl rfl (by kernel_rfl) Tryd.func12 (by kernel_rfl)
    (of_decide_eq_true (by kernel_rfl)) (by unfold Func.isWrapper; first | (rw [if_pos (by decide +kernel)]; kernel_rfl) | (rw [if_neg (by decide +kernel)]; exact ⟨rfl, rfl⟩))
    (fun os started H enc _ => lifted_DownsAntichains os started H enc)
/-- The statement's card: the variable that the road reads is tied to the program's text. -/
theorem downsAntichains_card : Rows.DownsAntichainsCardSaid :=
  Claim7.holds_tied_plain_at .later [] [.data] true (true, "cbd544c05f2c0fdd660505a86de7bf34820ac41be0754ffecfa8b6dc1818dc70") false downsAntichains_holds (fun _ h => by cases h) (by kernel_rfl) (fun _ h => by cases h) downsAntichains_row_tie rfl ⟨rfl, rfl⟩ (by kernel_rfl) rfl
    (fun f fn hf hfn => by
      obtain rfl : f = 12 := Option.some.inj ((show Tryd.prog.funcNamed "watershed/watershedkeep.DownsAntichains" = some 12 by kernel_rfl).symm.trans hf) |>.symm
      obtain rfl : fn = Tryd.f12 := (Option.some.inj (Tryd.func12.symm.trans hfn)).symm
      exact ⟨by kernel_rfl, fun j t ht => by
        have h3 := List.all_eq_true.1 (show (Tryd.f12.params.toList.all fun t => !(Tryd.prog.wantsStandIn t)) = true by kernel_rfl) t (by rw [← Array.getElem?_toList] at ht; exact List.mem_of_getElem? ht)
        have h4 : Tryd.prog.wantsStandIn t = false := by simpa using h3
        exact h4⟩)
    (by kernel_rfl)
end Go.Proofs.YtiepnpfjlknkoaaDoor
