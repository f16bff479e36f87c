/- The order of the down-sets is a distributive lattice, with as many irreducible elements as the order has elements: the law answers true for every order. No condition. -/
import Derived.Test.YtagghgmpdjoknaaDoorDownsIR
import Derived.Test.YtagghgmpdjoknaaDoorKindS
import Derived.Test.YtagghgmpdjoknaaDoorFrame
namespace Go.Proofs.YtagghgmpdjoknaaDoor
open Go Go.ChangeShapes Go.WideShapes Go.ChangeAt Go.WideMaps Go.WideElems Go.RowKit Go.Abs
-- watershed/watershedkeep.DownsDistributive
abbrev Ks_keep_DownsDistributive : List Kd := [.dat (.pair (.int .i64) (.sl (.int .u32)))]
abbrev Rk_keep_DownsDistributive : List Kd := [.dat (.bool)]
abbrev Rt_keep_DownsDistributive : Type := Dens Rk_keep_DownsDistributive
noncomputable def C_keep_DownsDistributive (_N : Nat) : Ctx := { T := [(3, ⟨.int .i64, 1, 8, some (.int .i64), [.int .i64 (0 : Int)]⟩), (4, ⟨.bool, 1, 1, some .bool, [.bool false]⟩), (24, ⟨.struct [(0, 3), (1, 22)], 2, 32, some (.pair (.int .i64) (.sl (.int .u32))), [.int .i64 (0 : Int), .nil]⟩), (38, ⟨.slice 3, 1, 24, some (.sl (.int .i64)), [.nil]⟩), (49, ⟨.struct [(0, 4), (1, 4), (2, 4), (3, 3), (4, 3), (5, 3)], 6, 32, some (.pair (.bool) (.pair (.bool) (.pair (.bool) (.pair (.int .i64) (.pair (.int .i64) (.int .i64)))))), [.bool false, .bool false, .bool false, .int .i64 (0 : Int), .int .i64 (0 : Int), .int .i64 (0 : Int)]⟩)], G := findE [mkQ 34 Ks_downs_Inclusion Rk_downs_Inclusion (D_downs_Inclusion _N), mkP 29 Ks_lattice_Kind Rk_lattice_Kind (D_lattice_Kind _N), mkQ 30 Ks_lattice_Irreducible Rk_lattice_Irreducible (D_lattice_Irreducible _N)], I := findI [], N := _N, n := 51, fx := [], fl := 0, gs := Gs }
noncomputable def keep_DownsDistributive_1 (_N : Nat) (_x1 : Int × List Int) : Option Rt_keep_DownsDistributive :=
  ((D_downs_Inclusion _N ((_x1.1, _x1.2), ())).bind fun _y4 => (bif (_y4.2.1 != (0 : Int)) then (some (true, ())) else ((D_lattice_Kind _N ((_y4.1.1, _y4.1.2), ())).bind fun _y5 => ((D_lattice_Irreducible _N ((_y4.1.1, _y4.1.2), ())).bind fun _y6 => (bif (_y5.2.1 == (0 : Int)) then (bif (_y6.2.2.1 == (0 : Int)) then (bif _y5.1.1 then (bif ((_y6.1.length : Int) == _x1.1) then (some (((_y6.2.1.length : Int) == _x1.1), ())) else (some (false, ()))) else (some (false, ()))) else (some (false, ()))) else (some (false, ())))))))
noncomputable def D_keep_DownsDistributive (_N : Nat) (_x : Dens Ks_keep_DownsDistributive) : Option Rt_keep_DownsDistributive := keep_DownsDistributive_1 _N _x.1
theorem sp_keep_DownsDistributive (_N : Nat) : SpecD Tryd.prog Gs 8 Ks_keep_DownsDistributive Rk_keep_DownsDistributive (D_keep_DownsDistributive _N) := mkSpD (fn := Tryd.f8) (c := bodyOf Tryd.f8) (C := C_keep_DownsDistributive _N)
    (a := .none)
    (by kernel_rfl) rfl (by kernel_rfl) (by kernel_rfl) ⟨rfl, by unfold TOk; kernel_rfl, gOk_of rfl rfl (List.forall_mem_cons.2 ⟨qen_downs_Inclusion _N, (List.forall_mem_cons.2 ⟨en_lattice_Kind _N, (List.forall_mem_cons.2 ⟨qen_lattice_Irreducible _N, (List.forall_mem_nil _)⟩)⟩)⟩), iOk_of rfl rfl (List.forall_mem_nil _), rfl⟩ (fun _x => by kernel_rfl)
theorem en_keep_DownsDistributive (_N : Nat) : EntOk Tryd.prog Gs (mkP 8 Ks_keep_DownsDistributive Rk_keep_DownsDistributive (D_keep_DownsDistributive _N)) := entP ⟨Tryd.f8, bodyOf Tryd.f8, by kernel_rfl, by kernel_rfl, rfl⟩ (by kernel_rfl) (sp_keep_DownsDistributive _N)
theorem law_DownsDistributive (o : Int × List Int) (wo : wfS (.pair (.int .i64) (.sl (.int .u32))) o) : ∃ N, D_keep_DownsDistributive N (o, ()) = some (true, ()) := by
  obtain ⟨n, up⟩ := o
  have hw : WL up := WL_of wo.2
  refine ⟨1000, ?_⟩
  simp only [D_keep_DownsDistributive, keep_DownsDistributive_1]
  by_cases ho : Ord n up
  case neg =>
    obtain ⟨e, k1, k2⟩ := Check_spec (N := 1000) (by omega) hw n
    have he : (e != 0) = true := bne_iff_ne.2 fun h' => ho (k2.1 h')
    simp only [D_downs_Inclusion, downs_Inclusion_6, D_downs_All, downs_All_1, k1, Option.bind_some, he, cond_true]
  obtain ⟨m, rfl⟩ : ∃ m : Nat, n = (m : Int) := ⟨n.toNat, by have := ho.h0; omega⟩
  have hm : m ≤ 16 := by have := ho.h1; omega
  rw [Inc_eq hm hw ho (N := 1000) (by omega)]
  by_cases q : (downs up m).length ≤ 16
  case neg => rw [if_neg q]; rfl
  rw [if_pos q]
  have hO := Ord_inc hw ho q
  have hW := WL.incL (downs up m)
  have hlat := lat_inc hm hw ho q
  have hhi := high_inc hm hw ho q
  have hlo := low_inc hm hw ho q
  have hdi := fun {J K b t} => dist_inc hm hw ho q (J := J) (K := K) (b := b) (t := t)
  rcases LatOf_spec (N := 1000) (Nat.le_refl _) hW (((downs up m).length : Nat) : Int) with ⟨e, he, h1, h2⟩ | ⟨d, J, M, B, T, hd, hoo, hL, h1⟩
  · exact absurd (by simpa using hlat) (h2 hO).2
  · obtain rfl : (downs up m).length = d := by omega
    obtain ⟨b, rfl⟩ : ∃ b : Nat, B = (b : Int) := ⟨B.toNat, by have := hL.b0; omega⟩
    obtain ⟨t, rfl⟩ : ∃ t : Nat, T = (t : Int) := ⟨T.toNat, by have := hL.t0; omega⟩
    obtain ⟨di, mo, co, A1, B1, C1, hK, k1, -, -⟩ := Kind_spec (N := 1000) (Nat.le_refl _) hW hO hL h1
    obtain rfl := k1.2 (hdi hL.lat)
    simp only [hK, D_lattice_Irreducible, lattice_Irreducible_1, h1, Dual_eq (N := 1000) (by omega) hW hO, IrrC_eq (N := 1000) (Nat.le_refl _) hW hO, IrrC_eq (N := 1000) (Nat.le_refl _) (WL.colsS _ _ _) hO.dual, Option.bind_some, Option.map_some, bne_self_eq_false, cond_false, beq_self_eq_true, cond_true, List.length_map, hhi, hlo]
set_option maxRecDepth 100000 in
theorem lifted_DownsDistributive (os : Os) (started : os.Started) (H : Type) (enc : TypeId × Value → H) :
    ReturnsInHanded {} Tryd.checked os 8 .any (fun w args => (Rows.downsDistributiveSpec.pre enc Tryd.prog Tryd.f8 [] false w args ∧ laidMetH Tryd.prog Rows.downsDistributiveRow.laid w) ∧ sizedMet enc Tryd.prog Tryd.f8 (OpenSpec.ofChange Rows.downsDistributiveSpec) false w args) (Rows.downsDistributiveSpec.post enc Tryd.prog Tryd.f8 false true false false) := by
  refine returnsInHanded_of_change_and (C := Tryd.checked) (X := fun w _ => laidMetH Tryd.prog Rows.downsDistributiveRow.laid w) (fun _ _ _ hh h => h.of_heap hh) own started (by kernel_rfl) Tryd.func8
    (ChangeSpec.witness_shaped (enc := enc) (C := Tryd.checked) (os := os) (X := fun w _ => laidMetH Tryd.prog Rows.downsDistributiveRow.laid w) false (World.doorLaid Tryd.prog 400 os) #[.agg #[.int .i64 0, .slice none 0 0]] 8 rfl (World.shaped_of_RefB (by kernel_rfl) (by kernel_rfl)) (by kernel_rfl) (by kernel_rfl) (by kernel_rfl) (door_met os _)) ?_
  intro W base args ds gs before hval0 hW _ hsz0 hL _
  have hgw : GW Gs W := gw_of hL
  have hval : ∀ (j : Nat) t v, Tryd.f8.params[j]? = some t → args[j]? = some v → Value.okWide Tryd.prog W .any base t v := hval0
  have hW' := hW
  obtain ⟨p, q, hA0, hV, rfl, _, _⟩ := hW
  have hA : DataW.TrodAll enc Tryd.prog W 0 (fun _ => true) true Tryd.f8.params.toList args.toList ds p := hA0
  rw [Tryd.params8] at hA hval
  obtain ⟨v0, vs0, d0, ds0, p0, q0, hargs, rfl, rfl, h0, r0⟩ := trodAll_cons hA
  obtain ⟨rfl, rfl, rfl⟩ := trodAll_nil r0
  obtain rfl : args = #[v0] := by cases args; simp_all
  obtain ⟨rfl, rfl⟩ := trodVars_none hV
  clear hA0 hval0 hsz0
  simp only [List.append_nil] at hW'
  have hlt0 : ∀ x ∈ p0, x.block < W.heap.size := fun x hx => hW'.lt x (by simp [hx])
  obtain ⟨x0, g0, w0⟩ := open_kd (k := .dat (.pair (.int .i64) (.sl (.int .u32)))) (by kernel_rfl) (hval 0 24 v0 rfl rfl) h0
  obtain ⟨N, hN⟩ := law_DownsDistributive x0 w0
  refine (sp_keep_DownsDistributive N (fun _ => False) W (x0, ()) (true, ()) [v0] (fun _ h => h.elim) hgw ⟨v0, _, rfl, g0, rfl⟩ hN).mono ?_
  rintro e W' ⟨v, rfl, hg, hr⟩
  have hr : v = .bool true := by simpa only [kvals, retV, Kd.val, Go.Abs.enc, RV] using hr
  subst hr
  exact ⟨_, rfl, _, _, _, [], p0 ++ [], [], hW', (trodAll_cons_mk (shut_bool (show Tryd.prog.underlying 4 = some .bool by kernel_rfl) _) trodAll_mk0), (trodAll_cons_mk (Below.trod laidOut (by kernel_rfl) (of_decide_eq_true (by kernel_rfl)) h0 hg hlt0) trodAll_mk0), rfl, hg.frame _, fun h => by cases h⟩

/-- The statement: whatever the arguments, the law's function returns true and leaves them as they were. -/
theorem downsDistributive_holds : Rows.DownsDistributiveSaid :=
  OpenClaim.holds_of_wide 8 Tryd.f8 rfl rfl rfl rfl rfl rfl rfl ⟨rfl, rfl, rfl, rfl, rfl⟩ rfl rfl rfl rfl rfl (by kernel_rfl) Tryd.func8 (by kernel_rfl)
    (of_decide_eq_true (by kernel_rfl)) (by unfold Func.isWrapper; first | (rw [if_pos (by decide +kernel)]; kernel_rfl) | (rw [if_neg (by decide +kernel)]; exact ⟨rfl, rfl⟩))
    (fun os started H enc _ => lifted_DownsDistributive os started H enc)
/-- The statement's card: the variable that the road reads is tied to the program's text. -/
theorem downsDistributive_card : Rows.DownsDistributiveCardSaid :=
  Claim7.holds_tied_plain_at .later [] [.data] true (true, "b73b6f32d8bacf79b109d1a869f14eaafeec458d4d840f7ceaa2738719a4935f") false downsDistributive_holds (fun _ h => by cases h) (by kernel_rfl) (fun _ h => by cases h) downsDistributive_row_tie rfl ⟨rfl, rfl⟩ (by kernel_rfl) rfl
    (fun f fn hf hfn => by
      obtain rfl : f = 8 := Option.some.inj ((show Tryd.prog.funcNamed "watershed/watershedkeep.DownsDistributive" = some 8 by kernel_rfl).symm.trans hf) |>.symm
      obtain rfl : fn = Tryd.f8 := (Option.some.inj (Tryd.func8.symm.trans hfn)).symm
      exact ⟨by kernel_rfl, fun j t ht => by
        have h3 := List.all_eq_true.1 (show (Tryd.f8.params.toList.all fun t => !(Tryd.prog.wantsStandIn t)) = true by kernel_rfl) t (by rw [← Array.getElem?_toList] at ht; exact List.mem_of_getElem? ht)
        have h4 : Tryd.prog.wantsStandIn t = false := by simpa using h3
        exact h4⟩)
    (by kernel_rfl)
end Go.Proofs.YtagghgmpdjoknaaDoor
