/- Later requests change nothing of what was granted: the law answers true for every lattice, every table, every script and every place. The listed variables read as the program lays them. -/
import Derived.Test.YtopjalcimclaaaaDoorPolS
import Derived.Test.YtopjalcimclaaaaDoorFrameH
namespace Go.Proofs.YtopjalcimclaaaaDoor
open Go Go.ChangeShapes Go.WideShapes Go.ChangeAt Go.WideMaps Go.WideElems Go.RowKit Go.Abs Go.Pol
-- watershed/watershedkeep.PolicyFront
abbrev Ks_keep_PolicyFront : List Kd := [.dat (.pair (.int .i64) (.sl (.int .u32))), .dat (.sl (.pair (.int .i64) (.pair (.int .i64) (.pair (.int .i64) (.int .i64))))), .dat (.sl (.pair (.int .i64) (.pair (.int .i64) (.pair (.int .i64) (.pair (.int .i64) (.int .i64)))))), .dat (.int .u8)]
abbrev Rk_keep_PolicyFront : List Kd := [.dat (.bool)]
abbrev Rt_keep_PolicyFront : Type := Dens Rk_keep_PolicyFront
noncomputable def C_keep_PolicyFront (_N : Nat) : Ctx := { T := [(3, ⟨.int .i64, 1, 8, some (.int .i64), [.int .i64 (0 : Int)], false, []⟩), (5, ⟨.int .u8, 1, 1, some (.int .u8), [.int .u8 (0 : Int)], false, []⟩), (24, ⟨.struct [(0, 3), (1, 22)], 2, 32, some (.pair (.int .i64) (.sl (.int .u32))), [.int .i64 (0 : Int), .nil], false, []⟩), (26, ⟨.slice 46, 1, 24, some (.sl (.pair (.int .i64) (.pair (.int .i64) (.pair (.int .i64) (.pair (.int .i64) (.int .i64)))))), [.nil], false, []⟩), (27, ⟨.slice 29, 1, 24, some (.sl (.int .i64)), [.nil], false, []⟩), (28, ⟨.slice 36, 1, 24, some (.sl (.pair (.int .i64) (.pair (.int .i64) (.pair (.int .i64) (.pair (.int .i64) (.int .i64)))))), [.nil], false, []⟩), (29, ⟨.int .i64, 1, 8, some (.int .i64), [.int .i64 (0 : Int)], false, []⟩), (31, ⟨.struct [(0, 29), (1, 3)], 2, 16, some (.pair (.int .i64) (.int .i64)), [.int .i64 (0 : Int), .int .i64 (0 : Int)], true, []⟩), (36, ⟨.struct [(0, 3), (1, 3), (2, 3), (3, 3), (4, 3)], 5, 40, some (.pair (.int .i64) (.pair (.int .i64) (.pair (.int .i64) (.pair (.int .i64) (.int .i64))))), [.int .i64 (0 : Int), .int .i64 (0 : Int), .int .i64 (0 : Int), .int .i64 (0 : Int), .int .i64 (0 : Int)], true, []⟩), (46, ⟨.struct [(0, 3), (1, 3), (2, 3), (3, 3), (4, 3)], 5, 40, some (.pair (.int .i64) (.pair (.int .i64) (.pair (.int .i64) (.pair (.int .i64) (.int .i64))))), [.int .i64 (0 : Int), .int .i64 (0 : Int), .int .i64 (0 : Int), .int .i64 (0 : Int), .int .i64 (0 : Int)], true, []⟩)], G := findE [mkQ 7 Ks_policy_Play Rk_policy_Play (D_policy_Play _N), mkP 12 Ks_ref_Codes Rk_ref_Codes (D_ref_Codes _N)], I := findI [], N := _N, n := 83, fx := [], fl := 0, gs := Gs }
noncomputable def keep_PolicyFront_1 (_N : Nat) : Option Rt_keep_PolicyFront :=
  (some (true, ()))
noncomputable def keep_PolicyFront_2 (_N : Nat) (_k18 : (Int × List Int × Int × Int) → Option Rt_keep_PolicyFront) (_v4 : List (Int × Int × Int × Int × Int)) (_v5 : List (Int × Int × Int × Int × Int)) (_v7 : Int) (_v8 : List Int) (_v9 : Int) (_v10 : Int) (_v6 : Int) (_kn19 : ((List (Int × Int × Int × Int × Int)) × (List (Int × Int × Int × Int × Int)) × Int × List Int × Int × Int) × Int → Option Rt_keep_PolicyFront) : Option Rt_keep_PolicyFront :=
  (bif (decide (_v6 < (_v5.length : Int))) then (bif (decide (0 ≤ _v6) && decide (_v6 < (_v5.length : Int))) then (bif (decide (0 ≤ _v6) && decide (_v6 < (_v4.length : Int))) then (bif (!(eqD (.pair (.int .i64) (.pair (.int .i64) (.pair (.int .i64) (.pair (.int .i64) (.int .i64))))) ((nth ((0 : Int), ((0 : Int), ((0 : Int), ((0 : Int), (0 : Int))))) _v5 (_v6).toNat).1, (((nth ((0 : Int), ((0 : Int), ((0 : Int), ((0 : Int), (0 : Int))))) _v5 (_v6).toNat).2).1, ((((nth ((0 : Int), ((0 : Int), ((0 : Int), ((0 : Int), (0 : Int))))) _v5 (_v6).toNat).2).2).1, (((((nth ((0 : Int), ((0 : Int), ((0 : Int), ((0 : Int), (0 : Int))))) _v5 (_v6).toNat).2).2).2).1, ((((nth ((0 : Int), ((0 : Int), ((0 : Int), ((0 : Int), (0 : Int))))) _v5 (_v6).toNat).2).2).2).2)))) ((nth ((0 : Int), ((0 : Int), ((0 : Int), ((0 : Int), (0 : Int))))) _v4 (_v6).toNat).1, (((nth ((0 : Int), ((0 : Int), ((0 : Int), ((0 : Int), (0 : Int))))) _v4 (_v6).toNat).2).1, ((((nth ((0 : Int), ((0 : Int), ((0 : Int), ((0 : Int), (0 : Int))))) _v4 (_v6).toNat).2).2).1, (((((nth ((0 : Int), ((0 : Int), ((0 : Int), ((0 : Int), (0 : Int))))) _v4 (_v6).toNat).2).2).2).1, ((((nth ((0 : Int), ((0 : Int), ((0 : Int), ((0 : Int), (0 : Int))))) _v4 (_v6).toNat).2).2).2).2)))))) then (some (false, ())) else (_kn19 ((_v4, _v5, _v7, _v8, _v9, _v10), (IntKind.i64.wrap (_v6 + (1 : Int)))))) else none) else none) else (_k18 (_v7, _v8, _v9, _v10)))
noncomputable def keep_PolicyFront_3 (_N : Nat) (_x1 : Int × List Int) (_x2 : List (Int × Int × Int × Int)) (_x3 : List (Int × Int × Int × Int × Int)) (_x4 : Int) : Option Rt_keep_PolicyFront :=
  ((D_policy_Play _N ((_x1.1, _x1.2), _x2, _x3, ())).bind fun _y15 => (bif (_y15.2.2.1.1 != (0 : Int)) then (some (true, ())) else (bif ((IntKind.i64.wrap ((_x3.length : Int) + (1 : Int))) == 0) then none else (bif (decide (0 ≤ (0 : Int)) && (decide ((0 : Int) ≤ ((IntKind.i64.wrap _x4).tmod (IntKind.i64.wrap ((_x3.length : Int) + (1 : Int))))) && decide (((IntKind.i64.wrap _x4).tmod (IntKind.i64.wrap ((_x3.length : Int) + (1 : Int)))) ≤ (_x3.length : Int)))) then ((D_policy_Play _N ((_x1.1, _x1.2), _x2, ((_x3.take ((IntKind.i64.wrap _x4).tmod (IntKind.i64.wrap ((_x3.length : Int) + (1 : Int)))).toNat).drop (0 : Int).toNat), ())).bind fun _y16 => (bif (_y16.2.2.1.1 != (0 : Int)) then (some (false, ())) else (bif ((_y15.1.length : Int) != (_x3.length : Int)) then (some (false, ())) else (bif (decide ((_y16.2.1.length : Int) > (_y15.2.1.length : Int))) then (some (false, ())) else (bif (decide (0 ≤ (0 : Int)) && (decide ((0 : Int) ≤ ((IntKind.i64.wrap _x4).tmod (IntKind.i64.wrap ((_x3.length : Int) + (1 : Int))))) && decide (((IntKind.i64.wrap _x4).tmod (IntKind.i64.wrap ((_x3.length : Int) + (1 : Int)))) ≤ (_y15.1.length : Int)))) then ((D_ref_Codes _N (((_y15.1.take ((IntKind.i64.wrap _x4).tmod (IntKind.i64.wrap ((_x3.length : Int) + (1 : Int)))).toNat).drop (0 : Int).toNat), _y16.1, ())).bind fun _y17 => (bif (!_y17.1) then (some (false, ())) else (joinD (fun (_s : Int × List Int × Int × Int) => keep_PolicyFront_1 _N) fun _k18 => (loopE (fun (_c : (List (Int × Int × Int × Int × Int)) × (List (Int × Int × Int × Int × Int)) × Int × List Int × Int × Int) (_s : Int) _kn => keep_PolicyFront_2 _N _k18 _c.1 _c.2.1 _c.2.2.1 _c.2.2.2.1 _c.2.2.2.2.1 _c.2.2.2.2.2 _s _kn) _N (_y15.2.1, _y16.2.1, _x1.1, _x1.2, _y16.2.2.1.1, _y16.2.2.1.2) (0 : Int))))) else none))))) else none))))
noncomputable def D_keep_PolicyFront (_N : Nat) (_x : Dens Ks_keep_PolicyFront) : Option Rt_keep_PolicyFront := keep_PolicyFront_3 _N _x.1 _x.2.1 _x.2.2.1 _x.2.2.2.1
theorem sp_keep_PolicyFront (_N : Nat) : SpecD Tryd.prog Gs 4 Ks_keep_PolicyFront Rk_keep_PolicyFront (D_keep_PolicyFront _N) := mkSpD (fn := Tryd.f4) (c := bodyOf Tryd.f4) (C := C_keep_PolicyFront _N)
    (a := .two .none (.two .none (.two .none (.two .none (.two (.draw 0 [.rd [0], .pure, .pure, .pure, .pure, .pure, .pure, .pure, .pure, .pure, .pure, .pure, .wr [1]]) (.two .none (.join 2 ⟨[], [.cells [.int .i64, .sl (.int .u32)], .cells [.int .i64, .int .i64]]⟩ (.two .none (.one (.loop 2 ⟨[(10, .sl (.pair (.int .i64) (.pair (.int .i64) (.pair (.int .i64) (.pair (.int .i64) (.int .i64)))))), (14, .sl (.pair (.int .i64) (.pair (.int .i64) (.pair (.int .i64) (.pair (.int .i64) (.int .i64)))))), (15, .int .i64)], [.cells [.int .i64, .sl (.int .u32)], .cells [.int .i64, .int .i64]]⟩ [2] (.two .none (.two (.one (.two (.draw 0 [.pure, .pure, .pure, .pure, .pure, .pure, .pure, .pure, .pure]) .none)) .none))))) .none)))))))
    (by kernel_rfl) rfl (by kernel_rfl) (by kernel_rfl) ⟨rfl, by unfold TOk; kernel_rfl, gOk_of rfl rfl (List.forall_mem_cons.2 ⟨qen_policy_Play _N, (List.forall_mem_cons.2 ⟨en_ref_Codes _N, (List.forall_mem_nil _)⟩)⟩), iOk_of rfl rfl (List.forall_mem_nil _), rfl⟩ (fun _x => by kernel_rfl)
theorem en_keep_PolicyFront (_N : Nat) : EntOk Tryd.prog Gs (mkP 4 Ks_keep_PolicyFront Rk_keep_PolicyFront (D_keep_PolicyFront _N)) := entP ⟨Tryd.f4, bodyOf Tryd.f4, by kernel_rfl, by kernel_rfl, rfl⟩ (by kernel_rfl) (sp_keep_PolicyFront _N)
theorem law_PolicyFront (o : Int × List Int) (table : List Entr) (script : List Req) (k : Int) (_wo : wfS (.pair (.int .i64) (.sl (.int .u32))) o) (_wt : wfS (.sl (.pair (.int .i64) (.pair (.int .i64) (.pair (.int .i64) (.int .i64))))) table) (_ws : wfS (.sl (.pair (.int .i64) (.pair (.int .i64) (.pair (.int .i64) (.pair (.int .i64) (.int .i64)))))) script) (wk : wfS (.int .u8) k) :
    ∃ N, D_keep_PolicyFront N (o, table, script, k, ()) = some (true, ()) := by
  refine ⟨1000, ?_⟩
  have hN : 1000 ≤ 1000 := Nat.le_refl _
  obtain ⟨n, up⟩ := o
  have hw : WL up := WL_of _wo.2
  simp only [D_keep_PolicyFront, keep_PolicyFront_3]
  rcases Open_eq hN hw n table with ⟨c, a, hc, h⟩ | ⟨m, J, M, B, T, Q, d9, rfl, hO, h9, hT, h⟩
  · obtain ⟨c', a', hc', h'⟩ := Play_no hc h script
    rw [h', Option.bind_some, show (c' != 0) = true from bne_iff_ne.2 hc']; rfl
  · have hl : up.length = m := by have := hO.len; simpa using this
    rcases Play_eq hN hw hl h9 hT h script with ⟨h1, h2⟩ | ⟨h1, h2⟩
    · rw [h2]; rfl
    · have hk0 : 0 ≤ k ∧ k ≤ 255 := wk
      rw [h2]
      have e1 : IntKind.i64.wrap ((script.length : Int) + 1) = (script.length : Int) + 1 := w64 (by omega) (by omega)
      have e2 : IntKind.i64.wrap k = k := w64 (by omega) (by omega)
      obtain ⟨at_, hat, hle⟩ : ∃ at_ : Nat, k.tmod ((script.length : Int) + 1) = (at_ : Int) ∧ at_ ≤ script.length := by
        have h3 : 0 ≤ k.tmod ((script.length : Int) + 1) := Int.tmod_nonneg _ hk0.1
        have h4 : k.tmod ((script.length : Int) + 1) < (script.length : Int) + 1 := Int.tmod_lt_of_pos _ (by omega)
        exact ⟨(k.tmod ((script.length : Int) + 1)).toNat, by omega, by omega⟩
      have hne : ((script.length : Int) + 1 == 0) = false := beq_false_of_ne (by omega)
      have hlenc := run_len (m : Int) (unB up) Q script st0
      have hd1 : decide ((at_ : Int) ≤ (script.length : Int)) = true := d_true (by omega)
      simp only [Option.bind_some, bne_self_eq_false, cond_false, e1, e2, hat, hne, show decide ((0 : Int) ≤ 0) = true from rfl, ge0_d, hd1, Bool.and_self, cond_true, Int.toNat_natCast, Int.toNat_zero, List.drop_zero]
      rcases Play_eq hN hw hl h9 hT h (script.take at_) with ⟨h3, h4⟩ | ⟨h3, h4⟩
      · rw [List.length_take] at h3; omega
      · have hsplit := run_append (m : Int) (unB up) Q (script.take at_) (script.drop at_) st0
        rw [List.take_append_drop] at hsplit
        have hlc := run_len (m : Int) (unB up) Q (script.take at_) st0
        rw [List.length_take, Nat.min_eq_left hle] at hlc
        obtain ⟨t, ht1, ht2⟩ := run_told (m : Int) (unB up) Q (script.drop at_) (runP (m : Int) (unB up) Q (script.take at_) st0).2
        have hc1 : (runP (m : Int) (unB up) Q script st0).1.take at_ = (runP (m : Int) (unB up) Q (script.take at_) st0).1 := by
          rw [hsplit]
          simp only
          rw [List.take_append_of_le_length (by omega)]
          exact List.take_of_length_le (by omega)
        have ht : (runP (m : Int) (unB up) Q script st0).2.told = (runP (m : Int) (unB up) Q (script.take at_) st0).2.told ++ t := by rw [hsplit]; exact ht1
        obtain ⟨t0, hs1, hs2⟩ := run_told (m : Int) (unB up) Q (script.take at_) st0
        have htl : (runP (m : Int) (unB up) Q (script.take at_) st0).2.told.length ≤ 60 := by
          rw [hs1]; rw [List.length_take] at hs2; simp only [show st0.told = [] from rfl, List.nil_append]; omega
        have hbne : (((runP (m : Int) (unB up) Q script st0).1.length : Int) != (script.length : Int)) = false := by rw [hlenc]; exact bne_self_eq_false _
        have hd2 : decide ((at_ : Int) ≤ ((runP (m : Int) (unB up) Q script st0).1.length : Int)) = true := d_true (by omega)
        have hcodes : D_ref_Codes 1000 ((runP (m : Int) (unB up) Q (script.take at_) st0).1, (runP (m : Int) (unB up) Q (script.take at_) st0).1, ()) = some (true, ()) := by rw [Codes_eq (by omega) (by omega)]; simp
        rw [h4]
        simp only [Option.bind_some, bne_self_eq_false, cond_false, hbne, hd2, Bool.and_self, cond_true, hc1, hcodes, Bool.not_true, ht]
        generalize (runP (m : Int) (unB up) Q (script.take at_) st0).2.told = ls at htl
        have hgt : decide (((ls.length : Nat) : Int) > (((ls ++ t).length : Nat) : Int)) = false := d_false (by rw [List.length_append]; omega)
        rw [hgt, cond_false]
        simp only [joinD, loopE]
        have heta : ∀ x : Tld, (x.1, x.2.1, x.2.2.1, x.2.2.2.1, x.2.2.2.2) = x := fun _ => rfl
        refine loopD_pass (n := ls.length) (by omega) (fun i hi kn => ?_) (fun kn => ?_) (by omega)
        · have hg : nth ((0 : Int), (0 : Int), (0 : Int), (0 : Int), (0 : Int)) (ls ++ t) i = nth (0, 0, 0, 0, 0) ls i := by
            unfold nth
            rw [List.getD_eq_getElem?_getD, List.getD_eq_getElem?_getD, List.getElem?_append_left hi]
          simp only [keep_PolicyFront_2, lt_d hi, lt_d (show i < (ls ++ t).length by rw [List.length_append]; omega), ge0_d, Int.toNat_natCast, Bool.and_self, cond_true, heta, hg, ix1P hi (by omega), backE_eq]
          rw [eqD_refl (s := .pair (.int .i64) (.pair (.int .i64) (.pair (.int .i64) (.pair (.int .i64) (.int .i64))))) rfl]
          rfl
        · simp only [keep_PolicyFront_2, lt_self, cond_false, keep_PolicyFront_1]
set_option maxRecDepth 100000 in
theorem lifted_PolicyFront (os : Os) (started : os.Started) (H : Type) (enc : TypeId × Value → H) :
    ReturnsInHanded {} Tryd.checked os 4 .any (fun w args => (Rows.policyFrontSpec.pre enc Tryd.prog Tryd.f4 [] false w args ∧ laidMetH Tryd.prog Rows.policyFrontRow.laid w) ∧ sizedMet enc Tryd.prog Tryd.f4 (OpenSpec.ofChange Rows.policyFrontSpec) false w args) (Rows.policyFrontSpec.post enc Tryd.prog Tryd.f4 false true false false) := by
  refine returnsInHanded_of_change_and (C := Tryd.checked) (X := fun w _ => laidMetH Tryd.prog Rows.policyFrontRow.laid w) (fun _ _ _ hh h => h.of_heap hh) own started (by kernel_rfl) Tryd.func4
    (ChangeSpec.witness_shaped (enc := enc) (C := Tryd.checked) (os := os) (X := fun w _ => laidMetH Tryd.prog Rows.policyFrontRow.laid w) false (World.doorLaid Tryd.prog 400 os) #[.agg #[.int .i64 0, .slice none 0 0], .slice none 0 0, .slice none 0 0, .int .u8 0] 8 rfl (World.shaped_of_RefB (by kernel_rfl) (by kernel_rfl)) (by kernel_rfl) (by kernel_rfl) (by kernel_rfl) (door_met os _)) ?_
  intro W base args ds gs before hval0 hW _ hsz0 hL _
  have hgw : GW Gs W := gw_of hL
  have hval : ∀ (j : Nat) t v, Tryd.f4.params[j]? = some t → args[j]? = some v → Value.okWide Tryd.prog W .any base t v := hval0
  have hW' := hW
  obtain ⟨p, q, hA0, hV, rfl, _, _⟩ := hW
  have hA : DataW.TrodAll enc Tryd.prog W 0 (fun _ => true) true Tryd.f4.params.toList args.toList ds p := hA0
  rw [Tryd.params4] at hA hval
  obtain ⟨v0, vs0, d0, ds0, p0, q0, hargs, rfl, rfl, h0, r0⟩ := trodAll_cons hA
  obtain ⟨v1, vs1, d1, ds1, p1, q1, rfl, rfl, rfl, h1, r1⟩ := trodAll_cons r0
  obtain ⟨v2, vs2, d2, ds2, p2, q2, rfl, rfl, rfl, h2, r2⟩ := trodAll_cons r1
  obtain ⟨v3, vs3, d3, ds3, p3, q3, rfl, rfl, rfl, h3, r3⟩ := trodAll_cons r2
  obtain ⟨rfl, rfl, rfl⟩ := trodAll_nil r3
  obtain rfl : args = #[v0, v1, v2, v3] := by cases args; simp_all
  obtain ⟨rfl, rfl⟩ := trodVars_none hV
  have hall := List.all_eq_true.1 hsz0
  clear hA0 hval0 hsz0
  simp only [List.append_nil] at hW'
  have hlt0 : ∀ x ∈ p0, x.block < W.heap.size := fun x hx => hW'.lt x (by simp [hx])
  have hlt1 : ∀ x ∈ p1, x.block < W.heap.size := fun x hx => hW'.lt x (by simp [hx])
  have hlt2 : ∀ x ∈ p2, x.block < W.heap.size := fun x hx => hW'.lt x (by simp [hx])
  have hlt3 : ∀ x ∈ p3, x.block < W.heap.size := fun x hx => hW'.lt x (by simp [hx])
  obtain ⟨x0, g0, w0⟩ := open_kd (k := .dat (.pair (.int .i64) (.sl (.int .u32)))) (by kernel_rfl) (hval 0 24 v0 rfl rfl) h0
  obtain ⟨x1, g1, w1⟩ := open_kd (k := .dat (.sl (.pair (.int .i64) (.pair (.int .i64) (.pair (.int .i64) (.int .i64)))))) (by kernel_rfl) (hval 1 25 v1 rfl rfl) h1
  obtain ⟨x2, g2, w2⟩ := open_kd (k := .dat (.sl (.pair (.int .i64) (.pair (.int .i64) (.pair (.int .i64) (.pair (.int .i64) (.int .i64))))))) (by kernel_rfl) (hval 2 26 v2 rfl rfl) h2
  obtain ⟨x3, g3, w3⟩ := open_kd (k := .dat (.int .u8)) (by kernel_rfl) (hval 3 5 v3 rfl rfl) h3
  obtain ⟨N, hN⟩ := law_PolicyFront x0 x1 x2 x3 w0 w1 w2 w3
  refine (sp_keep_PolicyFront N (fun _ => False) W (x0, x1, x2, x3, ()) (true, ()) [v0, v1, v2, v3] (fun _ h => h.elim) hgw ⟨v0, _, rfl, g0, ⟨v1, _, rfl, g1, ⟨v2, _, rfl, g2, ⟨v3, _, rfl, g3, rfl⟩⟩⟩⟩ hN).mono ?_
  rintro e W' ⟨v, rfl, hg, hr⟩
  replace hg := hg.old
  have hr : v = .bool true := by simpa only [kvals, retV, Kd.val, Go.Abs.enc, RV] using hr
  subst hr
  exact ⟨_, rfl, _, _, _, [], p0 ++ (p1 ++ (p2 ++ (p3 ++ []))), [], hW', (trodAll_cons_mk (shut_bool (show Tryd.prog.underlying 4 = some .bool by kernel_rfl) _) trodAll_mk0), (trodAll_cons_mk (Below.trod laidOut (by kernel_rfl) (of_decide_eq_true (by kernel_rfl)) h0 hg hlt0) (trodAll_cons_mk (Below.trod laidOut (by kernel_rfl) (of_decide_eq_true (by kernel_rfl)) h1 hg hlt1) (trodAll_cons_mk (Below.trod laidOut (by kernel_rfl) (of_decide_eq_true (by kernel_rfl)) h2 hg hlt2) (trodAll_cons_mk (Below.trod laidOut (by kernel_rfl) (of_decide_eq_true (by kernel_rfl)) h3 hg hlt3) trodAll_mk0)))), rfl, hg.frame _, fun h => by cases h⟩

/-- The statement: whatever the arguments, the law's function returns true and leaves them as they were. -/
theorem policyFront_holds : Rows.PolicyFrontSaid :=
  OpenClaim.holds_of_wide 4 Tryd.f4 rfl rfl rfl rfl rfl rfl rfl ⟨rfl, rfl, rfl, rfl, rfl⟩ rfl rfl rfl rfl rfl (by kernel_rfl) Tryd.func4 (by kernel_rfl)
    (of_decide_eq_true (by kernel_rfl)) (by unfold Func.isWrapper; first | (rw [if_pos (by decide +kernel)]; kernel_rfl) | (rw [if_neg (by decide +kernel)]; exact ⟨rfl, rfl⟩))
    (fun os started H enc _ => lifted_PolicyFront os started H enc)
/-- The statement's card: the variable that the road reads is tied to the program's text. -/
theorem policyFront_card : Rows.PolicyFrontCardSaid :=
  Claim7.holds_tied_plain_at .later [] [.data, .handle] true (true, "812d7677b0d9ba06e857ea22dc29d3efef33d7f6a32d82e7ee766aa0bccdced0") true policyFront_holds (fun _ h => by cases h) (by kernel_rfl) (fun _ h => by cases h) policyFront_row_tie rfl ⟨rfl, rfl⟩ (by kernel_rfl) rfl
    (fun f fn hf hfn => by
      obtain rfl : f = 4 := Option.some.inj ((show Tryd.prog.funcNamed "watershed/watershedkeep.PolicyFront" = some 4 by kernel_rfl).symm.trans hf) |>.symm
      obtain rfl : fn = Tryd.f4 := (Option.some.inj (Tryd.func4.symm.trans hfn)).symm
      exact ⟨by kernel_rfl, fun j t ht => by
        have h3 := List.all_eq_true.1 (show (Tryd.f4.params.toList.all fun t => !(Tryd.prog.wantsStandIn t)) = true by kernel_rfl) t (by rw [← Array.getElem?_toList] at ht; exact List.mem_of_getElem? ht)
        have h4 : Tryd.prog.wantsStandIn t = false := by simpa using h3
        exact h4⟩)
    (by kernel_rfl)
end Go.Proofs.YtopjalcimclaaaaDoor
