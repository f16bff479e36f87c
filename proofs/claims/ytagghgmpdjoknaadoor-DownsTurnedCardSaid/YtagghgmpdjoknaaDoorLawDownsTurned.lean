/- An order and its dual have equally many down-sets, and All lists each once, rising: the law answers true for every order. No condition. -/
import Derived.Test.YtagghgmpdjoknaaDoorDnPart
import Derived.Test.YtagghgmpdjoknaaDoorCoversS
import Derived.Test.YtagghgmpdjoknaaDoorDownsS
import Derived.Test.YtagghgmpdjoknaaDoorKeepS
import Derived.Test.YtagghgmpdjoknaaDoorFrame
namespace Go.Proofs.YtagghgmpdjoknaaDoor
open Go Go.ChangeShapes Go.WideShapes Go.ChangeAt Go.WideMaps Go.WideElems Go.RowKit Go.Abs
-- watershed/watershedkeep.DownsTurned
abbrev Ks_keep_DownsTurned : List Kd := [.dat (.pair (.int .i64) (.sl (.int .u32)))]
abbrev Rk_keep_DownsTurned : List Kd := [.dat (.bool)]
abbrev Rt_keep_DownsTurned : Type := Dens Rk_keep_DownsTurned
noncomputable def C_keep_DownsTurned (_N : Nat) : Ctx := { T := [(3, ⟨.int .i64, 1, 8, some (.int .i64), [.int .i64 (0 : Int)]⟩), (22, ⟨.slice 45, 1, 24, some (.sl (.int .u32)), [.nil]⟩), (24, ⟨.struct [(0, 3), (1, 22)], 2, 32, some (.pair (.int .i64) (.sl (.int .u32))), [.int .i64 (0 : Int), .nil]⟩), (45, ⟨.int .u32, 1, 4, some (.int .u32), [.int .u32 (0 : Int)]⟩)], G := findE [mkP 14 Ks_keep_sound Rk_keep_sound (D_keep_sound _N), mkP 15 Ks_keep_refused Rk_keep_refused (D_keep_refused _N), mkQ 25 Ks_order_Dual Rk_order_Dual (D_order_Dual _N), mkP 22 Ks_downs_Count Rk_downs_Count (D_downs_Count _N), mkQ 26 Ks_downs_All Rk_downs_All (D_downs_All _N), mkP 27 Ks_downs_Down Rk_downs_Down (D_downs_Down _N)], I := findI [], N := _N, n := 110, fx := [], fl := 0, gs := Gs }
noncomputable def keep_DownsTurned_1 (_N : Nat) (_v33 : Int) (_v34 : List Int) : Option Rt_keep_DownsTurned :=
  (some (((_v34.length : Int) == _v33), ()))
noncomputable def keep_DownsTurned_2 (_N : Nat) (_kn46 : (Int × List Int × Int × List Int × Int × List Int) × Int → Option Rt_keep_DownsTurned) (_v15 : Int) (_v16 : List Int) (_v17 : Int) (_v28 : Int) (_v29 : List Int) (_v30 : Int) (_v31 : List Int) : Option Rt_keep_DownsTurned :=
  (_kn46 ((_v15, _v16, _v28, _v29, _v30, _v31), (IntKind.i64.wrap (_v17 + (1 : Int)))))
noncomputable def keep_DownsTurned_3 (_N : Nat) (_k45 : (Int × List Int × Int × List Int × Int × List Int) → Option Rt_keep_DownsTurned) (_v7 : Int) (_v8 : List Int) (_v10 : Int) (_v11 : List Int) (_v12 : Int) (_v13 : List Int) (_v9 : Int) (_kn46 : (Int × List Int × Int × List Int × Int × List Int) × Int → Option Rt_keep_DownsTurned) : Option Rt_keep_DownsTurned :=
  (bif (decide (_v9 < (_v8.length : Int))) then (joinD (fun (_s : Int × List Int × Int × Int × List Int × Int × Int × Int × Bool × Int × Bool × Bool × Bool × Int × List Int × Int × List Int) => keep_DownsTurned_2 _N _kn46 _s.1 _s.2.1 _s.2.2.1 _s.2.2.2.2.2.2.2.2.2.2.2.2.2.1 _s.2.2.2.2.2.2.2.2.2.2.2.2.2.2.1 _s.2.2.2.2.2.2.2.2.2.2.2.2.2.2.2.1 _s.2.2.2.2.2.2.2.2.2.2.2.2.2.2.2.2) fun _k47 => (bif (decide (0 ≤ _v9) && decide (_v9 < (_v8.length : Int))) then ((D_downs_Down _N ((_v10, _v11), (nth (0 : Int) _v8 (_v9).toNat), ())).bind fun _y48 => (bif (_y48.2.1 != (0 : Int)) then (some (false, ())) else (bif (decide (0 ≤ _v9) && decide (_v9 < (_v8.length : Int))) then (bif (_y48.1 != (nth (0 : Int) _v8 (_v9).toNat)) then (some (false, ())) else (bif (decide (_v9 > (0 : Int))) then (bif (decide (0 ≤ (IntKind.i64.wrap (_v9 - (1 : Int)))) && decide ((IntKind.i64.wrap (_v9 - (1 : Int))) < (_v8.length : Int))) then (bif (decide (0 ≤ _v9) && decide (_v9 < (_v8.length : Int))) then (bif (decide ((nth (0 : Int) _v8 (IntKind.i64.wrap (_v9 - (1 : Int))).toNat) ≥ (nth (0 : Int) _v8 (_v9).toNat))) then (some (false, ())) else (_k47 (_v7, _v8, _v9, _y48.1, _v8, _v9, (nth (0 : Int) _v8 (_v9).toNat), (nth (0 : Int) _v8 (_v9).toNat), (_y48.1 != (nth (0 : Int) _v8 (_v9).toNat)), _v9, (decide (_v9 > (0 : Int))), true, (decide ((nth (0 : Int) _v8 (IntKind.i64.wrap (_v9 - (1 : Int))).toNat) ≥ (nth (0 : Int) _v8 (_v9).toNat))), _v10, _v11, _v12, _v13))) else none) else none) else (_k47 (_v7, _v8, _v9, _y48.1, _v8, _v9, (nth (0 : Int) _v8 (_v9).toNat), (nth (0 : Int) _v8 (_v9).toNat), (_y48.1 != (nth (0 : Int) _v8 (_v9).toNat)), _v9, (decide (_v9 > (0 : Int))), false, false, _v10, _v11, _v12, _v13)))) else none))) else none)) else (_k45 (_v7, _v8, _v10, _v11, _v12, _v13)))
noncomputable def keep_DownsTurned_4 (_N : Nat) (_x1 : Int × List Int) : Option Rt_keep_DownsTurned :=
  ((D_keep_sound _N ((_x1.1, _x1.2), ())).bind fun _y39 => (bif (!_y39.1) then ((D_keep_refused _N ((_x1.1, _x1.2), ())).bind fun _y40 => (some (_y40.1, ()))) else ((D_order_Dual _N ((_x1.1, _x1.2), ())).bind fun _y41 => (bif (_y41.2.1 != (0 : Int)) then (some (false, ())) else ((D_downs_Count _N ((_x1.1, _x1.2), ())).bind fun _y42 => ((D_downs_Count _N ((_y41.1.1, _y41.1.2), ())).bind fun _y43 => ((D_downs_All _N ((_x1.1, _x1.2), ())).bind fun _y44 => (bif (_y42.2.1 != (0 : Int)) then (some (false, ())) else (bif (_y43.2.1 != (0 : Int)) then (some (false, ())) else (bif (_y42.1 != _y43.1) then (some (false, ())) else (bif (decide (_y42.1 ≤ _x1.1)) then (some (false, ())) else (bif (_y44.2.1 != (0 : Int)) then (bif (_y44.2.1 == (1 : Int)) then (some ((decide (_y42.1 > (256 : Int))), ())) else (some (false, ()))) else (joinD (fun (_s : Int × List Int × Int × List Int × Int × List Int) => keep_DownsTurned_1 _N _s.1 _s.2.1) fun _k45 => (loopE (fun (_c : Int × List Int × Int × List Int × Int × List Int) (_s : Int) _kn => keep_DownsTurned_3 _N _k45 _c.1 _c.2.1 _c.2.2.1 _c.2.2.2.1 _c.2.2.2.2.1 _c.2.2.2.2.2 _s _kn) _N (_y42.1, _y44.1, _x1.1, _x1.2, _y41.1.1, _y41.1.2) (0 : Int)))))))))))))))
noncomputable def D_keep_DownsTurned (_N : Nat) (_x : Dens Ks_keep_DownsTurned) : Option Rt_keep_DownsTurned := keep_DownsTurned_4 _N _x.1
theorem sp_keep_DownsTurned (_N : Nat) : SpecD Tryd.prog Gs 6 Ks_keep_DownsTurned Rk_keep_DownsTurned (D_keep_DownsTurned _N) := mkSpD (fn := Tryd.f6) (c := bodyOf Tryd.f6) (C := C_keep_DownsTurned _N)
    (a := .two .none (.two .none (.two .none (.two .none (.two .none (.two .none (.two .none (.two .none (.two .none (.join 2 ⟨[(5, .int .i64), (8, .sl (.int .u32))], [.cells [.int .i64, .sl (.int .u32)], .cells [.int .i64, .sl (.int .u32)]]⟩ (.two .none (.one (.loop 2 ⟨[(1, .ptr 0 0), (5, .int .i64), (8, .sl (.int .u32)), (10, .int .i64)], [.cells [.int .i64, .sl (.int .u32)], .cells [.int .i64, .sl (.int .u32)]]⟩ [2] (.two .none (.join 2 ⟨[(1, .ptr 0 0), (5, .int .i64), (8, .sl (.int .u32)), (10, .int .i64), (83, .int .u32), (84, .sl (.int .u32)), (85, .int .i64), (86, .fptr (.int .u32)), (87, .int .u32), (88, .bool), (91, .int .i64), (92, .bool), (93, .bool), (104, .bool)], [.cells [.int .i64, .sl (.int .u32)], .cells [.int .i64, .sl (.int .u32)]]⟩ (.one (.two (.draw 0 [.rd [0], .pure, .pure, .pure, .pure, .pure, .pure, .pure, .pure, .pure, .pure]) (.two (.draw 0 (.pure :: .pure :: .pure :: .pure :: .pure :: .pure :: .pure :: .pure :: .pure :: .pure :: .pure :: .pure :: .pure :: .pure :: .pure :: .pure :: .pure :: .pure :: .pure :: .pure :: .pure :: .pure :: .pure :: .pure :: .pure :: .pure :: [])) .none))) .none))))) .none))))))))))
    (by kernel_rfl) rfl (by kernel_rfl) (by kernel_rfl) ⟨rfl, by unfold TOk; kernel_rfl, gOk_of rfl rfl (List.forall_mem_cons.2 ⟨en_keep_sound _N, (List.forall_mem_cons.2 ⟨en_keep_refused _N, (List.forall_mem_cons.2 ⟨qen_order_Dual _N, (List.forall_mem_cons.2 ⟨en_downs_Count _N, (List.forall_mem_cons.2 ⟨qen_downs_All _N, (List.forall_mem_cons.2 ⟨en_downs_Down _N, (List.forall_mem_nil _)⟩)⟩)⟩)⟩)⟩)⟩), iOk_of rfl rfl (List.forall_mem_nil _), rfl⟩ (fun _x => by kernel_rfl)
theorem en_keep_DownsTurned (_N : Nat) : EntOk Tryd.prog Gs (mkP 6 Ks_keep_DownsTurned Rk_keep_DownsTurned (D_keep_DownsTurned _N)) := entP ⟨Tryd.f6, bodyOf Tryd.f6, by kernel_rfl, by kernel_rfl, rfl⟩ (by kernel_rfl) (sp_keep_DownsTurned _N)
theorem turned_len {m : Nat} (hm : m ≤ 16) {up : List Int} (hw : WL up) (ho : Ord (m : Int) up) : (downs up m).length = (downs (colsS up (m : Int) up.length) m).length := by
  have hwd := WL.colsS up (m : Int) up.length
  have hod := ho.dual
  have hle : ∀ i j, i < m → j < m → (le (colsS up (m : Int) up.length) i j ↔ le up j i) := fun i j hi hj => le_dual ho (by omega) (by omega)
  have hbt : ∀ D i, bt (mkw m fun i => !bt D i) i = true ↔ i < m ∧ ¬ bt D i = true := fun D i => by
    rw [bt_mkw (by omega), Bool.and_eq_true, decide_eq_true_eq, Bool.not_eq_true', Bool.not_eq_true]
  have inn := ho.inn
  refine bij_len (downs_nodup hw ho) (downs_nodup hwd hod) (fun D => mkw m fun i => !bt D i) (fun D hD => ?_) (fun D hD D' hD' e => ?_) (fun E hE => ?_)
  · have hD := (mem_downs hw ho).1 hD
    refine (mem_downs hwd hod).2 ⟨W32.mkw _ _, fun i hi => ((hbt D i).1 hi).1, fun i j hj hl hi => (hbt D i).2 ⟨hi, fun h => ?_⟩⟩
    obtain ⟨h1, h2⟩ := (hbt D j).1 hj
    exact h2 (hD.dn j i h ((hle i j hi h1).1 hl) h1)
  · have hD := (mem_downs hw ho).1 hD
    have hD' := (mem_downs hw ho).1 hD'
    refine bt_ext hD.w32 hD'.w32 fun i _ => ?_
    have e1 := hbt D i
    have e2 := hbt D' i
    have e : bt (mkw m fun i => !bt D i) i = bt (mkw m fun i => !bt D' i) i := congrArg (fun w => bt w i) e
    rw [e] at e1
    rw [Bool.eq_iff_iff]
    constructor
    · intro h
      exact Classical.byContradiction fun hn => (e1.1 (e2.2 ⟨hD.lt i h, hn⟩)).2 h
    · intro h
      exact Classical.byContradiction fun hn => (e2.1 (e1.2 ⟨hD'.lt i h, hn⟩)).2 h
  · have hE := (mem_downs hwd hod).1 hE
    refine ⟨mkw m fun i => !bt E i, (mem_downs hw ho).2 ⟨W32.mkw _ _, fun i hi => ((hbt E i).1 hi).1, fun i j hj hl hi => (hbt E i).2 ⟨hi, fun h => ?_⟩⟩, ?_⟩
    · obtain ⟨h1, h2⟩ := (hbt E j).1 hj
      exact h2 (hE.dn j i h ((hle j i h1 hi).2 hl) h1)
    · refine bt_ext (W32.mkw _ _) hE.w32 fun i _ => ?_
      rw [Bool.eq_iff_iff, hbt, hbt]
      constructor
      · rintro ⟨h1, h2⟩
        exact Classical.byContradiction fun h => h2 ⟨h1, h⟩
      · exact fun h => ⟨hE.lt i h, fun h' => h'.2 h⟩
theorem law_DownsTurned (o : Int × List Int) (wo : wfS (.pair (.int .i64) (.sl (.int .u32))) o) : ∃ N, D_keep_DownsTurned N (o, ()) = some (true, ()) := by
  obtain ⟨n, up⟩ := o
  have hw : WL up := WL_of wo.2
  refine ⟨1000, ?_⟩
  simp only [D_keep_DownsTurned, keep_DownsTurned_4]
  obtain ⟨s, s1, s2⟩ := sound_eq (N := 1000) (by omega) hw n
  by_cases ho : Ord n up
  case neg =>
    obtain ⟨r, r1, r2⟩ := refused_eq (N := 1000) (by omega) hw n
    obtain rfl := r2.2 ho
    obtain rfl : s = false := Bool.eq_false_iff.2 fun h => ho (s2.1 h)
    simp only [s1, r1, Option.bind_some, Bool.not_false, cond_true]
  obtain rfl := s2.2 ho
  obtain ⟨m, rfl⟩ : ∃ m : Nat, n = (m : Int) := ⟨n.toNat, by have := ho.h0; omega⟩
  have hm : m ≤ 16 := by have := ho.h1; omega
  have hwd := WL.colsS up (m : Int) up.length
  have hmore := downs_more hm hw ho
  have ht := turned_len hm hw ho
  simp only [s1, Dual_eq (N := 1000) (by omega) hw ho, Count_eq hm hw ho (N := 1000) (by omega), Count_eq hm hwd ho.dual (N := 1000) (by omega), All_eq2 hm hw ho (N := 1000) (by omega), Option.bind_some, Bool.not_true, cond_false, bne_self_eq_false, ← ht, d_false (show ¬ (((downs up m).length : Nat) : Int) ≤ (m : Int) by omega)]
  by_cases q : (downs up m).length ≤ 256
  case neg =>
    rw [if_neg q]
    simp only [Option.bind_some, show ((1 : Int) != 0) = true from rfl, cond_true, beq_self_eq_true, d_true (show (((downs up m).length : Nat) : Int) > 256 by omega)]
  rw [if_pos q]
  simp only [Option.bind_some, bne_self_eq_false, cond_false, joinD, loopE]
  refine loopD_pass (n := (downs up m).length) (by omega) (fun i hi kn => ?_) (fun kn => by simp only [keep_DownsTurned_3, lt_self, cond_false, keep_DownsTurned_1, beq_self_eq_true]) (by omega)
  have hD := (mem_downs hw ho).1 (nth_mem (z := (0 : Int)) hi)
  obtain ⟨d, d1, d2, d3⟩ := Down_spec' (N := 1000) (by omega) hw hD.w32 ho (fun i h => by have := hD.lt i h; omega)
  have hd : d = nth 0 (downs up m) i := bt_ext d2 hD.w32 fun j _ => by
    rw [Bool.eq_iff_iff, d3]
    exact ⟨fun ⟨h1, k, h2, h3⟩ => hD.dn j k h2 h3 (by omega), fun h => ⟨by have := hD.lt j h; omega, j, h, ho.refl j (by have := hD.lt j h; omega)⟩⟩
  have e1 : IntKind.i64.wrap ((i : Int) + 1) = (i : Int) + 1 := w64 (by omega) (by omega)
  simp only [keep_DownsTurned_3, keep_DownsTurned_2, joinD, lt_d hi, ge0_d, Bool.and_self, cond_true, Int.toNat_natCast, d1, hd, Option.bind_some, bne_self_eq_false, cond_false, backE_eq, e1]
  by_cases h0 : i = 0
  · subst h0
    rw [d_false (show ¬ ((0 : Nat) : Int) > 0 by omega), cond_false]
  · have e2 : IntKind.i64.wrap ((i : Int) - 1) = ((i - 1 : Nat) : Int) := by rw [w64 (by omega) (by omega)]; omega
    have hi' : i - 1 < (downs up m).length := by omega
    have hs : nth 0 (downs up m) (i - 1) < nth 0 (downs up m) i := by
      rw [nth_lt hi', nth_lt hi]
      exact List.pairwise_iff_getElem.1 (downs_sorted hw ho) (i - 1) i hi' hi (by omega)
    simp only [d_true (show (i : Int) > 0 by omega), cond_true, e2, ge0_d, lt_d hi', Bool.and_self, Int.toNat_natCast, d_false (show ¬ (nth 0 (downs up m) (i - 1) ≥ nth 0 (downs up m) i) by omega), cond_false]
set_option maxRecDepth 100000 in
theorem lifted_DownsTurned (os : Os) (started : os.Started) (H : Type) (enc : TypeId × Value → H) :
    ReturnsInHanded {} Tryd.checked os 6 .any (fun w args => (Rows.downsTurnedSpec.pre enc Tryd.prog Tryd.f6 [] false w args ∧ laidMetH Tryd.prog Rows.downsTurnedRow.laid w) ∧ sizedMet enc Tryd.prog Tryd.f6 (OpenSpec.ofChange Rows.downsTurnedSpec) false w args) (Rows.downsTurnedSpec.post enc Tryd.prog Tryd.f6 false true false false) := by
  refine returnsInHanded_of_change_and (C := Tryd.checked) (X := fun w _ => laidMetH Tryd.prog Rows.downsTurnedRow.laid w) (fun _ _ _ hh h => h.of_heap hh) own started (by kernel_rfl) Tryd.func6
    (ChangeSpec.witness_shaped (enc := enc) (C := Tryd.checked) (os := os) (X := fun w _ => laidMetH Tryd.prog Rows.downsTurnedRow.laid w) false (World.doorLaid Tryd.prog 400 os) #[.agg #[.int .i64 0, .slice none 0 0]] 8 rfl (World.shaped_of_RefB (by kernel_rfl) (by kernel_rfl)) (by kernel_rfl) (by kernel_rfl) (by kernel_rfl) (door_met os _)) ?_
  intro W base args ds gs before hval0 hW _ hsz0 hL _
  have hgw : GW Gs W := gw_of hL
  have hval : ∀ (j : Nat) t v, Tryd.f6.params[j]? = some t → args[j]? = some v → Value.okWide Tryd.prog W .any base t v := hval0
  have hW' := hW
  obtain ⟨p, q, hA0, hV, rfl, _, _⟩ := hW
  have hA : DataW.TrodAll enc Tryd.prog W 0 (fun _ => true) true Tryd.f6.params.toList args.toList ds p := hA0
  rw [Tryd.params6] at hA hval
  obtain ⟨v0, vs0, d0, ds0, p0, q0, hargs, rfl, rfl, h0, r0⟩ := trodAll_cons hA
  obtain ⟨rfl, rfl, rfl⟩ := trodAll_nil r0
  obtain rfl : args = #[v0] := by cases args; simp_all
  obtain ⟨rfl, rfl⟩ := trodVars_none hV
  clear hA0 hval0 hsz0
  simp only [List.append_nil] at hW'
  have hlt0 : ∀ x ∈ p0, x.block < W.heap.size := fun x hx => hW'.lt x (by simp [hx])
  obtain ⟨x0, g0, w0⟩ := open_kd (k := .dat (.pair (.int .i64) (.sl (.int .u32)))) (by kernel_rfl) (hval 0 24 v0 rfl rfl) h0
  obtain ⟨N, hN⟩ := law_DownsTurned x0 w0
  refine (sp_keep_DownsTurned N (fun _ => False) W (x0, ()) (true, ()) [v0] (fun _ h => h.elim) hgw ⟨v0, _, rfl, g0, rfl⟩ hN).mono ?_
  rintro e W' ⟨v, rfl, hg, hr⟩
  have hr : v = .bool true := by simpa only [kvals, retV, Kd.val, Go.Abs.enc, RV] using hr
  subst hr
  exact ⟨_, rfl, _, _, _, [], p0 ++ [], [], hW', (trodAll_cons_mk (shut_bool (show Tryd.prog.underlying 4 = some .bool by kernel_rfl) _) trodAll_mk0), (trodAll_cons_mk (Below.trod laidOut (by kernel_rfl) (of_decide_eq_true (by kernel_rfl)) h0 hg hlt0) trodAll_mk0), rfl, hg.frame _, fun h => by cases h⟩

/-- The statement: whatever the arguments, the law's function returns true and leaves them as they were. -/
theorem downsTurned_holds : Rows.DownsTurnedSaid :=
  OpenClaim.holds_of_wide 6 Tryd.f6 rfl rfl rfl rfl rfl rfl rfl ⟨rfl, rfl, rfl, rfl, rfl⟩ rfl rfl rfl rfl rfl (by kernel_rfl) Tryd.func6 (by kernel_rfl)
    (of_decide_eq_true (by kernel_rfl)) (by unfold Func.isWrapper; first | (rw [if_pos (by decide +kernel)]; kernel_rfl) | (rw [if_neg (by decide +kernel)]; exact ⟨rfl, rfl⟩))
    (fun os started H enc _ => lifted_DownsTurned os started H enc)
/-- The statement's card: the variable that the road reads is tied to the program's text. -/
theorem downsTurned_card : Rows.DownsTurnedCardSaid :=
  Claim7.holds_tied_plain_at .later [] [.data] true (true, "b73b6f32d8bacf79b109d1a869f14eaafeec458d4d840f7ceaa2738719a4935f") false downsTurned_holds (fun _ h => by cases h) (by kernel_rfl) (fun _ h => by cases h) downsTurned_row_tie rfl ⟨rfl, rfl⟩ (by kernel_rfl) rfl
    (fun f fn hf hfn => by
      obtain rfl : f = 6 := Option.some.inj ((show Tryd.prog.funcNamed "watershed/watershedkeep.DownsTurned" = some 6 by kernel_rfl).symm.trans hf) |>.symm
      obtain rfl : fn = Tryd.f6 := (Option.some.inj (Tryd.func6.symm.trans hfn)).symm
      exact ⟨by kernel_rfl, fun j t ht => by
        have h3 := List.all_eq_true.1 (show (Tryd.f6.params.toList.all fun t => !(Tryd.prog.wantsStandIn t)) = true by kernel_rfl) t (by rw [← Array.getElem?_toList] at ht; exact List.mem_of_getElem? ht)
        have h4 : Tryd.prog.wantsStandIn t = false := by simpa using h3
        exact h4⟩)
    (by kernel_rfl)
end Go.Proofs.YtagghgmpdjoknaaDoor
