/- The front of one tally together with the moves is the front of the other: the law answers true for every two tallies. No condition. -/
import Derived.Test.YtololihlpldcdaaCountsW
import Derived.Test.YtololihlpldcdaaFrame0
namespace Go.Proofs.Ytololihlpldcdaa
open Go Go.ChangeShapes Go.WideShapes Go.ChangeAt Go.WideMaps Go.WideElems Go.RowKit Go.Abs
-- watershed/watershedkeep.CountsTurns
abbrev Ks_keep_CountsTurns : List Kd := [.dat (.sl (.pair (.sl (.int .i64)) (.int .i64))), .dat (.sl (.pair (.sl (.int .i64)) (.int .i64)))]
abbrev Rk_keep_CountsTurns : List Kd := [.dat (.bool)]
abbrev Rt_keep_CountsTurns : Type := Dens Rk_keep_CountsTurns
noncomputable def C_keep_CountsTurns (_N : Nat) : Ctx := { T := [(2, ⟨.int .i64, 1, 8, some (.int .i64), [.int .i64 (0 : Int)], false, []⟩), (22, ⟨.slice 26, 1, 24, some (.sl (.sl (.int .i64))), [.nil], false, []⟩), (26, ⟨.slice 3, 1, 24, some (.sl (.int .i64)), [.nil], false, []⟩), (47, ⟨.slice 52, 1, 24, some (.sl (.pair (.sl (.int .i64)) (.int .i64))), [.nil], false, []⟩), (52, ⟨.struct [(0, 26), (1, 2)], 2, 32, some (.pair (.sl (.int .i64)) (.int .i64)), [.nil, .int .i64 (0 : Int)], false, []⟩)], G := findE [mkQ 28 Ks_counts_Front Rk_counts_Front (D_counts_Front _N), mkQ 29 Ks_counts_Moves Rk_counts_Moves (D_counts_Moves _N), mkD 30 Ks_counts_Sum Rk_counts_Sum (D_counts_Sum _N), mkP 31 Ks_ref_TimesSame Rk_ref_TimesSame (D_ref_TimesSame _N), mkP 17 Ks_times_Open Rk_times_Open (D_times_Open _N)], I := findI [], N := _N, n := 120, fx := [0], fl := 0, gs := [] }
noncomputable def keep_CountsTurns_1 (_N : Nat) : Option Rt_keep_CountsTurns :=
  (some (true, ()))
noncomputable def keep_CountsTurns_2 (_N : Nat) (_k36 : (List (List Int × Int)) → Option Rt_keep_CountsTurns) (_v25 : List (List Int)) (_v26 : List (List Int × Int)) (_v28 : List (List Int × Int)) (_v27 : Int) (_kn37 : (List (List Int) × (List (List Int × Int)) × (List (List Int × Int))) × Int → Option Rt_keep_CountsTurns) : Option Rt_keep_CountsTurns :=
  (bif (decide (_v27 < (_v25.length : Int))) then (bif (decide (0 ≤ _v27) && decide (_v27 < (_v26.length : Int))) then (bif (((nth ([], (0 : Int)) _v26 (_v27).toNat).2) != (1 : Int)) then (some (false, ())) else (bif (decide (0 ≤ _v27) && decide (_v27 < (_v26.length : Int))) then (bif (decide (0 ≤ _v27) && decide (_v27 < (_v25.length : Int))) then ((D_ref_TimesSame _N ((nth ([], (0 : Int)) _v26 (_v27).toNat).1, (nth ([]) _v25 (_v27).toNat), ())).bind fun _y38 => (bif (!_y38.1) then (some (false, ())) else (_kn37 ((_v25, _v26, _v28), (IntKind.i64.wrap (_v27 + (1 : Int))))))) else none) else none)) else none) else (_k36 _v28))
noncomputable def keep_CountsTurns_3 (_N : Nat) (_v21 : List (List Int)) (_v22 : List (List Int × Int)) (_v23 : List (List Int × Int)) : Option Rt_keep_CountsTurns :=
  ((D_counts_Sum _N (_v23, _v22, ())).bind fun _y35 => (bif (_y35.2.1 != (0 : Int)) then (some (false, ())) else (bif ((_y35.1.length : Int) != (_v21.length : Int)) then (some (false, ())) else (joinD (fun (_s : (List (List Int × Int))) => keep_CountsTurns_1 _N) fun _k36 => (loopE (fun (_c : List (List Int) × (List (List Int × Int)) × (List (List Int × Int))) (_s : Int) _kn => keep_CountsTurns_2 _N _k36 _c.1 _c.2.1 _c.2.2 _s _kn) _N (_v21, _y35.1, _v23) (0 : Int))))))
noncomputable def keep_CountsTurns_4 (_N : Nat) (_k39 : (List (List Int) × (List (List Int × Int)) × (List (List Int × Int))) → Option Rt_keep_CountsTurns) (_v15 : List (List Int)) (_v16 : List (List Int × Int)) (_v17 : List (List Int)) (_v18 : Int) (_v19 : Int) (_v20 : List (List Int × Int)) (_kn40 : (List (List Int) × (List (List Int × Int)) × List (List Int) × Int) × (Int × (List (List Int × Int))) → Option Rt_keep_CountsTurns) : Option Rt_keep_CountsTurns :=
  (bif (decide (_v19 < _v18)) then (bif (decide (0 ≤ _v19) && decide (_v19 < (_v17.length : Int))) then (bif (decide ((_v20.length + ([((nth ([]) _v17 (_v19).toNat), (1 : Int))]).length) * 32 ≤ 140737488355328) && Nat.ble 1 32) then (_kn40 ((_v15, _v16, _v17, _v18), ((IntKind.i64.wrap (_v19 + (1 : Int))), (_v20 ++ [((nth ([]) _v17 (_v19).toNat), (1 : Int))])))) else none) else none) else (_k39 (_v15, _v16, _v20)))
noncomputable def keep_CountsTurns_5 (_N : Nat) (_v12 : List (List Int)) (_v13 : List (List Int)) (_v14 : List (List Int × Int)) : Option Rt_keep_CountsTurns :=
  (joinD (fun (_s : List (List Int) × (List (List Int × Int)) × (List (List Int × Int))) => keep_CountsTurns_3 _N _s.1 _s.2.1 _s.2.2) fun _k39 => (loopE (fun (_c : List (List Int) × (List (List Int × Int)) × List (List Int) × Int) (_s : Int × (List (List Int × Int))) _kn => keep_CountsTurns_4 _N _k39 _c.1 _c.2.1 _c.2.2.1 _c.2.2.2 _s.1 _s.2 _kn) _N (_v13, _v14, _v12, (_v12.length : Int)) ((0 : Int), [])))
noncomputable def keep_CountsTurns_6 (_N : Nat) (_k41 : (List (List Int) × List (List Int) × (List (List Int × Int))) → Option Rt_keep_CountsTurns) (_v4 : List (List Int)) (_v5 : List (List Int)) (_v6 : List (List Int × Int)) (_v7 : List (List Int × Int)) (_v8 : Int) (_v9 : Int) (_kn42 : (List (List Int) × List (List Int) × (List (List Int × Int)) × (List (List Int × Int)) × Int) × Int → Option Rt_keep_CountsTurns) : Option Rt_keep_CountsTurns :=
  (bif (decide (_v9 < _v8)) then (bif (decide (0 ≤ _v9) && decide (_v9 < (_v7.length : Int))) then (bif (decide (((nth ([], (0 : Int)) _v7 (_v9).toNat).2) > (0 : Int))) then ((D_times_Open _N (_v4, (nth ([], (0 : Int)) _v7 (_v9).toNat).1, ())).bind fun _y43 => (bif (!_y43.1) then (some (false, ())) else (_kn42 ((_v4, _v5, _v6, _v7, _v8), (IntKind.i64.wrap (_v9 + (1 : Int))))))) else (_kn42 ((_v4, _v5, _v6, _v7, _v8), (IntKind.i64.wrap (_v9 + (1 : Int)))))) else none) else (_k41 (_v4, _v5, _v6)))
noncomputable def keep_CountsTurns_7 (_N : Nat) (_x1 : List (List Int × Int)) (_x2 : List (List Int × Int)) : Option Rt_keep_CountsTurns :=
  ((D_counts_Front _N (_x1, ())).bind fun _y32 => ((D_counts_Front _N (_x2, ())).bind fun _y33 => ((D_counts_Moves _N (_x1, _x2, ())).bind fun _y34 => (bif (_y32.2.1 != (0 : Int)) then (bif ((_y34.1.length : Int) == (0 : Int)) then (some (true, ())) else (some ((_y34.2.1 == (0 : Int)), ()))) else (bif (_y33.2.1 != (0 : Int)) then (bif ((_y34.1.length : Int) == (0 : Int)) then (some (true, ())) else (some ((_y34.2.1 == (0 : Int)), ()))) else (bif (_y34.2.1 != (0 : Int)) then (bif ((_y34.1.length : Int) == (0 : Int)) then (some (true, ())) else (some ((_y34.2.1 == (0 : Int)), ()))) else (joinD (fun (_s : List (List Int) × List (List Int) × (List (List Int × Int))) => keep_CountsTurns_5 _N _s.1 _s.2.1 _s.2.2) fun _k41 => (loopE (fun (_c : List (List Int) × List (List Int) × (List (List Int × Int)) × (List (List Int × Int)) × Int) (_s : Int) _kn => keep_CountsTurns_6 _N _k41 _c.1 _c.2.1 _c.2.2.1 _c.2.2.2.1 _c.2.2.2.2 _s _kn) _N (_y32.1, _y33.1, _y34.1, _x1, (_x1.length : Int)) (0 : Int)))))))))
noncomputable def D_keep_CountsTurns (_N : Nat) (_x : Dens Ks_keep_CountsTurns) : Option Rt_keep_CountsTurns := keep_CountsTurns_7 _N _x.1 _x.2.1
theorem sp_keep_CountsTurns (_N : Nat) : SpecD Try.prog [] 10 Ks_keep_CountsTurns Rk_keep_CountsTurns (D_keep_CountsTurns _N) := mkSpD (fn := Try.f10) (c := bodyOf Try.f10) (C := C_keep_CountsTurns _N)
    (a := .two .none (.two .none (.two .none (.two .none (.two .none (.join 0 ⟨[(5, .sl (.sl (.int .i64))), (7, .sl (.sl (.int .i64))), (9, .sl (.pair (.sl (.int .i64)) (.int .i64)))], []⟩ (.two .none (.one (.loop 0 ⟨[(5, .sl (.sl (.int .i64))), (7, .sl (.sl (.int .i64))), (9, .sl (.pair (.sl (.int .i64)) (.int .i64))), (51, .sl (.pair (.sl (.int .i64)) (.int .i64))), (52, .int .i64), (53, .int .i64)], []⟩ [5] .none))) (.two .none (.join 1 ⟨[(7, .sl (.sl (.int .i64))), (9, .sl (.pair (.sl (.int .i64)) (.int .i64))), (13, .slc 0 0)], [.row false 0 52 (.pair (.sl (.int .i64)) (.int .i64))]⟩ (.two .none (.one (.obj 13 52 (.pair (.sl (.int .i64)) (.int .i64)) (.loop 1 ⟨[(7, .sl (.sl (.int .i64))), (9, .sl (.pair (.sl (.int .i64)) (.int .i64))), (13, .slc 0 0), (68, .sl (.sl (.int .i64))), (69, .int .i64), (70, .int .i64)], [.row false 0 52 (.pair (.sl (.int .i64)) (.int .i64))]⟩ [4, 5] .none)))) (.two .none (.two .none (.join 1 ⟨[], [.row true 0 52 (.pair (.sl (.int .i64)) (.int .i64))]⟩ (.two .none (.one (.loop 1 ⟨[(7, .sl (.sl (.int .i64))), (16, .sl (.pair (.sl (.int .i64)) (.int .i64))), (17, .int .i64)], [.row true 0 52 (.pair (.sl (.int .i64)) (.int .i64))]⟩ [2] (.two .none (.two (.one (.two (.draw 0 [.pure, .pure, .pure, .pure, .pure, .pure, .pure, .pure, .pure, .pure, .pure, .pure, .pure, .pure, .pure, .pure, .pure, .pure, .pure]) .none)) .none))))) .none)))))))))))
    (by kernel_rfl) rfl (by kernel_rfl) (by kernel_rfl) ⟨rfl, by unfold TOk; kernel_rfl, gOk_of rfl rfl (List.forall_mem_cons.2 ⟨qen_counts_Front _N, (List.forall_mem_cons.2 ⟨qen_counts_Moves _N, (List.forall_mem_cons.2 ⟨en_counts_Sum _N, (List.forall_mem_cons.2 ⟨en_ref_TimesSame _N, (List.forall_mem_cons.2 ⟨en_times_Open _N, (List.forall_mem_nil _)⟩)⟩)⟩)⟩)⟩), iOk_of rfl rfl (List.forall_mem_nil _), rfl⟩ (fun _x => by kernel_rfl)
theorem en_keep_CountsTurns (_N : Nat) : EntOk Try.prog [] (mkP 10 Ks_keep_CountsTurns Rk_keep_CountsTurns (D_keep_CountsTurns _N)) := entP ⟨Try.f10, bodyOf Try.f10, by kernel_rfl, by kernel_rfl, rfl⟩ (by kernel_rfl) (sp_keep_CountsTurns _N)
theorem law_CountsTurns (c d : List Cn) (_wc : wfS (.sl (.pair (.sl (.int .i64)) (.int .i64))) c) (_wd : wfS (.sl (.pair (.sl (.int .i64)) (.int .i64))) d)
    (zc : c.length * 32 ≤ reachBytes) (zd : d.length * 32 ≤ reachBytes) : ∃ N, D_keep_CountsTurns N (c, d, ()) = some (true, ()) := by
  refine ⟨c.length + d.length + 1000, ?_⟩
  generalize hNd : c.length + d.length + 1000 = N
  have hN : 1000 ≤ N := by omega
  have hz : c.length * 32 ≤ 140737488351232 := zc
  have hz2 : d.length * 32 ≤ 140737488351232 := zd
  have hM := CMoves_or hN (c := c) (d := d) (by omega) (by omega) (by omega) (by omega)
  have hout : ∃ m y, D_counts_Moves N (c, d, ()) = some (m, y, ()) ∧ (y ≠ 0 → m = []) := by
    rcases hM with ⟨e, he, e1⟩ | ⟨_, f, g, _, _, e1⟩
    · exact ⟨_, _, e1, fun _ => rfl⟩
    · rw [e1]
      cases mg ((mrk f (-1)).length + (mrk g 1).length) (mrk f (-1)) (mrk g 1) with
      | none => exact ⟨_, _, rfl, fun _ => rfl⟩
      | some l =>
        rw [mgR_some]
        split
        · exact ⟨_, _, rfl, fun _ => rfl⟩
        · exact ⟨_, _, rfl, fun h => absurd rfl h⟩
  obtain ⟨m, y, hm, hmy⟩ := hout
  have hesc : (bif ((m.length : Int) == (0 : Int)) then some (true, ()) else some ((y == (0 : Int)), ())) = (some (true, ()) : Option Rt_keep_CountsTurns) := by
    by_cases q : y = 0
    · subst q; cases ((m.length : Int) == (0 : Int)) <;> rfl
    · rw [hmy q]; rfl
  simp only [D_keep_CountsTurns, keep_CountsTurns_7, hm]
  rcases CFront_or hN (c := c) (by omega) (by omega) with ⟨e, he, e1⟩ | ⟨hC, f, e1, e1', f2, f3, f4⟩
  · rcases CFront_or hN (c := d) (by omega) (by omega) with ⟨x, hx, x1⟩ | ⟨hD, g, x1, _⟩ <;>
    · simp only [e1, x1, Option.bind_some, bne_iff_ne.2 he, cond_true]
      exact hesc
  rcases CFront_or hN (c := d) (by omega) (by omega) with ⟨x, hx, x1⟩ | ⟨hD, g, x1, x1', g2, g3, g4⟩
  · simp only [e1, x1, Option.bind_some, bne_self_eq_false, cond_false, bne_iff_ne.2 hx, cond_true]
    exact hesc
  simp only [e1, x1, Option.bind_some, bne_self_eq_false, cond_false]
  by_cases hy : y = 0
  case neg => rw [bne_iff_ne.2 hy, cond_true]; exact hesc
  subst hy
  rw [bne_self_eq_false, cond_false]
  simp only [joinD, loopE]
  -- what the moves are
  obtain ⟨hP, hmok, hml⟩ : CP c d ∧ MgOk (mrk f (-1)) (mrk g 1) (some m) ∧ m.length ≤ 64 := by
    rcases hM with ⟨e, he, e2⟩ | ⟨hP, f', g', k1, k2, e2⟩
    · rw [hm] at e2
      simp only [Option.some.injEq, Prod.mk.injEq] at e2
      exact absurd e2.2.1.symm he
    · rw [e1'] at k1
      rw [x1'] at k2
      cases k1; cases k2
      have := mg_ok ((mrk f (-1)).length + (mrk g 1).length) (mrk f (-1)) (mrk g 1) (Nat.le_refl _) (mrk_rise f2 _) (mrk_rise g2 _)
      rw [hm] at e2
      cases hmg : mg ((mrk f (-1)).length + (mrk g 1).length) (mrk f (-1)) (mrk g 1) with
      | none => rw [hmg] at e2; simp [mgR] at e2
      | some l =>
        rw [hmg, mgR_some] at e2
        rw [hmg] at this
        split at e2
        · simp at e2
        · rename_i hl
          simp only [Option.some.injEq, Prod.mk.injEq, and_true] at e2
          subst e2
          exact ⟨hP, this, by omega⟩
  have hTf := upL_TL hC
  have hTg := upL_TL hD
  have hfm : ∀ t ∈ f, ∃ x, x ∈ c ∧ x.1 = t := fun t ht => by
    obtain ⟨x, hx, e⟩ := List.mem_map.1 ((f3 t).1 ht).1
    exact ⟨x, (List.mem_filter.1 hx).1, e⟩
  have hgm : ∀ t ∈ g, ∃ x, x ∈ d ∧ x.1 = t := fun t ht => by
    obtain ⟨x, hx, e⟩ := List.mem_map.1 ((g3 t).1 ht).1
    exact ⟨x, (List.mem_filter.1 hx).1, e⟩
  -- all times have one length
  obtain ⟨k, hk1, hk2⟩ : ∃ k, (∀ x ∈ c, x.1.length = k) ∧ ∀ x ∈ d, x.1.length = k := by
    by_cases q : 0 < c.length
    · exact ⟨_, fun x hx => hC.eqL hx (nth_mem (z := (([] : List Int), (0 : Int))) q), fun x hx => (apt.all hC hD hP.2.2 (nth_mem (z := (([] : List Int), (0 : Int))) q) hx).symm⟩
    · have : c = [] := List.eq_nil_of_length_eq_zero (by omega)
      subst this
      by_cases q2 : 0 < d.length
      · exact ⟨_, fun x hx => (by cases hx), fun x hx => hD.eqL hx (nth_mem (z := (([] : List Int), (0 : Int))) q2)⟩
      · have : d = [] := List.eq_nil_of_length_eq_zero (by omega)
        subst this
        exact ⟨0, fun x hx => (by cases hx), fun x hx => (by cases hx)⟩
  have hmk : ∀ (l : List (List Int)) (n : Int) (x : Cn), x ∈ mrk l n → x.1 ∈ l := fun l n x hx => by
    obtain ⟨t, ht, rfl⟩ := List.mem_map.1 hx; exact ht
  have hft : ∀ t ∈ f, tok t = true ∧ t.length = k := fun t ht => by
    obtain ⟨x, hx, rfl⟩ := hfm t ht; exact ⟨hC.tok hx, hk1 x hx⟩
  have hgt : ∀ t ∈ g, tok t = true ∧ t.length = k := fun t ht => by
    obtain ⟨x, hx, rfl⟩ := hgm t ht; exact ⟨hD.tok hx, hk2 x hx⟩
  have hCKm : CK m := ck_of hmok hml (fun x hx => (hft _ (hmk _ _ x hx)).1) (fun x hx => (hgt _ (hmk _ _ x hx)).1) k (fun x hx => (hft _ (hmk _ _ x hx)).2) (fun x hx => (hgt _ (hmk _ _ x hx)).2)
  have hmlen : ∀ x ∈ m, x.1.length = k := fun x hx => by
    rcases ((hmok.2.1 x hx).2.2) with ⟨z, hz', e⟩ | ⟨z, hz', e⟩
    · rw [← e]; exact (hft _ (hmk _ _ z hz')).2
    · rw [← e]; exact (hgt _ (hmk _ _ z hz')).2
  have hmap : ∀ l : List (List Int), (mrk l 1).map Prod.fst = l := fun l => by
    unfold mrk
    induction l with
    | nil => rfl
    | cons a l ih => exact congrArg (a :: ·) ih
  have hCKw : CK (mrk f 1) := by
    refine ⟨by rw [hmap]; exact ⟨f4, fun t ht => (hft t ht).1, fun t ht => by rw [(hft t ht).2, (hft _ (nth_mem (List.length_pos_of_mem ht))).2]⟩, mrk_rise f2 1, fun x hx => ?_⟩
    obtain ⟨t, ht, rfl⟩ := List.mem_map.1 hx
    exact ⟨by simp, by show ov 1 = false; decide⟩
  have hapt : apt (mrk f 1) m := fun h1 h2 => by
    rw [(hft _ (hmk _ _ _ (nth_mem (z := (([] : List Int), (0 : Int))) h1))).2, hmlen _ (nth_mem (z := (([] : List Int), (0 : Int))) h2)]
  have hCP : CP (mrk f 1) m := ⟨hCKw, hCKm, hapt⟩
  have hmg := mg_ok ((mrk f 1).length + m.length) (mrk f 1) m (Nat.le_refl _) hCKw.rise hCKm.rise
  have hval : ∀ t, val (mrk f 1) t + val m t = val (mrk g 1) t := fun t => by
    have h1 := (hmok.2.2 t).1
    rw [h1, mrk_val, mrk_val]
    split <;> omega
  have hsum : D_counts_Sum N (mrk f 1, m, ()) = some (mrk g 1, 0, ()) := by
    rw [CSum_ok hN hCP]
    cases hr : mg ((mrk f 1).length + m.length) (mrk f 1) m with
    | none =>
      rw [hr] at hmg
      obtain ⟨t, ht⟩ := hmg
      rw [hval, mrk_val] at ht
      split at ht
      · rw [show ov 1 = false from by decide] at ht; cases ht
      · rw [show ov 0 = false from by decide] at ht; cases ht
    | some l =>
      rw [hr] at hmg
      obtain ⟨l1, l2, l3⟩ := hmg
      have : l = mrk g 1 := val_uniq l1 (mrk_rise g2 1) (fun x hx => (l2 x hx).1) (fun x hx => by obtain ⟨t, ht, rfl⟩ := List.mem_map.1 hx; simp) fun t => by rw [(l3 t).1, hval]
      rw [this, mgR_some, if_neg (by unfold mrk; rw [List.length_map]; omega)]
  have hlast : keep_CountsTurns_3 N g m (mrk f 1) = some (true, ()) := by
    have hgl : (mrk g 1).length = g.length := by unfold mrk; rw [List.length_map]
    simp only [keep_CountsTurns_3, hsum, Option.bind_some, bne_self_eq_false, cond_false, hgl, joinD, loopE]
    refine loopD_pass (n := g.length) (by omega) (fun i hi kn => ?_) (fun kn => by simp only [keep_CountsTurns_2, lt_self, cond_false, keep_CountsTurns_1]) (by omega)
    have hn : nth (([] : List Int), (0 : Int)) (mrk g 1) i = (nth [] g i, 1) := by
      rw [nth_lt (by omega), nth_lt hi]; unfold mrk; simp
    have := (tok_len (hgt _ (nth_mem (z := ([] : List Int)) hi)).1).2
    simp only [keep_CountsTurns_2, lt_d hi, lt_d (show i < (mrk g 1).length by omega), ge0_d, Bool.and_self, cond_true, Int.toNat_natCast, hn, bne_self_eq_false, cond_false, Same_self (N := N) hN (show (nth [] g i).length ≤ 900 by omega), Option.bind_some, Bool.not_true, backE_eq, ix1 hi (show g.length ≤ 100000 by omega)]
  have hmid : keep_CountsTurns_5 N f g m = some (true, ()) := by
    simp only [keep_CountsTurns_5, joinD, loopE]
    refine loopD_path (N := N) f.length (fun i => ((i : Int), mrk (f.take i) 1)) (fun i hi kn => ?_) (fun kn => ?_) (by omega)
    · have hlen : (mrk (f.take i) 1).length ≤ i := by unfold mrk; rw [List.length_map, List.length_take]; exact Nat.min_le_left _ _
      simp only [keep_CountsTurns_4, lt_d hi, ge0_d, Bool.and_self, cond_true, Int.toNat_natCast, backE_eq, ix1 hi (show f.length ≤ 100000 by omega)]
      rw [d_true (by simp only [List.length_singleton]; omega), show Nat.ble 1 32 = true from rfl, Bool.and_self, cond_true]
      unfold mrk
      rw [List.take_succ_eq_append_getElem hi, List.map_append, nth_lt hi]
      rfl
    · simp only [keep_CountsTurns_4, lt_self, cond_false, List.take_length]
      exact hlast
  have hcl := hC.len
  refine loopD_pass (n := c.length) (by omega) (fun i hi kn => ?_) (fun kn => by simp only [keep_CountsTurns_6, lt_self, cond_false]; exact hmid) (by omega)
  simp only [keep_CountsTurns_6, lt_d hi, ge0_d, Bool.and_self, cond_true, Int.toNat_natCast, backE_eq, ix1 hi (show c.length ≤ 100000 by omega), Open_eq (N := N) hN f4, Option.bind_some]
  by_cases hp : (nth (([] : List Int), (0 : Int)) c i).2 > 0
  case neg => rw [d_false hp, cond_false]
  rw [d_true hp, cond_true]
  have hci := nth_mem (z := (([] : List Int), (0 : Int))) hi
  have hup : (nth (([] : List Int), (0 : Int)) c i).1 ∈ upL c := List.mem_map.2 ⟨_, List.mem_filter.2 ⟨hci, by unfold pos; rw [decide_eq_false (by omega)]; rfl⟩, rfl⟩
  obtain ⟨u, hu, hul⟩ := front_under (k := (nth [] (upL c) 0).length) hTf.one f3 hup
  have hux := ((f3 u).1 hu).1
  have hany : f.any (fun u => leqT u (nth (([] : List Int), (0 : Int)) c i).1) = true := by
    rw [List.any_eq_true]
    refine ⟨u, hu, ?_⟩
    unfold leqT
    rw [Bool.and_eq_true, alk_iff]
    exact ⟨⟨hTf.eqL hux hup, hTf.tok u hux, hTf.tok _ hup⟩, hul⟩
  rw [hany]
  rfl
set_option maxRecDepth 100000 in
theorem lifted_CountsTurns (os : Os) (started : os.Started) (H : Type) (enc : TypeId × Value → H) :
    ReturnsInHanded {} Try.checked os 10 .any (Rows.countsTurnsSpec.pre6 enc Try.prog Try.f10 Rows.countsTurnsRow.domain false) (Rows.countsTurnsSpec.post enc Try.prog Try.f10 false true false false) := by
  refine returnsInHanded_of_change_sized (C := Try.checked) own started (by kernel_rfl) Try.func10
    (ChangeSpec.witness6 (enc := enc) (C := Try.checked) false ⟨#[], #[.slice none 0 0, .slice none 0 0], []⟩ 8 (by kernel_rfl) (by kernel_rfl) (by kernel_rfl) (by kernel_rfl)) ?_
  intro W base args ds gs before hval0 hW _ hsz0 _
  have hgw : GW [] W := fun _ h => nomatch h
  have hval : ∀ (j : Nat) t v, Try.f10.params[j]? = some t → args[j]? = some v → Value.okWide Try.prog W .any base t v := hval0
  have hW' := hW
  obtain ⟨p, q, hA0, hV, rfl, _, _⟩ := hW
  have hA : DataW.TrodAll enc Try.prog W 0 (fun _ => true) true Try.f10.params.toList args.toList ds p := hA0
  rw [Try.params10] at hA hval
  obtain ⟨v0, vs0, d0, ds0, p0, q0, hargs, rfl, rfl, h0, r0⟩ := trodAll_cons hA
  obtain ⟨v1, vs1, d1, ds1, p1, q1, rfl, rfl, rfl, h1, r1⟩ := trodAll_cons r0
  obtain ⟨rfl, rfl, rfl⟩ := trodAll_nil r1
  obtain rfl : args = #[v0, v1] := by cases args; simp_all
  obtain ⟨rfl, rfl⟩ := trodVars_none hV
  have hall := List.all_eq_true.1 hsz0
  clear hA0 hval0 hsz0
  simp only [List.append_nil] at hW'
  have hlt0 : ∀ x ∈ p0, x.block < W.heap.size := fun x hx => hW'.lt x (by simp [hx])
  have hlt1 : ∀ x ∈ p1, x.block < W.heap.size := fun x hx => hW'.lt x (by simp [hx])
  obtain ⟨x0, g0, w0⟩ := open_kd (k := .dat (.sl (.pair (.sl (.int .i64)) (.int .i64)))) (by kernel_rfl) (hval 0 47 v0 rfl rfl) h0
  obtain ⟨x1, g1, w1⟩ := open_kd (k := .dat (.sl (.pair (.sl (.int .i64)) (.int .i64)))) (by kernel_rfl) (hval 1 47 v1 rfl rfl) h1
  have z0 : x0.length * Try.prog.bytesOf 52 ≤ reachBytes := open_room (t := 47) (r1 := []) (by kernel_rfl) g0 h0 fun n hn => by
    refine of_decide_eq_true (hall n ?_)
    rw [Try.params10]
    change n ∈ DataW.weightsEach Try.prog [47, 47] [d0, d1]
    simp only [DataW.weightsEach]
    exact List.mem_append_left _ (by simpa using hn)
  have z1 : x1.length * Try.prog.bytesOf 52 ≤ reachBytes := open_room (t := 47) (r1 := []) (by kernel_rfl) g1 h1 fun n hn => by
    refine of_decide_eq_true (hall n ?_)
    rw [Try.params10]
    change n ∈ DataW.weightsEach Try.prog [47, 47] [d0, d1]
    simp only [DataW.weightsEach]
    exact List.mem_append_right _ (List.mem_append_left _ (by simpa using hn))
  obtain ⟨N, hN⟩ := law_CountsTurns x0 x1 w0 w1 (by simpa only [show Try.prog.bytesOf 52 = 32 by kernel_rfl] using z0) (by simpa only [show Try.prog.bytesOf 52 = 32 by kernel_rfl] using z1)
  refine (sp_keep_CountsTurns N (fun _ => False) W (x0, x1, ()) (true, ()) [v0, v1] (fun _ h => h.elim) hgw ⟨v0, _, rfl, g0, ⟨v1, _, rfl, g1, rfl⟩⟩ hN).mono ?_
  rintro e W' ⟨v, rfl, hg, hr⟩
  replace hg := hg.old
  have hr : v = .bool true := by simpa only [kvals, retV, Kd.val, Go.Abs.enc, RV] using hr
  subst hr
  exact ⟨_, rfl, _, _, _, [], p0 ++ (p1 ++ []), [], hW', (trodAll_cons_mk (shut_bool (show Try.prog.underlying 4 = some .bool by kernel_rfl) _) trodAll_mk0), (trodAll_cons_mk (Below.trod laidOut (by kernel_rfl) (of_decide_eq_true (by kernel_rfl)) h0 hg hlt0) (trodAll_cons_mk (Below.trod laidOut (by kernel_rfl) (of_decide_eq_true (by kernel_rfl)) h1 hg hlt1) trodAll_mk0)), rfl, hg.frame _, fun h => by cases h⟩

/-- The statement: whatever the arguments, the law's function returns true and leaves them as they were. -/
theorem countsTurns_holds : Rows.CountsTurnsSaid :=
  OpenClaim.holds_of_wide 10 Try.f10 rfl rfl rfl rfl rfl rfl rfl ⟨rfl, rfl, rfl, rfl, rfl⟩ rfl rfl rfl rfl rfl (by kernel_rfl) Try.func10 (by kernel_rfl)
    (of_decide_eq_true (by kernel_rfl)) (by unfold Func.isWrapper; first | (rw [if_pos (by decide +kernel)]; kernel_rfl) | (rw [if_neg (by decide +kernel)]; exact ⟨rfl, rfl⟩))
    (fun os started H enc _ => lifted_CountsTurns os started H enc)
end Go.Proofs.Ytololihlpldcdaa
