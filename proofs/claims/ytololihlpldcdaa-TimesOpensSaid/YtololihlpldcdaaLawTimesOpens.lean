/- By the Front of a list of times just that is open which is open by the list; the Front's Front is itself; none of it is Leq to another one: the law answers true for every list and every time. No condition. -/
import Derived.Test.YtololihlpldcdaaTimesG
import Derived.Test.YtololihlpldcdaaFrame0
namespace Go.Proofs.Ytololihlpldcdaa
open Go Go.ChangeShapes Go.WideShapes Go.ChangeAt Go.WideMaps Go.WideElems Go.RowKit Go.Abs
-- watershed/watershedkeep.TimesOpens
abbrev Ks_keep_TimesOpens : List Kd := [.dat (.sl (.sl (.int .i64))), .dat (.sl (.int .i64))]
abbrev Rk_keep_TimesOpens : List Kd := [.dat (.bool)]
abbrev Rt_keep_TimesOpens : Type := Dens Rk_keep_TimesOpens
noncomputable def C_keep_TimesOpens (_N : Nat) : Ctx := { T := [(4, ⟨.bool, 1, 1, some .bool, [.bool false]⟩), (22, ⟨.slice 26, 1, 24, some (.sl (.sl (.int .i64))), [.nil]⟩), (26, ⟨.slice 3, 1, 24, some (.sl (.int .i64)), [.nil]⟩)], G := findE [mkQ 15 Ks_times_Front Rk_times_Front (D_times_Front _N), mkP 16 Ks_ref_Lists Rk_ref_Lists (D_ref_Lists _N), mkP 17 Ks_times_Open Rk_times_Open (D_times_Open _N), mkP 18 Ks_times_Leq Rk_times_Leq (D_times_Leq _N), mkP 19 Ks_times_Less Rk_times_Less (D_times_Less _N)], I := findI [], N := _N, n := 98, fx := [], fl := 0, gs := [] }
noncomputable def keep_TimesOpens_1 (_N : Nat) : Option Rt_keep_TimesOpens :=
  (some (true, ()))
noncomputable def keep_TimesOpens_2 (_N : Nat) (_kn46 : List (List Int) × Int → Option Rt_keep_TimesOpens) (_v32 : List (List Int)) (_v33 : Int) : Option Rt_keep_TimesOpens :=
  (_kn46 (_v32, (IntKind.i64.wrap (_v33 + (1 : Int)))))
noncomputable def keep_TimesOpens_3 (_N : Nat) (_kn48 : (List (List Int) × Int) × Int → Option Rt_keep_TimesOpens) (_v21 : List (List Int)) (_v22 : Int) (_v23 : Int) : Option Rt_keep_TimesOpens :=
  (_kn48 ((_v21, _v22), (IntKind.i64.wrap (_v23 + (1 : Int)))))
noncomputable def keep_TimesOpens_4 (_N : Nat) (_k47 : (List (List Int) × Int) → Option Rt_keep_TimesOpens) (_v15 : List (List Int)) (_v16 : Int) (_v17 : Int) (_kn48 : (List (List Int) × Int) × Int → Option Rt_keep_TimesOpens) : Option Rt_keep_TimesOpens :=
  (bif (decide (_v17 < (_v15.length : Int))) then (joinD (fun (_s : List (List Int) × Int × Int × Int × Int × Bool × Bool × Bool) => keep_TimesOpens_3 _N _kn48 _s.1 _s.2.1 _s.2.2.1) fun _k49 => (bif (_v16 != _v17) then (bif (decide (0 ≤ _v16) && decide (_v16 < (_v15.length : Int))) then (bif (decide (0 ≤ _v17) && decide (_v17 < (_v15.length : Int))) then ((D_times_Leq _N ((nth ([]) _v15 (_v16).toNat), (nth ([]) _v15 (_v17).toNat), ())).bind fun _y50 => (bif _y50.1 then (some (false, ())) else (bif (decide (_v16 < _v17)) then (bif (decide (0 ≤ _v16) && decide (_v16 < (_v15.length : Int))) then (bif (decide (0 ≤ _v17) && decide (_v17 < (_v15.length : Int))) then ((D_times_Less _N ((nth ([]) _v15 (_v16).toNat), (nth ([]) _v15 (_v17).toNat), ())).bind fun _y51 => (bif (!_y51.1) then (some (false, ())) else (_k49 (_v15, _v16, _v17, _v16, _v17, (decide (_v16 < _v17)), true, (!_y51.1))))) else none) else none) else (_k49 (_v15, _v16, _v17, _v16, _v17, (decide (_v16 < _v17)), false, false))))) else none) else none) else (bif (decide (_v16 < _v17)) then (bif (decide (0 ≤ _v16) && decide (_v16 < (_v15.length : Int))) then (bif (decide (0 ≤ _v17) && decide (_v17 < (_v15.length : Int))) then ((D_times_Less _N ((nth ([]) _v15 (_v16).toNat), (nth ([]) _v15 (_v17).toNat), ())).bind fun _y52 => (bif (!_y52.1) then (some (false, ())) else (_k49 (_v15, _v16, _v17, _v16, _v17, (decide (_v16 < _v17)), true, (!_y52.1))))) else none) else none) else (_k49 (_v15, _v16, _v17, _v16, _v17, (decide (_v16 < _v17)), false, false))))) else (_k47 (_v15, _v16)))
noncomputable def keep_TimesOpens_5 (_N : Nat) (_k45 : Unit → Option Rt_keep_TimesOpens) (_v13 : List (List Int)) (_v14 : Int) (_kn46 : List (List Int) × Int → Option Rt_keep_TimesOpens) : Option Rt_keep_TimesOpens :=
  (bif (decide (_v14 < (_v13.length : Int))) then (joinD (fun (_s : List (List Int) × Int) => keep_TimesOpens_2 _N _kn46 _s.1 _s.2) fun _k47 => (loopE (fun (_c : List (List Int) × Int) (_s : Int) _kn => keep_TimesOpens_4 _N _k47 _c.1 _c.2 _s _kn) _N (_v13, _v14) (0 : Int))) else (_k45 ()))
noncomputable def keep_TimesOpens_6 (_N : Nat) (_v12 : List (List Int)) : Option Rt_keep_TimesOpens :=
  (joinD (fun (_s : Unit) => keep_TimesOpens_1 _N) fun _k45 => (loopE (fun (_c : List (List Int)) (_s : Int) _kn => keep_TimesOpens_5 _N _k45 _c _s _kn) _N _v12 (0 : Int)))
noncomputable def keep_TimesOpens_7 (_N : Nat) (_k53 : (List (List Int)) → Option Rt_keep_TimesOpens) (_v6 : List (List Int)) (_v7 : List (List Int)) (_v8 : Int) (_v9 : Int) (_kn54 : (List (List Int) × List (List Int) × Int) × Int → Option Rt_keep_TimesOpens) : Option Rt_keep_TimesOpens :=
  (bif (decide (_v9 < _v8)) then (bif (decide (0 ≤ _v9) && decide (_v9 < (_v7.length : Int))) then ((D_times_Open _N (_v6, (nth ([]) _v7 (_v9).toNat), ())).bind fun _y55 => (bif (!_y55.1) then (some (false, ())) else (_kn54 ((_v6, _v7, _v8), (IntKind.i64.wrap (_v9 + (1 : Int))))))) else none) else (_k53 _v6))
noncomputable def keep_TimesOpens_8 (_N : Nat) (_x1 : List (List Int)) (_x2 : List Int) : Option Rt_keep_TimesOpens :=
  ((D_times_Front _N (_x1, ())).bind fun _y40 => (bif (_y40.2.1 != (0 : Int)) then (some (((_y40.1.length : Int) == (0 : Int)), ())) else ((D_times_Front _N (_y40.1, ())).bind fun _y41 => (bif (_y41.2.1 != (0 : Int)) then (some (false, ())) else ((D_ref_Lists _N (_y40.1, _y41.1, ())).bind fun _y42 => (bif (!_y42.1) then (some (false, ())) else ((D_times_Open _N (_y40.1, _x2, ())).bind fun _y43 => ((D_times_Open _N (_x1, _x2, ())).bind fun _y44 => (bif (!(_y43.1 == _y44.1)) then (some (false, ())) else (joinD (fun (_s : List (List Int)) => keep_TimesOpens_6 _N _s) fun _k53 => (loopE (fun (_c : List (List Int) × List (List Int) × Int) (_s : Int) _kn => keep_TimesOpens_7 _N _k53 _c.1 _c.2.1 _c.2.2 _s _kn) _N (_y40.1, _x1, (_x1.length : Int)) (0 : Int))))))))))))
noncomputable def D_keep_TimesOpens (_N : Nat) (_x : Dens Ks_keep_TimesOpens) : Option Rt_keep_TimesOpens := keep_TimesOpens_8 _N _x.1 _x.2.1
theorem sp_keep_TimesOpens (_N : Nat) : SpecD Try.prog [] 5 Ks_keep_TimesOpens Rk_keep_TimesOpens (D_keep_TimesOpens _N) := mkSpD (fn := Try.f5) (c := bodyOf Try.f5) (C := C_keep_TimesOpens _N)
    (a := .two .none (.two .none (.two .none (.two .none (.two .none (.join 0 ⟨[(5, .sl (.sl (.int .i64)))], []⟩ (.two .none (.one (.loop 0 ⟨[(5, .sl (.sl (.int .i64))), (44, .sl (.sl (.int .i64))), (45, .int .i64), (46, .int .i64)], []⟩ [3] .none))) (.join 0 ⟨[], []⟩ (.two .none (.one (.loop 0 ⟨[(5, .sl (.sl (.int .i64))), (10, .int .i64)], []⟩ [1] (.two .none (.join 0 ⟨[(5, .sl (.sl (.int .i64))), (10, .int .i64)], []⟩ (.one (.two .none (.one (.loop 0 ⟨[(5, .sl (.sl (.int .i64))), (10, .int .i64), (11, .int .i64)], []⟩ [2] (.two .none (.join 0 ⟨[(5, .sl (.sl (.int .i64))), (10, .int .i64), (11, .int .i64), (82, .int .i64), (83, .int .i64), (84, .bool), (85, .bool), (96, .bool)], []⟩ (.one (.two (.draw 0 (.pure :: .pure :: .pure :: .pure :: .pure :: .pure :: .pure :: .pure :: .pure :: .pure :: .pure :: .pure :: .pure :: .pure :: .pure :: .pure :: .pure :: .pure :: .pure :: .pure :: .pure :: .pure :: .pure :: .pure :: .pure :: .pure :: .pure :: .pure :: .pure :: .pure :: .pure :: [])) .none)) .none)))))) .none))))) .none)))))))
    (by kernel_rfl) rfl (by kernel_rfl) (by kernel_rfl) ⟨rfl, by unfold TOk; kernel_rfl, gOk_of rfl rfl (List.forall_mem_cons.2 ⟨qen_times_Front _N, (List.forall_mem_cons.2 ⟨en_ref_Lists _N, (List.forall_mem_cons.2 ⟨en_times_Open _N, (List.forall_mem_cons.2 ⟨en_times_Leq _N, (List.forall_mem_cons.2 ⟨en_times_Less _N, (List.forall_mem_nil _)⟩)⟩)⟩)⟩)⟩), iOk_of rfl rfl (List.forall_mem_nil _), rfl⟩ (fun _x => by kernel_rfl)
theorem en_keep_TimesOpens (_N : Nat) : EntOk Try.prog [] (mkP 5 Ks_keep_TimesOpens Rk_keep_TimesOpens (D_keep_TimesOpens _N)) := entP ⟨Try.f5, bodyOf Try.f5, by kernel_rfl, by kernel_rfl, rfl⟩ (by kernel_rfl) (sp_keep_TimesOpens _N)
theorem law_TimesOpens (l : List (List Int)) (t : List Int) (_wl : wfS (.sl (.sl (.int .i64))) l) (_wt : wfS (.sl (.int .i64)) t) : ∃ N, D_keep_TimesOpens N (l, t, ()) = some (true, ()) := by
  refine ⟨1000, ?_⟩
  simp only [D_keep_TimesOpens, keep_TimesOpens_8]
  rcases Front_eq (N := 1000) (Nat.le_refl _) l with ⟨h, e, he, f1⟩ | ⟨h, f, f1, f2, f3, f4⟩
  · rw [f1, Option.bind_some, show (e != 0) = true from bne_iff_ne.2 he]; rfl
  have hlen := h.len
  have hfm : ∀ u ∈ f, u ∈ l := fun u hu => ((f3 u).1 hu).1
  have hf' : TL f := h.of_mem (by omega) hfm
  have hfl := hf'.len
  rw [f1, Option.bind_some, bne_self_eq_false, cond_false]
  rcases Front_eq (N := 1000) (Nat.le_refl _) f with ⟨h2, -⟩ | ⟨-, g, g1, g2, g3, g4⟩
  · exact absurd hf' h2
  have e : f = g := rise_uniq f2 g2 fun t => by rw [g3]; exact (isMin_self f3 t).symm
  subst e
  simp only [g1, Option.bind_some, bne_self_eq_false, cond_false, Lists_self (N := 1000) (Nat.le_refl _) hfl (fun t ht => (tok_len (hf'.tok t ht)).2), Bool.not_true, Open_eq (N := 1000) (Nat.le_refl _) hfl t, Open_eq (N := 1000) (Nat.le_refl _) hlen t, open_front h f3 t, beq_self_eq_true, joinD, loopE]
  refine loopD_pass (n := l.length) (by omega) (fun i hi kn => ?_) (fun kn => ?_) (by omega)
  · have hm := nth_mem (z := ([] : List Int)) hi
    have hop : f.any (fun u => leqT u (nth [] l i)) = true := by
      rw [open_front h f3]
      exact List.any_eq_true.2 ⟨_, hm, leqT_iff.2 ⟨⟨rfl, h.tok _ hm, h.tok _ hm⟩, undr_refl _⟩⟩
    simp only [keep_TimesOpens_7, lt_d hi, ge0_d, Bool.and_self, cond_true, Int.toNat_natCast, Open_eq (N := 1000) (Nat.le_refl _) hfl, hop, Option.bind_some, Bool.not_true, cond_false, backE_eq, ix1 hi (by omega)]
  simp only [keep_TimesOpens_7, lt_self, cond_false, keep_TimesOpens_6, joinD, loopE]
  have hpw : ∀ i j, i < f.length → j < f.length → i < j → lexc (nth [] f i) (nth [] f j) < 0 := fun i j hi hj hij => by
    rw [nth_lt hi, nth_lt hj]
    exact List.pairwise_iff_getElem.1 f2 i j hi hj hij
  have hne : ∀ i j, i < f.length → j < f.length → i ≠ j → nth [] f i ≠ nth [] f j := fun i j hi hj hij e => by
    rcases Nat.lt_or_gt_of_ne hij with h' | h'
    · have := hpw i j hi hj h'
      rw [e, lexc_self] at this; omega
    · have := hpw j i hj hi h'
      rw [e, lexc_self] at this; omega
  refine loopD_pass (n := f.length) (by omega) (fun i hi kn => ?_) (fun kn => by simp only [keep_TimesOpens_5, lt_self, cond_false, keep_TimesOpens_1]) (by omega)
  simp only [keep_TimesOpens_5, lt_d hi, cond_true, joinD, loopE]
  refine loopD_pass (n := f.length) (by omega) (fun j hj kn' => ?_) (fun kn' => by simp only [keep_TimesOpens_4, lt_self, cond_false, keep_TimesOpens_2, backE_eq, ix1 hi (by omega)]) (by omega)
  have mi := nth_mem (z := ([] : List Int)) hi
  have mj := nth_mem (z := ([] : List Int)) hj
  have hal : alk (nth [] f i) (nth [] f j) = true := alk_iff.2 ⟨hf'.eqL mi mj, hf'.tok _ mi, hf'.tok _ mj⟩
  by_cases hij : i = j
  · subst hij
    simp only [keep_TimesOpens_4, lt_d hi, cond_true, joinD, bne_self_eq_false, cond_false, d_false (show ¬ ((i : Int) < (i : Int)) by omega), keep_TimesOpens_3, backE_eq, ix1 hi (by omega)]
  have hlq : leqT (nth [] f i) (nth [] f j) = false := Bool.eq_false_iff.2 fun hq => hne i j hi hj hij (((isMin_self f3 _).2 mj).2 _ mi (leqT_iff.1 hq).2)
  simp only [keep_TimesOpens_4, lt_d hj, ge0_d, lt_d hi, Bool.and_self, cond_true, joinD, Int.toNat_natCast, show ((i : Int) != (j : Int)) = true from bne_iff_ne.2 (by omega), Leq_eq (N := 1000) (Nat.le_refl _), hlq, Option.bind_some, cond_false, Less_eq (N := 1000) (Nat.le_refl _), hal]
  by_cases hlt : i < j
  · simp only [d_true (show (i : Int) < (j : Int) by omega), cond_true, d_true (hpw i j hi hj hlt), Bool.and_self, Bool.not_true, cond_false, keep_TimesOpens_3, backE_eq, ix1 hj (by omega)]
  · simp only [d_false (show ¬ (i : Int) < (j : Int) by omega), cond_false, keep_TimesOpens_3, backE_eq, ix1 hj (by omega)]
set_option maxRecDepth 100000 in
theorem lifted_TimesOpens (os : Os) (started : os.Started) (H : Type) (enc : TypeId × Value → H) :
    ReturnsInHanded {} Try.checked os 5 .any (Rows.timesOpensSpec.pre6 enc Try.prog Try.f5 Rows.timesOpensRow.domain false) (Rows.timesOpensSpec.post enc Try.prog Try.f5 false true false false) := by
  refine returnsInHanded_of_change_sized (C := Try.checked) own started (by kernel_rfl) Try.func5
    (ChangeSpec.witness6 (enc := enc) (C := Try.checked) false ⟨#[], #[.slice none 0 0, .slice none 0 0], []⟩ 8 (by kernel_rfl) (by kernel_rfl) (by kernel_rfl) (by kernel_rfl)) ?_
  intro W base args ds gs before hval0 hW _ hsz0 _
  have hgw : GW [] W := fun _ h => nomatch h
  have hval : ∀ (j : Nat) t v, Try.f5.params[j]? = some t → args[j]? = some v → Value.okWide Try.prog W .any base t v := hval0
  have hW' := hW
  obtain ⟨p, q, hA0, hV, rfl, _, _⟩ := hW
  have hA : DataW.TrodAll enc Try.prog W 0 (fun _ => true) true Try.f5.params.toList args.toList ds p := hA0
  rw [Try.params5] at hA hval
  obtain ⟨v0, vs0, d0, ds0, p0, q0, hargs, rfl, rfl, h0, r0⟩ := trodAll_cons hA
  obtain ⟨v1, vs1, d1, ds1, p1, q1, rfl, rfl, rfl, h1, r1⟩ := trodAll_cons r0
  obtain ⟨rfl, rfl, rfl⟩ := trodAll_nil r1
  obtain rfl : args = #[v0, v1] := by cases args; simp_all
  obtain ⟨rfl, rfl⟩ := trodVars_none hV
  clear hA0 hval0 hsz0
  simp only [List.append_nil] at hW'
  have hlt0 : ∀ x ∈ p0, x.block < W.heap.size := fun x hx => hW'.lt x (by simp [hx])
  have hlt1 : ∀ x ∈ p1, x.block < W.heap.size := fun x hx => hW'.lt x (by simp [hx])
  obtain ⟨x0, g0, w0⟩ := open_kd (k := .dat (.sl (.sl (.int .i64)))) (by kernel_rfl) (hval 0 22 v0 rfl rfl) h0
  obtain ⟨x1, g1, w1⟩ := open_kd (k := .dat (.sl (.int .i64))) (by kernel_rfl) (hval 1 26 v1 rfl rfl) h1
  obtain ⟨N, hN⟩ := law_TimesOpens x0 x1 w0 w1
  refine (sp_keep_TimesOpens N (fun _ => False) W (x0, x1, ()) (true, ()) [v0, v1] (fun _ h => h.elim) hgw ⟨v0, _, rfl, g0, ⟨v1, _, rfl, g1, rfl⟩⟩ hN).mono ?_
  rintro e W' ⟨v, rfl, hg, hr⟩
  replace hg := hg.old
  have hr : v = .bool true := by simpa only [kvals, retV, Kd.val, Go.Abs.enc, RV] using hr
  subst hr
  exact ⟨_, rfl, _, _, _, [], p0 ++ (p1 ++ []), [], hW', (trodAll_cons_mk (shut_bool (show Try.prog.underlying 4 = some .bool by kernel_rfl) _) trodAll_mk0), (trodAll_cons_mk (Below.trod laidOut (by kernel_rfl) (of_decide_eq_true (by kernel_rfl)) h0 hg hlt0) (trodAll_cons_mk (Below.trod laidOut (by kernel_rfl) (of_decide_eq_true (by kernel_rfl)) h1 hg hlt1) trodAll_mk0)), rfl, hg.frame _, fun h => by cases h⟩

/-- The statement: whatever the arguments, the law's function returns true and leaves them as they were. -/
theorem timesOpens_holds : Rows.TimesOpensSaid :=
  OpenClaim.holds_of_wide 5 Try.f5 rfl rfl rfl rfl rfl rfl rfl ⟨rfl, rfl, rfl, rfl, rfl⟩ rfl rfl rfl rfl rfl (by kernel_rfl) Try.func5 (by kernel_rfl)
    (of_decide_eq_true (by kernel_rfl)) (by unfold Func.isWrapper; first | (rw [if_pos (by decide +kernel)]; kernel_rfl) | (rw [if_neg (by decide +kernel)]; exact ⟨rfl, rfl⟩))
    (fun os started H enc _ => lifted_TimesOpens os started H enc)
end Go.Proofs.Ytololihlpldcdaa
