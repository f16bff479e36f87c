/- By Both that is open which is open by the one or the other; by Either, by both: the law answers true for every two lists and every time. No condition. -/
import Derived.Test.YtololihlpldcdaaTimesM
import Derived.Test.YtololihlpldcdaaFrame0
namespace Go.Proofs.Ytololihlpldcdaa
open Go Go.ChangeShapes Go.WideShapes Go.ChangeAt Go.WideMaps Go.WideElems Go.RowKit Go.Abs
-- watershed/watershedkeep.TimesMeets
abbrev Ks_keep_TimesMeets : List Kd := [.dat (.sl (.sl (.int .i64))), .dat (.sl (.sl (.int .i64))), .dat (.sl (.int .i64))]
abbrev Rk_keep_TimesMeets : List Kd := [.dat (.bool)]
abbrev Rt_keep_TimesMeets : Type := Dens Rk_keep_TimesMeets
noncomputable def C_keep_TimesMeets (_N : Nat) : Ctx := { T := [(4, ⟨.bool, 1, 1, some .bool, [.bool false], false, []⟩), (22, ⟨.slice 26, 1, 24, some (.sl (.sl (.int .i64))), [.nil], false, []⟩), (26, ⟨.slice 3, 1, 24, some (.sl (.int .i64)), [.nil], false, []⟩)], G := findE [mkQ 21 Ks_times_Both Rk_times_Both (D_times_Both _N), mkQ 22 Ks_times_Either Rk_times_Either (D_times_Either _N), mkP 17 Ks_times_Open Rk_times_Open (D_times_Open _N)], I := findI [], N := _N, n := 72, fx := [], fl := 0, gs := [] }
noncomputable def keep_TimesMeets_1 (_N : Nat) (_v25 : List (List Int)) (_v26 : List (List Int)) (_v27 : List Int) (_v28 : List (List Int)) (_v29 : Int) : Option Rt_keep_TimesMeets :=
  (bif (_v29 != (0 : Int)) then (some (true, ())) else ((D_times_Open _N (_v28, _v27, ())).bind fun _y35 => ((D_times_Open _N (_v25, _v27, ())).bind fun _y36 => (bif _y36.1 then ((D_times_Open _N (_v26, _v27, ())).bind fun _y37 => (some ((_y35.1 == _y37.1), ()))) else (some ((_y35.1 == false), ()))))))
noncomputable def keep_TimesMeets_2 (_N : Nat) (_k38 : (List (List Int) × List (List Int) × List Int × List (List Int) × Int) → Option Rt_keep_TimesMeets) (_v13 : List (List Int)) (_v14 : List (List Int)) (_v15 : List Int) (_v16 : List (List Int)) (_v17 : Int) (_v18 : List (List Int)) (_v19 : Int) (_v20 : List (List Int)) (_v21 : Int) (_v22 : Int) (_kn39 : (List (List Int) × List (List Int) × List Int × List (List Int) × Int × List (List Int) × Int × List (List Int) × Int) × Int → Option Rt_keep_TimesMeets) : Option Rt_keep_TimesMeets :=
  (bif (decide (_v22 < _v21)) then (bif (decide (0 ≤ _v22) && decide (_v22 < (_v20.length : Int))) then (bif (_v17 == (0 : Int)) then ((D_times_Open _N (_v16, (nth ([]) _v20 (_v22).toNat), ())).bind fun _y40 => (bif (!_y40.1) then (some (false, ())) else (_kn39 ((_v13, _v14, _v15, _v16, _v17, _v18, _v19, _v20, _v21), (IntKind.i64.wrap (_v22 + (1 : Int))))))) else (_kn39 ((_v13, _v14, _v15, _v16, _v17, _v18, _v19, _v20, _v21), (IntKind.i64.wrap (_v22 + (1 : Int)))))) else none) else (_k38 (_v13, _v14, _v15, _v18, _v19)))
noncomputable def keep_TimesMeets_3 (_N : Nat) (_v6 : List (List Int)) (_v7 : List (List Int)) (_v8 : List Int) (_v9 : List (List Int)) (_v10 : Int) (_v11 : List (List Int)) (_v12 : Int) : Option Rt_keep_TimesMeets :=
  (joinD (fun (_s : List (List Int) × List (List Int) × List Int × List (List Int) × Int) => keep_TimesMeets_1 _N _s.1 _s.2.1 _s.2.2.1 _s.2.2.2.1 _s.2.2.2.2) fun _k38 => (loopE (fun (_c : List (List Int) × List (List Int) × List Int × List (List Int) × Int × List (List Int) × Int × List (List Int) × Int) (_s : Int) _kn => keep_TimesMeets_2 _N _k38 _c.1 _c.2.1 _c.2.2.1 _c.2.2.2.1 _c.2.2.2.2.1 _c.2.2.2.2.2.1 _c.2.2.2.2.2.2.1 _c.2.2.2.2.2.2.2.1 _c.2.2.2.2.2.2.2.2 _s _kn) _N (_v6, _v7, _v8, _v9, _v10, _v11, _v12, _v6, (_v6.length : Int)) (0 : Int)))
noncomputable def keep_TimesMeets_4 (_N : Nat) (_x1 : List (List Int)) (_x2 : List (List Int)) (_x3 : List Int) : Option Rt_keep_TimesMeets :=
  ((D_times_Both _N (_x1, _x2, ())).bind fun _y33 => ((D_times_Either _N (_x1, _x2, ())).bind fun _y34 => (joinD (fun (_s : List (List Int) × List (List Int) × List Int × List (List Int) × Int × List (List Int) × Int) => keep_TimesMeets_3 _N _s.1 _s.2.1 _s.2.2.1 _s.2.2.2.1 _s.2.2.2.2.1 _s.2.2.2.2.2.1 _s.2.2.2.2.2.2) fun _k41 => (bif (_y33.2.1 == (0 : Int)) then ((D_times_Open _N (_y33.1, _x3, ())).bind fun _y42 => ((D_times_Open _N (_x1, _x3, ())).bind fun _y43 => (bif _y43.1 then (bif (!(_y42.1 == true)) then (some (false, ())) else (_k41 (_x1, _x2, _x3, _y33.1, _y33.2.1, _y34.1, _y34.2.1))) else ((D_times_Open _N (_x2, _x3, ())).bind fun _y44 => (bif (!(_y42.1 == _y44.1)) then (some (false, ())) else (_k41 (_x1, _x2, _x3, _y33.1, _y33.2.1, _y34.1, _y34.2.1))))))) else (_k41 (_x1, _x2, _x3, _y33.1, _y33.2.1, _y34.1, _y34.2.1))))))
noncomputable def D_keep_TimesMeets (_N : Nat) (_x : Dens Ks_keep_TimesMeets) : Option Rt_keep_TimesMeets := keep_TimesMeets_4 _N _x.1 _x.2.1 _x.2.2.1
theorem sp_keep_TimesMeets (_N : Nat) : SpecD Try.prog [] 7 Ks_keep_TimesMeets Rk_keep_TimesMeets (D_keep_TimesMeets _N) := mkSpD (fn := Try.f7) (c := bodyOf Try.f7) (C := C_keep_TimesMeets _N)
    (a := .two .none (.two .none (.two .none (.join 0 ⟨[(0, .sl (.sl (.int .i64))), (1, .sl (.sl (.int .i64))), (2, .sl (.int .i64)), (7, .sl (.sl (.int .i64))), (8, .int .i64), (9, .sl (.sl (.int .i64))), (10, .int .i64)], []⟩ .none (.join 0 ⟨[(0, .sl (.sl (.int .i64))), (1, .sl (.sl (.int .i64))), (2, .sl (.int .i64)), (9, .sl (.sl (.int .i64))), (10, .int .i64)], []⟩ (.two .none (.one (.loop 0 ⟨[(0, .sl (.sl (.int .i64))), (1, .sl (.sl (.int .i64))), (2, .sl (.int .i64)), (7, .sl (.sl (.int .i64))), (8, .int .i64), (9, .sl (.sl (.int .i64))), (10, .int .i64), (41, .sl (.sl (.int .i64))), (42, .int .i64), (43, .int .i64)], []⟩ [9] .none))) .none)))))
    (by kernel_rfl) rfl (by kernel_rfl) (by kernel_rfl) ⟨rfl, by unfold TOk; kernel_rfl, gOk_of rfl rfl (List.forall_mem_cons.2 ⟨qen_times_Both _N, (List.forall_mem_cons.2 ⟨qen_times_Either _N, (List.forall_mem_cons.2 ⟨en_times_Open _N, (List.forall_mem_nil _)⟩)⟩)⟩), iOk_of rfl rfl (List.forall_mem_nil _), rfl⟩ (fun _x => by kernel_rfl)
theorem en_keep_TimesMeets (_N : Nat) : EntOk Try.prog [] (mkP 7 Ks_keep_TimesMeets Rk_keep_TimesMeets (D_keep_TimesMeets _N)) := entP ⟨Try.f7, bodyOf Try.f7, by kernel_rfl, by kernel_rfl, rfl⟩ (by kernel_rfl) (sp_keep_TimesMeets _N)

theorem meets_last {N : Nat} (hN : 5000 ≤ N) (f g : List (List Int)) (t : List Int) {b : List (List Int)} {x : Int} (h : x ≠ 0 ∨ LL f g ∧ (opn b t = (opn f t && opn g t)) ∧ b.length ≤ 64) : keep_TimesMeets_1 N f g t b x = some (true, ()) := by
  simp only [keep_TimesMeets_1]
  by_cases hx : x = 0
  case neg => rw [bne_iff_ne.2 hx, cond_true]
  obtain ⟨hL, h2, h3⟩ := h.resolve_left fun h => h hx
  subst hx
  rw [bne_self_eq_false, cond_false]
  simp only [Open_eq (N := N) (by omega) h3, Open_eq (N := N) (by omega) hL.1.len, Open_eq (N := N) (by omega) hL.2.1.len, Option.bind_some]
  unfold opn at h2
  rw [h2]
  cases f.any (fun u => leqT u t) with
  | true => simp only [cond_true, Bool.true_and, beq_self_eq_true]
  | false => simp only [cond_false, Bool.false_and, beq_self_eq_true]
theorem law_TimesMeets (f g : List (List Int)) (t : List Int) (hf : wfS (.sl (.sl (.int .i64))) f) (_hg : wfS (.sl (.sl (.int .i64))) g) (_ht : wfS (.sl (.int .i64)) t) : ∃ N, D_keep_TimesMeets N (f, g, t, ()) = some (true, ()) := by
  have hfl : f.length ≤ 9223372036854775807 := hf.1
  refine ⟨5000 + f.length, ?_⟩
  generalize hNN : 5000 + f.length = N
  have hN : 5000 ≤ N := by omega
  have hE : ∃ b x, D_times_Either N (f, g, ()) = some (b, x, ()) ∧ (x ≠ 0 ∨ LL f g ∧ (opn b t = (opn f t && opn g t)) ∧ b.length ≤ 64) := by
    rcases Either_eq hN f g with ⟨e, he, e1⟩ | ⟨hL, b, e1, e2, e3⟩
    · exact ⟨_, e, e1, .inl he⟩
    · exact ⟨b, 0, e1, .inr ⟨hL, e2 t, e3⟩⟩
  obtain ⟨b, x, e1, e2⟩ := hE
  have hlast := meets_last hN f g t e2
  simp only [D_keep_TimesMeets, keep_TimesMeets_4, e1, joinD]
  rcases Both_eq (N := N) (by omega) f g with ⟨e, he, e3⟩ | ⟨hL, a, e3, e4, e5⟩
  · simp only [e3, Option.bind_some]
    rw [beq_false_of_ne he, cond_false]
    simp only [keep_TimesMeets_3, joinD, loopE]
    refine loopD_passU (n := f.length) (fun i hi kn => ?_) (fun kn => by simp only [keep_TimesMeets_2, lt_self, cond_false]; exact hlast) (by omega)
    simp only [keep_TimesMeets_2, lt_d hi, ge0_d, Bool.and_self, cond_true, beq_false_of_ne he, cond_false, backE_eq, w64 (show -9223372036854775808 ≤ (i : Int) + 1 by omega) (show (i : Int) + 1 ≤ 9223372036854775807 by omega)]
  · have hfin : keep_TimesMeets_3 N f g t a 0 b x = some (true, ()) := by
      simp only [keep_TimesMeets_3, joinD, loopE]
      have hf64 := hL.1.len
      refine loopD_passU (n := f.length) (fun i hi kn => ?_) (fun kn => by simp only [keep_TimesMeets_2, lt_self, cond_false]; exact hlast) (by omega)
      have hop : (a.any fun u => leqT u (nth [] f i)) = true := by
        have h1 := e4 (nth [] f i)
        have h2 : opn f (nth [] f i) = true := opn_iff.2 ⟨_, nth_mem hi, leqT_iff.2 ⟨⟨rfl, hL.1.tok _ (nth_mem hi), hL.1.tok _ (nth_mem hi)⟩, undr_refl _⟩⟩
        rw [h2, Bool.true_or] at h1
        exact h1
      simp only [keep_TimesMeets_2, lt_d hi, ge0_d, Bool.and_self, cond_true, beq_self_eq_true, Int.toNat_natCast, Open_eq (N := N) (by omega) e5, hop, Option.bind_some, Bool.not_true, cond_false, backE_eq, ix1 hi (show f.length ≤ 100000 by omega)]
    have h4 := e4 t
    unfold opn at h4
    simp only [e3, Option.bind_some, beq_self_eq_true, cond_true, Open_eq (N := N) (by omega) e5, Open_eq (N := N) (by omega) hL.1.len, Open_eq (N := N) (by omega) hL.2.1.len, h4, hfin]
    cases f.any (fun u => leqT u t) with
    | true => simp
    | false => simp
set_option maxRecDepth 100000 in
theorem lifted_TimesMeets (os : Os) (started : os.Started) (H : Type) (enc : TypeId × Value → H) :
    ReturnsInHanded {} Try.checked os 7 .any (Rows.timesMeetsSpec.pre6 enc Try.prog Try.f7 Rows.timesMeetsRow.domain false) (Rows.timesMeetsSpec.post enc Try.prog Try.f7 false true false false) := by
  refine returnsInHanded_of_change_sized (C := Try.checked) own started (by kernel_rfl) Try.func7
    (ChangeSpec.witness6 (enc := enc) (C := Try.checked) false ⟨#[], #[.slice none 0 0, .slice none 0 0, .slice none 0 0], []⟩ 8 (by kernel_rfl) (by kernel_rfl) (by kernel_rfl) (by kernel_rfl)) ?_
  intro W base args ds gs before hval0 hW _ hsz0 _
  have hgw : GW [] W := fun _ h => nomatch h
  have hval : ∀ (j : Nat) t v, Try.f7.params[j]? = some t → args[j]? = some v → Value.okWide Try.prog W .any base t v := hval0
  have hW' := hW
  obtain ⟨p, q, hA0, hV, rfl, _, _⟩ := hW
  have hA : DataW.TrodAll enc Try.prog W 0 (fun _ => true) true Try.f7.params.toList args.toList ds p := hA0
  rw [Try.params7] at hA hval
  obtain ⟨v0, vs0, d0, ds0, p0, q0, hargs, rfl, rfl, h0, r0⟩ := trodAll_cons hA
  obtain ⟨v1, vs1, d1, ds1, p1, q1, rfl, rfl, rfl, h1, r1⟩ := trodAll_cons r0
  obtain ⟨v2, vs2, d2, ds2, p2, q2, rfl, rfl, rfl, h2, r2⟩ := trodAll_cons r1
  obtain ⟨rfl, rfl, rfl⟩ := trodAll_nil r2
  obtain rfl : args = #[v0, v1, v2] := by cases args; simp_all
  obtain ⟨rfl, rfl⟩ := trodVars_none hV
  have hall := List.all_eq_true.1 hsz0
  clear hA0 hval0 hsz0
  simp only [List.append_nil] at hW'
  have hlt0 : ∀ x ∈ p0, x.block < W.heap.size := fun x hx => hW'.lt x (by simp [hx])
  have hlt1 : ∀ x ∈ p1, x.block < W.heap.size := fun x hx => hW'.lt x (by simp [hx])
  have hlt2 : ∀ x ∈ p2, x.block < W.heap.size := fun x hx => hW'.lt x (by simp [hx])
  obtain ⟨x0, g0, w0⟩ := open_kd (k := .dat (.sl (.sl (.int .i64)))) (by kernel_rfl) (hval 0 22 v0 rfl rfl) h0
  obtain ⟨x1, g1, w1⟩ := open_kd (k := .dat (.sl (.sl (.int .i64)))) (by kernel_rfl) (hval 1 22 v1 rfl rfl) h1
  obtain ⟨x2, g2, w2⟩ := open_kd (k := .dat (.sl (.int .i64))) (by kernel_rfl) (hval 2 26 v2 rfl rfl) h2
  obtain ⟨N, hN⟩ := law_TimesMeets x0 x1 x2 w0 w1 w2
  refine (sp_keep_TimesMeets N (fun _ => False) W (x0, x1, x2, ()) (true, ()) [v0, v1, v2] (fun _ h => h.elim) hgw ⟨v0, _, rfl, g0, ⟨v1, _, rfl, g1, ⟨v2, _, rfl, g2, rfl⟩⟩⟩ hN).mono ?_
  rintro e W' ⟨v, rfl, hg, hr⟩
  replace hg := hg.old
  have hr : v = .bool true := by simpa only [kvals, retV, Kd.val, Go.Abs.enc, RV] using hr
  subst hr
  exact ⟨_, rfl, _, _, _, [], p0 ++ (p1 ++ (p2 ++ [])), [], hW', (trodAll_cons_mk (shut_bool (show Try.prog.underlying 4 = some .bool by kernel_rfl) _) trodAll_mk0), (trodAll_cons_mk (Below.trod laidOut (by kernel_rfl) (of_decide_eq_true (by kernel_rfl)) h0 hg hlt0) (trodAll_cons_mk (Below.trod laidOut (by kernel_rfl) (of_decide_eq_true (by kernel_rfl)) h1 hg hlt1) (trodAll_cons_mk (Below.trod laidOut (by kernel_rfl) (of_decide_eq_true (by kernel_rfl)) h2 hg hlt2) trodAll_mk0))), rfl, hg.frame _, fun h => by cases h⟩

/-- The statement: whatever the arguments, the law's function returns true and leaves them as they were. -/
theorem timesMeets_holds : Rows.TimesMeetsSaid :=
  OpenClaim.holds_of_wide 7 Try.f7 rfl rfl rfl rfl rfl rfl rfl ⟨rfl, rfl, rfl, rfl, rfl⟩ rfl rfl rfl rfl rfl (by kernel_rfl) Try.func7 (by kernel_rfl)
    (of_decide_eq_true (by kernel_rfl)) (by unfold Func.isWrapper; first | (rw [if_pos (by decide +kernel)]; kernel_rfl) | (rw [if_neg (by decide +kernel)]; exact ⟨rfl, rfl⟩))
    (fun os started H enc _ => lifted_TimesMeets os started H enc)
end Go.Proofs.Ytololihlpldcdaa
