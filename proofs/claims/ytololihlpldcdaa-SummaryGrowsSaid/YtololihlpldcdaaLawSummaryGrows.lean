/- Of two summaries of which one is Leq to the other, the same is true with a third one ahead of them, and behind them: the law answers true for every three summaries. No condition. -/
import Derived.Test.YtololihlpldcdaaSummT
import Derived.Test.YtololihlpldcdaaFrame0
namespace Go.Proofs.Ytololihlpldcdaa
open Go Go.ChangeShapes Go.WideShapes Go.ChangeAt Go.WideMaps Go.WideElems Go.RowKit Go.Abs
-- watershed/watershedkeep.SummaryGrows
abbrev Ks_keep_SummaryGrows : List Kd := [.dat (.pair (.int .i64) (.pair (.int .i64) (.sl (.int .i64)))), .dat (.pair (.int .i64) (.pair (.int .i64) (.sl (.int .i64)))), .dat (.pair (.int .i64) (.pair (.int .i64) (.sl (.int .i64))))]
abbrev Rk_keep_SummaryGrows : List Kd := [.dat (.bool)]
abbrev Rt_keep_SummaryGrows : Type := Dens Rk_keep_SummaryGrows
noncomputable def C_keep_SummaryGrows (_N : Nat) : Ctx := { T := [(41, ⟨.struct [(0, 3), (1, 3), (2, 26)], 3, 40, some (.pair (.int .i64) (.pair (.int .i64) (.sl (.int .i64)))), [.int .i64 (0 : Int), .int .i64 (0 : Int), .nil]⟩)], G := findE [mkP 26 Ks_ref_SummaryLeq Rk_ref_SummaryLeq (D_ref_SummaryLeq _N), mkP 25 Ks_summary_Leq Rk_summary_Leq (D_summary_Leq _N), mkQ 27 Ks_summary_Then Rk_summary_Then (D_summary_Then _N)], I := findI [], N := _N, n := 66, fx := [], fl := 0, gs := [] }
noncomputable def keep_SummaryGrows_1 (_N : Nat) (_x1 : Int × Int × List Int) (_x2 : Int × Int × List Int) (_x3 : Int × Int × List Int) : Option Rt_keep_SummaryGrows :=
  ((D_ref_SummaryLeq _N ((_x1.1, (_x1.2.1, _x1.2.2)), (_x2.1, (_x2.2.1, _x2.2.2)), ())).bind fun _y15 => (bif (!_y15.1) then ((D_summary_Leq _N ((_x1.1, (_x1.2.1, _x1.2.2)), (_x2.1, (_x2.2.1, _x2.2.2)), ())).bind fun _y16 => (some ((!_y16.1), ()))) else ((D_summary_Then _N ((_x1.1, (_x1.2.1, _x1.2.2)), (_x3.1, (_x3.2.1, _x3.2.2)), ())).bind fun _y17 => ((D_summary_Then _N ((_x2.1, (_x2.2.1, _x2.2.2)), (_x3.1, (_x3.2.1, _x3.2.2)), ())).bind fun _y18 => (bif (_y17.2.1 == (0 : Int)) then (bif (_y18.2.1 == (0 : Int)) then ((D_summary_Leq _N ((_y17.1.1, (_y17.1.2.1, _y17.1.2.2)), (_y18.1.1, (_y18.1.2.1, _y18.1.2.2)), ())).bind fun _y19 => (bif (!_y19.1) then (some (false, ())) else ((D_summary_Then _N ((_x3.1, (_x3.2.1, _x3.2.2)), (_x1.1, (_x1.2.1, _x1.2.2)), ())).bind fun _y20 => ((D_summary_Then _N ((_x3.1, (_x3.2.1, _x3.2.2)), (_x2.1, (_x2.2.1, _x2.2.2)), ())).bind fun _y21 => (bif (_y20.2.1 != (0 : Int)) then (some (true, ())) else (bif (_y21.2.1 != (0 : Int)) then (some (true, ())) else ((D_summary_Leq _N ((_y20.1.1, (_y20.1.2.1, _y20.1.2.2)), (_y21.1.1, (_y21.1.2.1, _y21.1.2.2)), ())).bind fun _y22 => (some (_y22.1, ()))))))))) else ((D_summary_Then _N ((_x3.1, (_x3.2.1, _x3.2.2)), (_x1.1, (_x1.2.1, _x1.2.2)), ())).bind fun _y23 => ((D_summary_Then _N ((_x3.1, (_x3.2.1, _x3.2.2)), (_x2.1, (_x2.2.1, _x2.2.2)), ())).bind fun _y24 => (bif (_y23.2.1 != (0 : Int)) then (some (true, ())) else (bif (_y24.2.1 != (0 : Int)) then (some (true, ())) else ((D_summary_Leq _N ((_y23.1.1, (_y23.1.2.1, _y23.1.2.2)), (_y24.1.1, (_y24.1.2.1, _y24.1.2.2)), ())).bind fun _y25 => (some (_y25.1, ())))))))) else ((D_summary_Then _N ((_x3.1, (_x3.2.1, _x3.2.2)), (_x1.1, (_x1.2.1, _x1.2.2)), ())).bind fun _y26 => ((D_summary_Then _N ((_x3.1, (_x3.2.1, _x3.2.2)), (_x2.1, (_x2.2.1, _x2.2.2)), ())).bind fun _y27 => (bif (_y26.2.1 != (0 : Int)) then (some (true, ())) else (bif (_y27.2.1 != (0 : Int)) then (some (true, ())) else ((D_summary_Leq _N ((_y26.1.1, (_y26.1.2.1, _y26.1.2.2)), (_y27.1.1, (_y27.1.2.1, _y27.1.2.2)), ())).bind fun _y28 => (some (_y28.1, ()))))))))))))
noncomputable def D_keep_SummaryGrows (_N : Nat) (_x : Dens Ks_keep_SummaryGrows) : Option Rt_keep_SummaryGrows := keep_SummaryGrows_1 _N _x.1 _x.2.1 _x.2.2.1
theorem sp_keep_SummaryGrows (_N : Nat) : SpecD Try.prog [] 9 Ks_keep_SummaryGrows Rk_keep_SummaryGrows (D_keep_SummaryGrows _N) := mkSpD (fn := Try.f9) (c := bodyOf Try.f9) (C := C_keep_SummaryGrows _N)
    (a := .none)
    (by kernel_rfl) rfl (by kernel_rfl) (by kernel_rfl) ⟨rfl, by unfold TOk; kernel_rfl, gOk_of rfl rfl (List.forall_mem_cons.2 ⟨en_ref_SummaryLeq _N, (List.forall_mem_cons.2 ⟨en_summary_Leq _N, (List.forall_mem_cons.2 ⟨qen_summary_Then _N, (List.forall_mem_nil _)⟩)⟩)⟩), iOk_of rfl rfl (List.forall_mem_nil _), rfl⟩ (fun _x => by kernel_rfl)
theorem en_keep_SummaryGrows (_N : Nat) : EntOk Try.prog [] (mkP 9 Ks_keep_SummaryGrows Rk_keep_SummaryGrows (D_keep_SummaryGrows _N)) := entP ⟨Try.f9, bodyOf Try.f9, by kernel_rfl, by kernel_rfl, rfl⟩ (by kernel_rfl) (sp_keep_SummaryGrows _N)
theorem law_SummaryGrows (s r q : Tr) (_ws : wfS (.pair (.int .i64) (.pair (.int .i64) (.sl (.int .i64)))) s) (_wr : wfS (.pair (.int .i64) (.pair (.int .i64) (.sl (.int .i64)))) r) (_wq : wfS (.pair (.int .i64) (.pair (.int .i64) (.sl (.int .i64)))) q) :
    ∃ N, D_keep_SummaryGrows N (s, r, q, ()) = some (true, ()) := by
  refine ⟨1000, ?_⟩
  have hN : 1000 ≤ 1000 := Nat.le_refl _
  have e0 : ∀ x : Tr, (x.1, x.2.1, x.2.2) = x := fun _ => rfl
  simp only [D_keep_SummaryGrows, keep_SummaryGrows_1, e0, RLeq_eq hN s r, SLeq_eq hN, Then_R hN, Option.bind_some]
  cases h : leqS s r with
  | false => rfl
  | true =>
    have hl := leqS_iff.1 h
    have k1 : (thenR s q).2.1 = 0 → (thenR r q).2.1 = 0 → leqS (thenR s q).1 (thenR r q).1 = true := fun h1 h2 => by
      obtain ⟨a1, a2⟩ := thenR_ok h1
      obtain ⟨b1, b2⟩ := thenR_ok h2
      rw [a2, b2]
      exact leqS_yes (Go.Smy.grows_first hl a1 b1)
    have k2 : (thenR q s).2.1 = 0 → (thenR q r).2.1 = 0 → leqS (thenR q s).1 (thenR q r).1 = true := fun h1 h2 => by
      obtain ⟨a1, a2⟩ := thenR_ok h1
      obtain ⟨b1, b2⟩ := thenR_ok h2
      rw [a2, b2]
      exact leqS_yes (Go.Smy.grows_behind hl a1 b1)
    have hback : (bif (thenR q s).2.1 != 0 then some (true, ()) else (bif (thenR q r).2.1 != 0 then some (true, ()) else some (leqS (thenR q s).1 (thenR q r).1, ()))) = some (true, ()) := by
      by_cases c1 : (thenR q s).2.1 = 0
      · by_cases c2 : (thenR q r).2.1 = 0
        · rw [k2 c1 c2, c1, c2]; rfl
        · rw [c1, show ((thenR q r).2.1 != 0) = true from bne_iff_ne.2 c2]; rfl
      · rw [show ((thenR q s).2.1 != 0) = true from bne_iff_ne.2 c1]; rfl
    simp only [Bool.not_true, cond_false, hback]
    by_cases c1 : (thenR s q).2.1 = 0
    · by_cases c2 : (thenR r q).2.1 = 0
      · rw [k1 c1 c2, c1, c2]; rfl
      · rw [show ((thenR r q).2.1 == 0) = false from beq_false_of_ne c2]
        cases (thenR s q).2.1 == 0 <;> rfl
    · rw [show ((thenR s q).2.1 == 0) = false from beq_false_of_ne c1]; rfl
set_option maxRecDepth 100000 in
theorem lifted_SummaryGrows (os : Os) (started : os.Started) (H : Type) (enc : TypeId × Value → H) :
    ReturnsInHanded {} Try.checked os 9 .any (Rows.summaryGrowsSpec.pre6 enc Try.prog Try.f9 Rows.summaryGrowsRow.domain false) (Rows.summaryGrowsSpec.post enc Try.prog Try.f9 false true false false) := by
  refine returnsInHanded_of_change_sized (C := Try.checked) own started (by kernel_rfl) Try.func9
    (ChangeSpec.witness6 (enc := enc) (C := Try.checked) false ⟨#[], #[.agg #[.int .i64 0, .int .i64 0, .slice none 0 0], .agg #[.int .i64 0, .int .i64 0, .slice none 0 0], .agg #[.int .i64 0, .int .i64 0, .slice none 0 0]], []⟩ 8 (by kernel_rfl) (by kernel_rfl) (by kernel_rfl) (by kernel_rfl)) ?_
  intro W base args ds gs before hval0 hW _ hsz0 _
  have hgw : GW [] W := fun _ h => nomatch h
  have hval : ∀ (j : Nat) t v, Try.f9.params[j]? = some t → args[j]? = some v → Value.okWide Try.prog W .any base t v := hval0
  have hW' := hW
  obtain ⟨p, q, hA0, hV, rfl, _, _⟩ := hW
  have hA : DataW.TrodAll enc Try.prog W 0 (fun _ => true) true Try.f9.params.toList args.toList ds p := hA0
  rw [Try.params9] at hA hval
  obtain ⟨v0, vs0, d0, ds0, p0, q0, hargs, rfl, rfl, h0, r0⟩ := trodAll_cons hA
  obtain ⟨v1, vs1, d1, ds1, p1, q1, rfl, rfl, rfl, h1, r1⟩ := trodAll_cons r0
  obtain ⟨v2, vs2, d2, ds2, p2, q2, rfl, rfl, rfl, h2, r2⟩ := trodAll_cons r1
  obtain ⟨rfl, rfl, rfl⟩ := trodAll_nil r2
  obtain rfl : args = #[v0, v1, v2] := by cases args; simp_all
  obtain ⟨rfl, rfl⟩ := trodVars_none hV
  have hall := List.all_eq_true.1 hsz0
  clear hA0 hval0 hsz0
  simp only [List.append_nil] at hW'
  have hlt0 : ∀ x ∈ p0, x.block < W.heap.size := fun x hx => hW'.lt x (by simp [hx])
  have hlt1 : ∀ x ∈ p1, x.block < W.heap.size := fun x hx => hW'.lt x (by simp [hx])
  have hlt2 : ∀ x ∈ p2, x.block < W.heap.size := fun x hx => hW'.lt x (by simp [hx])
  obtain ⟨x0, g0, w0⟩ := open_kd (k := .dat (.pair (.int .i64) (.pair (.int .i64) (.sl (.int .i64))))) (by kernel_rfl) (hval 0 41 v0 rfl rfl) h0
  obtain ⟨x1, g1, w1⟩ := open_kd (k := .dat (.pair (.int .i64) (.pair (.int .i64) (.sl (.int .i64))))) (by kernel_rfl) (hval 1 41 v1 rfl rfl) h1
  obtain ⟨x2, g2, w2⟩ := open_kd (k := .dat (.pair (.int .i64) (.pair (.int .i64) (.sl (.int .i64))))) (by kernel_rfl) (hval 2 41 v2 rfl rfl) h2
  obtain ⟨N, hN⟩ := law_SummaryGrows x0 x1 x2 w0 w1 w2
  refine (sp_keep_SummaryGrows N (fun _ => False) W (x0, x1, x2, ()) (true, ()) [v0, v1, v2] (fun _ h => h.elim) hgw ⟨v0, _, rfl, g0, ⟨v1, _, rfl, g1, ⟨v2, _, rfl, g2, rfl⟩⟩⟩ hN).mono ?_
  rintro e W' ⟨v, rfl, hg, hr⟩
  replace hg := hg.old
  have hr : v = .bool true := by simpa only [kvals, retV, Kd.val, Go.Abs.enc, RV] using hr
  subst hr
  exact ⟨_, rfl, _, _, _, [], p0 ++ (p1 ++ (p2 ++ [])), [], hW', (trodAll_cons_mk (shut_bool (show Try.prog.underlying 4 = some .bool by kernel_rfl) _) trodAll_mk0), (trodAll_cons_mk (Below.trod laidOut (by kernel_rfl) (of_decide_eq_true (by kernel_rfl)) h0 hg hlt0) (trodAll_cons_mk (Below.trod laidOut (by kernel_rfl) (of_decide_eq_true (by kernel_rfl)) h1 hg hlt1) (trodAll_cons_mk (Below.trod laidOut (by kernel_rfl) (of_decide_eq_true (by kernel_rfl)) h2 hg hlt2) trodAll_mk0))), rfl, hg.frame _, fun h => by cases h⟩

/-- The statement: whatever the arguments, the law's function returns true and leaves them as they were. -/
theorem summaryGrows_holds : Rows.SummaryGrowsSaid :=
  OpenClaim.holds_of_wide 9 Try.f9 rfl rfl rfl rfl rfl rfl rfl ⟨rfl, rfl, rfl, rfl, rfl⟩ rfl rfl rfl rfl rfl (by kernel_rfl) Try.func9 (by kernel_rfl)
    (of_decide_eq_true (by kernel_rfl)) (by unfold Func.isWrapper; first | (rw [if_pos (by decide +kernel)]; kernel_rfl) | (rw [if_neg (by decide +kernel)]; exact ⟨rfl, rfl⟩))
    (fun os started H enc _ => lifted_SummaryGrows os started H enc)
end Go.Proofs.Ytololihlpldcdaa
