/- A summary that keeps all and adds nothing changes nothing, ahead of and behind every summary: the law answers true for every summary and every number. No condition. -/
import Derived.Test.YtjfpglmmhikhbaaPlainThen
import Derived.Test.YtjfpglmmhikhbaaSummary5
import Derived.Test.YtjfpglmmhikhbaaOpenSum
namespace Go.Proofs.Ytjfpglmmhikhbaa
open Go.RowKit Go.ChangeShapes Go.WideShapes Go.ChangeAt

set_option maxHeartbeats 2000000 in
theorem walk_SummaryUnits (v0 v1 : Value) (w : World) (h0 : InSummary w v0) (h1 : InInt w v1) :
    Calls Try.prog 6 #[v0, v1] w fun e w' => e = .returned (.bool true) ∧ Ext w w' := by
  obtain ⟨s, h0, -⟩ := h0
  obtain ⟨n, rfl, -⟩ := h1
  obtain ⟨pv, rfl, hp⟩ := h0
  have hE := hid (Ext.alloc w (.cells #[.int .i64 s.keep, .int .i64 s.add, pv] 32))
  have bs := hid (Box.new w #[.int .i64 s.keep, .int .i64 s.add, pv] 32)
  have p := hid (Rd.keeps hE.out hp)
  obtain ⟨a, cap, rfl, -, -, -, -⟩ := hp
  obtain ⟨bs0, bs1, bs2, bsf, bsl, bsi⟩ := Box.three bs.out
  by_cases c1 : sumCheck s n = 0
  case neg =>
    have h1 : (sumCheck s n != 0) = true := by rw [bne_iff_ne]; exact c1
    replace c1 := hid c1
    clear bs0 bs1 bs2 bsf bsl bsi
    go_enter Try.func6, Try.ntmps6
    go_wp2_with fail
    refine (sumcheck_any _ s n _ (SumAt.agg' p.out)).mono ?_
    rintro e W ⟨rfl, hx⟩
    replace hE := hid (Ext.trans hE.out hx)
    go_wp2_with fail
    go_ret
    exact ⟨rfl, hE.out⟩
  have h1 : (sumCheck s n != 0) = false := by rw [bne_eq_false_iff_eq]; exact c1
  obtain ⟨u1, u2⟩ := unit_ahead c1
  obtain ⟨v1, v2⟩ := unit_behind c1
  have hb := (sumCheck_zero c1)
  have hk1 : 0 ≤ s.keep := by omega
  have hk2 : s.keep ≤ 4 := by omega
  have hk3 : (s.push.length : Int) ≤ 4 := by omega
  clear hb
  replace c1 := hid c1
  replace u1 := hid u1
  replace v1 := hid v1
  generalize hA : thenS ⟨n, 0, []⟩ s = A at *
  generalize hB : thenS s ⟨s.keep + s.push.length, 0, []⟩ = B at *
  replace hA := hid hA
  replace hB := hid hB
  clear bs0 bs1 bs2 bsf bsl bsi
  go_enter Try.func6, Try.ntmps6
  go_wp2_with fail
  refine (sumcheck_any _ s n _ (SumAt.agg' p.out)).mono ?_
  rintro e W1 ⟨rfl, hx⟩
  have bs0 := True.intro; have bs1 := True.intro; have bs2 := True.intro; have bsf := True.intro; have bsl := True.intro; have bsi := True.intro
  replace bs := hid (Box.keeps hx bs.out)
  clear bs0 bs1 bs2 bsf bsl bsi
  replace p := hid (Rd.keeps hx p.out)
  replace hE := hid (Ext.trans hE.out hx)
  clear hx
  obtain ⟨bs0, bs1, bs2, bsf, bsl, bsi⟩ := Box.three bs.out
  go_wp2_with fail
  refine (then_any _ _ ⟨n, 0, []⟩ s _ (SumAt.agg Rd.nil) (SumAt.agg' p.out)).mono ?_
  rintro e W2 ⟨q, qv, rfl, hq, hqo, hx⟩
  rw [if_pos u1.out, hA.out] at hq
  subst hq
  rw [u1.out]
  replace bs := hid (Box.keeps hx bs.out)
  clear bs0 bs1 bs2 bsf bsl bsi
  replace p := hid (Rd.keeps hx p.out)
  replace hE := hid (Ext.trans hE.out hx)
  clear hx
  obtain ⟨bs0, bs1, bs2, bsf, bsl, bsi⟩ := Box.three bs.out
  obtain ⟨qa, qn, qc, rfl⟩ := own_slice hqo
  replace hqo := hid (OwnL.rd hqo)
  go_wp2_with fail
  have hx := Ext.alloc W2 (.cells #[.int .i64 q.keep, .int .i64 q.add, .slice qa qn qc] 32)
  have ba := hid (Box.new W2 #[.int .i64 q.keep, .int .i64 q.add, .slice qa qn qc] 32)
  replace bs := hid (Box.keeps hx bs.out)
  clear bs0 bs1 bs2 bsf bsl bsi
  replace p := hid (Rd.keeps hx p.out)
  replace hqo := hid (Rd.keeps hx hqo.out)
  replace hE := hid (Ext.trans hE.out hx)
  clear hx
  obtain ⟨bs0, bs1, bs2, bsf, bsl, bsi⟩ := Box.three bs.out
  generalize World.alloc W2 (.cells #[.int .i64 q.keep, .int .i64 q.add, .slice qa qn qc] 32) = W3 at *
  obtain ⟨ba0, ba1, ba2, baf, bal, bai⟩ := Box.three ba.out
  refine (then_any _ _ s ⟨s.keep + s.push.length, 0, []⟩ _ (SumAt.agg' p.out) (SumAt.agg Rd.nil)).mono ?_
  rintro e W4 ⟨r, rv, rfl, hr, hro, hx⟩
  rw [if_pos v1.out, hB.out] at hr
  subst hr
  rw [v1.out]
  replace bs := hid (Box.keeps hx bs.out)
  clear bs0 bs1 bs2 bsf bsl bsi
  replace ba := hid (Box.keeps hx ba.out)
  clear ba0 ba1 ba2 baf bal bai
  replace p := hid (Rd.keeps hx p.out)
  replace hqo := hid (Rd.keeps hx hqo.out)
  replace hE := hid (Ext.trans hE.out hx)
  clear hx
  obtain ⟨bs0, bs1, bs2, bsf, bsl, bsi⟩ := Box.three bs.out
  obtain ⟨ba0, ba1, ba2, baf, bal, bai⟩ := Box.three ba.out
  obtain ⟨ra, rn, rc, rfl⟩ := own_slice hro
  replace hro := hid (OwnL.rd hro)
  go_wp2_with fail
  have hx := Ext.alloc W4 (.cells #[.int .i64 r.keep, .int .i64 r.add, .slice ra rn rc] 32)
  have bb := hid (Box.new W4 #[.int .i64 r.keep, .int .i64 r.add, .slice ra rn rc] 32)
  replace bs := hid (Box.keeps hx bs.out)
  clear bs0 bs1 bs2 bsf bsl bsi
  replace ba := hid (Box.keeps hx ba.out)
  clear ba0 ba1 ba2 baf bal bai
  replace p := hid (Rd.keeps hx p.out)
  replace hqo := hid (Rd.keeps hx hqo.out)
  replace hro := hid (Rd.keeps hx hro.out)
  replace hE := hid (Ext.trans hE.out hx)
  clear hx
  obtain ⟨bs0, bs1, bs2, bsf, bsl, bsi⟩ := Box.three bs.out
  obtain ⟨ba0, ba1, ba2, baf, bal, bai⟩ := Box.three ba.out
  generalize World.alloc W4 (.cells #[.int .i64 r.keep, .int .i64 r.add, .slice ra rn rc] 32) = W5 at *
  obtain ⟨bb0, bb1, bb2, bbf, bbl, bbi⟩ := Box.three bb.out
  refine (sumsame_any _ _ q s _ (SumAt.agg' hqo.out) (SumAt.agg' p.out)).mono ?_
  rintro e W6 ⟨rfl, hx⟩
  clear ba0 ba1 ba2 baf bal bai
  replace bs := hid (Box.keeps hx bs.out)
  clear bs0 bs1 bs2 bsf bsl bsi
  replace bb := hid (Box.keeps hx bb.out)
  clear bb0 bb1 bb2 bbf bbl bbi
  replace p := hid (Rd.keeps hx p.out)
  replace hro := hid (Rd.keeps hx hro.out)
  replace hE := hid (Ext.trans hE.out hx)
  clear hx
  obtain ⟨bs0, bs1, bs2, bsf, bsl, bsi⟩ := Box.three bs.out
  obtain ⟨bb0, bb1, bb2, bbf, bbl, bbi⟩ := Box.three bb.out
  go_wp2_with fail
  refine (sumsame_any _ _ r s _ (SumAt.agg' hro.out) (SumAt.agg' p.out)).mono ?_
  rintro e W7 ⟨rfl, hx⟩
  replace hE := hid (Ext.trans hE.out hx)
  go_wp2_with fail
  go_ret
  exact ⟨rfl, hE.out⟩

set_option maxRecDepth 100000 in
theorem lifted_SummaryUnits (os : Os) (started : os.Started) (H : Type) (enc : TypeId × Value → H) :
    ReturnsInHanded {} Try.checked os 6 .any (Rows.summaryUnitsSpec.pre6 enc Try.prog Try.f6 Rows.summaryUnitsRow.domain false) (Rows.summaryUnitsSpec.post enc Try.prog Try.f6 false true false false) := by
  refine returnsInHanded_of_change_sized (C := Try.checked) own started (by kernel_rfl) Try.func6
    (ChangeSpec.witness6 (enc := enc) (C := Try.checked) false ⟨#[], #[.agg #[.int .i64 0, .int .i64 0, .slice none 0 0], .int .i64 0], []⟩ 8 (by kernel_rfl) (by kernel_rfl) (by kernel_rfl) (by kernel_rfl)) ?_
  intro W base args ds gs before hval0 hW _ hsz0 _
  have hval : ∀ (j : Nat) t v, Try.f6.params[j]? = some t → args[j]? = some v → Value.okWide Try.prog W .any base t v := hval0
  have hW' := hW
  obtain ⟨p, q, hA0, hV, rfl, _, _⟩ := hW
  have hA : DataW.TrodAll enc Try.prog W 0 (fun _ => true) true Try.f6.params.toList args.toList ds p := hA0
  rw [Try.params6] at hA hval
  obtain ⟨v0, vs0, d0, ds0, p0, q0, hargs, rfl, rfl, h0, r0⟩ := trodAll_cons hA
  obtain ⟨v1, vs1, d1, ds1, p1, q1, rfl, rfl, rfl, h1, r1⟩ := trodAll_cons r0
  obtain ⟨rfl, rfl, rfl⟩ := trodAll_nil r1
  obtain rfl : args = #[v0, v1] := by cases args; simp_all
  obtain ⟨rfl, rfl⟩ := trodVars_none hV
  clear hA0 hval0 hsz0
  simp only [List.append_nil] at hW'
  have hlt0 : ∀ x ∈ p0, x.block < W.heap.size := fun x hx => hW'.lt x (by simp [hx])
  have hlt1 : ∀ x ∈ p1, x.block < W.heap.size := fun x hx => hW'.lt x (by simp [hx])
  have g0 : InSummary W v0 := open_summary_k (hval 0 32 v0 rfl rfl) h0
  have g1 : InInt W v1 := open_int_k Try.underlying3 (hval 1 3 v1 rfl rfl) h1
  refine (walk_SummaryUnits v0 v1 W g0 g1).mono fun e W' ⟨he, hg⟩ => ?_
  subst he
  exact ⟨_, rfl, _, _, _, [], p0 ++ (p1 ++ []), [], hW', (trodAll_cons_mk (shut_bool Try.underlying4 _) trodAll_mk0), (trodAll_cons_mk (Below.trod laidOut (by kernel_rfl) (of_decide_eq_true (by kernel_rfl)) h0 hg hlt0) (trodAll_cons_mk (Below.trod laidOut (by kernel_rfl) (of_decide_eq_true (by kernel_rfl)) h1 hg hlt1) trodAll_mk0)), rfl, hg.frame _, fun h => by cases h⟩

/-- The statement: whatever the arguments, the law's function returns true and leaves them as they were. -/
theorem summaryUnits_holds : Rows.SummaryUnitsSaid :=
  OpenClaim.holds_of_wide 6 Try.f6 rfl rfl rfl rfl rfl rfl rfl ⟨rfl, rfl, rfl, rfl, rfl⟩ rfl rfl rfl rfl rfl (by kernel_rfl) Try.func6 (by kernel_rfl)
    (of_decide_eq_true (by kernel_rfl)) (by unfold Func.isWrapper; first | (rw [if_pos (by decide +kernel)]; kernel_rfl) | (rw [if_neg (by decide +kernel)]; exact ⟨rfl, rfl⟩))
    (fun os started H enc _ => lifted_SummaryUnits os started H enc)
end Go.Proofs.Ytjfpglmmhikhbaa
