/- The composition of summaries does not depend on brackets: the law answers true for every three summaries. No condition. -/
import Derived.Test.YtjfpglmmhikhbaaPlainThen
import Derived.Test.YtjfpglmmhikhbaaSummary5
import Derived.Test.YtjfpglmmhikhbaaOpenSum
namespace Go.Proofs.Ytjfpglmmhikhbaa
open Go.RowKit Go.ChangeShapes Go.WideShapes Go.ChangeAt

/-- Three boxes made one behind the other. -/
theorem three_boxes (w : World) (x y z : Array Value) (t : TypeId) :
    Ext w (((w.alloc (.cells x t)).alloc (.cells y t)).alloc (.cells z t)) ∧ Box (((w.alloc (.cells x t)).alloc (.cells y t)).alloc (.cells z t)) w.heap.size x t ∧
    Box (((w.alloc (.cells x t)).alloc (.cells y t)).alloc (.cells z t)) (w.heap.size + 1) y t ∧ Box (((w.alloc (.cells x t)).alloc (.cells y t)).alloc (.cells z t)) (w.heap.size + 1 + 1) z t := by
  have e1 := Ext.alloc w (.cells x t)
  have e2 := Ext.alloc (w.alloc (.cells x t)) (.cells y t)
  have e3 := Ext.alloc ((w.alloc (.cells x t)).alloc (.cells y t)) (.cells z t)
  have b1 := Box.new w x t
  have b2 := Box.new (w.alloc (.cells x t)) y t
  have b3 := Box.new ((w.alloc (.cells x t)).alloc (.cells y t)) z t
  simp only [World.size_alloc] at b2 b3
  exact ⟨Ext.trans e1 (Ext.trans e2 e3), Box.keeps e3 (Box.keeps e2 b1), Box.keeps e3 b2, b3⟩

set_option maxHeartbeats 4000000 in
theorem walk_SummaryBrackets (v0 v1 v2 : Value) (w : World) (h0 : InSummary w v0) (h1 : InSummary w v1) (h2 : InSummary w v2) :
    Calls Try.prog 5 #[v0, v1, v2] w fun e w' => e = .returned (.bool true) ∧ Ext w w' := by
  obtain ⟨s, ⟨pv, rfl, hp⟩, -⟩ := h0
  obtain ⟨r, ⟨qv, rfl, hq⟩, -⟩ := h1
  obtain ⟨q, ⟨rv, rfl, hr⟩, -⟩ := h2
  obtain ⟨hE, bs, br, bq⟩ := three_boxes w #[.int .i64 s.keep, .int .i64 s.add, pv] #[.int .i64 r.keep, .int .i64 r.add, qv] #[.int .i64 q.keep, .int .i64 q.add, rv] 32
  replace hE := hid hE
  replace bs := hid bs
  replace br := hid br
  replace bq := hid bq
  have fs := hid (Rd.keeps hE.out hp)
  have fr := hid (Rd.keeps hE.out hq)
  have fq := hid (Rd.keeps hE.out hr)
  obtain ⟨a, cap, rfl, -, -, -, -⟩ := hp
  obtain ⟨a', cap', rfl, -, -, -, -⟩ := hq
  obtain ⟨a'', cap'', rfl, -, -, -, -⟩ := hr
  have bs0 := True.intro; have bs1 := True.intro; have bs2 := True.intro; have bsf := True.intro; have bsl := True.intro; have bsi := True.intro
  have br0 := True.intro; have br1 := True.intro; have br2 := True.intro; have brf := True.intro; have brl := True.intro; have bri := True.intro
  have bq0 := True.intro; have bq1 := True.intro; have bq2 := True.intro; have bqf := True.intro; have bql := True.intro; have bqi := True.intro
  obtain ⟨x1, hx1⟩ : ∃ x, thenErr s r = x := ⟨_, rfl⟩
  obtain ⟨x2, hx2⟩ : ∃ x, thenErr r q = x := ⟨_, rfl⟩
  replace hx1 := hid hx1
  replace hx2 := hid hx2
  go_enter Try.func5, Try.ntmps5
  go_wp2_with fail
  refine (then_any _ _ s r _ (SumAt.agg' fs.out) (SumAt.agg' fr.out)).mono ?_
  rintro e W1 ⟨A, av, rfl, hA, fa, hx⟩
  rw [hx1.out] at hA ⊢
  replace hA := hid hA
  replace bs := hid (Box.keeps hx bs.out)
  clear bs0 bs1 bs2 bsf bsl bsi
  replace br := hid (Box.keeps hx br.out)
  clear br0 br1 br2 brf brl bri
  replace bq := hid (Box.keeps hx bq.out)
  clear bq0 bq1 bq2 bqf bql bqi
  replace fs := hid (Rd.keeps hx fs.out)
  replace fr := hid (Rd.keeps hx fr.out)
  replace fq := hid (Rd.keeps hx fq.out)
  replace hE := hid (Ext.trans hE.out hx)
  clear hx
  obtain ⟨bs0, bs1, bs2, bsf, bsl, bsi⟩ := Box.three bs.out
  obtain ⟨br0, br1, br2, brf, brl, bri⟩ := Box.three br.out
  obtain ⟨bq0, bq1, bq2, bqf, bql, bqi⟩ := Box.three bq.out
  obtain ⟨ya, yn, yc, rfl⟩ := own_slice fa
  replace fa := hid (OwnL.rd fa)
  go_wp2_with fail
  have hx := Ext.alloc W1 (.cells #[.int .i64 A.keep, .int .i64 A.add, .slice ya yn yc] 32)
  have ba := hid (Box.new W1 #[.int .i64 A.keep, .int .i64 A.add, .slice ya yn yc] 32)
  replace bs := hid (Box.keeps hx bs.out)
  clear bs0 bs1 bs2 bsf bsl bsi
  replace br := hid (Box.keeps hx br.out)
  clear br0 br1 br2 brf brl bri
  replace bq := hid (Box.keeps hx bq.out)
  clear bq0 bq1 bq2 bqf bql bqi
  replace fs := hid (Rd.keeps hx fs.out)
  replace fr := hid (Rd.keeps hx fr.out)
  replace fq := hid (Rd.keeps hx fq.out)
  replace fa := hid (Rd.keeps hx fa.out)
  replace hE := hid (Ext.trans hE.out hx)
  clear hx
  obtain ⟨bs0, bs1, bs2, bsf, bsl, bsi⟩ := Box.three bs.out
  obtain ⟨br0, br1, br2, brf, brl, bri⟩ := Box.three br.out
  obtain ⟨bq0, bq1, bq2, bqf, bql, bqi⟩ := Box.three bq.out
  generalize World.alloc W1 (.cells #[.int .i64 A.keep, .int .i64 A.add, .slice ya yn yc] 32) = W2 at *
  obtain ⟨ba0, ba1, ba2, baf, bal, bai⟩ := Box.three ba.out
  refine (then_any _ _ r q _ (SumAt.agg' fr.out) (SumAt.agg' fq.out)).mono ?_
  rintro e W3 ⟨B, bv, rfl, hB, fb, hx⟩
  rw [hx2.out] at hB ⊢
  replace hB := hid hB
  replace bs := hid (Box.keeps hx bs.out)
  clear bs0 bs1 bs2 bsf bsl bsi
  replace br := hid (Box.keeps hx br.out)
  clear br0 br1 br2 brf brl bri
  replace bq := hid (Box.keeps hx bq.out)
  clear bq0 bq1 bq2 bqf bql bqi
  replace ba := hid (Box.keeps hx ba.out)
  clear ba0 ba1 ba2 baf bal bai
  replace fs := hid (Rd.keeps hx fs.out)
  replace fr := hid (Rd.keeps hx fr.out)
  replace fq := hid (Rd.keeps hx fq.out)
  replace fa := hid (Rd.keeps hx fa.out)
  replace hE := hid (Ext.trans hE.out hx)
  clear hx
  obtain ⟨bs0, bs1, bs2, bsf, bsl, bsi⟩ := Box.three bs.out
  obtain ⟨br0, br1, br2, brf, brl, bri⟩ := Box.three br.out
  obtain ⟨bq0, bq1, bq2, bqf, bql, bqi⟩ := Box.three bq.out
  obtain ⟨ba0, ba1, ba2, baf, bal, bai⟩ := Box.three ba.out
  obtain ⟨zb, zn, zc, rfl⟩ := own_slice fb
  replace fb := hid (OwnL.rd fb)
  by_cases n1 : x1 = 0
  case neg =>
    have n1' : (x1 != 0) = true := by rw [bne_iff_ne]; exact n1
    clear bs0 bs1 bs2 bsf bsl bsi br0 br1 br2 brf brl bri bq0 bq1 bq2 bqf bql bqi ba0 ba1 ba2 baf bal bai
    go_wp2_with fail
    go_ret
    exact ⟨rfl, Ext.alloc' hE.out _⟩
  by_cases n2 : x2 = 0
  case neg =>
    have n1' : (x1 != 0) = false := by rw [bne_eq_false_iff_eq]; exact n1
    have n2' : (x2 != 0) = true := by rw [bne_iff_ne]; exact n2
    replace n1 := hid n1
    clear bs0 bs1 bs2 bsf bsl bsi br0 br1 br2 brf brl bri bq0 bq1 bq2 bqf bql bqi ba0 ba1 ba2 baf bal bai
    go_wp2_with fail
    go_ret
    exact ⟨rfl, Ext.alloc' hE.out _⟩
  subst n1
  subst n2
  replace hA := hid (hA.out.trans (if_pos rfl))
  replace hB := hid (hB.out.trans (if_pos rfl))
  have hqb := hid (sumCheck_iff.1 (thenErr_zero.1 hx2.out).2.1)
  go_wp2_with fail
  have hx := Ext.alloc W3 (.cells #[.int .i64 B.keep, .int .i64 B.add, .slice zb zn zc] 32)
  have bb := hid (Box.new W3 #[.int .i64 B.keep, .int .i64 B.add, .slice zb zn zc] 32)
  replace bs := hid (Box.keeps hx bs.out)
  clear bs0 bs1 bs2 bsf bsl bsi
  replace br := hid (Box.keeps hx br.out)
  clear br0 br1 br2 brf brl bri
  replace bq := hid (Box.keeps hx bq.out)
  clear bq0 bq1 bq2 bqf bql bqi
  replace ba := hid (Box.keeps hx ba.out)
  clear ba0 ba1 ba2 baf bal bai
  replace fs := hid (Rd.keeps hx fs.out)
  replace fr := hid (Rd.keeps hx fr.out)
  replace fq := hid (Rd.keeps hx fq.out)
  replace fa := hid (Rd.keeps hx fa.out)
  replace fb := hid (Rd.keeps hx fb.out)
  replace hE := hid (Ext.trans hE.out hx)
  clear hx
  obtain ⟨bs0, bs1, bs2, bsf, bsl, bsi⟩ := Box.three bs.out
  obtain ⟨br0, br1, br2, brf, brl, bri⟩ := Box.three br.out
  obtain ⟨bq0, bq1, bq2, bqf, bql, bqi⟩ := Box.three bq.out
  obtain ⟨ba0, ba1, ba2, baf, bal, bai⟩ := Box.three ba.out
  generalize World.alloc W3 (.cells #[.int .i64 B.keep, .int .i64 B.add, .slice zb zn zc] 32) = W4 at *
  obtain ⟨bb0, bb1, bb2, bbf, bbl, bbi⟩ := Box.three bb.out
  obtain ⟨x3, hx3⟩ : ∃ x, thenErr A q = x := ⟨_, rfl⟩
  obtain ⟨x4, hx4⟩ : ∃ x, thenErr s B = x := ⟨_, rfl⟩
  replace hx3 := hid hx3
  replace hx4 := hid hx4
  refine (then_any _ _ A q _ (SumAt.agg' fa.out) (SumAt.agg' fq.out)).mono ?_
  rintro e W5 ⟨C, cv, rfl, hC, fc, hx⟩
  rw [hx3.out] at hC ⊢
  replace hC := hid hC
  clear br0 br1 br2 brf brl bri ba0 ba1 ba2 baf bal bai
  replace bs := hid (Box.keeps hx bs.out)
  clear bs0 bs1 bs2 bsf bsl bsi
  replace bq := hid (Box.keeps hx bq.out)
  clear bq0 bq1 bq2 bqf bql bqi
  replace bb := hid (Box.keeps hx bb.out)
  clear bb0 bb1 bb2 bbf bbl bbi
  replace fs := hid (Rd.keeps hx fs.out)
  replace fq := hid (Rd.keeps hx fq.out)
  replace fb := hid (Rd.keeps hx fb.out)
  replace hE := hid (Ext.trans hE.out hx)
  clear hx
  obtain ⟨bs0, bs1, bs2, bsf, bsl, bsi⟩ := Box.three bs.out
  obtain ⟨bq0, bq1, bq2, bqf, bql, bqi⟩ := Box.three bq.out
  obtain ⟨bb0, bb1, bb2, bbf, bbl, bbi⟩ := Box.three bb.out
  obtain ⟨ta, tc, rfl⟩ := own_sl fc
  replace fc := hid (OwnL.rd fc)
  go_wp2_with fail
  have hx := Ext.alloc W5 (.cells #[.int .i64 C.keep, .int .i64 C.add, .slice ta C.push.length tc] 32)
  have bc := hid (Box.new W5 #[.int .i64 C.keep, .int .i64 C.add, .slice ta C.push.length tc] 32)
  replace bs := hid (Box.keeps hx bs.out)
  clear bs0 bs1 bs2 bsf bsl bsi
  replace bq := hid (Box.keeps hx bq.out)
  clear bq0 bq1 bq2 bqf bql bqi
  replace bb := hid (Box.keeps hx bb.out)
  clear bb0 bb1 bb2 bbf bbl bbi
  replace fs := hid (Rd.keeps hx fs.out)
  replace fq := hid (Rd.keeps hx fq.out)
  replace fb := hid (Rd.keeps hx fb.out)
  replace fc := hid (Rd.keeps hx fc.out)
  replace hE := hid (Ext.trans hE.out hx)
  clear hx
  obtain ⟨bs0, bs1, bs2, bsf, bsl, bsi⟩ := Box.three bs.out
  obtain ⟨bq0, bq1, bq2, bqf, bql, bqi⟩ := Box.three bq.out
  obtain ⟨bb0, bb1, bb2, bbf, bbl, bbi⟩ := Box.three bb.out
  generalize World.alloc W5 (.cells #[.int .i64 C.keep, .int .i64 C.add, .slice ta C.push.length tc] 32) = W6 at *
  obtain ⟨bc0, bc1, bc2, bcf, bcl, bci⟩ := Box.three bc.out
  refine (then_any _ _ s B _ (SumAt.agg' fs.out) (SumAt.agg' fb.out)).mono ?_
  rintro e W7 ⟨D, dv, rfl, hD, fd, hx⟩
  rw [hx4.out] at hD ⊢
  replace hD := hid hD
  clear bs0 bs1 bs2 bsf bsl bsi bb0 bb1 bb2 bbf bbl bbi
  replace bq := hid (Box.keeps hx bq.out)
  clear bq0 bq1 bq2 bqf bql bqi
  replace bc := hid (Box.keeps hx bc.out)
  clear bc0 bc1 bc2 bcf bcl bci
  replace fq := hid (Rd.keeps hx fq.out)
  replace fc := hid (Rd.keeps hx fc.out)
  replace hE := hid (Ext.trans hE.out hx)
  clear hx
  obtain ⟨bq0, bq1, bq2, bqf, bql, bqi⟩ := Box.three bq.out
  obtain ⟨bc0, bc1, bc2, bcf, bcl, bci⟩ := Box.three bc.out
  obtain ⟨ua, un, uc, rfl⟩ := own_slice fd
  replace fd := hid (OwnL.rd fd)
  by_cases n3 : x3 = 0
  case neg =>
    have n3' : (x3 != 0) = true := by rw [bne_iff_ne]; exact n3
    clear bq0 bq1 bq2 bqf bql bqi bc0 bc1 bc2 bcf bcl bci
    go_wp2_with fail
    go_ret
    exact ⟨rfl, Ext.alloc' hE.out _⟩
  by_cases n4 : x4 = 0
  case neg =>
    have n3' : (x3 != 0) = false := by rw [bne_eq_false_iff_eq]; exact n3
    have n4' : (x4 != 0) = true := by rw [bne_iff_ne]; exact n4
    replace n3 := hid n3
    clear bq0 bq1 bq2 bqf bql bqi bc0 bc1 bc2 bcf bcl bci
    go_wp2_with fail
    go_ret
    exact ⟨rfl, Ext.alloc' hE.out _⟩
  subst n3
  subst n4
  have eC := hC.out.trans (if_pos rfl)
  have eD := hD.out.trans (if_pos rfl)
  have eA := hA.out
  have eB := hB.out
  subst eA; subst eB
  obtain ⟨key1, key2⟩ := brackets hx1.out hx2.out hx3.out hx4.out
  rw [← eC, ← eD] at key1
  rw [← eC] at key2
  have eqn : (C.keep + (C.push.length : Int) == q.keep + (q.push.length : Int)) = true := by rw [beq_iff_eq]; exact key2
  have hCk := thenS_keep (thenS s r) q
  have hq' := hqb.out
  have bC : 0 ≤ C.keep + C.push.length ∧ C.keep + C.push.length ≤ 4 ∧ 0 ≤ q.keep + q.push.length ∧ q.keep + q.push.length ≤ 4 := by rw [key2]; omega
  obtain ⟨bC1, bC2, bC3, bC4⟩ := bC
  clear hq' hCk eC eD key2 hA hB hC hD
  go_wp2_with fail
  have hx := Ext.alloc W7 (.cells #[.int .i64 D.keep, .int .i64 D.add, .slice ua un uc] 32)
  have bd := hid (Box.new W7 #[.int .i64 D.keep, .int .i64 D.add, .slice ua un uc] 32)
  replace bq := hid (Box.keeps hx bq.out)
  clear bq0 bq1 bq2 bqf bql bqi
  replace bc := hid (Box.keeps hx bc.out)
  clear bc0 bc1 bc2 bcf bcl bci
  replace fq := hid (Rd.keeps hx fq.out)
  replace fc := hid (Rd.keeps hx fc.out)
  replace fd := hid (Rd.keeps hx fd.out)
  replace hE := hid (Ext.trans hE.out hx)
  clear hx
  obtain ⟨bq0, bq1, bq2, bqf, bql, bqi⟩ := Box.three bq.out
  obtain ⟨bc0, bc1, bc2, bcf, bcl, bci⟩ := Box.three bc.out
  generalize World.alloc W7 (.cells #[.int .i64 D.keep, .int .i64 D.add, .slice ua un uc] 32) = W8 at *
  obtain ⟨bd0, bd1, bd2, bdf, bdl, bdi⟩ := Box.three bd.out
  refine (sumsame_any _ _ C D _ (SumAt.agg' fc.out) (SumAt.agg' fd.out)).mono ?_
  rintro e W9 ⟨rfl, hx⟩
  clear bd0 bd1 bd2 bdf bdl bdi
  replace bq := hid (Box.keeps hx bq.out)
  clear bq0 bq1 bq2 bqf bql bqi
  replace bc := hid (Box.keeps hx bc.out)
  clear bc0 bc1 bc2 bcf bcl bci
  replace fq := hid (Rd.keeps hx fq.out)
  replace fc := hid (Rd.keeps hx fc.out)
  replace hE := hid (Ext.trans hE.out hx)
  clear hx
  obtain ⟨bq0, bq1, bq2, bqf, bql, bqi⟩ := Box.three bq.out
  obtain ⟨bc0, bc1, bc2, bcf, bcl, bci⟩ := Box.three bc.out
  go_wp2_with fail
  go_ret
  exact ⟨rfl, hE.out⟩

set_option maxRecDepth 100000 in
theorem lifted_SummaryBrackets (os : Os) (started : os.Started) (H : Type) (enc : TypeId × Value → H) :
    ReturnsInHanded {} Try.checked os 5 .any (Rows.summaryBracketsSpec.pre6 enc Try.prog Try.f5 Rows.summaryBracketsRow.domain false) (Rows.summaryBracketsSpec.post enc Try.prog Try.f5 false true false false) := by
  refine returnsInHanded_of_change_sized (C := Try.checked) own started (by kernel_rfl) Try.func5
    (ChangeSpec.witness6 (enc := enc) (C := Try.checked) false ⟨#[], #[.agg #[.int .i64 0, .int .i64 0, .slice none 0 0], .agg #[.int .i64 0, .int .i64 0, .slice none 0 0], .agg #[.int .i64 0, .int .i64 0, .slice none 0 0]], []⟩ 8 (by kernel_rfl) (by kernel_rfl) (by kernel_rfl) (by kernel_rfl)) ?_
  intro W base args ds gs before hval0 hW _ hsz0 _
  have hval : ∀ (j : Nat) t v, Try.f5.params[j]? = some t → args[j]? = some v → Value.okWide Try.prog W .any base t v := hval0
  have hW' := hW
  obtain ⟨p, q, hA0, hV, rfl, _, _⟩ := hW
  have hA : DataW.TrodAll enc Try.prog W 0 (fun _ => true) true Try.f5.params.toList args.toList ds p := hA0
  rw [Try.params5] at hA hval
  obtain ⟨v0, vs0, d0, ds0, p0, q0, hargs, rfl, rfl, h0, r0⟩ := trodAll_cons hA
  obtain ⟨v1, vs1, d1, ds1, p1, q1, rfl, rfl, rfl, h1, r1⟩ := trodAll_cons r0
  obtain ⟨v2, vs2, d2, ds2, p2, q2, rfl, rfl, rfl, h2, r2⟩ := trodAll_cons r1
  obtain ⟨rfl, rfl, rfl⟩ := trodAll_nil r2
  obtain rfl : args = #[v0, v1, v2] := by cases args; simp_all
  obtain ⟨rfl, rfl⟩ := trodVars_none hV
  clear hA0 hval0 hsz0
  simp only [List.append_nil] at hW'
  have hlt0 : ∀ x ∈ p0, x.block < W.heap.size := fun x hx => hW'.lt x (by simp [hx])
  have hlt1 : ∀ x ∈ p1, x.block < W.heap.size := fun x hx => hW'.lt x (by simp [hx])
  have hlt2 : ∀ x ∈ p2, x.block < W.heap.size := fun x hx => hW'.lt x (by simp [hx])
  have g0 : InSummary W v0 := open_summary_k (hval 0 32 v0 rfl rfl) h0
  have g1 : InSummary W v1 := open_summary_k (hval 1 32 v1 rfl rfl) h1
  have g2 : InSummary W v2 := open_summary_k (hval 2 32 v2 rfl rfl) h2
  refine (walk_SummaryBrackets v0 v1 v2 W g0 g1 g2).mono fun e W' ⟨he, hg⟩ => ?_
  subst he
  exact ⟨_, rfl, _, _, _, [], p0 ++ (p1 ++ (p2 ++ [])), [], hW', (trodAll_cons_mk (shut_bool Try.underlying4 _) trodAll_mk0), (trodAll_cons_mk (Below.trod laidOut (by kernel_rfl) (of_decide_eq_true (by kernel_rfl)) h0 hg hlt0) (trodAll_cons_mk (Below.trod laidOut (by kernel_rfl) (of_decide_eq_true (by kernel_rfl)) h1 hg hlt1) (trodAll_cons_mk (Below.trod laidOut (by kernel_rfl) (of_decide_eq_true (by kernel_rfl)) h2 hg hlt2) trodAll_mk0))), rfl, hg.frame _, fun h => by cases h⟩

/-- The statement: whatever the arguments, the law's function returns true and leaves them as they were. -/
theorem summaryBrackets_holds : Rows.SummaryBracketsSaid :=
  OpenClaim.holds_of_wide 5 Try.f5 rfl rfl rfl rfl rfl rfl rfl ⟨rfl, rfl, rfl, rfl, rfl⟩ rfl rfl rfl rfl rfl (by kernel_rfl) Try.func5 (by kernel_rfl)
    (of_decide_eq_true (by kernel_rfl)) (by unfold Func.isWrapper; first | (rw [if_pos (by decide +kernel)]; kernel_rfl) | (rw [if_neg (by decide +kernel)]; exact ⟨rfl, rfl⟩))
    (fun os started H enc _ => lifted_SummaryBrackets os started H enc)
end Go.Proofs.Ytjfpglmmhikhbaa
