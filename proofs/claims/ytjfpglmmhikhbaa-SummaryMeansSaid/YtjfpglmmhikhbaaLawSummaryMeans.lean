/- Leq of summaries means: what the one makes is nowhere greater: for any two summaries and any list the law answers true. No condition. -/
import Derived.Test.YtjfpglmmhikhbaaPlainSum
import Derived.Test.YtjfpglmmhikhbaaSummary3
import Derived.Test.YtjfpglmmhikhbaaLeq
import Derived.Test.YtjfpglmmhikhbaaOpenSum
namespace Go.Proofs.Ytjfpglmmhikhbaa
open Go.RowKit Go.ChangeShapes Go.WideShapes Go.ChangeAt

theorem means_self {s : Sm} (h : sumCheck s 4 = 0) : leqS s s = true := leqS_yes ⟨h, h, rfl, fun _ _ => ⟨Int.le_refl _, id⟩⟩
theorem means_nth {s : Sm} {t : List Int} (h1 : 1 ≤ s.keep) (h2 : s.keep ≤ t.length) (i : Nat) (hi : i < s.keep.toNat + s.push.length) :
    nth (applyL s t) i = (if (i : Int) < s.keep then nth t i else 0) + placeN s i := by
  rw [nth_applyL h1 h2 i]
  unfold placeN
  by_cases c1 : i + 1 = s.keep.toNat
  · rw [if_pos c1, if_pos (by omega), if_neg (by omega), if_pos (by omega)]
  · rw [if_neg c1]
    by_cases c2 : (i : Int) < s.keep
    · rw [if_pos (by omega), if_pos c2, if_neg (by omega), if_neg (by omega)]; omega
    · have e : ((i : Int) - s.keep).toNat = i - s.keep.toNat := by omega
      rw [if_neg (by omega), if_neg c2, if_pos (by omega), e]; omega
theorem means_leq {s r : Sm} {t : List Int} (h : leqP s r) (hs : applyErr s t = 0) (hr : applyErr r t = 0) : leqB (applyL s t) (applyL r t) = true := by
  obtain ⟨-, -, hl, hk⟩ := h
  obtain ⟨a1, a2, -⟩ := applyErr_zero.1 hs
  obtain ⟨-, b2, -⟩ := applyErr_zero.1 hr
  obtain ⟨-, -, k1, k2, -⟩ := sumCheck_iff.1 a2
  obtain ⟨-, -, m1, m2, -⟩ := sumCheck_iff.1 b2
  have ht := (timeCheck_zero.1 a1).2.2
  refine leqB_iff.2 ⟨?_, apply_time hs, apply_time hr, fun i hi => ?_⟩
  · rw [applyL_length k1 k2, applyL_length m1 m2]; omega
  · rw [applyL_length k1 k2] at hi
    rw [means_nth k1 k2 i hi, means_nth m1 m2 i (by omega)]
    obtain ⟨p1, p2⟩ := hk i (by omega)
    by_cases c1 : (i : Int) < s.keep
    · rw [if_pos c1, if_pos (p2 c1)]; omega
    · rw [if_neg c1]
      by_cases c2 : (i : Int) < r.keep
      · rw [if_pos c2]; have := ht i (by omega); omega
      · rw [if_neg c2]; omega
theorem means_boxes (w : World) (x y : Array Value) (t : TypeId) :
    Ext w ((w.alloc (.cells x t)).alloc (.cells y t)) ∧ Box ((w.alloc (.cells x t)).alloc (.cells y t)) w.heap.size x t ∧ Box ((w.alloc (.cells x t)).alloc (.cells y t)) (w.heap.size + 1) y t := by
  have e1 := Ext.alloc w (.cells x t)
  have e2 := Ext.alloc (w.alloc (.cells x t)) (.cells y t)
  have b1 := Box.new w x t
  have b2 := Box.new (w.alloc (.cells x t)) y t
  simp only [World.size_alloc] at b2
  exact ⟨Ext.trans e1 e2, Box.keeps e2 b1, b2⟩

set_option maxHeartbeats 1000000 in
theorem walk_SummaryMeans (v0 v1 v2 : Value) (w : World) (h0 : InSummary w v0) (h1 : InSummary w v1) (h2 : InInts w v2) :
    Calls Try.prog 12 #[v0, v1, v2] w fun e w' => e = .returned (.bool true) ∧ Ext w w' := by
  obtain ⟨s, ⟨pv, rfl, hp⟩, -⟩ := h0
  obtain ⟨r, ⟨qv, rfl, hq⟩, -⟩ := h1
  obtain ⟨t, h2, -⟩ := h2
  obtain ⟨hE, bs, br⟩ := means_boxes w #[.int .i64 s.keep, .int .i64 s.add, pv] #[.int .i64 r.keep, .int .i64 r.add, qv] 32
  replace hE := hid hE
  replace bs := hid bs
  replace br := hid br
  have fs := hid (Rd.keeps hE.out hp)
  have fr := hid (Rd.keeps hE.out hq)
  have ft := hid (Rd.keeps hE.out h2)
  obtain ⟨a, cap, rfl, -, -, -, -⟩ := hp
  obtain ⟨a', cap', rfl, -, -, -, -⟩ := hq
  clear h2
  have bs0 := True.intro; have bs1 := True.intro; have bs2 := True.intro; have bsf := True.intro; have bsl := True.intro; have bsi := True.intro
  have br0 := True.intro; have br1 := True.intro; have br2 := True.intro; have brf := True.intro; have brl := True.intro; have bri := True.intro
  go_enter Try.func12, Try.ntmps12
  go_wp2_with fail
  refine (apply_any _ _ s t _ (SumAt.agg' fs.out) ft.out).mono ?_
  rintro e W1 ⟨p, rfl, hp, hx⟩
  replace hp := hid (OwnL.rd hp)
  replace bs := hid (Box.keeps hx bs.out)
  clear bs0 bs1 bs2 bsf bsl bsi
  replace br := hid (Box.keeps hx br.out)
  clear br0 br1 br2 brf brl bri
  replace fs := hid (Rd.keeps hx fs.out)
  replace fr := hid (Rd.keeps hx fr.out)
  replace ft := hid (Rd.keeps hx ft.out)
  replace hE := hid (Ext.trans hE.out hx)
  clear hx
  obtain ⟨bs0, bs1, bs2, bsf, bsl, bsi⟩ := Box.three bs.out
  obtain ⟨br0, br1, br2, brf, brl, bri⟩ := Box.three br.out
  go_wp2_with fail
  refine (apply_any _ _ r t _ (SumAt.agg' fr.out) ft.out).mono ?_
  rintro e W2 ⟨q, rfl, hq, hx⟩
  replace hq := hid (OwnL.rd hq)
  replace bs := hid (Box.keeps hx bs.out)
  clear bs0 bs1 bs2 bsf bsl bsi
  replace br := hid (Box.keeps hx br.out)
  clear br0 br1 br2 brf brl bri
  replace fs := hid (Rd.keeps hx fs.out)
  replace fr := hid (Rd.keeps hx fr.out)
  replace ft := hid (Rd.keeps hx ft.out)
  replace hp := hid (Rd.keeps hx hp.out)
  replace hE := hid (Ext.trans hE.out hx)
  clear hx
  obtain ⟨bs0, bs1, bs2, bsf, bsl, bsi⟩ := Box.three bs.out
  obtain ⟨br0, br1, br2, brf, brl, bri⟩ := Box.three br.out
  go_wp2_with fail
  refine (sumcheck_any _ s 4 _ (SumAt.agg' fs.out)).mono ?_
  rintro e W3 ⟨rfl, hx⟩
  replace bs := hid (Box.keeps hx bs.out)
  clear bs0 bs1 bs2 bsf bsl bsi
  replace br := hid (Box.keeps hx br.out)
  clear br0 br1 br2 brf brl bri
  replace fs := hid (Rd.keeps hx fs.out)
  replace fr := hid (Rd.keeps hx fr.out)
  replace ft := hid (Rd.keeps hx ft.out)
  replace hp := hid (Rd.keeps hx hp.out)
  replace hq := hid (Rd.keeps hx hq.out)
  replace hE := hid (Ext.trans hE.out hx)
  clear hx
  obtain ⟨bs0, bs1, bs2, bsf, bsl, bsi⟩ := Box.three bs.out
  obtain ⟨br0, br1, br2, brf, brl, bri⟩ := Box.three br.out
  have last : ∀ (b1 b2 b3 : Bool), leqS s r = b1 → (applyErr s t != 0) = b2 → (applyErr r t != 0) = b3 → b1 = true → b2 = false → b3 = false → leqB (if applyErr s t = 0 then applyL s t else []) (if applyErr r t = 0 then applyL r t else []) = true := by
    rintro b1 b2 b3 e1 e2 e3 rfl rfl rfl
    have e2' : applyErr s t = 0 := by simpa using e2
    have e3' : applyErr r t = 0 := by simpa using e3
    rw [if_pos e2', if_pos e3']
    exact means_leq (leqS_true.1 e1) e2' e3'
  replace last := hid last
  generalize (if applyErr s t = 0 then applyL s t else []) = A at *
  generalize (if applyErr r t = 0 then applyL r t else []) = B at *
  cases c1 : (sumCheck s 4 == 0) with
  | true =>
    have hself := hid (means_self (s := s) (by simpa using c1))
    go_wp2_with fail
    refine (sumleq_any _ _ s s _ (SumAt.agg' fs.out) (SumAt.agg' fs.out)).mono ?_
    rintro e W4 ⟨rfl, hx⟩
    rw [hself.out]
    replace bs := hid (Box.keeps hx bs.out)
    clear bs0 bs1 bs2 bsf bsl bsi
    replace br := hid (Box.keeps hx br.out)
    clear br0 br1 br2 brf brl bri
    replace fs := hid (Rd.keeps hx fs.out)
    replace fr := hid (Rd.keeps hx fr.out)
    replace ft := hid (Rd.keeps hx ft.out)
    replace hp := hid (Rd.keeps hx hp.out)
    replace hq := hid (Rd.keeps hx hq.out)
    replace hE := hid (Ext.trans hE.out hx)
    clear hx
    obtain ⟨bs0, bs1, bs2, bsf, bsl, bsi⟩ := Box.three bs.out
    obtain ⟨br0, br1, br2, brf, brl, bri⟩ := Box.three br.out
    go_wp2_with fail
    refine (sumleq_any _ _ s r _ (SumAt.agg' fs.out) (SumAt.agg' fr.out)).mono ?_
    rintro e W5 ⟨rfl, hx⟩
    replace hp := hid (Rd.keeps hx hp.out)
    replace hq := hid (Rd.keeps hx hq.out)
    replace hE := hid (Ext.trans hE.out hx)
    clear hx
    cases e1 : leqS s r with
    | false =>
      go_wp2_with fail
      go_ret
      exact ⟨rfl, hE.out⟩
    | true =>
      cases e2 : (applyErr s t != 0) with
      | true =>
        go_wp2_with fail
        go_ret
        exact ⟨rfl, hE.out⟩
      | false =>
        cases e3 : (applyErr r t != 0) with
        | true =>
          go_wp2_with fail
          go_ret
          exact ⟨rfl, hE.out⟩
        | false =>
          have hl := hid (last.out _ _ _ e1 e2 e3 rfl rfl rfl)
          go_wp2_with fail
          refine (leq_any _ _ A B _ hp.out hq.out).mono ?_
          rintro e W6 ⟨rfl, hx⟩
          rw [hl.out]
          go_wp2_with fail
          go_ret
          exact ⟨rfl, Ext.trans hE.out hx⟩
  | false =>
    go_wp2_with fail
    refine (sumleq_any _ _ s r _ (SumAt.agg' fs.out) (SumAt.agg' fr.out)).mono ?_
    rintro e W5 ⟨rfl, hx⟩
    replace hp := hid (Rd.keeps hx hp.out)
    replace hq := hid (Rd.keeps hx hq.out)
    replace hE := hid (Ext.trans hE.out hx)
    clear hx
    cases e1 : leqS s r with
    | false =>
      go_wp2_with fail
      go_ret
      exact ⟨rfl, hE.out⟩
    | true =>
      cases e2 : (applyErr s t != 0) with
      | true =>
        go_wp2_with fail
        go_ret
        exact ⟨rfl, hE.out⟩
      | false =>
        cases e3 : (applyErr r t != 0) with
        | true =>
          go_wp2_with fail
          go_ret
          exact ⟨rfl, hE.out⟩
        | false =>
          have hl := hid (last.out _ _ _ e1 e2 e3 rfl rfl rfl)
          go_wp2_with fail
          refine (leq_any _ _ A B _ hp.out hq.out).mono ?_
          rintro e W6 ⟨rfl, hx⟩
          rw [hl.out]
          go_wp2_with fail
          go_ret
          exact ⟨rfl, Ext.trans hE.out hx⟩

set_option maxRecDepth 100000 in
theorem lifted_SummaryMeans (os : Os) (started : os.Started) (H : Type) (enc : TypeId × Value → H) :
    ReturnsInHanded {} Try.checked os 12 .any (Rows.summaryMeansSpec.pre6 enc Try.prog Try.f12 Rows.summaryMeansRow.domain false) (Rows.summaryMeansSpec.post enc Try.prog Try.f12 false true false false) := by
  refine returnsInHanded_of_change_sized (C := Try.checked) own started (by kernel_rfl) Try.func12
    (ChangeSpec.witness6 (enc := enc) (C := Try.checked) false ⟨#[], #[.agg #[.int .i64 0, .int .i64 0, .slice none 0 0], .agg #[.int .i64 0, .int .i64 0, .slice none 0 0], .slice none 0 0], []⟩ 8 (by kernel_rfl) (by kernel_rfl) (by kernel_rfl) (by kernel_rfl)) ?_
  intro W base args ds gs before hval0 hW _ hsz0 _
  have hval : ∀ (j : Nat) t v, Try.f12.params[j]? = some t → args[j]? = some v → Value.okWide Try.prog W .any base t v := hval0
  have hW' := hW
  obtain ⟨p, q, hA0, hV, rfl, _, _⟩ := hW
  have hA : DataW.TrodAll enc Try.prog W 0 (fun _ => true) true Try.f12.params.toList args.toList ds p := hA0
  rw [Try.params12] at hA hval
  obtain ⟨v0, vs0, d0, ds0, p0, q0, hargs, rfl, rfl, h0, r0⟩ := trodAll_cons hA
  obtain ⟨v1, vs1, d1, ds1, p1, q1, rfl, rfl, rfl, h1, r1⟩ := trodAll_cons r0
  obtain ⟨v2, vs2, d2, ds2, p2, q2, rfl, rfl, rfl, h2, r2⟩ := trodAll_cons r1
  obtain ⟨rfl, rfl, rfl⟩ := trodAll_nil r2
  obtain rfl : args = #[v0, v1, v2] := by cases args; simp_all
  obtain ⟨rfl, rfl⟩ := trodVars_none hV
  clear hA0 hval0 hsz0
  simp only [List.append_nil] at hW'
  have hlt0 : ∀ x ∈ p0, x.block < W.heap.size := fun x hx => hW'.lt x (by simp [hx])
  have hlt1 : ∀ x ∈ p1, x.block < W.heap.size := fun x hx => hW'.lt x (by simp [hx])
  have hlt2 : ∀ x ∈ p2, x.block < W.heap.size := fun x hx => hW'.lt x (by simp [hx])
  have g0 : InSummary W v0 := open_summary_k (hval 0 32 v0 rfl rfl) h0
  have g1 : InSummary W v1 := open_summary_k (hval 1 32 v1 rfl rfl) h1
  have g2 : InInts W v2 := open_ints_k Try.underlying26 Try.underlying3 cellsInt (hval 2 26 v2 rfl rfl) h2
  refine (walk_SummaryMeans v0 v1 v2 W g0 g1 g2).mono fun e W' ⟨he, hg⟩ => ?_
  subst he
  exact ⟨_, rfl, _, _, _, [], p0 ++ (p1 ++ (p2 ++ [])), [], hW', (trodAll_cons_mk (shut_bool Try.underlying4 _) trodAll_mk0), (trodAll_cons_mk (Below.trod laidOut (by kernel_rfl) (of_decide_eq_true (by kernel_rfl)) h0 hg hlt0) (trodAll_cons_mk (Below.trod laidOut (by kernel_rfl) (of_decide_eq_true (by kernel_rfl)) h1 hg hlt1) (trodAll_cons_mk (Below.trod laidOut (by kernel_rfl) (of_decide_eq_true (by kernel_rfl)) h2 hg hlt2) trodAll_mk0))), rfl, hg.frame _, fun h => by cases h⟩

/-- The statement: whatever the arguments, the law's function returns true and leaves them as they were. -/
theorem summaryMeans_holds : Rows.SummaryMeansSaid :=
  OpenClaim.holds_of_wide 12 Try.f12 rfl rfl rfl rfl rfl rfl rfl ⟨rfl, rfl, rfl, rfl, rfl⟩ rfl rfl rfl rfl rfl (by kernel_rfl) Try.func12 (by kernel_rfl)
    (of_decide_eq_true (by kernel_rfl)) (by unfold Func.isWrapper; first | (rw [if_pos (by decide +kernel)]; kernel_rfl) | (rw [if_neg (by decide +kernel)]; exact ⟨rfl, rfl⟩))
    (fun os started H enc _ => lifted_SummaryMeans os started H enc)
end Go.Proofs.Ytjfpglmmhikhbaa
