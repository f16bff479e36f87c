/- The composition of two summaries does what the one does behind the other: the law answers true for every two summaries and every list. No condition. -/
import Derived.Test.YtjfpglmmhikhbaaPlainComp
import Derived.Test.YtjfpglmmhikhbaaSummary5
import Derived.Test.YtjfpglmmhikhbaaOpenSum
namespace Go.Proofs.Ytjfpglmmhikhbaa
open Go.RowKit Go.ChangeShapes Go.WideShapes Go.ChangeAt

/-- Two boxes made one behind the other. -/
theorem two_boxes (w : World) (x y : Array Value) (t : TypeId) :
    Ext w ((w.alloc (.cells x t)).alloc (.cells y t)) ∧ Box ((w.alloc (.cells x t)).alloc (.cells y t)) w.heap.size x t ∧ Box ((w.alloc (.cells x t)).alloc (.cells y t)) (w.heap.size + 1) y t := by
  have e1 := Ext.alloc w (.cells x t)
  have e2 := Ext.alloc (w.alloc (.cells x t)) (.cells y t)
  have b1 := Box.new w x t
  have b2 := Box.new (w.alloc (.cells x t)) y t
  simp only [World.size_alloc] at b2
  exact ⟨Ext.trans e1 e2, Box.keeps e2 b1, b2⟩

set_option maxHeartbeats 1500000 in
theorem walk_SummaryComposes (v0 v1 v2 : Value) (w : World) (h0 : InSummary w v0) (h1 : InSummary w v1) (h2 : InInts w v2) :
    Calls Try.prog 11 #[v0, v1, v2] w fun e w' => e = .returned (.bool true) ∧ Ext w w' := by
  obtain ⟨s, ⟨pv, rfl, hp⟩, -⟩ := h0
  obtain ⟨r, ⟨qv, rfl, hq⟩, -⟩ := h1
  obtain ⟨t, ht, -⟩ := h2
  obtain ⟨hE, bs, br⟩ := two_boxes w #[.int .i64 s.keep, .int .i64 s.add, pv] #[.int .i64 r.keep, .int .i64 r.add, qv] 32
  replace hE := hid hE
  replace bs := hid bs
  replace br := hid br
  have fs := hid (Rd.keeps hE.out hp)
  have fr := hid (Rd.keeps hE.out hq)
  have ft := hid (Rd.keeps hE.out ht)
  obtain ⟨a, cap, rfl, -, -, -, -⟩ := hp
  obtain ⟨a', cap', rfl, -, -, -, -⟩ := hq
  clear ht
  have bs0 := True.intro; have bs1 := True.intro; have bs2 := True.intro; have bsf := True.intro; have bsl := True.intro; have bsi := True.intro
  have br0 := True.intro; have br1 := True.intro; have br2 := True.intro; have brf := True.intro; have brl := True.intro; have bri := True.intro
  obtain ⟨x1, hx1⟩ : ∃ x, applyErr s t = x := ⟨_, rfl⟩
  replace hx1 := hid hx1
  go_enter Try.func11, Try.ntmps11
  go_wp2_with fail
  refine (apply_any _ _ s t _ (SumAt.agg' fs.out) ft.out).mono ?_
  rintro e W1 ⟨u, rfl, fu, hx⟩
  rw [hx1.out] at fu ⊢
  replace bs := hid (Box.keeps hx bs.out)
  clear bs0 bs1 bs2 bsf bsl bsi
  replace br := hid (Box.keeps hx br.out)
  clear br0 br1 br2 brf brl bri
  replace fs := hid (Rd.keeps hx fs.out)
  replace fr := hid (Rd.keeps hx fr.out)
  replace ft := hid (Rd.keeps hx ft.out)
  replace hE := hid (Ext.trans hE.out hx)
  clear hx
  obtain ⟨bs0, bs1, bs2, bsf, bsl, bsi⟩ := Box.three bs.out
  obtain ⟨br0, br1, br2, brf, brl, bri⟩ := Box.three br.out
  by_cases n1 : x1 = 0
  case neg =>
    have n1' : (x1 != 0) = true := by rw [bne_iff_ne]; exact n1
    rw [if_neg n1] at fu
    obtain ⟨ya, yc, rfl⟩ := own_sl fu
    clear bs0 bs1 bs2 bsf bsl bsi br0 br1 br2 brf brl bri
    go_wp2_with fail
    go_ret
    exact ⟨rfl, hE.out⟩
  subst n1
  rw [if_pos rfl] at fu
  obtain ⟨ya, yc, rfl⟩ := own_sl fu
  replace fu := hid (OwnL.rd fu)
  have k0 := sumCheck_iff.1 (applyErr_zero.1 hx1.out).2.1
  have hlu : (applyL s t).length = s.keep.toNat + s.push.length := applyL_length k0.2.2.1 k0.2.2.2.1
  have hlu2 : (((applyL s t).length : Int) != s.keep + (s.push.length : Int)) = false := by rw [bne_eq_false_iff_eq]; omega
  have hk1 : 0 ≤ s.keep + s.push.length := by omega
  have hk2 : s.keep + s.push.length ≤ 4 := by omega
  clear hlu k0
  obtain ⟨x2, hx2⟩ : ∃ x, applyErr r (applyL s t) = x := ⟨_, rfl⟩
  replace hx2 := hid hx2
  go_wp2_with fail
  refine (apply_any _ _ r _ _ (SumAt.agg' fr.out) fu.out).mono ?_
  rintro e W2 ⟨vv, rfl, fv, hx⟩
  rw [hx2.out] at fv ⊢
  replace bs := hid (Box.keeps hx bs.out)
  clear bs0 bs1 bs2 bsf bsl bsi
  replace br := hid (Box.keeps hx br.out)
  clear br0 br1 br2 brf brl bri
  replace fs := hid (Rd.keeps hx fs.out)
  replace fr := hid (Rd.keeps hx fr.out)
  replace ft := hid (Rd.keeps hx ft.out)
  replace hE := hid (Ext.trans hE.out hx)
  clear hx
  obtain ⟨bs0, bs1, bs2, bsf, bsl, bsi⟩ := Box.three bs.out
  obtain ⟨br0, br1, br2, brf, brl, bri⟩ := Box.three br.out
  by_cases n2 : x2 = 0
  case neg =>
    have n2' : (x2 != 0) = true := by rw [bne_iff_ne]; exact n2
    rw [if_neg n2] at fv
    obtain ⟨yb, yd, rfl⟩ := own_sl fv
    clear bs0 bs1 bs2 bsf bsl bsi br0 br1 br2 brf brl bri
    go_wp2_with fail
    go_ret
    exact ⟨rfl, hE.out⟩
  subst n2
  rw [if_pos rfl] at fv
  obtain ⟨yb, yd, rfl⟩ := own_sl fv
  replace fv := hid (OwnL.rd fv)
  obtain ⟨c1, c2, c3⟩ := composes hx1.out hx2.out
  replace c1 := hid c1
  replace c2 := hid c2
  replace c3 := hid (eqB_true.2 c3)
  go_wp2_with fail
  refine (then_any _ _ s r _ (SumAt.agg' fs.out) (SumAt.agg' fr.out)).mono ?_
  rintro e W3 ⟨A, av, rfl, hA, fa, hx⟩
  rw [c1.out] at hA ⊢
  rw [if_pos rfl] at hA
  subst hA
  clear bs0 bs1 bs2 bsf bsl bsi
  replace br := hid (Box.keeps hx br.out)
  clear br0 br1 br2 brf brl bri
  replace ft := hid (Rd.keeps hx ft.out)
  replace fv := hid (Rd.keeps hx fv.out)
  replace hE := hid (Ext.trans hE.out hx)
  clear hx
  obtain ⟨br0, br1, br2, brf, brl, bri⟩ := Box.three br.out
  obtain ⟨za, zn, zc, rfl⟩ := own_slice fa
  replace fa := hid (OwnL.rd fa)
  go_wp2_with fail
  have hx := Ext.alloc W3 (.cells #[.int .i64 (thenS s r).keep, .int .i64 (thenS s r).add, .slice za zn zc] 32)
  have ba := hid (Box.new W3 #[.int .i64 (thenS s r).keep, .int .i64 (thenS s r).add, .slice za zn zc] 32)
  replace br := hid (Box.keeps hx br.out)
  clear br0 br1 br2 brf brl bri
  replace ft := hid (Rd.keeps hx ft.out)
  replace fv := hid (Rd.keeps hx fv.out)
  replace fa := hid (Rd.keeps hx fa.out)
  replace hE := hid (Ext.trans hE.out hx)
  clear hx
  obtain ⟨br0, br1, br2, brf, brl, bri⟩ := Box.three br.out
  generalize World.alloc W3 (.cells #[.int .i64 (thenS s r).keep, .int .i64 (thenS s r).add, .slice za zn zc] 32) = W4 at *
  obtain ⟨ba0, ba1, ba2, baf, bal, bai⟩ := Box.three ba.out
  refine (apply_any _ _ (thenS s r) t _ (SumAt.agg' fa.out) ft.out).mono ?_
  rintro e W5 ⟨ww, rfl, fw, hx⟩
  rw [c2.out] at fw ⊢
  rw [if_pos rfl] at fw
  replace fw := hid (OwnL.rd fw)
  clear ba0 ba1 ba2 baf bal bai
  replace br := hid (Box.keeps hx br.out)
  clear br0 br1 br2 brf brl bri
  replace fv := hid (Rd.keeps hx fv.out)
  replace hE := hid (Ext.trans hE.out hx)
  clear hx
  obtain ⟨br0, br1, br2, brf, brl, bri⟩ := Box.three br.out
  have c4 := c3.out
  go_wp2_with fail
  refine (same_any _ _ _ _ _ fv.out fw.out).mono ?_
  rintro e W6 ⟨rfl, hx⟩
  replace hE := hid (Ext.trans hE.out hx)
  go_wp2_with fail
  go_ret
  exact ⟨rfl, hE.out⟩

set_option maxRecDepth 100000 in
theorem lifted_SummaryComposes (os : Os) (started : os.Started) (H : Type) (enc : TypeId × Value → H) :
    ReturnsInHanded {} Try.checked os 11 .any (Rows.summaryComposesSpec.pre6 enc Try.prog Try.f11 Rows.summaryComposesRow.domain false) (Rows.summaryComposesSpec.post enc Try.prog Try.f11 false true false false) := by
  refine returnsInHanded_of_change_sized (C := Try.checked) own started (by kernel_rfl) Try.func11
    (ChangeSpec.witness6 (enc := enc) (C := Try.checked) false ⟨#[], #[.agg #[.int .i64 0, .int .i64 0, .slice none 0 0], .agg #[.int .i64 0, .int .i64 0, .slice none 0 0], .slice none 0 0], []⟩ 8 (by kernel_rfl) (by kernel_rfl) (by kernel_rfl) (by kernel_rfl)) ?_
  intro W base args ds gs before hval0 hW _ hsz0 _
  have hval : ∀ (j : Nat) t v, Try.f11.params[j]? = some t → args[j]? = some v → Value.okWide Try.prog W .any base t v := hval0
  have hW' := hW
  obtain ⟨p, q, hA0, hV, rfl, _, _⟩ := hW
  have hA : DataW.TrodAll enc Try.prog W 0 (fun _ => true) true Try.f11.params.toList args.toList ds p := hA0
  rw [Try.params11] at hA hval
  obtain ⟨v0, vs0, d0, ds0, p0, q0, hargs, rfl, rfl, h0, r0⟩ := trodAll_cons hA
  obtain ⟨v1, vs1, d1, ds1, p1, q1, rfl, rfl, rfl, h1, r1⟩ := trodAll_cons r0
  obtain ⟨v2, vs2, d2, ds2, p2, q2, rfl, rfl, rfl, h2, r2⟩ := trodAll_cons r1
  obtain ⟨rfl, rfl, rfl⟩ := trodAll_nil r2
  obtain rfl : args = #[v0, v1, v2] := by cases args; simp_all
  obtain ⟨rfl, rfl⟩ := trodVars_none hV
  clear hA0 hval0 hsz0
  simp only [List.append_nil] at hW'
  have hlt0 : ∀ x ∈ p0, x.block < W.heap.size := fun x hx => hW'.lt x (by simp [hx])
  have hlt1 : ∀ x ∈ p1, x.block < W.heap.size := fun x hx => hW'.lt x (by simp [hx])
  have hlt2 : ∀ x ∈ p2, x.block < W.heap.size := fun x hx => hW'.lt x (by simp [hx])
  have g0 : InSummary W v0 := open_summary_k (hval 0 32 v0 rfl rfl) h0
  have g1 : InSummary W v1 := open_summary_k (hval 1 32 v1 rfl rfl) h1
  have g2 : InInts W v2 := open_ints_k Try.underlying26 Try.underlying3 cellsInt (hval 2 26 v2 rfl rfl) h2
  refine (walk_SummaryComposes v0 v1 v2 W g0 g1 g2).mono fun e W' ⟨he, hg⟩ => ?_
  subst he
  exact ⟨_, rfl, _, _, _, [], p0 ++ (p1 ++ (p2 ++ [])), [], hW', (trodAll_cons_mk (shut_bool Try.underlying4 _) trodAll_mk0), (trodAll_cons_mk (Below.trod laidOut (by kernel_rfl) (of_decide_eq_true (by kernel_rfl)) h0 hg hlt0) (trodAll_cons_mk (Below.trod laidOut (by kernel_rfl) (of_decide_eq_true (by kernel_rfl)) h1 hg hlt1) (trodAll_cons_mk (Below.trod laidOut (by kernel_rfl) (of_decide_eq_true (by kernel_rfl)) h2 hg hlt2) trodAll_mk0))), rfl, hg.frame _, fun h => by cases h⟩

/-- The statement: whatever the arguments, the law's function returns true and leaves them as they were. -/
theorem summaryComposes_holds : Rows.SummaryComposesSaid :=
  OpenClaim.holds_of_wide 11 Try.f11 rfl rfl rfl rfl rfl rfl rfl ⟨rfl, rfl, rfl, rfl, rfl⟩ rfl rfl rfl rfl rfl (by kernel_rfl) Try.func11 (by kernel_rfl)
    (of_decide_eq_true (by kernel_rfl)) (by unfold Func.isWrapper; first | (rw [if_pos (by decide +kernel)]; kernel_rfl) | (rw [if_neg (by decide +kernel)]; exact ⟨rfl, rfl⟩))
    (fun os started H enc _ => lifted_SummaryComposes os started H enc)
end Go.Proofs.Ytjfpglmmhikhbaa
