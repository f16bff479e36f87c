/- Summaries are monotone: of what is Leq comes what is Leq: for every summary and any two lists the law answers true. No condition. -/
import Derived.Test.YtjfpglmmhikhbaaPlainSum
import Derived.Test.YtjfpglmmhikhbaaOpenSum
namespace Go.Proofs.Ytjfpglmmhikhbaa
open Go.RowKit Go.ChangeShapes Go.WideShapes Go.ChangeAt

theorem apply_mono {s : Sm} {t u : List Int} (hl : leqB t u = true) (he : applyErr s u = 0) : applyErr s t = 0 ∧ leqB (applyL s t) (applyL s u) = true := by
  obtain ⟨l1, l2, l3, l4⟩ := leqB_iff.1 hl
  obtain ⟨h1, h2, h3⟩ := applyErr_zero.1 he
  obtain ⟨k1, k2, k3, k4, k5, k6, k7⟩ := sumCheck_iff.1 h2
  have ht := (timeCheck_zero.1 l2).2.2
  have hb := badCoord_false.1 h3
  have h0 : applyErr s t = 0 := by
    refine applyErr_zero.2 ⟨l2, by rw [l1]; exact h2, badCoord_false.2 ?_⟩
    have := l4 (s.keep.toNat - 1) (by omega)
    have := ht (s.keep.toNat - 1) (by omega)
    omega
  refine ⟨h0, leqB_iff.2 ⟨?_, apply_time h0, apply_time he, fun i hi => ?_⟩⟩
  · rw [applyL_length k3 (by omega), applyL_length k3 (by omega)]
  · rw [applyL_length k3 (by omega)] at hi
    rw [nth_applyL k3 (by omega), nth_applyL k3 (by omega)]
    split
    · have := l4 i (by omega); omega
    · split
      · exact l4 i (by omega)
      · omega

set_option maxHeartbeats 1000000 in
theorem walk_SummaryMonotone (v0 v1 v2 : Value) (w : World) (h0 : InSummary w v0) (h1 : InInts w v1) (h2 : InInts w v2) :
    Calls Try.prog 8 #[v0, v1, v2] w fun e w' => e = .returned (.bool true) ∧ Ext w w' := by
  obtain ⟨s, h0, -⟩ := h0
  obtain ⟨t, h1, -⟩ := h1
  obtain ⟨u, h2, -⟩ := h2
  have hS := hid (fun w' (hx : Ext w w') => SumAt.keeps hx h0)
  obtain ⟨pv, rfl, hp⟩ := h0
  obtain ⟨a, cap, rfl, -, -, -, -⟩ := hp
  have hE := hid (Ext.alloc w (.cells #[.int .i64 s.keep, .int .i64 s.add, .slice a s.push.length cap] 32))
  have bs := Box.new w #[.int .i64 s.keep, .int .i64 s.add, .slice a s.push.length cap] 32
  obtain ⟨b0, b1, b2, bf, bl, bi⟩ := Box.three bs
  have T0 := hid (Rd.keeps hE.out h1)
  have U0 := hid (Rd.keeps hE.out h2)
  clear h1 h2 b0 b1 b2 bf bl
  have main : ∀ c d : Bool, leqB t u = c → decide (applyErr s u = 0) = d → Calls Try.prog 8 #[.agg #[.int .i64 s.keep, .int .i64 s.add, .slice a s.push.length cap], v1, v2] w fun e w' => e = .returned (.bool true) ∧ Ext w w' := by
    intro c d hc hd
    cases c with
    | false =>
      go_enter Try.func8, Try.ntmps8
      go_wp2_with fail
      refine (apply_any _ _ s t _ (hS.out _ hE.out) T0.out).mono ?_
      rintro e W1 ⟨p, rfl, hp, hx⟩
      have b0 := Box.keeps hx bs
      obtain ⟨c0, c1, c2, cf, cl, ci⟩ := Box.three b0
      replace hE := hid (Ext.trans hE.out hx)
      replace U0 := hid (Rd.keeps hx U0.out)
      replace T0 := hid (Rd.keeps hx T0.out)
      clear hx bs bi hp b0 cf cl ci
      go_wp2_with fail
      refine (apply_any _ _ s u _ (hS.out _ hE.out) U0.out).mono ?_
      rintro e W2 ⟨q, rfl, hq, hx⟩
      replace hE := hid (Ext.trans hE.out hx)
      replace U0 := hid (Rd.keeps hx U0.out)
      replace T0 := hid (Rd.keeps hx T0.out)
      clear hx hq c0 c1 c2
      go_wp2_with fail
      refine (refleq_any _ _ t u _ T0.out U0.out).mono ?_
      rintro e W3 ⟨rfl, hx⟩
      replace hE := hid (Ext.trans hE.out hx)
      go_wp2_with fail
      go_ret
      exact ⟨rfl, hE.out⟩
    | true =>
      cases d with
      | false =>
        have hn : (applyErr s u != 0) = true := by rw [bne_iff_ne]; simpa using hd
        clear hd
        go_enter Try.func8, Try.ntmps8
        go_wp2_with fail
        refine (apply_any _ _ s t _ (hS.out _ hE.out) T0.out).mono ?_
        rintro e W1 ⟨p, rfl, hp, hx⟩
        have b0 := Box.keeps hx bs
        obtain ⟨c0, c1, c2, cf, cl, ci⟩ := Box.three b0
        replace hE := hid (Ext.trans hE.out hx)
        replace U0 := hid (Rd.keeps hx U0.out)
        replace T0 := hid (Rd.keeps hx T0.out)
        clear hx bs bi hp b0 cf cl ci
        go_wp2_with fail
        refine (apply_any _ _ s u _ (hS.out _ hE.out) U0.out).mono ?_
        rintro e W2 ⟨q, rfl, hq, hx⟩
        replace hE := hid (Ext.trans hE.out hx)
        replace U0 := hid (Rd.keeps hx U0.out)
        replace T0 := hid (Rd.keeps hx T0.out)
        clear hx hq c0 c1 c2
        go_wp2_with fail
        refine (refleq_any _ _ t u _ T0.out U0.out).mono ?_
        rintro e W3 ⟨rfl, hx⟩
        replace hE := hid (Ext.trans hE.out hx)
        go_wp2_with fail
        go_ret
        exact ⟨rfl, hE.out⟩
      | true =>
        have he : applyErr s u = 0 := by simpa using hd
        obtain ⟨he1, hl1⟩ := apply_mono hc he
        have hn : (applyErr s u != 0) = false := by rw [bne_eq_false_iff_eq]; exact he
        have hn1 : (applyErr s t == 0) = true := by rw [beq_iff_eq]; exact he1
        replace he := hid he
        replace he1 := hid he1
        clear hd
        go_enter Try.func8, Try.ntmps8
        go_wp2_with fail
        refine (apply_any _ _ s t _ (hS.out _ hE.out) T0.out).mono ?_
        rintro e W1 ⟨p, rfl, hp, hx⟩
        rw [if_pos he1.out] at hp
        replace hp := hid (OwnL.rd hp)
        have b0 := Box.keeps hx bs
        obtain ⟨c0, c1, c2, cf, cl, ci⟩ := Box.three b0
        replace hE := hid (Ext.trans hE.out hx)
        replace U0 := hid (Rd.keeps hx U0.out)
        replace T0 := hid (Rd.keeps hx T0.out)
        clear hx bs bi b0 cf cl ci
        go_wp2_with fail
        refine (apply_any _ _ s u _ (hS.out _ hE.out) U0.out).mono ?_
        rintro e W2 ⟨q, rfl, hq, hx⟩
        rw [if_pos he.out] at hq
        replace hq := hid (OwnL.rd hq)
        replace hp := hid (Rd.keeps hx hp.out)
        replace hE := hid (Ext.trans hE.out hx)
        replace U0 := hid (Rd.keeps hx U0.out)
        replace T0 := hid (Rd.keeps hx T0.out)
        clear hx c0 c1 c2
        go_wp2_with fail
        refine (refleq_any _ _ t u _ T0.out U0.out).mono ?_
        rintro e W3 ⟨rfl, hx⟩
        replace hq := hid (Rd.keeps hx hq.out)
        replace hp := hid (Rd.keeps hx hp.out)
        replace hE := hid (Ext.trans hE.out hx)
        clear hx
        go_wp2_with fail
        refine (leq_any _ _ _ _ _ hp.out hq.out).mono ?_
        rintro e W4 ⟨rfl, hx⟩
        replace hE := hid (Ext.trans hE.out hx)
        go_wp2_with fail
        go_ret
        exact ⟨rfl, hE.out⟩
  exact main _ _ rfl rfl

set_option maxRecDepth 100000 in
theorem lifted_SummaryMonotone (os : Os) (started : os.Started) (H : Type) (enc : TypeId × Value → H) :
    ReturnsInHanded {} Try.checked os 8 .any (Rows.summaryMonotoneSpec.pre6 enc Try.prog Try.f8 Rows.summaryMonotoneRow.domain false) (Rows.summaryMonotoneSpec.post enc Try.prog Try.f8 false true false false) := by
  refine returnsInHanded_of_change_sized (C := Try.checked) own started (by kernel_rfl) Try.func8
    (ChangeSpec.witness6 (enc := enc) (C := Try.checked) false ⟨#[], #[.agg #[.int .i64 0, .int .i64 0, .slice none 0 0], .slice none 0 0, .slice none 0 0], []⟩ 8 (by kernel_rfl) (by kernel_rfl) (by kernel_rfl) (by kernel_rfl)) ?_
  intro W base args ds gs before hval0 hW _ hsz0 _
  have hval : ∀ (j : Nat) t v, Try.f8.params[j]? = some t → args[j]? = some v → Value.okWide Try.prog W .any base t v := hval0
  have hW' := hW
  obtain ⟨p, q, hA0, hV, rfl, _, _⟩ := hW
  have hA : DataW.TrodAll enc Try.prog W 0 (fun _ => true) true Try.f8.params.toList args.toList ds p := hA0
  rw [Try.params8] at hA hval
  obtain ⟨v0, vs0, d0, ds0, p0, q0, hargs, rfl, rfl, h0, r0⟩ := trodAll_cons hA
  obtain ⟨v1, vs1, d1, ds1, p1, q1, rfl, rfl, rfl, h1, r1⟩ := trodAll_cons r0
  obtain ⟨v2, vs2, d2, ds2, p2, q2, rfl, rfl, rfl, h2, r2⟩ := trodAll_cons r1
  obtain ⟨rfl, rfl, rfl⟩ := trodAll_nil r2
  obtain rfl : args = #[v0, v1, v2] := by cases args; simp_all
  obtain ⟨rfl, rfl⟩ := trodVars_none hV
  clear hA0 hval0 hsz0
  simp only [List.append_nil] at hW'
  have hlt0 : ∀ x ∈ p0, x.block < W.heap.size := fun x hx => hW'.lt x (by simp [hx])
  have hlt1 : ∀ x ∈ p1, x.block < W.heap.size := fun x hx => hW'.lt x (by simp [hx])
  have hlt2 : ∀ x ∈ p2, x.block < W.heap.size := fun x hx => hW'.lt x (by simp [hx])
  have g0 : InSummary W v0 := open_summary_k (hval 0 32 v0 rfl rfl) h0
  have g1 : InInts W v1 := open_ints_k Try.underlying26 Try.underlying3 cellsInt (hval 1 26 v1 rfl rfl) h1
  have g2 : InInts W v2 := open_ints_k Try.underlying26 Try.underlying3 cellsInt (hval 2 26 v2 rfl rfl) h2
  refine (walk_SummaryMonotone v0 v1 v2 W g0 g1 g2).mono fun e W' ⟨he, hg⟩ => ?_
  subst he
  exact ⟨_, rfl, _, _, _, [], p0 ++ (p1 ++ (p2 ++ [])), [], hW', (trodAll_cons_mk (shut_bool Try.underlying4 _) trodAll_mk0), (trodAll_cons_mk (Below.trod laidOut (by kernel_rfl) (of_decide_eq_true (by kernel_rfl)) h0 hg hlt0) (trodAll_cons_mk (Below.trod laidOut (by kernel_rfl) (of_decide_eq_true (by kernel_rfl)) h1 hg hlt1) (trodAll_cons_mk (Below.trod laidOut (by kernel_rfl) (of_decide_eq_true (by kernel_rfl)) h2 hg hlt2) trodAll_mk0))), rfl, hg.frame _, fun h => by cases h⟩

/-- The statement: whatever the arguments, the law's function returns true and leaves them as they were. -/
theorem summaryMonotone_holds : Rows.SummaryMonotoneSaid :=
  OpenClaim.holds_of_wide 8 Try.f8 rfl rfl rfl rfl rfl rfl rfl ⟨rfl, rfl, rfl, rfl, rfl⟩ rfl rfl rfl rfl rfl (by kernel_rfl) Try.func8 (by kernel_rfl)
    (of_decide_eq_true (by kernel_rfl)) (by unfold Func.isWrapper; first | (rw [if_pos (by decide +kernel)]; kernel_rfl) | (rw [if_neg (by decide +kernel)]; exact ⟨rfl, rfl⟩))
    (fun os started H enc _ => lifted_SummaryMonotone os started H enc)
end Go.Proofs.Ytjfpglmmhikhbaa
