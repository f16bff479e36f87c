/- Two unlike summaries that make times of one length do not make the same of the time of zeros and of that of ones: the law answers true for every two summaries and every number. No condition. -/
import Derived.Test.YtjfpglmmhikhbaaPlainOne
import Derived.Test.YtjfpglmmhikhbaaOpenSum
namespace Go.Proofs.Ytjfpglmmhikhbaa
open Go.RowKit Go.ChangeShapes Go.WideShapes Go.ChangeAt

/-- Two boxes made one behind the other. -/
theorem two_boxes (w : World) (x y : Array Value) (t : TypeId) :
    Ext w ((w.alloc (.cells x t)).alloc (.cells y t)) ∧ Box ((w.alloc (.cells x t)).alloc (.cells y t)) w.heap.size x t ∧ Box ((w.alloc (.cells x t)).alloc (.cells y t)) (w.heap.size + 1) y t := by
  have e1 := Ext.alloc w (.cells x t)
  have e2 := Ext.alloc (w.alloc (.cells x t)) (.cells y t)
  have b1 := Box.new w x t
  have b2 := Box.new (w.alloc (.cells x t)) y t
  simp only [World.size_alloc] at b2
  exact ⟨Ext.trans e1 e2, Box.keeps e2 b1, b2⟩

set_option maxHeartbeats 600000 in
theorem filled_any (n : Nat) (x : Int) (w : World) (hn : n ≤ 4) :
    Calls Try.prog 23 #[.int .i64 n, .int .i64 x] w (RetOwn w (List.replicate n x)) := by
  go_enter Try.func23, Try.ntmps23
  go_wp2_with fail
  go_loopw [5, 6] (fun v i wr => ∃ k : Nat, k ≤ n ∧ i = .int .i64 k ∧ Ext w wr ∧ Hid (Own wr w.heap.size v (List.replicate k x))) (fun _ i _ => n - (intOf i).toNat)
  case atStart => exact ⟨0, Nat.zero_le _, rfl, Ext.refl _, hid (OwnL.nil _ _)⟩
  case round =>
    obtain ⟨k, hk, rfl, hx, hp⟩ := hrel
    by_cases hlt : k < n
    · have hE := hid (Ext.alloc' hx (.cells #[.int .i64 x] 3))
      have ho := hid (OwnL.rd (own_one wr x))
      replace hp := hid (OwnL.keeps (Ext.alloc wr (.cells #[.int .i64 x] 3)) hp.out)
      have hlk := hid (show (List.replicate k x).length + [x].length ≤ 2000000000000 by simp; omega)
      replace hx := hid hx
      go_wp2_with (at_builtin; refine app_row (enc := Value.int .i64) (fun _ => rfl) eltInt (by decide) rfl rfl _ _ rfl w.heap.size _ _ (List.replicate k x) [x] rfl rfl hp.out ho.out hlk.out hE.out.size ?c5)
      case c5 =>
      intro v' w' hown hg
      have hx2 := hid (Ext.grown hE.out hg (OwnL.block hp.out))
      have e : List.replicate k x ++ [x] = List.replicate (k + 1) x := by rw [List.replicate_succ']
      rw [e] at hown
      replace hown := hid hown
      clear hg hp ho hE hlk e hx
      go_wp2_with fail
      go_roundw
      case rel => exact ⟨k + 1, by omega, by go_num, hx2.out, hown⟩
      case measure => simp [intOf]; omega
    · obtain rfl : k = n := by omega
      go_wp2_with fail
      go_ret
      exact ⟨_, rfl, hp.out, hx⟩
set_option maxHeartbeats 1500000 in
theorem walk_SummaryOne (v0 v1 v2 : Value) (w : World) (h0 : InSummary w v0) (h1 : InSummary w v1) (h2 : InInt w v2) :
    Calls Try.prog 7 #[v0, v1, v2] w fun e w' => e = .returned (.bool true) ∧ Ext w w' := by
  obtain ⟨s, ⟨pv, rfl, hp⟩, -⟩ := h0
  obtain ⟨r, ⟨qv, rfl, hq⟩, -⟩ := h1
  obtain ⟨n, rfl, -⟩ := h2
  obtain ⟨hE, bs, br⟩ := two_boxes w #[.int .i64 s.keep, .int .i64 s.add, pv] #[.int .i64 r.keep, .int .i64 r.add, qv] 32
  replace hE := hid hE
  replace bs := hid bs
  replace br := hid br
  have fs := hid (Rd.keeps hE.out hp)
  have fr := hid (Rd.keeps hE.out hq)
  obtain ⟨a, cap, rfl, -, -, -, -⟩ := hp
  obtain ⟨a', cap', rfl, -, -, -, -⟩ := hq
  have bs0 := True.intro; have bs1 := True.intro; have bs2 := True.intro; have bsf := True.intro; have bsl := True.intro; have bsi := True.intro
  have br0 := True.intro; have br1 := True.intro; have br2 := True.intro; have brf := True.intro; have brl := True.intro; have bri := True.intro
  by_cases c1 : sumCheck s n = 0
  case neg =>
    have h1 : (sumCheck s n != 0) = true := by rw [bne_iff_ne]; exact c1
    replace c1 := hid c1
    go_enter Try.func7, Try.ntmps7
    go_wp2_with fail
    refine (sumcheck_any _ s n _ (SumAt.agg' fs.out)).mono ?_
    rintro e W ⟨rfl, hx⟩
    replace hE := hid (Ext.trans hE.out hx)
    clear hx
    go_wp2_with fail
    go_ret
    exact ⟨rfl, hE.out⟩
  have h1 : (sumCheck s n != 0) = false := by rw [bne_eq_false_iff_eq]; exact c1
  have k0 := sumCheck_zero c1
  have hk1 : 0 ≤ (s.push.length : Int) + s.keep := by omega
  have hk2 : (s.push.length : Int) + s.keep ≤ 4 := by omega
  obtain ⟨m, hm⟩ := Int.eq_ofNat_of_zero_le (show 0 ≤ n by omega)
  subst hm
  have hm4 : m ≤ 4 := by omega
  clear k0
  replace c1 := hid c1
  by_cases c2 : sumCheck r m = 0
  case neg =>
    have h2 : (sumCheck r m != 0) = true := by rw [bne_iff_ne]; exact c2
    replace c2 := hid c2
    go_enter Try.func7, Try.ntmps7
    go_wp2_with fail
    refine (sumcheck_any _ s m _ (SumAt.agg' fs.out)).mono ?_
    rintro e W ⟨rfl, hx⟩
    replace bs := hid (Box.keeps hx bs.out)
    clear bs0 bs1 bs2 bsf bsl bsi
    replace br := hid (Box.keeps hx br.out)
    clear br0 br1 br2 brf brl bri
    replace fs := hid (Rd.keeps hx fs.out)
    replace fr := hid (Rd.keeps hx fr.out)
    replace hE := hid (Ext.trans hE.out hx)
    clear hx
    obtain ⟨bs0, bs1, bs2, bsf, bsl, bsi⟩ := Box.three bs.out
    obtain ⟨br0, br1, br2, brf, brl, bri⟩ := Box.three br.out
    clear bs0 bs1 bs2 bsf bsl bsi
    go_wp2_with fail
    refine (sumcheck_any _ r m _ (SumAt.agg' fr.out)).mono ?_
    rintro e W ⟨rfl, hx⟩
    clear br0 br1 br2 brf brl bri
    replace hE := hid (Ext.trans hE.out hx)
    clear hx
    go_wp2_with fail
    go_ret
    exact ⟨rfl, hE.out⟩
  have h2 : (sumCheck r m != 0) = false := by rw [bne_eq_false_iff_eq]; exact c2
  have k0 := sumCheck_zero c2
  have hl1 : 0 ≤ (r.push.length : Int) + r.keep := by omega
  have hl2 : (r.push.length : Int) + r.keep ≤ 4 := by omega
  clear k0
  replace c2 := hid c2
  by_cases c3 : s.keep + s.push.length = r.keep + r.push.length
  case neg =>
    have h3 : ((s.push.length : Int) + s.keep != (r.push.length : Int) + r.keep) = true := by rw [bne_iff_ne]; omega
    replace c3 := hid c3
    go_enter Try.func7, Try.ntmps7
    go_wp2_with fail
    refine (sumcheck_any _ s m _ (SumAt.agg' fs.out)).mono ?_
    rintro e W ⟨rfl, hx⟩
    replace bs := hid (Box.keeps hx bs.out)
    clear bs0 bs1 bs2 bsf bsl bsi
    replace br := hid (Box.keeps hx br.out)
    clear br0 br1 br2 brf brl bri
    replace fs := hid (Rd.keeps hx fs.out)
    replace fr := hid (Rd.keeps hx fr.out)
    replace hE := hid (Ext.trans hE.out hx)
    clear hx
    obtain ⟨bs0, bs1, bs2, bsf, bsl, bsi⟩ := Box.three bs.out
    obtain ⟨br0, br1, br2, brf, brl, bri⟩ := Box.three br.out
    go_wp2_with fail
    refine (sumcheck_any _ r m _ (SumAt.agg' fr.out)).mono ?_
    rintro e W ⟨rfl, hx⟩
    replace bs := hid (Box.keeps hx bs.out)
    clear bs0 bs1 bs2 bsf bsl bsi
    replace br := hid (Box.keeps hx br.out)
    clear br0 br1 br2 brf brl bri
    replace fs := hid (Rd.keeps hx fs.out)
    replace fr := hid (Rd.keeps hx fr.out)
    replace hE := hid (Ext.trans hE.out hx)
    clear hx
    obtain ⟨bs0, bs1, bs2, bsf, bsl, bsi⟩ := Box.three bs.out
    obtain ⟨br0, br1, br2, brf, brl, bri⟩ := Box.three br.out
    go_wp2_with fail
    go_ret
    exact ⟨rfl, hE.out⟩
  have h3 : ((s.push.length : Int) + s.keep != (r.push.length : Int) + r.keep) = false := by rw [bne_eq_false_iff_eq]; omega
  have hlaw := hid (one_law c1.out c2.out c3)
  replace c3 := hid c3
  go_enter Try.func7, Try.ntmps7
  go_wp2_with fail
  refine (sumcheck_any _ s m _ (SumAt.agg' fs.out)).mono ?_
  rintro e W ⟨rfl, hx⟩
  replace bs := hid (Box.keeps hx bs.out)
  clear bs0 bs1 bs2 bsf bsl bsi
  replace br := hid (Box.keeps hx br.out)
  clear br0 br1 br2 brf brl bri
  replace fs := hid (Rd.keeps hx fs.out)
  replace fr := hid (Rd.keeps hx fr.out)
  replace hE := hid (Ext.trans hE.out hx)
  clear hx
  obtain ⟨bs0, bs1, bs2, bsf, bsl, bsi⟩ := Box.three bs.out
  obtain ⟨br0, br1, br2, brf, brl, bri⟩ := Box.three br.out
  go_wp2_with fail
  refine (sumcheck_any _ r m _ (SumAt.agg' fr.out)).mono ?_
  rintro e W0 ⟨rfl, hx⟩
  replace bs := hid (Box.keeps hx bs.out)
  clear bs0 bs1 bs2 bsf bsl bsi
  replace br := hid (Box.keeps hx br.out)
  clear br0 br1 br2 brf brl bri
  replace fs := hid (Rd.keeps hx fs.out)
  replace fr := hid (Rd.keeps hx fr.out)
  replace hE := hid (Ext.trans hE.out hx)
  clear hx
  obtain ⟨bs0, bs1, bs2, bsf, bsl, bsi⟩ := Box.three bs.out
  obtain ⟨br0, br1, br2, brf, brl, bri⟩ := Box.three br.out
  go_wp2_with fail
  clear bs0 bs1 bs2 bsf bsl bsi br0 br1 br2 brf brl bri
  go_loopw [7, 8] (fun b i wr => ∃ k : Nat, k ≤ 2 ∧ i = .int .i64 k ∧ b = .bool (sameTo s r m k) ∧ Ext W0 wr) (fun _ i _ => 2 - (intOf i).toNat)
  case atStart => exact ⟨0, by decide, rfl, rfl, Ext.refl _⟩
  case round =>
    obtain ⟨k, hk, rfl, rfl, hx⟩ := hrel
    have bs' := hid (Box.keeps hx bs.out)
    have br' := hid (Box.keeps hx br.out)
    have fs' := hid (Rd.keeps hx fs.out)
    have fr' := hid (Rd.keeps hx fr.out)
    replace hE := hid (Ext.trans hE.out hx)
    have hx0 := hid hx
    clear bs br fs fr hx
    obtain ⟨bs0, bs1, bs2, bsf, bsl, bsi⟩ := Box.three bs'.out
    by_cases hlt : k < 2
    · clear hlaw
      go_wp2_with fail
      go_region_held3 (fun w' => w'.cell? ⟨w.heap.size, 0, none⟩ = some (.int .i64 s.keep) ∧ w'.cell? ⟨w.heap.size, 1, none⟩ = some (.int .i64 s.add) ∧ w'.cell? ⟨w.heap.size, 2, none⟩ = some (.slice a s.push.length cap))
        (first | exact ⟨Ext.keeps hy3 bs0, Ext.keeps hy3 bs1, Ext.keeps hy3 bs2⟩ | exact ⟨Ext.keeps hy2 bs0, Ext.keeps hy2 bs1, Ext.keeps hy2 bs2⟩ | go_keep)
        (first
          | (go_at_call 23; refine (filled_any m k _ hm4).mono ?_; rintro e w2 ⟨u, rfl, hu, hy2⟩)
          | (go_at_call 22; refine (apply_any _ _ s (List.replicate m (k : Int)) _ (SumAt.agg' (Rd.keeps (Ext.trans (Ext.drew' (Ext.refl _)) hy2) fs'.out)) (OwnL.rd hu)).mono ?_; rintro e w3 ⟨ua, rfl, hua, hz⟩; have hy3 := Ext.trans hy2 hz))
      have hyw := Ext.trans (Ext.drew' (Ext.refl wr)) hy3
      have bs3 := hid (Box.keeps hyw bs'.out)
      have br3 := hid (Box.keeps hyw br'.out)
      have fs3 := hid (Rd.keeps hyw fs'.out)
      have fr3 := hid (Rd.keeps hyw fr'.out)
      replace hE := hid (Ext.trans hE.out hyw)
      replace hx0 := hid (Ext.trans hx0.out hyw)
      have ha3 := hid (show Ints w3 ua (resA s (List.replicate m (k : Int))) from OwnL.rd hua)
      rename_i hHeld
      clear hHeld hua hz hy3 hy2 hu hyw bs' br' fs' fr' bs0 bs1 bs2 bsf bsl bsi
      obtain ⟨br0, br1, br2, brf, brl, bri⟩ := Box.three br3.out
      go_wp2_with fail
      go_region_held3 (fun w' => w'.cell? ⟨w.heap.size + 1, 0, none⟩ = some (.int .i64 r.keep) ∧ w'.cell? ⟨w.heap.size + 1, 1, none⟩ = some (.int .i64 r.add) ∧ w'.cell? ⟨w.heap.size + 1, 2, none⟩ = some (.slice a' r.push.length cap'))
        (first | exact ⟨Ext.keeps hy5 br0, Ext.keeps hy5 br1, Ext.keeps hy5 br2⟩ | exact ⟨Ext.keeps hy4 br0, Ext.keeps hy4 br1, Ext.keeps hy4 br2⟩ | go_keep)
        (first
          | (go_at_call 23; refine (filled_any m k _ hm4).mono ?_; rintro e w4 ⟨u4, rfl, hu, hy4⟩)
          | (go_at_call 22; refine (apply_any _ _ r (List.replicate m (k : Int)) _ (SumAt.agg' (Rd.keeps (Ext.trans (Ext.drew' (Ext.refl _)) hy4) fr3.out)) (OwnL.rd hu)).mono ?_; rintro e w5 ⟨ub, rfl, hub, hz⟩; have hy5 := Ext.trans hy4 hz))
      have hyw := Ext.trans (Ext.drew' (Ext.refl w3)) hy5
      replace ha3 := hid (Rd.keeps hyw ha3.out)
      replace hE := hid (Ext.trans hE.out hyw)
      replace hx0 := hid (Ext.trans hx0.out hyw)
      have hb3 := hid (show Ints w5 ub (resA r (List.replicate m (k : Int))) from OwnL.rd hub)
      rename_i hHeld2
      clear hHeld2 hub hz hy5 hy4 hu hyw br3 br0 br1 br2 brf brl bri bs3 fs3 fr3
      cases d1 : (applyErr s (List.replicate m (k : Int)) != applyErr r (List.replicate m (k : Int))) with
      | true =>
        have hsame := hid (show sameTo s r m (k + 1) = false by simp [sameTo, dif, d1])
        go_wp2_with fail
        go_roundw
        case rel => exact ⟨k + 1, by omega, by go_num, by rw [hsame.out], hx0.out⟩
        case measure => simp [intOf]; omega
      | false =>
        cases d2 : eqB (resA s (List.replicate m (k : Int))) (resA r (List.replicate m (k : Int))) with
        | true =>
          have hsame := hid (show sameTo s r m (k + 1) = sameTo s r m k by simp [sameTo, dif, d1, d2])
          go_wp2_with fail
          refine (same_any _ _ _ _ _ ha3.out hb3.out).mono ?_
          rintro e w6 ⟨rfl, hx⟩
          replace hx0 := hid (Ext.trans hx0.out hx)
          clear hx
          go_wp2_with fail
          go_roundw
          case rel => exact ⟨k + 1, by omega, by go_num, by rw [hsame.out], hx0.out⟩
          case measure => simp [intOf]; omega
        | false =>
          have hsame := hid (show sameTo s r m (k + 1) = false by simp [sameTo, dif, d2])
          go_wp2_with fail
          refine (same_any _ _ _ _ _ ha3.out hb3.out).mono ?_
          rintro e w6 ⟨rfl, hx⟩
          replace hx0 := hid (Ext.trans hx0.out hx)
          clear hx
          go_wp2_with fail
          go_roundw
          case rel => exact ⟨k + 1, by omega, by go_num, by rw [hsame.out], hx0.out⟩
          case measure => simp [intOf]; omega
    · obtain rfl : k = 2 := by omega
      have hlaw2 := hlaw.out
      obtain ⟨br0, br1, br2, brf, brl, bri⟩ := Box.three br'.out
      go_wp2_with fail
      refine (sumsame_any _ _ s r _ (SumAt.agg' fs'.out) (SumAt.agg' fr'.out)).mono ?_
      rintro e w6 ⟨rfl, hx⟩
      replace hE := hid (Ext.trans hE.out hx)
      clear hx bs0 bs1 bs2 bsf bsl bsi br0 br1 br2 brf brl bri
      go_wp2_with fail
      go_ret
      exact ⟨rfl, hE.out⟩

set_option maxRecDepth 100000 in
theorem lifted_SummaryOne (os : Os) (started : os.Started) (H : Type) (enc : TypeId × Value → H) :
    ReturnsInHanded {} Try.checked os 7 .any (Rows.summaryOneSpec.pre6 enc Try.prog Try.f7 Rows.summaryOneRow.domain false) (Rows.summaryOneSpec.post enc Try.prog Try.f7 false true false false) := by
  refine returnsInHanded_of_change_sized (C := Try.checked) own started (by kernel_rfl) Try.func7
    (ChangeSpec.witness6 (enc := enc) (C := Try.checked) false ⟨#[], #[.agg #[.int .i64 0, .int .i64 0, .slice none 0 0], .agg #[.int .i64 0, .int .i64 0, .slice none 0 0], .int .i64 0], []⟩ 8 (by kernel_rfl) (by kernel_rfl) (by kernel_rfl) (by kernel_rfl)) ?_
  intro W base args ds gs before hval0 hW _ hsz0 _
  have hval : ∀ (j : Nat) t v, Try.f7.params[j]? = some t → args[j]? = some v → Value.okWide Try.prog W .any base t v := hval0
  have hW' := hW
  obtain ⟨p, q, hA0, hV, rfl, _, _⟩ := hW
  have hA : DataW.TrodAll enc Try.prog W 0 (fun _ => true) true Try.f7.params.toList args.toList ds p := hA0
  rw [Try.params7] at hA hval
  obtain ⟨v0, vs0, d0, ds0, p0, q0, hargs, rfl, rfl, h0, r0⟩ := trodAll_cons hA
  obtain ⟨v1, vs1, d1, ds1, p1, q1, rfl, rfl, rfl, h1, r1⟩ := trodAll_cons r0
  obtain ⟨v2, vs2, d2, ds2, p2, q2, rfl, rfl, rfl, h2, r2⟩ := trodAll_cons r1
  obtain ⟨rfl, rfl, rfl⟩ := trodAll_nil r2
  obtain rfl : args = #[v0, v1, v2] := by cases args; simp_all
  obtain ⟨rfl, rfl⟩ := trodVars_none hV
  clear hA0 hval0 hsz0
  simp only [List.append_nil] at hW'
  have hlt0 : ∀ x ∈ p0, x.block < W.heap.size := fun x hx => hW'.lt x (by simp [hx])
  have hlt1 : ∀ x ∈ p1, x.block < W.heap.size := fun x hx => hW'.lt x (by simp [hx])
  have hlt2 : ∀ x ∈ p2, x.block < W.heap.size := fun x hx => hW'.lt x (by simp [hx])
  have g0 : InSummary W v0 := open_summary_k (hval 0 32 v0 rfl rfl) h0
  have g1 : InSummary W v1 := open_summary_k (hval 1 32 v1 rfl rfl) h1
  have g2 : InInt W v2 := open_int_k Try.underlying3 (hval 2 3 v2 rfl rfl) h2
  refine (walk_SummaryOne v0 v1 v2 W g0 g1 g2).mono fun e W' ⟨he, hg⟩ => ?_
  subst he
  exact ⟨_, rfl, _, _, _, [], p0 ++ (p1 ++ (p2 ++ [])), [], hW', (trodAll_cons_mk (shut_bool Try.underlying4 _) trodAll_mk0), (trodAll_cons_mk (Below.trod laidOut (by kernel_rfl) (of_decide_eq_true (by kernel_rfl)) h0 hg hlt0) (trodAll_cons_mk (Below.trod laidOut (by kernel_rfl) (of_decide_eq_true (by kernel_rfl)) h1 hg hlt1) (trodAll_cons_mk (Below.trod laidOut (by kernel_rfl) (of_decide_eq_true (by kernel_rfl)) h2 hg hlt2) trodAll_mk0))), rfl, hg.frame _, fun h => by cases h⟩

/-- The statement: whatever the arguments, the law's function returns true and leaves them as they were. -/
theorem summaryOne_holds : Rows.SummaryOneSaid :=
  OpenClaim.holds_of_wide 7 Try.f7 rfl rfl rfl rfl rfl rfl rfl ⟨rfl, rfl, rfl, rfl, rfl⟩ rfl rfl rfl rfl rfl (by kernel_rfl) Try.func7 (by kernel_rfl)
    (of_decide_eq_true (by kernel_rfl)) (by unfold Func.isWrapper; first | (rw [if_pos (by decide +kernel)]; kernel_rfl) | (rw [if_neg (by decide +kernel)]; exact ⟨rfl, rfl⟩))
    (fun os started H enc _ => lifted_SummaryOne os started H enc)
end Go.Proofs.Ytjfpglmmhikhbaa
