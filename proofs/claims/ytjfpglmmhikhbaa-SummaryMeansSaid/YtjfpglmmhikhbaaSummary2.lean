/- Contracts of package summary and its reference, second part: sameness, places, Leq of the reference. -/
import Derived.Test.YtjfpglmmhikhbaaSummary
namespace Go.Proofs.Ytjfpglmmhikhbaa
open Go.RowKit

def eqS (s r : Sm) : Bool := decide (s.keep = r.keep) && (decide (s.add = r.add) && eqB s.push r.push)
set_option maxHeartbeats 400000 in
theorem sumsame_any (v u : Value) (s r : Sm) (w : World) (hv : SumAt w v s) (hu : SumAt w u r) :
    Calls Try.prog 20 #[v, u] w fun e w' => e = .returned (.bool (eqS s r)) ∧ Ext w w' := by
  obtain ⟨pv, rfl, hp⟩ := hv
  obtain ⟨qv, rfl, hq⟩ := hu
  have hE := hid (Ext.alloc' (Ext.alloc w (.cells #[.int .i64 s.keep, .int .i64 s.add, pv] 32)) (.cells #[.int .i64 r.keep, .int .i64 r.add, qv] 32))
  have hp1 := hid hp
  have hq1 := hid hq
  obtain ⟨a, cap, rfl, -, -, -, -⟩ := hp
  obtain ⟨a', cap', rfl, -, -, -, -⟩ := hq
  by_cases h1 : s.keep = r.keep
  case neg =>
    have h1' : (s.keep == r.keep) = false := by rw [beq_eq_false_iff_ne]; exact h1
    have hf := hid (show eqS s r = false by simp [eqS, h1])
    replace h1 := hid h1
    go_enter Try.func20, Try.ntmps20
    go_wp2_with fail
    go_ret
    exact ⟨ret_bool hf.out.symm, hE.out⟩
  have h1' : (s.keep == r.keep) = true := by rw [beq_iff_eq]; exact h1
  replace h1 := hid h1
  by_cases h2 : s.add = r.add
  case neg =>
    have h2' : (s.add == r.add) = false := by rw [beq_eq_false_iff_ne]; exact h2
    have hf := hid (show eqS s r = false by simp [eqS, h2])
    replace h2 := hid h2
    go_enter Try.func20, Try.ntmps20
    go_wp2_with fail
    go_ret
    exact ⟨ret_bool hf.out.symm, hE.out⟩
  have h2' : (s.add == r.add) = true := by rw [beq_iff_eq]; exact h2
  replace h2 := hid h2
  have hf := hid (show eqS s r = eqB s.push r.push by simp [eqS, h1.out, h2.out])
  go_enter Try.func20, Try.ntmps20
  go_wp2_with fail
  refine (same_any _ _ _ _ _ (Rd.keeps hE.out hp1.out) (Rd.keeps hE.out hq1.out)).mono ?_
  rintro e w' ⟨rfl, hx'⟩
  replace hE := hid (Ext.trans hE.out hx')
  clear hx'
  go_wp2_with fail
  go_ret
  exact ⟨ret_bool hf.out.symm, hE.out⟩

/-- What a summary has at a place. -/
def placeN (s : Sm) (i : Int) : Int := if s.keep ≤ i then nth s.push (i - s.keep).toNat else if i = s.keep - 1 then s.add else 0
set_option maxHeartbeats 400000 in
theorem place_any (v : Value) (s : Sm) (i : Int) (w : World) (hv : SumAt w v s) (h1 : 1 ≤ s.keep) (h4 : s.keep ≤ 4) (hi : 0 ≤ i) (hi' : i < s.keep + s.push.length) (hl : s.push.length ≤ 4) :
    Calls Try.prog 40 #[v, .int .i64 i] w fun e w' => e = .returned (.int .i64 (placeN s i)) ∧ Ext w w' := by
  obtain ⟨pv, rfl, hp⟩ := hv
  obtain ⟨a, cap, rfl, -, -, ha, hc⟩ := hp
  have hE := hid (Ext.alloc w (.cells #[.int .i64 s.keep, .int .i64 s.add, .slice a s.push.length cap] 32))
  by_cases c1 : s.keep ≤ i
  · have hf := hid (show placeN s i = nth s.push (i - s.keep).toNat by simp [placeN, c1])
    obtain ⟨j, hj⟩ := Int.eq_ofNat_of_zero_le (show 0 ≤ i - s.keep by omega)
    have hjl : j < s.push.length := by omega
    obtain ⟨b, off, rfl⟩ := ha.resolve_left (by omega)
    have hcell := hc b off rfl j hjl
    have hb := cell_lt hcell
    clear hc ha
    obtain rfl : i = s.keep + j := by omega
    have hw : s.keep + (j : Int) - s.keep = j := by omega
    have hw2 : (s.keep + (j : Int) - s.keep).toNat = j := by omega
    have hf2 := hid (show placeN s (s.keep + j) = nth s.push j by rw [hf.out, hw2])
    clear hj hf
    go_enter Try.func40, Try.ntmps40
    go_wp2_with fail
    go_ret
    exact ⟨ret_int hf2.out.symm, hE.out⟩
  by_cases c2 : i = s.keep - 1
  · have hf := hid (show placeN s i = s.add by unfold placeN; rw [if_neg c1, if_pos c2])
    have h2 : (i == s.keep - 1) = true := by rw [beq_iff_eq]; exact c2
    replace c2 := hid c2
    clear ha hc
    go_enter Try.func40, Try.ntmps40
    go_wp2_with fail
    go_ret
    exact ⟨ret_int hf.out.symm, hE.out⟩
  have hf := hid (show placeN s i = 0 by unfold placeN; rw [if_neg c1, if_neg c2])
  have h2 : (i == s.keep - 1) = false := by rw [beq_eq_false_iff_ne]; exact c2
  replace c2 := hid c2
  clear ha hc
  go_enter Try.func40, Try.ntmps40
  go_wp2_with fail
  go_ret
  exact ⟨ret_int hf.out.symm, hE.out⟩

/-- Leq of summaries. -/
def leqP (s r : Sm) : Prop := sumCheck s 4 = 0 ∧ sumCheck r 4 = 0 ∧ s.keep + s.push.length = r.keep + r.push.length ∧
  ∀ k : Nat, (k : Int) < s.keep + s.push.length → placeN s k ≤ placeN r k ∧ ((k : Int) < s.keep → (k : Int) < r.keep)
noncomputable instance (s r : Sm) : Decidable (leqP s r) := Classical.propDecidable _
noncomputable def leqS (s r : Sm) : Bool := decide (leqP s r)
theorem leqS_no {s r : Sm} (h : ¬ leqP s r) : leqS s r = false := decide_eq_false h
theorem leqS_yes {s r : Sm} (h : leqP s r) : leqS s r = true := decide_eq_true h
theorem leqS_true {s r : Sm} : leqS s r = true ↔ leqP s r := decide_eq_true_iff

set_option maxHeartbeats 1000000 in
theorem refsumleq_any (v u : Value) (s r : Sm) (w : World) (hv : SumAt w v s) (hu : SumAt w u r) :
    Calls Try.prog 26 #[v, u] w fun e w' => e = .returned (.bool (leqS s r)) ∧ Ext w w' := by
  have hS := hid (fun w' (hx : Ext w w') => SumAt.keeps hx hv)
  have hR := hid (fun w' (hx : Ext w w') => SumAt.keeps hx hu)
  obtain ⟨pv, rfl, hp⟩ := hv
  obtain ⟨qv, rfl, hq⟩ := hu
  have hE := hid (Ext.alloc' (Ext.alloc w (.cells #[.int .i64 s.keep, .int .i64 s.add, pv] 32)) (.cells #[.int .i64 r.keep, .int .i64 r.add, qv] 32))
  obtain ⟨a, cap, rfl, -, -, -, -⟩ := hp
  obtain ⟨a', cap', rfl, -, -, -, -⟩ := hq
  by_cases c1 : sumCheck s 4 = 0
  case neg =>
    have h1 : (sumCheck s 4 != 0) = true := by rw [bne_iff_ne]; exact c1
    replace c1 := hid c1
    go_enter Try.func26, Try.ntmps26
    go_wp2_with fail
    refine region_ext (by kernel_rfl) (by kernel_rfl) ?_
    repeat (go_big_quiet_step (((go_at_call 38; exact Calls.quiet_ext (refsumcheck_any _ s 4 _ (hS.out _ (Ext.grow hE.out _)))))))
    refine wpQuiet_nil ?_
    rintro _ ⟨g1, rfl⟩
    go_wp2_with fail
    go_ret
    exact ⟨ret_bool (leqS_no (fun h => c1.out h.1)).symm, Ext.grow hE.out g1⟩
  have h1 : (sumCheck s 4 != 0) = false := by rw [bne_eq_false_iff_eq]; exact c1
  obtain ⟨-, -, k1, k2, k3, -, -⟩ := sumCheck_zero c1
  replace c1 := hid c1
  by_cases c2 : sumCheck r 4 = 0
  case neg =>
    have h2 : (sumCheck r 4 != 0) = true := by rw [bne_iff_ne]; exact c2
    replace c2 := hid c2
    go_enter Try.func26, Try.ntmps26
    go_wp2_with fail
    refine region_ext (by kernel_rfl) (by kernel_rfl) ?_
    repeat (go_big_quiet_step ((first | (go_at_call 38; with_reducible exact Calls.quiet_ext (refsumcheck_any _ s 4 _ (hS.out _ (Ext.grow hE.out _)))) | (go_at_call 38; with_reducible exact Calls.quiet_ext (refsumcheck_any _ r 4 _ (hR.out _ (Ext.grow hE.out _)))))))
    refine wpQuiet_nil ?_
    rintro _ ⟨g1, rfl⟩
    go_wp2_with fail
    go_ret
    exact ⟨ret_bool (leqS_no (fun h => c2.out h.2.1)).symm, Ext.grow hE.out g1⟩
  have h2 : (sumCheck r 4 != 0) = false := by rw [bne_eq_false_iff_eq]; exact c2
  obtain ⟨-, -, r1, r2, r3, -, -⟩ := sumCheck_zero c2
  replace c2 := hid c2
  by_cases c3 : s.keep + s.push.length = r.keep + r.push.length
  case neg =>
    have h3 : (s.keep + (s.push.length : Int) != r.keep + (r.push.length : Int)) = true := by rw [bne_iff_ne]; exact c3
    replace c3 := hid c3
    go_enter Try.func26, Try.ntmps26
    go_wp2_with fail
    refine region_ext (by kernel_rfl) (by kernel_rfl) ?_
    repeat (go_big_quiet_step ((first | (go_at_call 38; with_reducible exact Calls.quiet_ext (refsumcheck_any _ s 4 _ (hS.out _ (Ext.grow hE.out _)))) | (go_at_call 38; with_reducible exact Calls.quiet_ext (refsumcheck_any _ r 4 _ (hR.out _ (Ext.grow hE.out _)))) | (go_at_call 39; with_reducible exact Calls.quiet_ext (refout_any _ s _ (hS.out _ (Ext.grow hE.out _)) (by omega) (by omega) (by omega))) | (go_at_call 39; with_reducible exact Calls.quiet_ext (refout_any _ r _ (hR.out _ (Ext.grow hE.out _)) (by omega) (by omega) (by omega))))))
    refine wpQuiet_nil ?_
    rintro _ ⟨g1, rfl⟩
    go_wp2_with fail
    go_ret
    exact ⟨ret_bool (leqS_no (fun h => c3.out h.2.2.1)).symm, Ext.grow hE.out g1⟩
  have h3 : (s.keep + (s.push.length : Int) != r.keep + (r.push.length : Int)) = false := by rw [bne_eq_false_iff_eq]; exact c3
  have c3' : s.keep + s.push.length ≤ r.keep + r.push.length := by omega
  replace c3 := hid c3
  go_enter Try.func26, Try.ntmps26
  go_wp2_with fail
  refine region_ext (by kernel_rfl) (by kernel_rfl) ?_
  repeat (go_big_quiet_step ((first | (go_at_call 38; with_reducible exact Calls.quiet_ext (refsumcheck_any _ s 4 _ (hS.out _ (Ext.grow hE.out _)))) | (go_at_call 38; with_reducible exact Calls.quiet_ext (refsumcheck_any _ r 4 _ (hR.out _ (Ext.grow hE.out _)))) | (go_at_call 39; with_reducible exact Calls.quiet_ext (refout_any _ s _ (hS.out _ (Ext.grow hE.out _)) (by omega) (by omega) (by omega))) | (go_at_call 39; with_reducible exact Calls.quiet_ext (refout_any _ r _ (hR.out _ (Ext.grow hE.out _)) (by omega) (by omega) (by omega))))))
  refine wpQuiet_nil ?_
  rintro _ ⟨g1, rfl⟩
  go_wp2_with fail
  go_loopw [5] (fun i wr => ∃ k : Nat, (k : Int) ≤ s.keep + s.push.length ∧ i = .int .i64 k ∧ Ext ((w.alloc (.cells #[.int .i64 s.keep, .int .i64 s.add, .slice a s.push.length cap] 32)).alloc (.cells #[.int .i64 r.keep, .int .i64 r.add, .slice a' r.push.length cap'] 32)) wr ∧ Hid (∀ j : Nat, j < k → placeN s j ≤ placeN r j ∧ ((j : Int) < s.keep → (j : Int) < r.keep)))
    (fun i _ => (s.keep + s.push.length - intOf i).toNat)
  case atStart => exact ⟨0, by simp; omega, rfl, ext_grow _ _, hid (fun j hj => by omega)⟩
  case round =>
    obtain ⟨k, hk, rfl, hx, hp⟩ := hrel
    obtain ⟨g, rfl⟩ := Ext.out hx
    replace hx := hid hx
    by_cases hlt : (k : Int) < s.keep + s.push.length
    · have hltr : (k : Int) < r.keep + r.push.length := by omega
      by_cases d1 : placeN r k < placeN s k
      · have d1' := hid d1
        have d1b : decide (placeN r k < placeN s k) = true := decide_eq_true d1
        go_wp2_with fail
        refine (refout_any _ s _ (hS.out _ (Ext.grow hE.out _)) (by omega) (by omega) (by omega)).mono ?_
        rintro e w' ⟨rfl, hx'⟩
        replace hx' := hid (Ext.trans hx.out hx')
        obtain ⟨g2, rfl⟩ := Ext.out hx'.out
        have hE2 := hid (Ext.grow hE.out g2)
        go_wp2_with fail
        refine region_ext (by kernel_rfl) (by kernel_rfl) ?_
        repeat (go_big_quiet_step ((first | (go_at_call 40; with_reducible exact Calls.quiet_ext (place_any _ s k _ (hS.out _ (Ext.grow hE2.out _)) (by omega) (by omega) (by omega) (by omega) (by omega))) | (go_at_call 40; with_reducible exact Calls.quiet_ext (place_any _ r k _ (hR.out _ (Ext.grow hE2.out _)) (by omega) (by omega) (by omega) (by omega) (by omega))))))
        refine wpQuiet_nil ?_
        rintro _ ⟨g3, rfl⟩
        go_wp2_with fail
        go_ret
        exact ⟨ret_bool (leqS_no (fun h => by have := (h.2.2.2 k hlt).1; omega)).symm, Ext.grow hE2.out g3⟩
      have d1' : placeN s k ≤ placeN r k := by omega
      have d1b : decide (placeN r k < placeN s k) = false := decide_eq_false d1
      by_cases d2 : (k : Int) < s.keep
      · have d2b : decide ((k : Int) < s.keep) = true := decide_eq_true d2
        by_cases d3 : (k : Int) < r.keep
        · have d3' : ¬ (r.keep ≤ (k : Int)) := by omega
          go_wp2_with fail
          refine (refout_any _ s _ (hS.out _ (Ext.grow hE.out _)) (by omega) (by omega) (by omega)).mono ?_
          rintro e w' ⟨rfl, hx'⟩
          replace hx' := hid (Ext.trans hx.out hx')
          obtain ⟨g2, rfl⟩ := Ext.out hx'.out
          have hE2 := hid (Ext.grow hE.out g2)
          go_wp2_with fail
          refine region_ext (by kernel_rfl) (by kernel_rfl) ?_
          repeat (go_big_quiet_step ((first | (go_at_call 40; with_reducible exact Calls.quiet_ext (place_any _ s k _ (hS.out _ (Ext.grow hE2.out _)) (by omega) (by omega) (by omega) (by omega) (by omega))) | (go_at_call 40; with_reducible exact Calls.quiet_ext (place_any _ r k _ (hR.out _ (Ext.grow hE2.out _)) (by omega) (by omega) (by omega) (by omega) (by omega))))))
          refine wpQuiet_nil ?_
          rintro _ ⟨g3, rfl⟩
          go_wp2_with fail
          go_roundw
          case rel => exact ⟨k + 1, by omega, by go_num, Ext.grow hx'.out g3, hid (lt_succ_all k hp.out ⟨d1', fun _ => d3⟩)⟩
          case measure => simp [intOf]; omega
        · have d3' : r.keep ≤ (k : Int) := by omega
          go_wp2_with fail
          refine (refout_any _ s _ (hS.out _ (Ext.grow hE.out _)) (by omega) (by omega) (by omega)).mono ?_
          rintro e w' ⟨rfl, hx'⟩
          replace hx' := hid (Ext.trans hx.out hx')
          obtain ⟨g2, rfl⟩ := Ext.out hx'.out
          have hE2 := hid (Ext.grow hE.out g2)
          go_wp2_with fail
          refine region_ext (by kernel_rfl) (by kernel_rfl) ?_
          repeat (go_big_quiet_step ((first | (go_at_call 40; with_reducible exact Calls.quiet_ext (place_any _ s k _ (hS.out _ (Ext.grow hE2.out _)) (by omega) (by omega) (by omega) (by omega) (by omega))) | (go_at_call 40; with_reducible exact Calls.quiet_ext (place_any _ r k _ (hR.out _ (Ext.grow hE2.out _)) (by omega) (by omega) (by omega) (by omega) (by omega))))))
          refine wpQuiet_nil ?_
          rintro _ ⟨g3, rfl⟩
          go_wp2_with fail
          go_ret
          exact ⟨ret_bool (leqS_no (fun h => by have := (h.2.2.2 k hlt).2 d2; omega)).symm, Ext.grow hE2.out g3⟩
      · have d2' : s.keep ≤ (k : Int) := by omega
        have d2b : decide ((k : Int) < s.keep) = false := decide_eq_false d2
        go_wp2_with fail
        refine (refout_any _ s _ (hS.out _ (Ext.grow hE.out _)) (by omega) (by omega) (by omega)).mono ?_
        rintro e w' ⟨rfl, hx'⟩
        replace hx' := hid (Ext.trans hx.out hx')
        obtain ⟨g2, rfl⟩ := Ext.out hx'.out
        have hE2 := hid (Ext.grow hE.out g2)
        go_wp2_with fail
        refine region_ext (by kernel_rfl) (by kernel_rfl) ?_
        repeat (go_big_quiet_step ((first | (go_at_call 40; with_reducible exact Calls.quiet_ext (place_any _ s k _ (hS.out _ (Ext.grow hE2.out _)) (by omega) (by omega) (by omega) (by omega) (by omega))) | (go_at_call 40; with_reducible exact Calls.quiet_ext (place_any _ r k _ (hR.out _ (Ext.grow hE2.out _)) (by omega) (by omega) (by omega) (by omega) (by omega))))))
        refine wpQuiet_nil ?_
        rintro _ ⟨g3, rfl⟩
        go_wp2_with fail
        go_roundw
        case rel => exact ⟨k + 1, by omega, by go_num, Ext.grow hx'.out g3, hid (lt_succ_all k hp.out ⟨d1', fun h => by omega⟩)⟩
        case measure => simp [intOf]; omega
    · go_wp2_with fail
      refine (refout_any _ s _ (hS.out _ (Ext.grow hE.out _)) (by omega) (by omega) (by omega)).mono ?_
      rintro e w' ⟨rfl, hx'⟩
      obtain ⟨g2, rfl⟩ := Ext.out hx'
      go_wp2_with fail
      go_ret
      exact ⟨ret_bool (leqS_yes ⟨c1.out, c2.out, c3.out, fun j hj => hp.out j (by omega)⟩).symm, Ext.grow (Ext.grow hE.out g) g2⟩
end Go.Proofs.Ytjfpglmmhikhbaa
