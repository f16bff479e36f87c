/- Contracts of package times. -/
import Derived.Test.YtjfpglmmhikhbaaBase
namespace Go.Proofs.Ytjfpglmmhikhbaa
open Go.RowKit

def badCoord (x : Int) : Bool := decide (x < 0) || decide (1048576 < x)
def timeCheck (xs : List Int) : Int := if xs.length = 0 ∨ 4 < xs.length then 1 else if xs.any badCoord then 2 else 0
theorem timeCheck_large (xs : List Int) (h : xs.length = 0 ∨ 4 < xs.length) : timeCheck xs = 1 := by unfold timeCheck; rw [if_pos h]
theorem timeCheck_arg (xs : List Int) (h0 : ¬ xs.length = 0) (h4 : ¬ 4 < xs.length) (h : xs.any badCoord = true) : timeCheck xs = 2 := by unfold timeCheck; rw [if_neg (by omega), if_pos h]
theorem timeCheck_ok (xs : List Int) (h0 : ¬ xs.length = 0) (h4 : ¬ 4 < xs.length) (h : xs.any badCoord = false) : timeCheck xs = 0 := by unfold timeCheck; rw [if_neg (by omega), if_neg (by simp [h])]
theorem badCoord_lo {x : Int} (h : x < 0) : badCoord x = true := by simp [badCoord, h]
theorem badCoord_hi {x : Int} (h : 1048576 < x) : badCoord x = true := by simp [badCoord, h]
theorem badCoord_no {x : Int} (h : 0 ≤ x) (h' : x ≤ 1048576) : badCoord x = false := by simp [badCoord]; omega

set_option maxHeartbeats 400000 in
theorem check_any (v : Value) (xs : List Int) (w : World) (hv : Ints w v xs) :
    Calls Try.prog 28 #[v] w fun e w' => e = .returned (.int .i64 (timeCheck xs)) ∧ w = w' := by
  obtain ⟨a, cap, rfl, hl, -, ha, hc⟩ := hv
  by_cases h0 : xs.length = 0
  · have h1 : ((xs.length : Int) == 0) = true := by simp [h0]
    rw [timeCheck_large xs (.inl h0)]
    go_enter Try.func28, Try.ntmps28
    go_wp2
    go_ret
    exact ⟨rfl, rfl⟩
  have h1 : ((xs.length : Int) == 0) = false := by rw [beq_eq_false_iff_ne]; omega
  by_cases h4 : 4 < xs.length
  · rw [timeCheck_large xs (.inr h4)]
    go_enter Try.func28, Try.ntmps28
    go_wp2
    go_ret
    exact ⟨rfl, rfl⟩
  obtain ⟨b, off, rfl⟩ := ha.resolve_left h0
  have hc := hid (hc b off rfl)
  clear ha
  go_enter Try.func28, Try.ntmps28
  go_wp2
  go_loop [15] (fun i => ∃ k : Nat, k ≤ xs.length ∧ i = .int .i64 k ∧ (xs.take k).any badCoord = false) (fun i => xs.length - (intOf i).toNat)
  case atStart => exact ⟨0, Nat.zero_le _, rfl, rfl⟩
  case round =>
    obtain ⟨k, hk, rfl, hp⟩ := hrel
    replace hp := hid hp
    by_cases hlt : k < xs.length
    · have hcell := hc.out k hlt
      have hs := hid (any_take_succ badCoord xs k hlt)
      have ha := hid (fun h => timeCheck_arg xs h0 h4 (any_of_nth _ xs k hlt h))
      by_cases hlo : nth xs k < 0
      · go_wp2
        go_ret
        exact ⟨ret_int (ha.out (badCoord_lo hlo)).symm, rfl⟩
      by_cases hhi : 1048576 < nth xs k
      · go_wp2
        go_ret
        exact ⟨ret_int (ha.out (badCoord_hi hhi)).symm, rfl⟩
      go_wp2
      go_round
      case rel => exact ⟨k+1, by omega, by go_num, by rw [hs.out, hp.out, badCoord_no (by omega) (by omega)]; rfl⟩
      case measure => simp [intOf]; omega
    · go_wp2
      go_ret
      exact ⟨ret_int (timeCheck_ok xs h0 h4 (by rw [← hp.out, List.take_of_length_le (by omega)])).symm, rfl⟩

def eqB (xs ys : List Int) : Bool := decide (xs = ys)
theorem eqB_len {xs ys : List Int} (h : ¬ xs.length = ys.length) : eqB xs ys = false := by simp [eqB]; rintro rfl; exact h rfl
theorem eqB_ne {xs ys : List Int} (k : Nat) (h : ¬ nth xs k = nth ys k) : eqB xs ys = false := by simp [eqB]; rintro rfl; exact h rfl
theorem eqB_all {xs ys : List Int} (hl : xs.length = ys.length) (h : ∀ k, k < xs.length → nth xs k = nth ys k) : eqB xs ys = true := by
  simp [eqB]; exact nth_ext hl h

set_option maxHeartbeats 400000 in
theorem same_any (v u : Value) (xs ys : List Int) (w : World) (hv : Ints w v xs) (hu : Ints w u ys) :
    Calls Try.prog 17 #[v, u] w fun e w' => e = .returned (.bool (eqB xs ys)) ∧ Ext w w' := by
  obtain ⟨a, cap, rfl, hl, -, ha, hc⟩ := hv
  obtain ⟨a', cap', rfl, hl', -, ha', hc'⟩ := hu
  replace hc := hid hc
  have hc' := hid hc'
  replace ha := hid ha
  have ha' := hid ha'
  by_cases hlen : xs.length = ys.length
  case neg =>
    have h1 : ((xs.length : Int) != (ys.length : Int)) = true := by rw [bne_iff_ne]; omega
    go_enter Try.func17, Try.ntmps17
    go_wp2
    go_ret
    exact ⟨ret_bool (eqB_len hlen).symm, Ext.refl _⟩
  have h1 : ((xs.length : Int) != (ys.length : Int)) = false := by rw [bne_eq_false_iff_eq]; omega
  replace hlen := hid hlen
  go_enter Try.func17, Try.ntmps17
  go_wp2
  go_loopw [5] (fun i wr => ∃ k : Nat, k ≤ xs.length ∧ i = .int .i64 k ∧ Ext w wr ∧ Hid (∀ j, j < k → nth xs j = nth ys j)) (fun i _ => xs.length - (intOf i).toNat)
  case atStart => exact ⟨0, Nat.zero_le _, rfl, Ext.refl _, hid (fun j hj => by omega)⟩
  case round =>
    obtain ⟨k, hk, rfl, hx, hp⟩ := hrel
    obtain ⟨g, rfl⟩ := Ext.out hx
    by_cases hlt : k < xs.length
    · obtain ⟨b, off, rfl⟩ := ha.out.resolve_left (by omega)
      obtain ⟨b', off', rfl⟩ := ha'.out.resolve_left (by have := hlen.out; omega)
      have hlt' : k < ys.length := by have := hlen.out; omega
      have hcell := hc.out b off rfl k hlt
      have hcell' := hc'.out b' off' rfl k hlt'
      have hb : Inside w b := Inside.of_cell hcell
      have hb' : Inside w b' := Inside.of_cell hcell'
      by_cases heq : nth xs k = nth ys k
      · have h2 : (nth xs k != nth ys k) = false := by rw [bne_eq_false_iff_eq]; exact heq
        replace heq := hid heq
        go_wp2
        refine region_ext (by kernel_rfl) (by kernel_rfl) ?_
        repeat (go_big_quiet_step (fail))
        refine wpQuiet_nil ?_
        rintro _ ⟨g1, rfl⟩
        go_wp2
        go_roundw
        case rel => exact ⟨k + 1, by omega, by go_num, Ext.grow hx g1, hid (lt_succ_all k hp.out heq.out)⟩
        case measure => simp [intOf]; omega
      · have h2 : (nth xs k != nth ys k) = true := by rw [bne_iff_ne]; exact heq
        go_wp2
        refine region_ext (by kernel_rfl) (by kernel_rfl) ?_
        repeat (go_big_quiet_step (fail))
        refine wpQuiet_nil ?_
        rintro _ ⟨g1, rfl⟩
        go_wp2
        go_ret
        exact ⟨ret_bool (eqB_ne k heq).symm, Ext.grow hx g1⟩
    · go_wp2
      go_ret
      exact ⟨ret_bool (eqB_all hlen.out (fun j hj => hp.out j (by omega))).symm, hx⟩
set_option maxHeartbeats 400000 in
theorem refcheck_any (v : Value) (xs : List Int) (w : World) (hv : Ints w v xs) :
    Calls Try.prog 36 #[v] w fun e w' => e = .returned (.int .i64 (timeCheck xs)) ∧ w = w' := by
  obtain ⟨a, cap, rfl, hl, -, ha, hc⟩ := hv
  by_cases h0 : xs.length = 0
  · rw [timeCheck_large xs (.inl h0)]
    go_enter Try.func36, Try.ntmps36
    go_wp2
    go_ret
    exact ⟨rfl, rfl⟩
  by_cases h4 : 4 < xs.length
  · rw [timeCheck_large xs (.inr h4)]
    go_enter Try.func36, Try.ntmps36
    go_wp2
    go_ret
    exact ⟨rfl, rfl⟩
  obtain ⟨b, off, rfl⟩ := ha.resolve_left h0
  replace hc := hid (hc b off rfl)
  clear ha
  go_enter Try.func36, Try.ntmps36
  go_wp2
  go_loop [15] (fun i => ∃ k : Nat, k ≤ xs.length ∧ i = .int .i64 k ∧ (xs.take k).any badCoord = false) (fun i => xs.length - (intOf i).toNat)
  case atStart => exact ⟨0, Nat.zero_le _, rfl, rfl⟩
  case round =>
    obtain ⟨k, hk, rfl, hp⟩ := hrel
    replace hp := hid hp
    by_cases hlt : k < xs.length
    · have hcell := hc.out k hlt
      have hs := hid (any_take_succ badCoord xs k hlt)
      have ha := hid (fun h => timeCheck_arg xs h0 h4 (any_of_nth _ xs k hlt h))
      by_cases hlo : nth xs k < 0
      · go_wp2
        go_ret
        exact ⟨ret_int (ha.out (badCoord_lo hlo)).symm, rfl⟩
      by_cases hhi : 1048576 < nth xs k
      · go_wp2
        go_ret
        exact ⟨ret_int (ha.out (badCoord_hi hhi)).symm, rfl⟩
      go_wp2
      go_round
      case rel => exact ⟨k+1, by omega, by go_num, by rw [hs.out, hp.out, badCoord_no (by omega) (by omega)]; rfl⟩
      case measure => simp [intOf]; omega
    · go_wp2
      go_ret
      exact ⟨ret_int (timeCheck_ok xs h0 h4 (by rw [← hp.out, List.take_of_length_le (by omega)])).symm, rfl⟩

/-! ### Under: no number greater -/
def underB (xs ys : List Int) : Bool := decide (∀ k, k < xs.length → nth xs k ≤ nth ys k)
theorem underB_no {xs ys : List Int} (k : Nat) (hk : k < xs.length) (h : nth ys k < nth xs k) : underB xs ys = false := by
  simp only [underB, decide_eq_false_iff_not]; intro h'; have := h' k hk; omega
theorem underB_yes {xs ys : List Int} (h : ∀ k, k < xs.length → nth xs k ≤ nth ys k) : underB xs ys = true := by
  simp only [underB, decide_eq_true_eq]; exact h

set_option maxHeartbeats 400000 in
theorem under_any (v u : Value) (xs ys : List Int) (w : World) (hv : Ints w v xs) (hu : Ints w u ys) (hlen : xs.length ≤ ys.length) :
    Calls Try.prog 32 #[v, u] w fun e w' => e = .returned (.bool (underB xs ys)) ∧ Ext w w' := by
  obtain ⟨a, cap, rfl, hl, -, ha, hc⟩ := hv
  obtain ⟨a', cap', rfl, hl', -, ha', hc'⟩ := hu
  replace hc := hid hc
  replace hc' := hid hc'
  replace ha := hid ha
  replace ha' := hid ha'
  go_enter Try.func32, Try.ntmps32
  go_wp2
  go_loopw [8] (fun i wr => ∃ k : Nat, k ≤ xs.length ∧ i = .int .i64 k ∧ Ext w wr ∧ Hid (∀ j, j < k → nth xs j ≤ nth ys j)) (fun i _ => xs.length - (intOf i).toNat)
  case atStart => exact ⟨0, Nat.zero_le _, rfl, Ext.refl _, hid (fun j hj => by omega)⟩
  case round =>
    obtain ⟨k, hk, rfl, hx, hp⟩ := hrel
    obtain ⟨g, rfl⟩ := Ext.out hx
    by_cases hlt : k < xs.length
    · obtain ⟨b, off, rfl⟩ := ha.out.resolve_left (by omega)
      obtain ⟨b', off', rfl⟩ := ha'.out.resolve_left (by omega)
      have hlt' : k < ys.length := by omega
      have hcell := hc.out b off rfl k hlt
      have hcell' := hc'.out b' off' rfl k hlt'
      have hb : Inside w b := Inside.of_cell hcell
      have hb' : Inside w b' := Inside.of_cell hcell'
      by_cases hgt : nth ys k < nth xs k
      · go_wp2
        refine region_ext (by kernel_rfl) (by kernel_rfl) ?_
        repeat (go_big_quiet_step (fail))
        refine wpQuiet_nil ?_
        rintro _ ⟨g1, rfl⟩
        go_wp2
        go_ret
        exact ⟨ret_bool (underB_no k hlt hgt).symm, Ext.grow hx g1⟩
      · go_wp2
        refine region_ext (by kernel_rfl) (by kernel_rfl) ?_
        repeat (go_big_quiet_step (fail))
        refine wpQuiet_nil ?_
        rintro _ ⟨g1, rfl⟩
        go_wp2
        go_roundw
        case rel => exact ⟨k + 1, by omega, by go_num, Ext.grow hx g1, hid (lt_succ_all k hp.out (by omega))⟩
        case measure => simp [intOf]; omega
    · go_wp2
      go_ret
      exact ⟨ret_bool (underB_yes (fun j hj => hp.out j (by omega))).symm, hx⟩

/-! ### alike, Leq -/
def alikeB (xs ys : List Int) : Bool := decide (xs.length = ys.length ∧ timeCheck xs = 0 ∧ timeCheck ys = 0)
theorem tc_eq0 {xs : List Int} (h : timeCheck xs = 0) : (timeCheck xs == 0) = true := by rw [h]; rfl
theorem tc_ne0 {xs : List Int} (h : ¬ timeCheck xs = 0) : (timeCheck xs == 0) = false := by rw [beq_eq_false_iff_ne]; exact h

set_option maxHeartbeats 400000 in
theorem alike_any (v u : Value) (xs ys : List Int) (w : World) (hv : Ints w v xs) (hu : Ints w u ys) :
    Calls Try.prog 31 #[v, u] w fun e w' => e = .returned (.bool (alikeB xs ys)) ∧ w = w' := by
  have hv1 := hid hv
  have hu1 := hid hu
  obtain ⟨a, cap, rfl, hl, -, ha, hc⟩ := hv
  obtain ⟨a', cap', rfl, hl', -, ha', hc'⟩ := hu
  clear hc hc' ha ha'
  by_cases hlen : xs.length = ys.length
  case neg =>
    have h1 : ((xs.length : Int) == (ys.length : Int)) = false := by rw [beq_eq_false_iff_ne]; omega
    go_enter Try.func31, Try.ntmps31
    go_wp2
    go_ret
    exact ⟨ret_bool (by unfold alikeB; symm; rw [decide_eq_false_iff_not]; exact fun h => hlen h.1), rfl⟩
  have h1 : ((xs.length : Int) == (ys.length : Int)) = true := by rw [beq_iff_eq]; omega
  replace hlen := hid hlen
  by_cases hx0 : timeCheck xs = 0
  case neg =>
    have h2 := tc_ne0 hx0
    replace hx0 := hid hx0
    go_enter Try.func31, Try.ntmps31
    go_wp2_with (go_at_call 28; refine (check_any _ xs _ hv1.out).mono ?_; rintro e w' ⟨rfl, rfl⟩)
    go_ret
    exact ⟨ret_bool (by unfold alikeB; symm; rw [decide_eq_false_iff_not]; exact fun h => hx0.out h.2.1), rfl⟩
  have h2 := tc_eq0 hx0
  replace hx0 := hid hx0
  by_cases hy0 : timeCheck ys = 0
  case neg =>
    have h3 := tc_ne0 hy0
    replace hy0 := hid hy0
    go_enter Try.func31, Try.ntmps31
    go_wp2_with fail
    refine (check_any _ xs _ hv1.out).mono ?_; rintro e w' ⟨rfl, rfl⟩
    go_wp2_with fail
    refine (check_any _ ys _ hu1.out).mono ?_; rintro e w' ⟨rfl, rfl⟩
    go_wp2_with fail
    go_ret
    exact ⟨ret_bool (by unfold alikeB; symm; rw [decide_eq_false_iff_not]; exact fun h => hy0.out h.2.2), rfl⟩
  have h3 := tc_eq0 hy0
  replace hy0 := hid hy0
  go_enter Try.func31, Try.ntmps31
  go_wp2_with fail
  refine (check_any _ xs _ hv1.out).mono ?_; rintro e w' ⟨rfl, rfl⟩
  go_wp2_with fail
  refine (check_any _ ys _ hu1.out).mono ?_; rintro e w' ⟨rfl, rfl⟩
  go_wp2_with fail
  go_ret
  exact ⟨ret_bool (by unfold alikeB; symm; rw [decide_eq_true_eq]; exact ⟨hlen.out, hx0.out, hy0.out⟩), rfl⟩

def leqB (xs ys : List Int) : Bool := alikeB xs ys && underB xs ys
set_option maxHeartbeats 400000 in
theorem leq_any (v u : Value) (xs ys : List Int) (w : World) (hv : Ints w v xs) (hu : Ints w u ys) :
    Calls Try.prog 18 #[v, u] w fun e w' => e = .returned (.bool (leqB xs ys)) ∧ Ext w w' := by
  have hv1 := hid hv
  have hu1 := hid hu
  clear hv hu
  by_cases h : alikeB xs ys = true
  · have hl : xs.length ≤ ys.length := by unfold alikeB at h; rw [decide_eq_true_eq] at h; omega
    replace hl := hid hl
    go_enter Try.func18, Try.ntmps18
    go_wp2_with fail
    refine (alike_any _ _ xs ys _ hv1.out hu1.out).mono ?_; rintro e w' ⟨rfl, rfl⟩
    go_wp2_with fail
    refine (under_any _ _ xs ys _ hv1.out hu1.out hl.out).mono ?_; rintro e w' ⟨rfl, hx⟩
    go_wp2_with fail
    go_ret
    exact ⟨ret_bool (by simp [leqB, h]), hx⟩
  · replace h : alikeB xs ys = false := by simpa using h
    go_enter Try.func18, Try.ntmps18
    go_wp2_with fail
    refine (alike_any _ _ xs ys _ hv1.out hu1.out).mono ?_; rintro e w' ⟨rfl, rfl⟩
    go_wp2_with fail
    go_ret
    exact ⟨ret_bool (by simp [leqB, h]), Ext.refl _⟩
end Go.Proofs.Ytjfpglmmhikhbaa
