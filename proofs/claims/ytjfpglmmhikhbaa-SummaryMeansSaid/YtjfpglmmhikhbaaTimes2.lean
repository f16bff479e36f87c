/- Contracts of package times, second part: order, clones, joins. -/
import Derived.Test.YtjfpglmmhikhbaaTimes
import Derived.Deep.RegionHeld3
namespace Go.Proofs.Ytjfpglmmhikhbaa
open Go.RowKit

set_option maxHeartbeats 400000 in
theorem refleq_any (v u : Value) (xs ys : List Int) (w : World) (hv : Ints w v xs) (hu : Ints w u ys) :
    Calls Try.prog 24 #[v, u] w fun e w' => e = .returned (.bool (leqB xs ys)) ∧ Ext w w' := by
  have hv1 := hid hv
  have hu1 := hid hu
  obtain ⟨a, cap, rfl, hl, -, ha, hc⟩ := hv
  obtain ⟨a', cap', rfl, hl', -, ha', hc'⟩ := hu
  replace hc := hid hc
  replace hc' := hid hc'
  replace ha := hid ha
  replace ha' := hid ha'
  by_cases hlen : xs.length = ys.length
  case neg =>
    have h1 : ((xs.length : Int) != (ys.length : Int)) = true := by rw [bne_iff_ne]; omega
    go_enter Try.func24, Try.ntmps24
    go_wp2
    go_ret
    exact ⟨ret_bool (by unfold leqB alikeB; symm; rw [Bool.and_eq_false_iff, decide_eq_false_iff_not]; exact .inl fun h => hlen h.1), Ext.refl _⟩
  have h1 : ((xs.length : Int) != (ys.length : Int)) = false := by rw [bne_eq_false_iff_eq]; omega
  have hle : xs.length ≤ ys.length := by omega
  replace hlen := hid hlen
  by_cases hx0 : timeCheck xs = 0
  case neg =>
    have h2 : (timeCheck xs != 0) = true := by rw [bne_iff_ne]; exact hx0
    replace hx0 := hid hx0
    go_enter Try.func24, Try.ntmps24
    go_wp2_with (go_at_call 36; refine (refcheck_any _ xs _ hv1.out).mono ?_; rintro e w' ⟨rfl, rfl⟩)
    go_ret
    exact ⟨ret_bool (by unfold leqB alikeB; symm; rw [Bool.and_eq_false_iff, decide_eq_false_iff_not]; exact .inl fun h => hx0.out h.2.1), Ext.refl _⟩
  have h2 : (timeCheck xs != 0) = false := by rw [bne_eq_false_iff_eq]; exact hx0
  replace hx0 := hid hx0
  by_cases hy0 : timeCheck ys = 0
  case neg =>
    have h3 : (timeCheck ys != 0) = true := by rw [bne_iff_ne]; exact hy0
    replace hy0 := hid hy0
    go_enter Try.func24, Try.ntmps24
    go_wp2_with fail
    refine (refcheck_any _ xs _ hv1.out).mono ?_; rintro e w' ⟨rfl, rfl⟩
    go_wp2_with fail
    refine (refcheck_any _ ys _ hu1.out).mono ?_; rintro e w' ⟨rfl, rfl⟩
    go_wp2_with fail
    go_ret
    exact ⟨ret_bool (by unfold leqB alikeB; symm; rw [Bool.and_eq_false_iff, decide_eq_false_iff_not]; exact .inl fun h => hy0.out h.2.2), Ext.refl _⟩
  have h3 : (timeCheck ys != 0) = false := by rw [bne_eq_false_iff_eq]; exact hy0
  replace hy0 := hid hy0
  have hfin : leqB xs ys = underB xs ys := by
    unfold leqB alikeB; rw [decide_eq_true (by exact ⟨hlen.out, hx0.out, hy0.out⟩)]; rfl
  rw [hfin]; clear hfin
  go_enter Try.func24, Try.ntmps24
  go_wp2_with fail
  refine (refcheck_any _ xs _ hv1.out).mono ?_; rintro e w' ⟨rfl, rfl⟩
  go_wp2_with fail
  refine (refcheck_any _ ys _ hu1.out).mono ?_; rintro e w' ⟨rfl, rfl⟩
  go_wp2_with fail
  go_loopw [5] (fun i wr => ∃ k : Nat, k ≤ xs.length ∧ i = .int .i64 k ∧ Ext w wr ∧ Hid (∀ j, j < k → nth xs j ≤ nth ys j)) (fun i _ => xs.length - (intOf i).toNat)
  case atStart => exact ⟨0, Nat.zero_le _, rfl, Ext.refl _, hid (fun j hj => by omega)⟩
  case round =>
    obtain ⟨k, hk, rfl, hx, hp⟩ := hrel
    obtain ⟨g, rfl⟩ := Ext.out hx
    by_cases hlt : k < xs.length
    · obtain ⟨b, off, rfl⟩ := ha.out.resolve_left (by omega)
      obtain ⟨b', off', rfl⟩ := ha'.out.resolve_left (by omega)
      have hlt' : k < ys.length := by omega
      have hcell := hc.out b off rfl k hlt
      have hcell' := hc'.out b' off' rfl k hlt'
      have hb : Inside w b := Inside.of_cell hcell
      have hb' : Inside w b' := Inside.of_cell hcell'
      by_cases hgt : nth ys k < nth xs k
      · go_wp2
        refine region_ext (by kernel_rfl) (by kernel_rfl) ?_
        repeat (go_big_quiet_step (fail))
        refine wpQuiet_nil ?_
        rintro _ ⟨g1, rfl⟩
        go_wp2
        go_ret
        exact ⟨ret_bool (underB_no k hlt hgt).symm, Ext.grow hx g1⟩
      · go_wp2
        refine region_ext (by kernel_rfl) (by kernel_rfl) ?_
        repeat (go_big_quiet_step (fail))
        refine wpQuiet_nil ?_
        rintro _ ⟨g1, rfl⟩
        go_wp2
        go_roundw
        case rel => exact ⟨k + 1, by omega, by go_num, Ext.grow hx g1, hid (lt_succ_all k hp.out (by omega))⟩
        case measure => simp [intOf]; omega
    · go_wp2
      go_ret
      exact ⟨ret_bool (underB_yes (fun j hj => hp.out j (by omega))).symm, hx⟩

/-! ### Compare, Less -/
def cmpI (x y : Int) : Int := if x < y then -1 else if y < x then 1 else 0
def cmpL : List Int → List Int → Int
  | [], [] => 0
  | [], _ :: _ => -1
  | _ :: _, [] => 1
  | x :: xs, y :: ys => if x < y then -1 else if y < x then 1 else cmpL xs ys
theorem cmpI_any (x y : Int) (w : World) : Calls Try.prog 45 #[.int .i64 x, .int .i64 y] w fun e w' => e = .returned (.int .i64 (cmpI x y)) ∧ w = w' := by
  by_cases h : x < y
  · have : cmpI x y = -1 := by simp [cmpI, h]
    rw [this]; clear this
    go_enter Try.func45, Try.ntmps45
    go_wp2
    go_ret
    exact ⟨rfl, rfl⟩
  by_cases h' : y < x
  · have : cmpI x y = 1 := by simp [cmpI, h, h']
    rw [this]; clear this
    go_enter Try.func45, Try.ntmps45
    go_wp2
    go_ret
    exact ⟨rfl, rfl⟩
  have : cmpI x y = 0 := by simp [cmpI, h, h']
  rw [this]; clear this
  go_enter Try.func45, Try.ntmps45
  go_wp2
  go_ret
  exact ⟨rfl, rfl⟩

set_option maxHeartbeats 800000 in
theorem compare_any (v u : Value) (xs ys : List Int) (w : World) (hv : Ints w v xs) (hu : Ints w u ys) :
    Calls Try.prog 37 #[v, u] w fun e w' => e = .returned (.int .i64 (cmpL xs ys)) ∧ w = w' := by
  obtain ⟨a, cap, rfl, hl, -, ha, hc⟩ := hv
  obtain ⟨a', cap', rfl, hl', -, ha', hc'⟩ := hu
  replace hc := hid hc
  replace hc' := hid hc'
  replace ha := hid ha
  replace ha' := hid ha'
  go_enter Try.func37, Try.ntmps37
  go_wp2_with fail
  go_loop [11] (fun i => ∃ k : Nat, k ≤ xs.length ∧ i = .int .i64 k ∧ k ≤ ys.length ∧ Hid (cmpL xs ys = cmpL (xs.drop k) (ys.drop k))) (fun i => xs.length - (intOf i).toNat)
  case atStart => exact ⟨0, Nat.zero_le _, rfl, Nat.zero_le _, hid rfl⟩
  case round =>
    obtain ⟨k, hk, rfl, hk', hp⟩ := hrel
    by_cases hlt : k < xs.length
    · obtain ⟨b, off, rfl⟩ := ha.out.resolve_left (by omega)
      have hcell := hc.out b off rfl k hlt
      have hd := hid (drop_nth xs k hlt)
      by_cases hlt' : k < ys.length
      · obtain ⟨b', off', rfl⟩ := ha'.out.resolve_left (by omega)
        have hcell' := hc'.out b' off' rfl k hlt'
        have hd' := hid (drop_nth ys k hlt')
        by_cases h1 : nth xs k < nth ys k
        · have hf := hid (show cmpL xs ys = -1 by rw [hp.out, hd.out, hd'.out]; simp [cmpL, h1])
          have h2 : (cmpI (nth xs k) (nth ys k) != 0) = true := by simp [cmpI, h1]
          have h3 : Hid (cmpI (nth xs k) (nth ys k) = -1) := hid (by simp [cmpI, h1])
          clear hd hd' hp
          go_wp2_with (go_at_call 45; refine (cmpI_any _ _ _).mono ?_; rintro e w' ⟨rfl, rfl⟩)
          go_ret
          exact ⟨ret_int (by rw [hf.out, h3.out]), rfl⟩
        by_cases h1' : nth ys k < nth xs k
        · have hf := hid (show cmpL xs ys = 1 by rw [hp.out, hd.out, hd'.out]; simp [cmpL, h1, h1'])
          have h2 : (cmpI (nth xs k) (nth ys k) != 0) = true := by simp [cmpI, h1, h1']
          have h3 : Hid (cmpI (nth xs k) (nth ys k) = 1) := hid (by simp [cmpI, h1, h1'])
          clear hd hd' hp
          go_wp2_with (go_at_call 45; refine (cmpI_any _ _ _).mono ?_; rintro e w' ⟨rfl, rfl⟩)
          go_ret
          exact ⟨ret_int (by rw [hf.out, h3.out]), rfl⟩
        have hf := hid (show cmpL xs ys = cmpL (xs.drop (k + 1)) (ys.drop (k + 1)) by rw [hp.out, hd.out, hd'.out]; simp [cmpL, h1, h1'])
        have h2 : (cmpI (nth xs k) (nth ys k) != 0) = false := by simp [cmpI, h1, h1']
        clear hd hd' hp
        go_wp2_with (go_at_call 45; refine (cmpI_any _ _ _).mono ?_; rintro e w' ⟨rfl, rfl⟩)
        go_round
        case rel => exact ⟨k + 1, by omega, by go_num, by omega, hf⟩
        case measure => simp [intOf]; omega
      · have hf := hid (show cmpL xs ys = 1 by rw [hp.out, hd.out, drop_nil ys k (by omega)]; simp [cmpL])
        clear hd hp
        go_wp2_with fail
        go_ret
        exact ⟨ret_int hf.out.symm, rfl⟩
    · by_cases hlt' : xs.length < ys.length
      · have hf := hid (show cmpL xs ys = -1 by rw [hp.out, drop_nil xs k (by omega), drop_nth ys k (by omega)]; simp [cmpL])
        clear hp
        go_wp2_with fail
        go_ret
        exact ⟨ret_int hf.out.symm, rfl⟩
      · have hf := hid (show cmpL xs ys = 0 by rw [hp.out, drop_nil xs k (by omega), drop_nil ys k (by omega)]; simp [cmpL])
        clear hp
        go_wp2_with fail
        go_ret
        exact ⟨ret_int hf.out.symm, rfl⟩

def lessB (xs ys : List Int) : Bool := alikeB xs ys && decide (cmpL xs ys < 0)
set_option maxHeartbeats 400000 in
theorem less_any (v u : Value) (xs ys : List Int) (w : World) (hv : Ints w v xs) (hu : Ints w u ys) :
    Calls Try.prog 25 #[v, u] w fun e w' => e = .returned (.bool (lessB xs ys)) ∧ w = w' := by
  have hv1 := hid hv
  have hu1 := hid hu
  clear hv hu
  by_cases h : alikeB xs ys = true
  · go_enter Try.func25, Try.ntmps25
    go_wp2_with fail
    refine (alike_any _ _ xs ys _ hv1.out hu1.out).mono ?_; rintro e w' ⟨rfl, rfl⟩
    go_wp2_with fail
    refine (compare_any _ _ xs ys _ hv1.out hu1.out).mono ?_; rintro e w' ⟨rfl, rfl⟩
    go_wp2_with fail
    go_ret
    exact ⟨ret_bool (by simp [lessB, h]), rfl⟩
  · replace h : alikeB xs ys = false := by simpa using h
    go_enter Try.func25, Try.ntmps25
    go_wp2_with fail
    refine (alike_any _ _ xs ys _ hv1.out hu1.out).mono ?_; rintro e w' ⟨rfl, rfl⟩
    go_wp2_with fail
    go_ret
    exact ⟨ret_bool (by simp [lessB, h]), rfl⟩
end Go.Proofs.Ytjfpglmmhikhbaa
