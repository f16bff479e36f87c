/- Contracts of package summary and its reference: checks, places, sameness. -/
import Derived.Test.YtjfpglmmhikhbaaTimes3
namespace Go.Proofs.Ytjfpglmmhikhbaa
open Go.RowKit

structure Sm where
  keep : Int
  add : Int
  push : List Int
/-- The value v is a summary that reads as s. -/
def SumAt (w : World) (v : Value) (s : Sm) : Prop := ∃ pv, v = .agg #[.int .i64 s.keep, .int .i64 s.add, pv] ∧ Ints w pv s.push
theorem SumAt.keeps {w w' : World} (h : Ext w w') {v : Value} {s : Sm} (hv : SumAt w v s) : SumAt w' v s := by
  obtain ⟨pv, e, hp⟩ := hv
  exact ⟨pv, e, Rd.keeps h hp⟩

def sumLarge (s : Sm) (n : Int) : Prop := n < 1 ∨ 4 < n ∨ s.keep < 1 ∨ n < s.keep ∨ 4 - s.keep < s.push.length
instance (s : Sm) (n : Int) : Decidable (sumLarge s n) := by unfold sumLarge; infer_instance
def sumCheck (s : Sm) (n : Int) : Int := if sumLarge s n then 1 else if (s.add :: s.push).any badCoord then 2 else 0
theorem sumCheck_large {s : Sm} {n : Int} (h : sumLarge s n) : sumCheck s n = 1 := by unfold sumCheck; rw [if_pos h]
theorem sumCheck_arg {s : Sm} {n : Int} (h : ¬ sumLarge s n) (hb : (s.add :: s.push).any badCoord = true) : sumCheck s n = 2 := by unfold sumCheck; rw [if_neg h, if_pos hb]
theorem sumCheck_ok {s : Sm} {n : Int} (h : ¬ sumLarge s n) (hb : (s.add :: s.push).any badCoord = false) : sumCheck s n = 0 := by unfold sumCheck; rw [if_neg h, if_neg (by simp [hb])]
theorem sumCheck_zero {s : Sm} {n : Int} (h : sumCheck s n = 0) : 1 ≤ n ∧ n ≤ 4 ∧ 1 ≤ s.keep ∧ s.keep ≤ n ∧ s.keep + s.push.length ≤ 4 ∧ badCoord s.add = false ∧ s.push.any badCoord = false := by
  unfold sumCheck at h
  split at h
  · omega
  · rename_i hl
    unfold sumLarge at hl
    split at h
    · omega
    · rename_i hb
      simp only [List.any_cons, Bool.or_eq_true, not_or, Bool.not_eq_true] at hb
      exact ⟨by omega, by omega, by omega, by omega, by omega, hb.1, hb.2⟩

theorem within_any (x : Int) (w : World) : Calls Try.prog 35 #[.int .i64 x] w fun e w' => e = .returned (.bool (!badCoord x)) ∧ w = w' := by
  by_cases h : x < 0
  · rw [badCoord_lo h]
    go_enter Try.func35, Try.ntmps35
    go_wp2
    go_ret
    exact ⟨rfl, rfl⟩
  by_cases h' : 1048576 < x
  · rw [badCoord_hi h']
    have h2 : ¬ x ≤ 1048576 := by omega
    go_enter Try.func35, Try.ntmps35
    go_wp2
    go_ret
    exact ⟨rfl, rfl⟩
  rw [badCoord_no (by omega) (by omega)]
  go_enter Try.func35, Try.ntmps35
  go_wp2
  go_ret
  exact ⟨rfl, rfl⟩

theorem out_any (v : Value) (s : Sm) (w : World) (hv : SumAt w v s) (h1 : 0 ≤ s.keep) (h4 : s.keep ≤ 4) (hl : s.push.length ≤ 4) :
    Calls Try.prog 33 #[v] w fun e w' => e = .returned (.int .i64 (s.keep + s.push.length)) ∧ Ext w w' := by
  obtain ⟨pv, rfl, hp⟩ := hv
  obtain ⟨a, cap, rfl, -, -, -, -⟩ := hp
  go_enter Try.func33, Try.ntmps33
  go_wp2
  go_ret
  exact ⟨rfl, Ext.alloc _ _⟩
theorem refout_any (v : Value) (s : Sm) (w : World) (hv : SumAt w v s) (h1 : 0 ≤ s.keep) (h4 : s.keep ≤ 4) (hl : s.push.length ≤ 4) :
    Calls Try.prog 39 #[v] w fun e w' => e = .returned (.int .i64 (s.keep + s.push.length)) ∧ Ext w w' := by
  obtain ⟨pv, rfl, hp⟩ := hv
  obtain ⟨a, cap, rfl, -, -, -, -⟩ := hp
  go_enter Try.func39, Try.ntmps39
  go_wp2
  go_ret
  exact ⟨rfl, Ext.alloc _ _⟩

set_option maxHeartbeats 1000000 in
theorem refsumcheck_any (v : Value) (s : Sm) (n : Int) (w : World) (hv : SumAt w v s) :
    Calls Try.prog 38 #[v, .int .i64 n] w fun e w' => e = .returned (.int .i64 (sumCheck s n)) ∧ Ext w w' := by
  obtain ⟨pv, rfl, hp⟩ := hv
  obtain ⟨a, cap, rfl, hlm, -, ha, hc⟩ := hp
  replace hc := hid hc
  replace ha := hid ha
  by_cases c1 : n < 1
  · rw [sumCheck_large (.inl c1)]
    go_enter Try.func38, Try.ntmps38
    go_wp2
    go_ret
    exact ⟨rfl, Ext.alloc _ _⟩
  by_cases c2 : 4 < n
  · rw [sumCheck_large (.inr (.inl c2))]
    go_enter Try.func38, Try.ntmps38
    go_wp2
    go_ret
    exact ⟨rfl, Ext.alloc _ _⟩
  by_cases c3 : s.keep < 1
  · rw [sumCheck_large (.inr (.inr (.inl c3)))]
    go_enter Try.func38, Try.ntmps38
    go_wp2
    go_ret
    exact ⟨rfl, Ext.alloc _ _⟩
  by_cases c4 : n < s.keep
  · rw [sumCheck_large (.inr (.inr (.inr (.inl c4))))]
    go_enter Try.func38, Try.ntmps38
    go_wp2
    go_ret
    exact ⟨rfl, Ext.alloc _ _⟩
  by_cases c5 : 4 < s.push.length
  · rw [sumCheck_large (.inr (.inr (.inr (.inr (by omega)))))]
    go_enter Try.func38, Try.ntmps38
    go_wp2
    go_ret
    exact ⟨rfl, Ext.alloc _ _⟩
  by_cases c6 : 4 < s.keep + s.push.length
  · rw [sumCheck_large (.inr (.inr (.inr (.inr (by omega)))))]
    go_enter Try.func38, Try.ntmps38
    go_wp2
    go_ret
    exact ⟨rfl, Ext.alloc _ _⟩
  have hL : ¬ sumLarge s n := by unfold sumLarge; omega
  by_cases d1 : s.add < 0
  · rw [sumCheck_arg hL (by simp [badCoord_lo d1])]
    go_enter Try.func38, Try.ntmps38
    go_wp2
    go_ret
    exact ⟨rfl, Ext.alloc _ _⟩
  by_cases d2 : 1048576 < s.add
  · rw [sumCheck_arg hL (by simp [badCoord_hi d2])]
    go_enter Try.func38, Try.ntmps38
    go_wp2
    go_ret
    exact ⟨rfl, Ext.alloc _ _⟩
  have hba := hid (badCoord_no (by omega : 0 ≤ s.add) (by omega))
  replace hL := hid hL
  go_enter Try.func38, Try.ntmps38
  go_wp2
  go_loop [50] (fun i => ∃ k : Nat, k ≤ s.push.length ∧ i = .int .i64 k ∧ Hid ((s.push.take k).any badCoord = false)) (fun i => s.push.length - (intOf i).toNat)
  case atStart => exact ⟨0, Nat.zero_le _, rfl, hid rfl⟩
  case round =>
    obtain ⟨k, hk, rfl, hp⟩ := hrel
    by_cases hlt : k < s.push.length
    · obtain ⟨b, off, rfl⟩ := ha.out.resolve_left (by omega)
      have hcell := hc.out b off rfl k hlt
      have hb := cell_lt hcell
      have hs := hid (any_take_succ badCoord s.push k hlt)
      have ha := hid (fun h => sumCheck_arg hL.out (by rw [List.any_cons, any_of_nth _ s.push k hlt h]; simp))
      by_cases hlo : nth s.push k < 0
      · go_wp2
        go_ret
        exact ⟨ret_int (ha.out (badCoord_lo hlo)).symm, Ext.alloc _ _⟩
      by_cases hhi : 1048576 < nth s.push k
      · go_wp2
        go_ret
        exact ⟨ret_int (ha.out (badCoord_hi hhi)).symm, Ext.alloc _ _⟩
      go_wp2
      go_round
      case rel => exact ⟨k+1, by omega, by go_num, hid (by rw [hs.out, hp.out, badCoord_no (by omega) (by omega)]; rfl)⟩
      case measure => simp [intOf]; omega
    · go_wp2
      go_ret
      exact ⟨ret_int (sumCheck_ok hL.out (by have e := hp.out; rw [List.take_of_length_le (by omega)] at e; rw [List.any_cons, hba.out, e]; rfl)).symm, Ext.alloc _ _⟩
theorem Ints.alloc {w : World} {v : Value} {xs : List Int} (h : Ints w v xs) (o : Obj) : Ints (w.alloc o) v xs := Rd.keeps (Ext.alloc w o) h
/-- One number put into a list of the call's own. -/
theorem own_one (w : World) (x : Int) : Own (w.alloc (.cells #[.int .i64 x] 3)) w.heap.size (.slice (some ⟨w.heap.size, 0, none⟩) 1 1) [x] := by
  refine ⟨rfl, .inr ⟨w.heap.size, 1, #[.int .i64 x], rfl, Nat.le_refl _, ?_, Nat.le_refl _, by unfold maxLen; omega, rfl, rfl⟩⟩
  show (w.heap.push _)[w.heap.size]? = _
  simp
set_option maxHeartbeats 1000000 in
theorem sumcheck_any (v : Value) (s : Sm) (n : Int) (w : World) (hv : SumAt w v s) :
    Calls Try.prog 21 #[v, .int .i64 n] w fun e w' => e = .returned (.int .i64 (sumCheck s n)) ∧ Ext w w' := by
  obtain ⟨pv, rfl, hp⟩ := hv
  have hp1 := hid hp
  obtain ⟨a, cap, rfl, hlm, -, ha, hc⟩ := hp
  clear ha hc
  by_cases c1 : n < 1
  · rw [sumCheck_large (.inl c1)]
    go_enter Try.func21, Try.ntmps21
    go_wp2
    go_ret
    exact ⟨rfl, Ext.alloc _ _⟩
  by_cases c2 : 4 < n
  · rw [sumCheck_large (.inr (.inl c2))]
    go_enter Try.func21, Try.ntmps21
    go_wp2
    go_ret
    exact ⟨rfl, Ext.alloc _ _⟩
  by_cases c3 : s.keep < 1
  · rw [sumCheck_large (.inr (.inr (.inl c3)))]
    go_enter Try.func21, Try.ntmps21
    go_wp2
    go_ret
    exact ⟨rfl, Ext.alloc _ _⟩
  by_cases c4 : n < s.keep
  · rw [sumCheck_large (.inr (.inr (.inr (.inl c4))))]
    go_enter Try.func21, Try.ntmps21
    go_wp2
    go_ret
    exact ⟨rfl, Ext.alloc _ _⟩
  by_cases c5 : 4 - s.keep < s.push.length
  · rw [sumCheck_large (.inr (.inr (.inr (.inr c5))))]
    go_enter Try.func21, Try.ntmps21
    go_wp2
    go_ret
    exact ⟨rfl, Ext.alloc _ _⟩
  have hL : ¬ sumLarge s n := by unfold sumLarge; omega
  replace hL := hid hL
  have hown := hid (own_one (w.alloc (.cells #[.int .i64 s.keep, .int .i64 s.add, .slice a s.push.length cap] 32)) s.add)
  have hE := hid (Ext.alloc' (Ext.alloc w (.cells #[.int .i64 s.keep, .int .i64 s.add, .slice a s.push.length cap] 32)) (.cells #[.int .i64 s.add] 3))
  go_enter Try.func21, Try.ntmps21
  go_wp2_with (at_builtin; refine app_row (enc := Value.int .i64) (fun _ => rfl) eltInt (by decide) rfl rfl _ _ rfl (w.heap.size + 1) _ _ [s.add] s.push rfl rfl ?c1 ?c2 ?c3 ?c4 ?c5)
  case c1 => simpa using hown.out
  case c2 => exact Rd.keeps hE.out hp1.out
  case c3 => first | omega | (simp; omega)
  case c5 =>
  intro u w1 hu hg
  have hx := hid (Ext.grown hE.out hg (fun k hk => by cases hk; exact Nat.le_succ _))
  clear hg
  obtain ⟨b, cap', rfl⟩ : ∃ b cap', u = .slice (some ⟨b, 0, none⟩) (s.push.length + 1) cap' := by
    rcases hu.2 with ⟨_, h⟩ | ⟨b, cap', _, h, _⟩
    · simp at h
    · exact ⟨b, cap', by rw [h]; simp⟩
  have hcell := hid (fun i hi => (OwnL.cell hu i hi).1)
  replace hu := hid hu
  go_wp2_with fail
  go_loop [40] (fun i => ∃ k : Nat, k ≤ s.push.length + 1 ∧ i = .int .i64 k ∧ Hid (((s.add :: s.push).take k).any badCoord = false)) (fun i => s.push.length + 1 - (intOf i).toNat)
  case atStart => exact ⟨0, Nat.zero_le _, rfl, hid rfl⟩
  case round =>
    obtain ⟨k, hk, rfl, hp⟩ := hrel
    by_cases hlt : k < s.push.length + 1
    · have hlt' : k < (s.add :: s.push).length := by simpa using hlt
      have hc := hcell.out k hlt'
      have hs := hid (any_take_succ badCoord (s.add :: s.push) k hlt')
      have ha := hid (fun h => sumCheck_arg hL.out (any_of_nth _ (s.add :: s.push) k hlt' h))
      have hnb := hid (rfl : badCoord (nth (s.add :: s.push) k) = badCoord (nth (s.add :: s.push) k))
      generalize nth (s.add :: s.push) k = x at *
      cases hb : badCoord x with
      | true =>
        go_wp2_with (go_at_call 35; refine (within_any _ _).mono ?_; rintro e w' ⟨rfl, rfl⟩)
        go_ret
        exact ⟨ret_int (ha.out hb).symm, hx.out⟩
      | false =>
        go_wp2_with (go_at_call 35; refine (within_any _ _).mono ?_; rintro e w' ⟨rfl, rfl⟩)
        go_round
        case rel => exact ⟨k+1, by omega, by go_num, hid (by rw [hs.out, hp.out, hb]; rfl)⟩
        case measure => simp [intOf]; omega
    · go_wp2_with fail
      go_ret
      exact ⟨ret_int (sumCheck_ok hL.out (by have e := hp.out; rw [List.take_of_length_le (by simp; omega)] at e; exact e)).symm, hx.out⟩
end Go.Proofs.Ytjfpglmmhikhbaa
