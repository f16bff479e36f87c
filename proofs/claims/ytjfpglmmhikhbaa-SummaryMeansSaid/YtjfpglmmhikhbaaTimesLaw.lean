/- Contracts of the laws' own helpers on times. -/
import Derived.Test.YtjfpglmmhikhbaaTimes3
namespace Go.Proofs.Ytjfpglmmhikhbaa
open Go.RowKit

/-- The slice value v holds slices, which read as the lists xss. -/
def Intss (w : World) (v : Value) (xss : List (List Int)) : Prop :=
  ∃ vs : List Value, vs.length = xss.length ∧ Rd id w v vs ∧ ∀ i, i < xss.length → Ints w (nth vs i) (nth xss i)
theorem Intss.keeps {w w' : World} (h : Ext w w') {v : Value} {xss : List (List Int)} (hv : Intss w v xss) : Intss w' v xss := by
  obtain ⟨vs, hl, hr, hi⟩ := hv
  exact ⟨vs, hl, Rd.keeps h hr, fun i hi' => Rd.keeps h (hi i hi')⟩

def alikesB (xss : List (List Int)) : Bool := decide (∀ i, i < xss.length → timeCheck (nth xss i) = 0 ∧ (nth xss i).length = (nth xss 0).length)

set_option maxHeartbeats 800000 in
theorem alikes_any (v : Value) (xss : List (List Int)) (w : World) (hv : Intss w v xss) :
    Calls Try.prog 15 #[v] w fun e w' => e = .returned (.bool (alikesB xss)) ∧ w = w' := by
  obtain ⟨vs, hvl, ⟨a, cap, rfl, hl, -, ha, hc⟩, hi⟩ := hv
  have hlv := hid hvl
  replace hc := hid hc
  replace ha := hid ha
  replace hi := hid hi
  generalize hn : vs.length = n at *
  replace hn := hid hn
  clear hvl
  go_enter Try.func15, Try.ntmps15
  go_wp2_with fail
  go_loop [7] (fun i => ∃ k : Nat, k ≤ n ∧ i = .int .i64 k ∧ Hid (∀ j, j < k → timeCheck (nth xss j) = 0 ∧ (nth xss j).length = (nth xss 0).length)) (fun i => n - (intOf i).toNat)
  case atStart => exact ⟨0, Nat.zero_le _, rfl, hid (fun j hj => by omega)⟩
  case round =>
    obtain ⟨k, hk, rfl, hp⟩ := hrel
    by_cases hlt : k < n
    · have hlt' := hid (show k < xss.length by rw [← hlv.out]; exact hlt)
      obtain ⟨b, off, rfl⟩ := ha.out.resolve_left (by omega)
      have hcell := hc.out b off rfl k hlt
      have hcell0 := hc.out b off rfl 0 (by omega)
      simp only [id, Nat.add_zero] at hcell hcell0
      have hk0 := hi.out k hlt'.out
      have h00 := hi.out 0 (by have := hlt'.out; omega)
      have hk1 := hid hk0
      obtain ⟨ak, ck, ek, -, -, -, -⟩ := hk0
      obtain ⟨a0, c0, e0, -, -, -, -⟩ := h00
      by_cases ht : timeCheck (nth xss k) = 0
      case neg =>
        have h2 : (timeCheck (nth xss k) != 0) = true := by rw [bne_iff_ne]; exact ht
        replace ht := hid ht
        clear ek e0 hcell0
        go_wp2_with fail
        refine (check_any _ _ _ hk1.out).mono ?_; rintro e w' ⟨rfl, rfl⟩
        go_wp2_with fail
        go_ret
        exact ⟨ret_bool (by unfold alikesB; symm; rw [decide_eq_false_iff_not]; exact fun h => ht.out (h k hlt'.out).1), rfl⟩
      have h2 : (timeCheck (nth xss k) != 0) = false := by rw [bne_eq_false_iff_eq]; exact ht
      replace ht := hid ht
      rw [ek] at hcell hk1
      rw [e0] at hcell0
      clear ek e0
      by_cases hle : (nth xss k).length = (nth xss 0).length
      case neg =>
        have h3 : (((nth xss k).length : Int) != ((nth xss 0).length : Int)) = true := by rw [bne_iff_ne]; omega
        go_wp2_with fail
        refine (check_any _ _ _ hk1.out).mono ?_; rintro e w' ⟨rfl, rfl⟩
        go_wp2_with fail
        go_ret
        exact ⟨ret_bool (by unfold alikesB; symm; rw [decide_eq_false_iff_not]; exact fun h => hle (h k hlt'.out).2), rfl⟩
      have h3 : (((nth xss k).length : Int) != ((nth xss 0).length : Int)) = false := by rw [bne_eq_false_iff_eq]; omega
      replace hle := hid hle
      go_wp2_with fail
      refine (check_any _ _ _ hk1.out).mono ?_; rintro e w' ⟨rfl, rfl⟩
      go_wp2_with fail
      go_round
      case rel => exact ⟨k + 1, by omega, by go_num, hid (lt_succ_all k hp.out ⟨ht.out, hle.out⟩)⟩
      case measure => simp [intOf]; omega
    · go_wp2_with fail
      go_ret
      exact ⟨ret_bool (by unfold alikesB; symm; rw [decide_eq_true_eq]; exact fun i h => hp.out i (by have := hlv.out; omega)), rfl⟩

/-- Three slices put into a list of the call's own. -/
theorem Intss.three {w : World} {v0 v1 v2 : Value} {x0 x1 x2 : List Int} (h0 : Ints w v0 x0) (h1 : Ints w v1 x1) (h2 : Ints w v2 x2) :
    Intss (w.alloc (.cells #[v0, v1, v2] 26)) (.slice (some ⟨w.heap.size, 0, none⟩) 3 3) [x0, x1, x2] := by
  have hx := Ext.alloc w (.cells #[v0, v1, v2] 26)
  refine ⟨[v0, v1, v2], rfl, ⟨_, 3, rfl, by simp, (fun e => by cases e), .inr ⟨_, _, rfl⟩, fun b off e i hi => ?_⟩, fun i hi => ?_⟩
  · cases e
    rw [Nat.zero_add, World.cell?_alloc_new]
    match i, hi with
    | 0, _ => rfl
    | 1, _ => rfl
    | 2, _ => rfl
  · match i, hi with
    | 0, _ => exact Rd.keeps hx h0
    | 1, _ => exact Rd.keeps hx h1
    | 2, _ => exact Rd.keeps hx h2
theorem alikesB_three (x0 x1 x2 : List Int) : alikesB [x0, x1, x2] = true ↔ (timeCheck x0 = 0 ∧ timeCheck x1 = 0 ∧ timeCheck x2 = 0 ∧ x1.length = x0.length ∧ x2.length = x0.length) := by
  unfold alikesB
  rw [decide_eq_true_eq]
  constructor
  · intro h
    have a0 := h 0 (by simp)
    have a1 := h 1 (by simp)
    have a2 := h 2 (by simp)
    exact ⟨a0.1, a1.1, a2.1, a1.2, a2.2⟩
  · rintro ⟨h0, h1, h2, h3, h4⟩ i hi
    match i, hi with
    | 0, _ => exact ⟨h0, rfl⟩
    | 1, _ => exact ⟨h1, h3⟩
    | 2, _ => exact ⟨h2, h4⟩
end Go.Proofs.Ytjfpglmmhikhbaa
