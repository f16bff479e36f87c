/- Contracts of package summary, third part: Apply. -/
import Derived.Test.YtjfpglmmhikhbaaSummary2
namespace Go.Proofs.Ytjfpglmmhikhbaa
open Go.RowKit

/-- What Apply makes of a time, where all is as it should be. -/
def applyL (s : Sm) (t : List Int) : List Int := (t.take s.keep.toNat ++ s.push).set (s.keep.toNat - 1) (nth t (s.keep.toNat - 1) + s.add)
def applyErr (s : Sm) (t : List Int) : Int :=
  if timeCheck t ≠ 0 then timeCheck t else if sumCheck s t.length ≠ 0 then sumCheck s t.length
  else if badCoord (nth t (s.keep.toNat - 1) + s.add) then 6 else 0
/-- What Apply hands back: a list of the call's own (nil at an error), and the error. -/
def RetApply (w : World) (s : Sm) (t : List Int) (e : Ending) (w' : World) : Prop :=
  ∃ u, e = .returned (.tuple #[u, .int .i64 (applyErr s t)]) ∧ Own w' w.heap.size u (if applyErr s t = 0 then applyL s t else []) ∧ Ext w w'
theorem RetApply.err {w w' : World} {s : Sm} {t : List Int} (k : Int) (he : applyErr s t = k) (hk : k ≠ 0) (hx : Ext w w') : RetApply w s t (.returned (.tuple #[.slice none 0 0, .int .i64 k])) w' := by
  subst he
  exact ⟨_, rfl, by rw [if_neg hk]; exact OwnL.nil _ _, hx⟩

theorem RetApply.ok {w w' : World} {s : Sm} {t : List Int} (u : Value) (he : applyErr s t = 0) (hu : Own w' w.heap.size u (applyL s t)) (hx : Ext w w') : RetApply w s t (.returned (.tuple #[u, .int .i64 0])) w' :=
  ⟨_, by rw [he], by rw [if_pos he]; exact hu, hx⟩

/-- The first k of what can be read. -/
theorem Rd.take {α : Type} [Inhabited α] {enc : α → Value} {w : World} {a : Option Addr} {n cap : Nat} {xs : List α} (h : Rd enc w (.slice a n cap) xs) (k : Nat) (hk : k ≤ n) : Rd enc w (.slice a k cap) (xs.take k) := by
  obtain ⟨a', cap', e, hl, hn, ha, hc⟩ := h
  cases e
  have hlen : (xs.take k).length = k := by simp; omega
  refine ⟨a, cap, by rw [hlen], ⟨by omega, hl.2⟩, hn, ?_, fun b off e i hi => ?_⟩
  · rcases ha with h | h
    · exact .inl (by omega)
    · exact .inr h
  · rw [nth_take xs k i (by omega)]
    exact hc b off e i (by omega)

set_option maxHeartbeats 1000000 in
theorem apply_any (v u : Value) (s : Sm) (t : List Int) (w : World) (hv : SumAt w v s) (hu : Ints w u t) :
    Calls Try.prog 22 #[v, u] w (RetApply w s t) := by
  have hS := hid (fun w' (hx : Ext w w') => SumAt.keeps hx hv)
  have hT := hid (fun w' (hx : Ext w w') => Rd.keeps hx hu)
  obtain ⟨pv, rfl, hp⟩ := hv
  have hP := hid (fun w' (hx : Ext w w') => Rd.keeps hx hp)
  have hE := hid (Ext.alloc w (.cells #[.int .i64 s.keep, .int .i64 s.add, pv] 32))
  obtain ⟨a, cap, rfl, hlm, -, -, -⟩ := hp
  obtain ⟨a', cap', rfl, htm, -, -, -⟩ := hu
  by_cases c1 : timeCheck t = 0
  case neg =>
    have h1 : (timeCheck t != 0) = true := by rw [bne_iff_ne]; exact c1
    have hf := hid (show applyErr s t = timeCheck t by simp [applyErr, c1])
    replace c1 := hid c1
    go_enter Try.func22, Try.ntmps22
    go_wp2_with fail
    refine (check_any _ t _ (hT.out _ hE.out)).mono ?_
    rintro e w' ⟨rfl, rfl⟩
    go_wp2_with fail
    go_ret2
    exact RetApply.err _ hf.out c1.out hE.out
  have h1 : (timeCheck t != 0) = false := by rw [bne_eq_false_iff_eq]; exact c1
  have htl := timeCheck_len c1
  have htz := hid (timeCheck_zero.1 c1).2.2
  replace c1 := hid c1
  by_cases c2 : sumCheck s t.length = 0
  case neg =>
    have h2 : (sumCheck s t.length != 0) = true := by rw [bne_iff_ne]; exact c2
    have hf := hid (show applyErr s t = sumCheck s t.length by simp [applyErr, c1.out, c2])
    replace c2 := hid c2
    go_enter Try.func22, Try.ntmps22
    go_wp2_with fail
    refine (check_any _ t _ (hT.out _ hE.out)).mono ?_
    rintro e w' ⟨rfl, rfl⟩
    go_wp2_with fail
    refine (sumcheck_any _ s t.length _ (hS.out _ hE.out)).mono ?_
    rintro e w' ⟨rfl, hx'⟩
    replace hx' := hid (Ext.trans hE.out hx')
    go_wp2_with fail
    go_ret2
    exact RetApply.err _ hf.out c2.out hx'.out
  have h2 : (sumCheck s t.length != 0) = false := by rw [bne_eq_false_iff_eq]; exact c2
  obtain ⟨-, -, k1, k2, k3, k4, -⟩ := sumCheck_zero c2
  have hadd : 0 ≤ s.add ∧ s.add ≤ 1048576 := by simp [badCoord] at k4; omega
  clear k4
  replace c2 := hid c2
  obtain ⟨k, hk⟩ := Int.eq_ofNat_of_zero_le (show 0 ≤ s.keep - 1 by omega)
  obtain ⟨keep, add, push⟩ := s
  simp only at *
  obtain rfl : keep = (k : Int) + 1 := by omega
  clear hk
  have hkn : ((k : Int) + 1).toNat = k + 1 := by omega
  go_enter Try.func22, Try.ntmps22
  go_wp2_with fail
  refine (check_any _ t _ (hT.out _ hE.out)).mono ?_
  rintro e w' ⟨rfl, rfl⟩
  go_wp2_with fail
  refine (sumcheck_any _ _ t.length _ (hS.out _ hE.out)).mono ?_
  rintro e w' ⟨rfl, hx'⟩
  have b0 := Ext.keeps hx' (show (w.alloc (.cells #[.int .i64 ((k : Int) + 1), .int .i64 add, .slice a push.length cap] 32)).cell? ⟨w.heap.size, 0, none⟩ = some (.int .i64 ((k : Int) + 1)) by simp)
  have b1 := Ext.keeps hx' (show (w.alloc (.cells #[.int .i64 ((k : Int) + 1), .int .i64 add, .slice a push.length cap] 32)).cell? ⟨w.heap.size, 1, none⟩ = some (.int .i64 add) by simp)
  have b2 := Ext.keeps hx' (show (w.alloc (.cells #[.int .i64 ((k : Int) + 1), .int .i64 add, .slice a push.length cap] 32)).cell? ⟨w.heap.size, 2, none⟩ = some (.slice a push.length cap) by simp)
  replace hE := hid (Ext.trans hE.out hx')
  clear hx'
  have hkl : k + 1 ≤ t.length := by omega
  have hk0 : (0 : Int) ≤ (k : Int) + 1 := by omega
  have hkm : k + 1 ≤ cap' := by omega
  have hkc : (k : Int) + 1 ≤ (cap' : Int) := by omega
  go_wp2_with fail
  go_region_held3 (fun w' => w'.cell? ⟨w.heap.size, 0, none⟩ = some (.int .i64 ((k : Int) + 1)) ∧ w'.cell? ⟨w.heap.size, 2, none⟩ = some (.slice a push.length cap)) (first | exact ⟨Ext.keeps hx3 b0, Ext.keeps hx3 b2⟩ | exact ⟨Ext.keeps hx2 b0, Ext.keeps hx2 b2⟩ | go_keep)
    (first
      | (go_at_call 34; refine (clone_any _ (t.take (k + 1)) _ (Rd.take (hT.out _ (Ext.drew' hE.out)) (k + 1) hkl) (by simp; omega)).mono ?_; rintro e w2 ⟨u, rfl, hu, hx2⟩)
      | (refine app_row_step (enc := Value.int .i64) (fun _ => rfl) eltInt (by decide) rfl rfl _ _ rfl _ _ _ (t.take (k + 1)) push rfl rfl hu (hP.out _ (Ext.trans (Ext.drew' hE.out) hx2)) (by simp; omega) hx2.size ?_; intro u3 w3 hu3 hg3; have hx3 := Ext.grown hx2 hg3 (OwnL.block hu)))
  have hlen : (t.take (k + 1) ++ push).length = k + 1 + push.length := by simp; omega
  obtain ⟨b, capn, rfl⟩ : ∃ b capn, u3 = .slice (some ⟨b, 0, none⟩) (k + 1 + push.length) capn := by
    rcases hu3.2 with ⟨_, h⟩ | ⟨b, capn, _, h, _⟩
    · rw [hlen] at h; omega
    · exact ⟨b, capn, by rw [h, hlen]⟩
  obtain ⟨o1, o2, -, o4⟩ := OwnL.cell hu3 k (by rw [hlen]; omega)
  have h2 : w.heap.size < w'.heap.size := cell_lt b0
  have hne : ¬ b = w.heap.size := by
    have h1 : w'.heap.size ≤ b := o4
    omega
  have hwb := hid (show w.heap.size ≤ b by have h1 : w'.heap.size ≤ b := o4; omega)
  have hww := hid (show w.heap.size ≤ w'.drew.heap.size by show w.heap.size ≤ w'.heap.size; omega)
  clear h2
  replace b0 := Ext.keeps hx3 b0
  replace b1 := Ext.keeps hx3 b1
  replace hu3 := hid hu3
  replace hE := hid (Ext.trans (Ext.drew' hE.out) hx3)
  clear hg3 hx2 hx3 hu b2 hlen
  have hnth : nth (t.take (k + 1) ++ push) k = nth t k := by rw [nth_append_left _ _ _ (by simp; omega), nth_take _ _ _ (by omega)]
  rw [hnth] at o1
  have hb := htz.out k (by omega)
  obtain ⟨hb1, hb2⟩ := hb
  obtain ⟨ha1, ha2⟩ := hadd
  have hap := hid (show applyL ⟨(k : Int) + 1, add, push⟩ t = (t.take (k + 1) ++ push).set k (nth t k + add) by simp [applyL, hkn])
  have her := hid (show applyErr ⟨(k : Int) + 1, add, push⟩ t = if badCoord (nth t k + add) = true then 6 else 0 by simp [applyErr, hkn, c1.out, c2.out])
  clear hnth o4
  generalize nth t k = x at *
  go_wp2_with fail
  go_region
  have o5 := hid (OwnL.drew (OwnL.stored hu3.out k (x + add)))
  have hx5 := hid (Ext.drew' (Ext.setCell hE.out ⟨b, k, none⟩ hwb.out (.int .i64 (x + add))))
  clear hu3 hE
  cases c3 : badCoord (x + add) with
  | true =>
    go_wp2_with (go_at_call 35; refine (within_any _ _).mono ?_; rintro e w' ⟨rfl, rfl⟩)
    go_ret2
    exact RetApply.err _ (by rw [her.out, c3]; rfl) (by decide) hx5.out
  | false =>
    go_wp2_with (go_at_call 35; refine (within_any _ _).mono ?_; rintro e w' ⟨rfl, rfl⟩)
    go_ret2
    have h0 : applyErr ⟨(k : Int) + 1, add, push⟩ t = 0 := by rw [her.out, c3]; rfl
    exact RetApply.ok _ h0 (by rw [hap.out]; exact OwnL.mono o5.out hww.out) hx5.out
end Go.Proofs.Ytjfpglmmhikhbaa
