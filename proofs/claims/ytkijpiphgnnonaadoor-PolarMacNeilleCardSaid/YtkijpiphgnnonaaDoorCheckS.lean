/- order.Check, Down, Dual: what they come to. -/
import Derived.Test.YtkijpiphgnnonaaDoorOrderS
namespace Go.Proofs.YtkijpiphgnnonaaDoor
open Go.Abs
def beyond (up : List Int) (n : Int) (i : Nat) : Prop := ∃ j, n.toNat ≤ j ∧ bt (nth 0 up i) j = true
theorem beyond_iff {up : List Int} (hw : WL up) {n : Int} (h0 : 0 ≤ n) (h1 : n ≤ 16) (i : Nat) : (iandNot .u32 (nth 0 up i) (allw n) != 0) = true ↔ beyond up n i := by
  rw [← Bool.not_eq_false]
  refine (not_congr (in_all (WL.nth hw i) h0 (by omega))).trans ?_
  unfold beyond
  constructor
  · intro h
    apply Classical.byContradiction
    intro hn
    exact h fun j hj => Classical.byContradiction fun h' => hn ⟨j, by omega, hj⟩
  · rintro ⟨j, h2, h3⟩ h
    have := h j h3
    omega
theorem IndexFunc_spec {N : Nat} {up : List Int} (hw : WL up) (hl : up.length < N) (hl2 : up.length < 4611686018427387904) {n : Int} (h0 : 0 ≤ n) (h1 : n ≤ 16) (o : List Int) :
    ∃ r, D_slices_IndexFunc_Luint32_uint32_order_Check_c1 N (up, ((n, o), ()), ()) = some (r, ()) ∧ (0 ≤ r ↔ ∃ i, i < up.length ∧ beyond up n i) := by
  simp only [D_slices_IndexFunc_Luint32_uint32_order_Check_c1, joinD, loopE, backE_eq, slices_IndexFunc_Luint32_uint32_order_Check_c1_1, slices_IndexFunc_Luint32_uint32_order_Check_c1_2, slices_IndexFunc_Luint32_uint32_order_Check_c1_3]
  refine loopD_post (fun s => ∃ i : Nat, s = (i : Int) ∧ i ≤ up.length ∧ ∀ j, j < i → ¬ beyond up n j) (fun s => up.length - s.toNat) (fun a => ∃ r, a = some (r, ()) ∧ (0 ≤ r ↔ ∃ i, i < up.length ∧ beyond up n i)) ?_ N 0
    ⟨0, rfl, Nat.zero_le _, fun j h => by omega⟩ (by simp; omega)
  rintro s ⟨i, rfl, hi, hok⟩ kn hkn
  by_cases hil : i < up.length
  · simp only [lt_d hil, ge0_d, cond_true, Bool.and_self, Int.toNat_natCast, D_order_Check_c1, order_Check_c1_1, All_eq N h0, Option.bind_some]
    cases hb : (iandNot .u32 (nth 0 up i) (allw n) != 0) with
    | true => exact ⟨((i : Nat) : Int), rfl, ⟨fun _ => ⟨i, hil, (beyond_iff hw h0 h1 i).1 hb⟩, fun _ => Int.natCast_nonneg i⟩⟩
    | false =>
      rw [cond_false, w64 (by omega) (by omega)]
      refine hkn _ ⟨i + 1, by omega, by omega, fun j h h' => ?_⟩ (by simp; omega)
      by_cases e : j = i
      · subst e
        have := (beyond_iff hw h0 h1 j).2 h'
        rw [hb] at this; cases this
      · exact hok j (by omega) h'
  · have : i = up.length := by omega
    subst this
    simp only [lt_self, cond_false]
    exact ⟨(-1 : Int), rfl, ⟨fun h => absurd h (by decide), fun ⟨j, hj, hb⟩ => absurd hb (hok j hj)⟩⟩
def badI (up : List Int) (i : Nat) : Prop := ¬ le up i i ∨ ∃ j, j ≠ i ∧ le up i j ∧ (le up j i ∨ ∃ k, le up j k ∧ ¬ le up i k)
theorem bad_le {a b : Int} (ha : W32 a) (hb : W32 b) : (iandNot .u32 a b != 0) = true ↔ ∃ k, bt a k = true ∧ ¬ bt b k = true := by
  rw [ne_zero_iff W32.iandNot]
  constructor
  · rintro ⟨k, _, h⟩
    rw [bt_iandNot ha hb] at h
    simp only [Bool.and_eq_true, Bool.not_eq_true'] at h
    exact ⟨k, h.1, by simp [h.2]⟩
  · rintro ⟨k, h, h'⟩
    refine ⟨k, bt_lt ha h, ?_⟩
    rw [bt_iandNot ha hb, h]
    simpa using h'
section
variable {m : Nat} {up : List Int} {N : Nat} (hm : up.length = m) (hm16 : m ≤ 16) (hw : WL up) (inn : ∀ i, i < m → ∀ j, le up i j → j < m)
include hm hm16 hw inn
theorem ck21 {i : Nat} (hi : i < m) (z : Int) (kn) (k) :
    (badI up i → order_Check_4 N k up up.length m up z i kn = some (3, ())) ∧ (¬ badI up i → order_Check_4 N k up up.length m up z i kn = kn ((up, (up.length : Int), (m : Int), up, z), (i : Int) + 1)) := by
  have hW := WL.nth hw i
  simp only [order_Check_4, order_Check_2, joinD, forE, order_Check_3,
    d_true (show (i : Int) < (up.length : Int) by omega), ge0_d, cond_true, Bool.and_self, Int.toNat_natCast, Has_eq N hW, One_eq, Each_eq, Option.bind_some, w1 hm16 hi, backE_eq]
  cases hr : bt (nth 0 up i) i with
  | false => exact ⟨fun _ => rfl, fun h => absurd (.inl (by simp [le, hr])) h⟩
  | true =>
    simp only [Bool.not_true, cond_false]
    have hW1 : W32 (iandNot .u32 (nth 0 up i) (one i)) := W32.iandNot
    have hb1 : ∀ j, bt (iandNot .u32 (nth 0 up i) (one i)) j = true ↔ le up i j ∧ j ≠ i := fun j => by
      rw [bt_iandNot hW (W32.one i), bt_one (by omega)]
      simp [le]
    have step : ∀ j : Nat, bt (iandNot .u32 (nth 0 up i) (one i)) j = true → j < up.length ∧ D_sets_Has_uint32 N (nth 0 up j, (i : Int), ()) = some (bt (nth 0 up j) i, ()) := fun j hj =>
      ⟨by have := inn i hi j ((hb1 j).1 hj).1; omega, Has_eq N (WL.nth hw j) i⟩
    refine ⟨fun h => els_hit hW1 (fun j => le up j i ∨ ∃ k, le up j k ∧ ¬ le up i k) (fun j _ hj hb kn => ?_) (fun j _ hj hb kn => ?_) ?_, fun h => els_pass hW1 fun j _ hj kn => ?_⟩
    · obtain ⟨h1, h2⟩ := step j hj
      simp only [lt_d h1, ge0_d, cond_true, Bool.and_self, Int.toNat_natCast, h2, Option.bind_some]
      cases h3 : bt (nth 0 up j) i with
      | true => rfl
      | false =>
        have := (bad_le (WL.nth hw j) hW).2 (hb.resolve_left (by simp [le, h3]))
        simp only [cond_false, this, cond_true]
    · obtain ⟨h1, h2⟩ := step j hj
      have h3 : bt (nth 0 up j) i = false := Bool.eq_false_iff.2 fun h => hb (.inl h)
      have h4 : (iandNot .u32 (nth 0 up j) (nth 0 up i) != 0) = false := Bool.eq_false_iff.2 fun h => hb (.inr ((bad_le (WL.nth hw j) hW).1 h))
      simp only [lt_d h1, ge0_d, cond_true, Bool.and_self, Int.toNat_natCast, h2, Option.bind_some, h3, h4, cond_false]
    · obtain ⟨j, h1, h2, h3⟩ := h.resolve_left (by simp [le, hr])
      exact ⟨j, (hb1 j).2 ⟨h2, h1⟩, h3⟩
    · obtain ⟨h1, h2⟩ := step j hj
      have nb : ¬ (le up j i ∨ ∃ k, le up j k ∧ ¬ le up i k) := fun h' => h (.inr ⟨j, ((hb1 j).1 hj).2, ((hb1 j).1 hj).1, h'⟩)
      have h3 : bt (nth 0 up j) i = false := Bool.eq_false_iff.2 fun h => nb (.inl h)
      have h4 : (iandNot .u32 (nth 0 up j) (nth 0 up i) != 0) = false := Bool.eq_false_iff.2 fun h => nb (.inr ((bad_le (WL.nth hw j) hW).1 h))
      simp only [lt_d h1, ge0_d, cond_true, Bool.and_self, Int.toNat_natCast, h2, Option.bind_some, h3, h4, cond_false]
end
theorem Check_spec {N : Nat} (hN : 40 ≤ N) {up : List Int} (hw : WL up) (n : Int) : ∃ e, D_order_Check N ((n, up), ()) = some (e, ()) ∧ (e = 0 ↔ Ord n up) := by
  simp only [D_order_Check, order_Check_5, order_Check_1, joinD, loopE]
  by_cases h0 : n < 0
  · rw [d_true h0]; exact ⟨1, rfl, ne_iff (by decide) fun h => by have := h.h0; omega⟩
  by_cases h1 : n > 16
  · rw [d_false h0, d_true h1]; exact ⟨1, rfl, ne_iff (by decide) fun h => by have := h.h1; omega⟩
  rw [d_false h0, d_false h1, cond_false, cond_false]
  by_cases h2 : (up.length : Int) = n
  case neg =>
    rw [show ((up.length : Int) != n) = true from bne_iff_ne.2 h2]
    exact ⟨2, rfl, ne_iff (by decide) fun h => by have := h.len; have := h.h0; omega⟩
  obtain ⟨m, rfl⟩ : ∃ m : Nat, n = (m : Int) := ⟨n.toNat, by omega⟩
  have hm : up.length = m := by omega
  have hm16 : m ≤ 16 := by omega
  rw [show ((up.length : Int) != (m : Int)) = false from by simp [hm], cond_false]
  obtain ⟨r, hr1, hr2⟩ := IndexFunc_spec (N := N) hw (by omega) (by omega) (show (0 : Int) ≤ (m : Int) by omega) (by omega) up
  simp only [D_slices_ContainsFunc_Luint32_uint32_order_Check_c1, slices_ContainsFunc_Luint32_uint32_order_Check_c1_1, hr1, Option.bind_some]
  by_cases hr : r ≥ 0
  · rw [d_true hr, cond_true]
    refine ⟨2, rfl, ne_iff (by decide) fun h => ?_⟩
    obtain ⟨i, hi, j, hj, hb⟩ := hr2.1 hr
    have := h.inn i (by omega) j hb
    omega
  rw [d_false hr, cond_false]
  have inn : ∀ i, i < m → ∀ j, le up i j → j < m := fun i hi j hb => by
    apply Classical.byContradiction
    intro h
    exact hr (hr2.2 ⟨i, by omega, j, by omega, hb⟩)
  by_cases hB : ∃ i, i < m ∧ badI up i
  · rw [loopD_hit (n := m) (r := some (3, ())) (by omega) _ (fun c hc hb kn => (ck21 hm hm16 hw inn hc _ _ _).1 hb) (fun c hc hb kn => by rw [(ck21 hm hm16 hw inn hc _ _ _).2 hb, backE_eq]) (by omega) hB]
    refine ⟨3, rfl, ne_iff (by decide) fun h => ?_⟩
    obtain ⟨i, hi, hb⟩ := hB
    rcases hb with hb | ⟨j, h5, h6, h7 | ⟨k, h7, h8⟩⟩
    · exact hb (h.refl i (by omega))
    · exact h5 (h.anti j i (by have := inn i hi j h6; omega) (by omega) h7 h6)
    · exact h8 (h.trans i j k (by omega) (by have := inn i hi j h6; omega) h6 h7)
  · rw [loopD_pass (n := m) (by omega) (fun c hc kn => by rw [(ck21 hm hm16 hw inn hc _ _ _).2 fun hb => hB ⟨c, hc, hb⟩, backE_eq]) (fun kn => by simp only [order_Check_4, hm, lt_self, cond_false]; rfl) (by omega)]
    have nb : ∀ i, i < m → ¬ badI up i := fun i hi hb => hB ⟨i, hi, hb⟩
    refine ⟨0, rfl, ⟨fun _ => ⟨by omega, by omega, by omega, fun i hi => inn i (by omega), fun i hi => ?_, fun i j hi hj h5 h6 => ?_, fun i j k hi hj h5 h6 => ?_⟩, fun _ => rfl⟩⟩
    · exact Classical.byContradiction fun h => nb i (by omega) (.inl h)
    · exact Classical.byContradiction fun h => nb i (by omega) (.inr ⟨j, fun e => h e.symm, h5, .inl h6⟩)
    · by_cases e : j = i
      · subst e; exact h6
      · exact Classical.byContradiction fun h => nb i (by omega) (.inr ⟨j, e, h5, .inr ⟨k, h6, h⟩⟩)
end Go.Proofs.YtkijpiphgnnonaaDoor
