/- order: what its functions, and the references' on orders, come to. -/
import Derived.Test.YtkijpiphgnnonaaDoorOrder
import Derived.Test.YtkijpiphgnnonaaDoorSetsS
import Derived.Test.YtkijpiphgnnonaaDoorAbsOrd
namespace Go.Proofs.YtkijpiphgnnonaaDoor
open Go.Abs
theorem Bit_eq (N : Nat) {w : Int} (hw : W32 w) {i : Nat} (hi : i < 4611686018427387904) : D_ref_Bit N (w, (i : Int), ()) = some (bt w i, ()) := by
  simp only [D_ref_Bit, ref_Bit_1]
  have e : IntKind.u64.wrap (i : Int) = (i : Int) := by rw [IntKind.wrap_u64]; omega
  rw [e, d_false (show ¬ ((i : Int) < 0) by omega), cond_false]
  congr 2
  rw [Bool.eq_iff_iff, ne_zero_iff W32.iand]
  constructor
  · rintro ⟨j, hj, hb⟩
    rw [bt_iand hw W32.ishl, bt_ishl (by omega), Bool.and_eq_true, Bool.and_eq_true, decide_eq_true_eq] at hb
    have : j = i := by omega
    rw [← this]; exact hb.1
  · intro hb
    have hi := bt_lt hw hb
    refine ⟨i, hi, ?_⟩
    rw [bt_iand hw W32.ishl, bt_ishl (by omega), hb]
    simp [hi]
section
variable {n : Int} {up : List Int}
theorem Below_eq (N : Nat) (hw : WL up) {i j : Nat} (hi : i < up.length) (hj : j < 4611686018427387904) : D_ref_Below N ((n, up), (i : Int), (j : Int), ()) = some (bt (nth 0 up i) j, ()) := by
  simp only [D_ref_Below, ref_Below_1]
  rw [d_true (show (0 : Int) ≤ (i : Int) by omega), d_true (show (i : Int) < (up.length : Int) by omega)]
  simp only [Int.toNat_natCast, Bit_eq N (WL.nth hw i) hj]
  rfl
theorem kbelow_eq (N : Nat) (hw : WL up) {i j : Nat} (hi : i < up.length) (hj : j < 4611686018427387904) : D_keep_below N ((n, up), (i : Int), (j : Int), ()) = some (bt (nth 0 up i) j, ()) := by
  simp only [D_keep_below, keep_below_1]
  rw [d_true (show (0 : Int) ≤ (i : Int) by omega), d_true (show (i : Int) < (up.length : Int) by omega)]
  simp only [Int.toNat_natCast, Bit_eq N (WL.nth hw i) hj]
  rfl
theorem Outside_eq {N : Nat} (hN : 32 < N) {w : Int} (hw : W32 w) {n : Nat} (hn : n ≤ 32) : ∃ b, D_ref_Outside N (w, (n : Int), ()) = some (b, ()) ∧ (b = true ↔ ∃ i, n ≤ i ∧ bt w i = true) := by
  simp only [D_ref_Outside, joinD, loopE, backE_eq, ref_Outside_1, ref_Outside_2, ref_Outside_3]
  rw [loopD_all (n := 32) (by omega) (r := some (true, ())) (k := some (false, ())) (fun i => bt w i = true) ?_ ?_ ?_ hN n hn]
  · by_cases h : ∃ i, n ≤ i ∧ i < 32 ∧ bt w i = true
    · rw [if_pos h]
      exact ⟨true, rfl, by simp; obtain ⟨i, h1, _, h2⟩ := h; exact ⟨i, h1, h2⟩⟩
    · rw [if_neg h]
      exact ⟨false, rfl, by simp; exact fun i hi => Bool.eq_false_iff.2 fun hb => h ⟨i, hi, bt_lt hw hb, hb⟩⟩
  · intro i hi hb kn
    rw [d_true (show (i : Int) < 32 by omega)]
    simp only [Bit_eq N hw (show i < 4611686018427387904 by omega), hb, Option.bind_some, cond_true]
  · intro i hi hb kn
    rw [d_true (show (i : Int) < 32 by omega)]
    have hb : bt w i = false := Bool.eq_false_iff.2 hb
    simp only [Bit_eq N hw (show i < 4611686018427387904 by omega), hb, Option.bind_some, cond_true, cond_false, w64 (show -9223372036854775808 ≤ (i : Int) + 1 by omega) (by omega)]
  · intro kn; rfl
end
theorem w1 {m i : Nat} (hm : m ≤ 16) (hi : i < m) : IntKind.i64.wrap ((i : Int) + 1) = (i : Int) + 1 := w64 (by omega) (by omega)
theorem lt_d {i m : Nat} (h : i < m) : decide ((i : Int) < (m : Int)) = true := d_true (by omega)
theorem lt_self (m : Nat) : decide ((m : Int) < (m : Int)) = false := d_false (by omega)
theorem ge0_d (i : Nat) : decide ((0 : Int) ≤ (i : Int)) = true := d_true (by omega)
def bad3 (up : List Int) (i j k : Nat) : Prop := le up i j ∧ le up j k ∧ ¬ le up i k
def bad2 (up : List Int) (m i j : Nat) : Prop := (i = j ∧ ¬ le up i i ∨ i ≠ j ∧ le up i j ∧ le up j i) ∨ ∃ k, k < m ∧ bad3 up i j k
theorem bel {m : Nat} {up : List Int} {N : Nat} (hm : up.length = m) (hm16 : m ≤ 16) (hw : WL up) {i j : Nat} (hi : i < m) (hj : j < m) : D_ref_Below N (((m : Int), up), (i : Int), (j : Int), ()) = some (bt (nth 0 up i) j, ()) :=
  Below_eq (up := up) N hw (show i < up.length by omega) (show j < 4611686018427387904 by omega)
section
variable {m : Nat} {up : List Int} {N : Nat} (hm : up.length = m) (hm16 : m ≤ 16) (hN : 40 ≤ N) (hw : WL up)
include hm hm16 hN hw
omit hN in
theorem oc22 {i j c : Nat} (hi : i < m) (hj : j < m) (hc : c < m) (k) (kn) :
    (bad3 up i j c → ref_OrderCheck_5 N k i j m up c kn = some (3, ())) ∧ (¬ bad3 up i j c → ref_OrderCheck_5 N k i j m up c kn = kn (((i : Int), (j : Int), (m : Int), up), (c : Int) + 1)) := by
  simp only [ref_OrderCheck_5, ref_OrderCheck_4, joinD, lt_d hc, cond_true, bel hm hm16 hw hi hj, bel hm hm16 hw hj hc, bel hm hm16 hw hi hc, Option.bind_some, w1 hm16 hc, bad3, le]
  cases bt (nth 0 up i) j <;> cases bt (nth 0 up j) c <;> cases bt (nth 0 up i) c <;> simp
theorem oc23 {i j : Nat} (hi : i < m) (hj : j < m) (k) :
    ((∃ c, c < m ∧ bad3 up i j c) → ref_OrderCheck_6 N k i j false m up = some (3, ())) ∧ ((¬ ∃ c, c < m ∧ bad3 up i j c) → ref_OrderCheck_6 N k i j false m up = k ((i : Int), (j : Int), (m : Int), up)) := by
  simp only [ref_OrderCheck_6, cond_false, loopE]
  refine ⟨fun h => loopD_hit (n := m) (by omega) (bad3 up i j) (fun c hc hb kn => (oc22 hm hm16 hw hi hj hc _ _).1 hb) (fun c hc hb kn => by rw [(oc22 hm hm16 hw hi hj hc _ _).2 hb, backE_eq]) (by omega) h,
    fun h => loopD_pass (n := m) (by omega) (fun c hc kn => by rw [(oc22 hm hm16 hw hi hj hc _ _).2 fun hb => h ⟨c, hc, hb⟩, backE_eq]) (fun kn => by simp only [ref_OrderCheck_5, lt_self, cond_false]) (by omega)⟩
theorem oc30 {i j : Nat} (hi : i < m) (hj : j < m) (k) (kn) :
    (bad2 up m i j → ref_OrderCheck_7 N k i m up j kn = some (3, ())) ∧ (¬ bad2 up m i j → ref_OrderCheck_7 N k i m up j kn = kn (((i : Int), (m : Int), up), (j : Int) + 1)) := by
  obtain ⟨h1, h2⟩ := oc23 hm hm16 hN hw hi hj (fun s => ref_OrderCheck_3 N kn s.1 s.2.1 s.2.2.1 s.2.2.2)
  have ht : ∀ k a b c d, ref_OrderCheck_6 N k a b true c d = some (3, ()) := fun _ _ _ _ _ => rfl
  simp only [ref_OrderCheck_7, joinD, lt_d hj, cond_true, bel hm hm16 hw hi hj, bel hm hm16 hw hj hi, bel hm hm16 hw hi hi, Option.bind_some]
  simp only [ref_OrderCheck_3, w1 hm16 hj] at h1 h2 ⊢
  have key : ∀ b : Bool, (b = true ↔ (i = j ∧ ¬ le up i i ∨ i ≠ j ∧ le up i j ∧ le up j i)) → (bad2 up m i j → ref_OrderCheck_6 N (fun s => kn ((s.1, s.2.2.1, s.2.2.2), IntKind.i64.wrap (s.2.1 + 1))) i j b m up = some (3, ())) ∧
      (¬ bad2 up m i j → ref_OrderCheck_6 N (fun s => kn ((s.1, s.2.2.1, s.2.2.2), IntKind.i64.wrap (s.2.1 + 1))) i j b m up = kn (((i : Int), (m : Int), up), (j : Int) + 1)) := fun b hb => by
    unfold bad2
    cases b with
    | true => exact ⟨fun _ => ht _ _ _ _ _, fun h => absurd (.inl (hb.1 rfl)) h⟩
    | false =>
      have hb : ¬ (i = j ∧ ¬ le up i i ∨ i ≠ j ∧ le up i j ∧ le up j i) := fun h => by have := hb.2 h; cases this
      exact ⟨fun h => h1 (h.resolve_left hb), fun h => h2 fun h' => h (.inr h')⟩
  by_cases hij : i = j
  · subst hij
    simp only [beq_self_eq_true, cond_true, bne_self_eq_false, cond_false]
    cases b1 : bt (nth 0 up i) i with
    | false => exact key true (by simp [le, b1])
    | true => exact key false (by simp [le, b1])
  · simp only [show ((i : Int) == (j : Int)) = false from by simp; omega, show ((i : Int) != (j : Int)) = true from by simp; omega, cond_true, cond_false]
    cases b1 : bt (nth 0 up i) j with
    | false => exact key false (by simp [le, b1, hij])
    | true =>
      simp only [cond_true]
      exact key _ (by simp [le, b1, hij])
theorem oc37 {i : Nat} (hi : i < m) (k) (kn) :
    ((∃ j, j < m ∧ bad2 up m i j) → ref_OrderCheck_8 N k m up i kn = some (3, ())) ∧ ((¬ ∃ j, j < m ∧ bad2 up m i j) → ref_OrderCheck_8 N k m up i kn = kn (((m : Int), up), (i : Int) + 1)) := by
  simp only [ref_OrderCheck_8, ref_OrderCheck_2, joinD, loopE, lt_d hi, cond_true]
  refine ⟨fun h => loopD_hit (n := m) (by omega) (bad2 up m i) (fun c hc hb kn => (oc30 hm hm16 hN hw hi hc _ _).1 hb) (fun c hc hb kn => by rw [(oc30 hm hm16 hN hw hi hc _ _).2 hb, backE_eq]) (by omega) h,
    fun h => (loopD_pass (n := m) (k := kn (((m : Int), up), IntKind.i64.wrap ((i : Int) + 1))) (by omega) (fun c hc kn => by rw [(oc30 hm hm16 hN hw hi hc _ _).2 fun hb => h ⟨c, hc, hb⟩, backE_eq]) (fun kn => by simp only [ref_OrderCheck_7, lt_self, cond_false]) (by omega)).trans (by rw [w1 hm16 hi])⟩
theorem oc5 {i : Nat} (hi : i < m) (k) (kn) :
    ((∃ j, m ≤ j ∧ bt (nth 0 up i) j = true) → ref_OrderCheck_10 N k m up i kn = some (2, ())) ∧ ((¬ ∃ j, m ≤ j ∧ bt (nth 0 up i) j = true) → ref_OrderCheck_10 N k m up i kn = kn (((m : Int), up), (i : Int) + 1)) := by
  obtain ⟨b, hb1, hb2⟩ := Outside_eq (N := N) (by omega) (WL.nth hw i) (show m ≤ 32 by omega)
  simp only [ref_OrderCheck_10, lt_d hi, ge0_d, d_true (show (i : Int) < (up.length : Int) by omega), cond_true, Bool.and_self, Int.toNat_natCast, hb1, Option.bind_some, w1 hm16 hi]
  rw [← hb2]
  cases b <;> simp
end
theorem ne_iff {e : Int} {p : Prop} (he : e ≠ 0) (h : ¬ p) : e = 0 ↔ p := ⟨fun h' => absurd h' he, fun h' => absurd h' h⟩
theorem OrderCheck_spec {N : Nat} (hN : 40 ≤ N) {up : List Int} (hw : WL up) (n : Int) : ∃ e, D_ref_OrderCheck N ((n, up), ()) = some (e, ()) ∧ (e = 0 ↔ Ord n up) := by
  simp only [D_ref_OrderCheck, ref_OrderCheck_11, ref_OrderCheck_9, ref_OrderCheck_1, joinD, loopE]
  by_cases h0 : n < 0
  · rw [d_true h0]; exact ⟨1, rfl, by simp; exact fun h => by have := h.h0; omega⟩
  by_cases h1 : n > 16
  · rw [d_false h0, d_true h1]; exact ⟨1, rfl, by simp; exact fun h => by have := h.h1; omega⟩
  rw [d_false h0, d_false h1, cond_false, cond_false]
  by_cases h2 : (up.length : Int) = n
  case neg =>
    rw [show ((up.length : Int) != n) = true from bne_iff_ne.2 h2]
    exact ⟨2, rfl, by simp; exact fun h => by have := h.len; have := h.h0; omega⟩
  obtain ⟨m, rfl⟩ : ∃ m : Nat, n = (m : Int) := ⟨n.toNat, by omega⟩
  have hm : up.length = m := by omega
  have hm16 : m ≤ 16 := by omega
  rw [show ((up.length : Int) != (m : Int)) = false from by simp [hm], cond_false]
  by_cases hA : ∃ i, i < m ∧ ∃ j, m ≤ j ∧ bt (nth 0 up i) j = true
  · rw [loopD_hit (n := m) (r := some (2, ())) (by omega) _ (fun c hc hb kn => (oc5 hm hm16 hN hw hc _ _).1 hb) (fun c hc hb kn => by rw [(oc5 hm hm16 hN hw hc _ _).2 hb, backE_eq]) (by omega) hA]
    refine ⟨2, rfl, ne_iff (by decide) fun h => ?_⟩
    obtain ⟨i, hi, j, hj, hb⟩ := hA
    have := h.inn i (by omega) j hb
    omega
  have inn : ∀ i, i < m → ∀ j, le up i j → j < m := fun i hi j hb => by
    apply Classical.byContradiction
    intro h
    exact hA ⟨i, hi, j, by omega, hb⟩
  rw [loopD_pass (n := m) (by omega) (fun c hc kn => by rw [(oc5 hm hm16 hN hw hc _ _).2 fun hb => hA ⟨c, hc, hb⟩, backE_eq]) (fun kn => by simp only [ref_OrderCheck_10, lt_self, cond_false]; rfl) (by omega)]
  by_cases hB : ∃ i, i < m ∧ ∃ j, j < m ∧ bad2 up m i j
  · rw [loopD_hit (n := m) (r := some (3, ())) (by omega) _ (fun c hc hb kn => (oc37 hm hm16 hN hw hc _ _).1 hb) (fun c hc hb kn => by rw [(oc37 hm hm16 hN hw hc _ _).2 hb, backE_eq]) (by omega) hB]
    refine ⟨3, rfl, ne_iff (by decide) fun h => ?_⟩
    obtain ⟨i, hi, j, hj, hb⟩ := hB
    rcases hb with (⟨rfl, h5⟩ | ⟨hne, h5, h6⟩) | ⟨k, hk, h5, h6, h7⟩
    · exact h5 (h.refl i (by omega))
    · exact hne (h.anti i j (by omega) (by omega) h5 h6)
    · exact h7 (h.trans i j k (by omega) (by omega) h5 h6)
  · rw [loopD_pass (n := m) (by omega) (fun c hc kn => by rw [(oc37 hm hm16 hN hw hc _ _).2 fun hb => hB ⟨c, hc, hb⟩, backE_eq]) (fun kn => by simp only [ref_OrderCheck_8, lt_self, cond_false]; rfl) (by omega)]
    have nb : ∀ i j, i < m → j < m → ¬ bad2 up m i j := fun i j hi hj hb => hB ⟨i, hi, j, hj, hb⟩
    refine ⟨0, rfl, ⟨fun _ => ⟨by omega, by omega, by omega, fun i hi => inn i (by omega), fun i hi => ?_, fun i j hi hj h5 h6 => ?_, fun i j k hi hj h5 h6 => ?_⟩, fun _ => rfl⟩⟩
    · exact Classical.byContradiction fun h => nb i i (by omega) (by omega) (.inl (.inl ⟨rfl, h⟩))
    · exact Classical.byContradiction fun h => nb i j (by omega) (by omega) (.inl (.inr ⟨h, h5, h6⟩))
    · have hk := inn j (by omega) k h6
      exact Classical.byContradiction fun h => nb i j (by omega) (by omega) (.inr ⟨k, hk, h5, h6, h⟩)
end Go.Proofs.YtkijpiphgnnonaaDoor
