/- fixed: maps of orders, and what is come to from below and from above. -/
import Derived.Test.YtdlhfddmbdbedaaDoorFixed
import Derived.Test.YtdlhfddmbdbedaaDoorLatticeS
import Derived.Test.YtdlhfddmbdbedaaDoorMapS
import Derived.Test.YtdlhfddmbdbedaaDoorAbsFix
namespace Go.Proofs.YtdlhfddmbdbedaaDoor
open Go.Abs
/-- A map of an order that keeps it. -/
structure Mapd (m : Nat) (up f : List Int) : Prop where
  len : f.length = m
  all : allIn (m : Int) f
  mono : ∀ a b, a < m → b < m → le up a b → le up (fm f a) (fm f b)
theorem Mapd.lt {m : Nat} {up f : List Int} (h : Mapd m up f) (i : Nat) (hi : i < m) : fm f i < m := (h.all.at (by rw [h.len]; exact hi)).2
theorem Mapd.val {m : Nat} {up f : List Int} (h : Mapd m up f) (i : Nat) (hi : i < m) : nth 0 f i = ((fm f i : Nat) : Int) := (h.all.at (by rw [h.len]; exact hi)).1
section
variable {N m : Nat} {up f : List Int} (hfN : f.length < N) (hl : f.length ≤ 9223372036854775807) (hw : WL up) (h : Ord (m : Int) up)
include hfN hl hw h
theorem monotone_eq (hN : 1000 ≤ N) : ∃ e, D_fixed_monotone N (((m : Int), up), f, ()) = some (e, ()) ∧ (e = 0 ↔ Mapd m up f) := by
  have hm : m ≤ 16 := by have := h.h1; omega
  have hlu : up.length = m := by have := h.len; omega
  obtain ⟨b, b1, b2⟩ := into_eq (N := N) (n := (m : Int)) (most := (m : Int)) hfN hl
  simp only [D_fixed_monotone, fixed_monotone_25, fixed_monotone_24, fixed_monotone_23, fixed_monotone_21, fixed_monotone_20, fixed_monotone_3, fixed_monotone_2, fixed_monotone_1, b1, Option.bind_some]
  rcases bcase b2 with ⟨⟨hlen, hall⟩, rfl⟩ | ⟨hno, rfl⟩
  case inr => exact ⟨2, rfl, ne_iff (by decide) fun h => hno ⟨by rw [h.len], h.all⟩⟩
  have hlen : f.length = m := by omega
  have hv : ∀ i, i < m → nth 0 f i = ((fm f i : Nat) : Int) := fun i hi => (hall.at (by omega)).1
  have hlt : ∀ i, i < m → fm f i < m := fun i hi => (hall.at (by omega)).2
  simp only [Bool.not_true, cond_false]
  have hin : ∀ a, a < m → ∀ b, le up a b → b < m := fun a ha b hb => by have := h.inn a (by omega) b hb; omega
  have h9 : ∀ a b, a < m → b < m → ∀ k, fixed_monotone_8 N (fixed_monotone_9 N ((m : Int), up) f (a : Int) (b : Int) k) = if le up (fm f a) (fm f b) then k else some (3, ()) := fun a b ha hb k => by
    simp only [fixed_monotone_8, fixed_monotone_9, ge0_d, lt_d (show a < f.length by omega), lt_d (show b < f.length by omega), Bool.and_self, cond_true, Int.toNat_natCast, hv a ha, hv b hb, lt_d (show fm f a < up.length by have := hlt a ha; omega), Has_eq N (hw.nth (fm f a)) (fm f b), Option.bind_some]
    by_cases e : le up (fm f a) (fm f b)
    · rw [if_pos e, show bt (nth 0 up (fm f a)) (fm f b) = true from e]; rfl
    · rw [if_neg e, show bt (nth 0 up (fm f a)) (fm f b) = false from Bool.eq_false_iff.2 e]; rfl
  have h17 : ∀ a, a < m → ∀ kn k, fixed_monotone_18 N ((m : Int), up) f (a : Int) kn k = fixed_monotone_10 N ((m : Int), up) f (a : Int) (nth 0 up a) (kn ((a : Int) + 1)) := fun a ha kn k => by
    simp only [fixed_monotone_18, fixed_monotone_17, fixed_monotone_16, fixed_monotone_15, fixed_monotone_14, fixed_monotone_13, fixed_monotone_12, fixed_monotone_11, fixed_monotone_7, fixed_monotone_6, fixed_monotone_5, fixed_monotone_4, ge0_d, lt_d (show a < up.length by omega), Bool.and_self, cond_true, Int.toNat_natCast, Each_eq N (nth 0 up a), Option.bind_some, w1 hm ha]
  unfold fixed_monotone_19
  by_cases hmo : ∀ a b, a < m → b < m → le up a b → le up (fm f a) (fm f b)
  · refine ⟨0, loopD_passU (n := m) (fun a ha kn => ?_) (fun kn => ?_) (by omega), fun _ => ⟨hlen, hall, hmo⟩, fun _ => rfl⟩
    · rw [h17 a ha]
      unfold fixed_monotone_10
      exact els_pass (hw.nth a) fun i _ hb kn => (h9 a i ha (hin a ha i hb) _).trans (if_pos (hmo a i ha (hin a ha i hb) hb))
    · simp only [fixed_monotone_18, fixed_monotone_17, fixed_monotone_5, fixed_monotone_4, hlu, lt_self, cond_false, fixed_monotone_22]
  · refine ⟨3, ?_, ne_iff (by decide) fun h => hmo h.mono⟩
    have hex : ∃ a, a < m ∧ ∃ b, le up a b ∧ ¬ le up (fm f a) (fm f b) := Classical.byContradiction fun hn => hmo fun a b ha hb hab => Classical.byContradiction fun hn' => hn ⟨a, ha, b, hab, hn'⟩
    refine loopD_hitU (n := m) (fun a => ∃ b, le up a b ∧ ¬ le up (fm f a) (fm f b)) (fun a ha hb kn => ?_) (fun a ha hb kn => ?_) (by omega) hex
    · rw [h17 a ha]
      unfold fixed_monotone_10
      refine els_hit (hw.nth a) (fun b => ¬ le up (fm f a) (fm f b)) (fun i _ hi hb kn => (h9 a i ha (hin a ha i hi) _).trans (if_neg hb)) (fun i _ hi hb kn => (h9 a i ha (hin a ha i hi) _).trans (if_pos (Classical.not_not.1 hb))) hb
    · rw [h17 a ha]
      unfold fixed_monotone_10
      exact els_pass (hw.nth a) fun i _ hi kn => (h9 a i ha (hin a ha i hi) _).trans (if_pos (Classical.byContradiction fun hn => hb ⟨i, hi, hn⟩))
theorem FixedCheck_eq (hN : 1000 ≤ N) : ∃ e, D_ref_FixedCheck N (((m : Int), up), f, ()) = some (e, ()) ∧ (e = 0 ↔ Mapd m up f) := by
  have hm : m ≤ 16 := by have := h.h1; omega
  have hlu : up.length = m := by have := h.len; omega
  obtain ⟨b, b1, b2⟩ := MapInto_eq (N := N) (n := (m : Int)) (most := (m : Int)) hfN hl
  simp only [D_ref_FixedCheck, ref_FixedCheck_20, ref_FixedCheck_19, ref_FixedCheck_18, ref_FixedCheck_16, ref_FixedCheck_15, ref_FixedCheck_3, ref_FixedCheck_2, ref_FixedCheck_1, b1, Option.bind_some]
  rcases bcase b2 with ⟨⟨hlen, hall⟩, rfl⟩ | ⟨hno, rfl⟩
  case inr => exact ⟨2, rfl, ne_iff (by decide) fun h => hno ⟨by rw [h.len], h.all⟩⟩
  have hlen : f.length = m := by omega
  have hv : ∀ i, i < m → nth 0 f i = ((fm f i : Nat) : Int) := fun i hi => (hall.at (by omega)).1
  have hlt : ∀ i, i < m → fm f i < m := fun i hi => (hall.at (by omega)).2
  simp only [Bool.not_true, cond_false]
  have h6 : ∀ a b, a < m → b < m → ∀ kn k, ref_FixedCheck_6 N ((m : Int), up) f (a : Int) (b : Int) kn k = if le up a b ∧ ¬ le up (fm f a) (fm f b) then some (3, ()) else kn ((b : Int) + 1) := fun a b ha hb kn k => by
    simp only [ref_FixedCheck_6, lt_d hb, cond_true, Below_eq N hw (show a < up.length by omega) (show b < 4611686018427387904 by omega), Option.bind_some, w1 hm hb]
    by_cases e : le up a b
    · rw [show bt (nth 0 up a) b = true from e, cond_true]
      simp only [ge0_d, lt_d (show a < f.length by omega), lt_d (show b < f.length by omega), Bool.and_self, cond_true, Int.toNat_natCast, hv a ha, hv b hb, Below_eq N hw (show fm f a < up.length by have := hlt a ha; omega) (show fm f b < 4611686018427387904 by have := hlt b hb; omega), Option.bind_some]
      by_cases e2 : le up (fm f a) (fm f b)
      · rw [if_neg (fun h => h.2 e2), show bt (nth 0 up (fm f a)) (fm f b) = true from e2]; rfl
      · rw [if_pos ⟨e, e2⟩, show bt (nth 0 up (fm f a)) (fm f b) = false from Bool.eq_false_iff.2 e2]; rfl
    · rw [if_neg (fun h => e h.1), show bt (nth 0 up a) b = false from Bool.eq_false_iff.2 e]; rfl
  have h13 : ∀ a, a < m → ∀ kn k, ref_FixedCheck_13 N ((m : Int), up) f (a : Int) kn k = ref_FixedCheck_7 N ((m : Int), up) f (a : Int) (kn ((a : Int) + 1)) := fun a ha kn k => by
    simp only [ref_FixedCheck_13, ref_FixedCheck_12, ref_FixedCheck_11, ref_FixedCheck_10, ref_FixedCheck_9, ref_FixedCheck_8, ref_FixedCheck_5, ref_FixedCheck_4, lt_d ha, cond_true, w1 hm ha]
  have h7p : ∀ a, a < m → (∀ b, b < m → le up a b → le up (fm f a) (fm f b)) → ∀ k, ref_FixedCheck_7 N ((m : Int), up) f (a : Int) k = k := fun a ha hok k => by
    unfold ref_FixedCheck_7
    exact loopD_passU (n := m) (fun b hb kn => by rw [h6 a b ha hb, if_neg fun e => e.2 (hok b hb e.1)]) (fun kn => by simp only [ref_FixedCheck_6, lt_self, cond_false]) (by omega)
  unfold ref_FixedCheck_14
  by_cases hmo : ∀ a b, a < m → b < m → le up a b → le up (fm f a) (fm f b)
  · refine ⟨0, loopD_passU (n := m) (fun a ha kn => ?_) (fun kn => ?_) (by omega), fun _ => ⟨hlen, hall, hmo⟩, fun _ => rfl⟩
    · rw [h13 a ha, h7p a ha (fun b hb => hmo a b ha hb)]
    · simp only [ref_FixedCheck_13, ref_FixedCheck_4, lt_self, cond_false, ref_FixedCheck_17]
  · refine ⟨3, ?_, ne_iff (by decide) fun h => hmo h.mono⟩
    have hex : ∃ a, a < m ∧ ∃ b, b < m ∧ le up a b ∧ ¬ le up (fm f a) (fm f b) := Classical.byContradiction fun hn => hmo fun a b ha hb hab => Classical.byContradiction fun hn' => hn ⟨a, ha, b, hb, hab, hn'⟩
    refine loopD_hitU (n := m) (fun a => ∃ b, b < m ∧ le up a b ∧ ¬ le up (fm f a) (fm f b)) (fun a ha hb kn => ?_) (fun a ha hnb kn => ?_) (by omega) hex
    · rw [h13 a ha]
      unfold ref_FixedCheck_7
      exact loopD_hitU (n := m) (fun b => le up a b ∧ ¬ le up (fm f a) (fm f b)) (fun b hb e kn => by rw [h6 a b ha hb, if_pos e]) (fun b hb e kn => by rw [h6 a b ha hb, if_neg e]) (by omega) hb
    · rw [h13 a ha, h7p a ha fun b hb e => Classical.byContradiction fun hn => hnb ⟨b, hb, e, hn⟩]
end
theorem mapped_eq {N : Nat} {n : Int} {up f : List Int} (hN : 1000 ≤ N) (hfN : f.length < N) (hl : f.length ≤ 9223372036854775807) (hw : WL up) : ∃ b, D_keep_mapped N ((n, up), f, ()) = some (b, ()) ∧ (b = true ↔ Ord n up ∧ Mapd n.toNat up f) := by
  obtain ⟨s, s1, s2⟩ := sound_eq (N := N) (by omega) hw n
  simp only [D_keep_mapped, keep_mapped_1, s1, Option.bind_some]
  rcases bcase s2 with ⟨h, rfl⟩ | ⟨h, rfl⟩
  · obtain ⟨m, rfl⟩ : ∃ m : Nat, n = (m : Int) := ⟨n.toNat, by have := h.h0; omega⟩
    obtain ⟨e, e1, e2⟩ := FixedCheck_eq hfN hl hw h hN
    refine ⟨e == 0, by simp only [e1, Option.bind_some, cond_true], ?_⟩
    rw [beq_iff_eq, e2]
    exact ⟨fun e => ⟨h, e⟩, fun e => e.2⟩
  · exact ⟨false, rfl, fun e => Bool.noConfusion e, fun e => absurd e.1 h⟩
theorem fCheck_eq {N : Nat} {n : Int} {up f : List Int} (hN : 1000 ≤ N) (hfN : f.length < N) (hl : f.length ≤ 9223372036854775807) (hw : WL up) : ∃ e, D_fixed_Check N ((n, up), f, ()) = some (e, ()) ∧ (e = 0 ↔ Ord n up ∧ Mapd n.toNat up f) := by
  obtain ⟨s, s1, s2⟩ := Check_spec (N := N) (by omega) hw n
  simp only [D_fixed_Check, fixed_Check_1, s1, Option.bind_some]
  by_cases h : Ord n up
  · obtain rfl := s2.2 h
    obtain ⟨m, rfl⟩ : ∃ m : Nat, n = (m : Int) := ⟨n.toNat, by have := h.h0; omega⟩
    obtain ⟨e, e1, e2⟩ := monotone_eq hfN hl hw h hN
    refine ⟨e, by simp only [e1, Option.bind_some, bne_self_eq_false, cond_false], ?_⟩
    rw [e2]
    exact ⟨fun e => ⟨h, e⟩, fun e => e.2⟩
  · have : s ≠ 0 := fun e => h (s2.1 e)
    refine ⟨s, by rw [show (s != 0) = true from bne_iff_ne.2 this]; rfl, ne_iff this fun e => h e.1⟩
/-- What is come to from an element. -/
structure Sett (m : Nat) (L : Nat → Nat → Prop) (g : Nat → Nat) (s k x : Nat) : Prop where
  it : x = itf g s k
  kl : k < m
  stays : g x = x
  first : ∀ j, j < k → g (itf g s j) ≠ itf g s j
  lt : x < m
  least : ∀ p, p < m → L (g p) p → L x p
theorem settle_path {N m : Nat} {up f : List Int} (hN : 1000 ≤ N) (hm : m ≤ 16) (h : Mapd m up f) {s k : Nat} (hs : s < m) (hk : k < m) (h1 : fm f (itf (fm f) s k) = itf (fm f) s k) (h2 : ∀ j, j < k → fm f (itf (fm f) s j) ≠ itf (fm f) s j) :
    D_fixed_settle_int_fixed_Map_To N ((s : Int), f, ()) = some (((itf (fm f) s k : Nat) : Int), (k : Int), ()) := by
  have hlt : ∀ j, itf (fm f) s j < m := itf_lt h.lt hs
  simp only [D_fixed_settle_int_fixed_Map_To, fixed_settle_int_fixed_Map_To_7, fixed_settle_int_fixed_Map_To_6, fixed_settle_int_fixed_Map_To_5, fixed_settle_int_fixed_Map_To_2, fixed_settle_int_fixed_Map_To_1]
  unfold fixed_settle_int_fixed_Map_To_4
  have hto : ∀ j, D_fixed_Map_To N (f, ((itf (fm f) s j : Nat) : Int), ()) = some (((fm f (itf (fm f) s j) : Nat) : Int), ()) := fun j => by
    simp only [D_fixed_Map_To, fixed_Map_To_1, ge0_d, lt_d (show itf (fm f) s j < f.length by rw [h.len]; exact hlt j), Bool.and_self, cond_true, Int.toNat_natCast, h.val _ (hlt j)]
  refine loopD_path (N := N) k (fun j => (((itf (fm f) s j : Nat) : Int), (j : Int))) (fun j hj kn => ?_) (fun kn => ?_) (by omega)
  · simp only [fixed_settle_int_fixed_Map_To_3, hto, Option.bind_some, show (((fm f (itf (fm f) s j) : Nat) : Int) == ((itf (fm f) s j : Nat) : Int)) = false from beq_false_of_ne (by have := h2 j hj; omega), cond_false, w64 (show -9223372036854775808 ≤ (j : Int) + 1 by omega) (show (j : Int) + 1 ≤ 9223372036854775807 by omega)]
    rfl
  · simp only [fixed_settle_int_fixed_Map_To_3, hto, Option.bind_some, h1, beq_self_eq_true, cond_true]
theorem LG_spec {N : Nat} {n : Int} {up f : List Int} (hN : 1000 ≤ N) (hfN : f.length < N) (hl : f.length ≤ 9223372036854775807) (hw : WL up) :
    (∃ e, e ≠ 0 ∧ D_fixed_Least N ((n, up), f, ()) = some (0, 0, e, ()) ∧ D_fixed_Greatest N ((n, up), f, ()) = some (0, 0, e, ()) ∧ (Ord n up → Mapd n.toNat up f → e = 5 ∧ ¬ HasLat n.toNat up)) ∨
    (∃ (m : Nat) (J M : List Int) (b t x k y l : Nat), n = (m : Int) ∧ m ≤ 16 ∧ up.length = m ∧ Ord (m : Int) up ∧ IsLat m up J M (b : Int) (t : Int) ∧ Mapd m up f ∧
      D_fixed_Least N ((n, up), f, ()) = some ((x : Int), (k : Int), 0, ()) ∧ D_fixed_Greatest N ((n, up), f, ()) = some ((y : Int), (l : Int), 0, ()) ∧ Sett m (le up) (fm f) b k x ∧ Sett m (fun i j => le up j i) (fm f) t l y) := by
  simp only [D_fixed_Least, fixed_Least_1, D_fixed_Greatest, fixed_Greatest_1, D_fixed_from_fixed_Least_c1, fixed_from_fixed_Least_c1_1, D_fixed_from_fixed_Greatest_c1, fixed_from_fixed_Greatest_c1_1]
  rcases LatOf_spec hN hw n with ⟨e, he, h1, h2⟩ | ⟨m, J, M, B, T, rfl, ho, hL, h1⟩
  · refine .inl ⟨e, he, ?_, ?_, fun ho _ => h2 ho⟩
    · simp only [h1, Option.bind_some, show (e == 0) = false from beq_false_of_ne he, show (e != 0) = true from bne_iff_ne.2 he, cond_false, cond_true]
    · simp only [h1, Option.bind_some, show (e == 0) = false from beq_false_of_ne he, show (e != 0) = true from bne_iff_ne.2 he, cond_false, cond_true]
  · obtain ⟨b, rfl⟩ : ∃ b : Nat, B = (b : Int) := ⟨B.toNat, by have := hL.b0; omega⟩
    obtain ⟨t, rfl⟩ : ∃ t : Nat, T = (t : Int) := ⟨T.toNat, by have := hL.t0; omega⟩
    have hm : m ≤ 16 := by have := ho.h1; omega
    have l := hL.lat
    have hbl := l.blt
    have htl := l.tlt
    have hble := l.ble
    have htle := l.tle
    simp only [Int.toNat_natCast] at hbl htl hble htle
    obtain ⟨e, e1, e2⟩ := monotone_eq hfN hl hw ho hN
    by_cases hmp : Mapd m up f
    case neg =>
      have he : e ≠ 0 := fun e' => hmp (e2.1 e')
      refine .inl ⟨e, he, ?_, ?_, fun _ h => absurd h hmp⟩
      · simp only [h1, Option.bind_some, beq_self_eq_true, cond_true, e1, show (e != 0) = true from bne_iff_ne.2 he]
      · simp only [h1, Option.bind_some, beq_self_eq_true, cond_true, e1, show (e != 0) = true from bne_iff_ne.2 he]
    obtain rfl := e2.2 hmp
    have hmono : ∀ i j, i < m → j < m → le up i j → le up (fm f i) (fm f j) := hmp.mono
    obtain ⟨k, k1, k2, k3, k4, k5⟩ := settle_up (L := le up) (f := fm f) l.refl l.anti l.trans hmp.lt hmono hbl (hble _ (hmp.lt b hbl))
    obtain ⟨q, q1, q2, q3, q4, q5⟩ := settle_up (L := fun i j => le up j i) (f := fm f) l.turn.refl l.turn.anti l.turn.trans hmp.lt (fun i j hi hj e => hmono j i hj hi e) htl (htle _ (hmp.lt t htl))
    refine .inr ⟨m, J, M, b, t, itf (fm f) b k, k, itf (fm f) t q, q, rfl, hm, by have := ho.len; omega, ho, hL, hmp, ?_, ?_, ⟨rfl, k1, k2, k3, k4, fun p hp e => k5 p hp e (hble p hp)⟩, ⟨rfl, q1, q2, q3, q4, fun p hp e => q5 p hp e (htle p hp)⟩⟩
    · simp only [h1, Option.bind_some, beq_self_eq_true, cond_true, e1, bne_self_eq_false, cond_false, D_fixed_Least_c1, fixed_Least_c1_1, settle_path hN hm hmp hbl k1 k2 k3]
    · simp only [h1, Option.bind_some, beq_self_eq_true, cond_true, e1, bne_self_eq_false, cond_false, D_fixed_Greatest_c1, fixed_Greatest_c1_1, settle_path hN hm hmp htl q1 q2 q3]
end Go.Proofs.YtdlhfddmbdbedaaDoor
