/- order.Of: the least order with some pairs. -/
import Derived.Test.YtiepnpfjlknkoaaDoorOrderD
import Derived.Test.YtiepnpfjlknkoaaDoorCoversS
namespace Go.Proofs.YtiepnpfjlknkoaaDoor
open Go.Abs
/-- A table of words: what a relation is made of. -/
structure Tab (m : Nat) (u : List Int) : Prop where
  len : u.length = m
  w : WL u
  refl : ∀ i, i < m → le u i i
  inn : ∀ i, i < m → ∀ j, le u i j → j < m
def oneL (m : Nat) : List Int := (List.range m).map one
theorem oneL_len (m : Nat) : (oneL m).length = m := by simp [oneL]
theorem nth_oneL {m i : Nat} (hi : i < m) : nth 0 (oneL m) i = one i := by
  rw [nth_lt (by rw [oneL_len]; exact hi)]; simp [oneL]
theorem le_oneL {m i j : Nat} (hm : m ≤ 16) (hi : i < m) : le (oneL m) i j ↔ j = i := by
  unfold le
  rw [nth_oneL hi, bt_one (by omega)]; simp
/-- One step of the closure. -/
def warS (u : List Int) (k : Nat) : List Int := (List.range u.length).map fun i => if le u i k then ior .u32 (nth 0 u i) (nth 0 u k) else nth 0 u i
theorem war_len (u : List Int) (k : Nat) : (warS u k).length = u.length := by simp [warS]
theorem nth_war {u : List Int} {k i : Nat} (hi : i < u.length) : nth 0 (warS u k) i = if le u i k then ior .u32 (nth 0 u i) (nth 0 u k) else nth 0 u i := by
  rw [nth_lt (by rw [war_len]; exact hi)]; simp [warS]
theorem le_war {u : List Int} (hw : WL u) {k i : Nat} (hi : i < u.length) (j : Nat) : le (warS u k) i j ↔ le u i j ∨ le u i k ∧ le u k j := by
  show bt (nth 0 (warS u k) i) j = true ↔ _
  rw [nth_war hi]
  by_cases h : le u i k
  · rw [if_pos h, bt_ior (WL.nth hw i) (WL.nth hw k)]
    simp only [Bool.or_eq_true, h, true_and]; rfl
  · rw [if_neg h]
    simp only [h, false_and, or_false]; rfl
theorem war_tab {m : Nat} {u : List Int} (h : Tab m u) {k : Nat} (hk : k < m) : Tab m (warS u k) where
  len := by rw [war_len, h.len]
  w := fun x hx => by
    obtain ⟨i, hi, e⟩ := List.mem_map.1 hx
    subst e
    split
    · exact W32.ior
    · exact WL.nth h.w i
  refl := fun i hi => (le_war h.w (by rw [h.len]; exact hi) i).2 (.inl (h.refl i hi))
  inn := fun i hi j hj => by
    rcases (le_war h.w (by rw [h.len]; exact hi) j).1 hj with h1 | ⟨_, h2⟩
    · exact h.inn i hi j h1
    · exact h.inn k hk j h2
theorem war_self {m : Nat} {u : List Int} (h : Tab m u) {k : Nat} (hk : k < m) : nth 0 (warS u k) k = nth 0 u k := by
  rw [nth_war (by rw [h.len]; exact hk), if_pos (h.refl k hk)]
  refine bt_ext W32.ior (WL.nth h.w k) fun i _ => ?_
  rw [bt_ior (WL.nth h.w k) (WL.nth h.w k), Bool.or_self]
/-- Closed by way of the first k. -/
def ClosTo (m : Nat) (u : List Int) (k : Nat) : Prop := ∀ c, c < k → ∀ i j, i < m → le u i c → le u c j → le u i j
theorem war_clos {m : Nat} {u : List Int} (h : Tab m u) {k : Nat} (hk : k < m) (hc : ClosTo m u k) : ClosTo m (warS u k) (k + 1) := by
  intro c hck i j hi h1 h2
  have hl : ∀ i, i < m → i < u.length := fun i hi => by rw [h.len]; exact hi
  rw [le_war h.w (hl i hi)] at h1 ⊢
  rw [le_war h.w (hl c (by omega))] at h2
  by_cases e : c = k
  · subst e
    have h3 : le u i c := h1.elim id fun h => h.1
    have h4 : le u c j := h2.elim id fun h => h.2
    exact .inr ⟨h3, h4⟩
  · have hck' : c < k := by omega
    rcases h1 with h1 | ⟨h1, h1'⟩ <;> rcases h2 with h2 | ⟨h2, h2'⟩
    · exact .inl (hc c hck' i j hi h1 h2)
    · exact .inr ⟨hc c hck' i k hi h1 h2, h2'⟩
    · exact .inr ⟨h1, hc c hck' k j hk h1' h2⟩
    · exact .inr ⟨h1, h2'⟩
/-- Within every closed relation that holds the pairs. -/
def Least (m : Nat) (pairs : List (Int × Int)) (u : List Int) : Prop := ∀ Q : Nat → Nat → Prop, (∀ i, i < m → Q i i) → (∀ i j k, i < m → j < m → k < m → Q i j → Q j k → Q i k) →
  (∀ i j : Nat, ((i : Int), (j : Int)) ∈ pairs → Q i j) → ∀ i j, i < m → le u i j → Q i j
theorem war_least {m : Nat} {pairs : List (Int × Int)} {u : List Int} (h : Tab m u) {k : Nat} (hk : k < m) (hl : Least m pairs u) : Least m pairs (warS u k) := by
  intro Q q1 q2 q3 i j hi hj
  rcases (le_war h.w (by rw [h.len]; exact hi) j).1 hj with h1 | ⟨h1, h2⟩
  · exact hl Q q1 q2 q3 i j hi h1
  · exact q2 i k j hi hk (h.inn k hk j h2) (hl Q q1 q2 q3 i k hi h1) (hl Q q1 q2 q3 k j hk h2)
def Holds (pairs : List (Int × Int)) (u : List Int) : Prop := ∀ i j : Nat, ((i : Int), (j : Int)) ∈ pairs → le u i j
section
variable {m : Nat} {N : Nat} (hm16 : m ≤ 16) (hN : 1000 ≤ N)
include hm16 hN
theorem of6 (k : List Int → Option Rt_order_Of) : order_Of_6 N (m : Int) k = k (oneL m) := by
  have hrep : (List.replicate m (0 : Int)).length = m := by simp
  unfold order_Of_6
  refine loopD_const (fun s => ∃ t : Nat, s.1 = (t : Int) ∧ t ≤ m ∧ s.2.length = m ∧ ∀ i, i < t → nth 0 s.2 i = one i) (fun s => m - s.1.toNat) _ ?_ N _ ⟨0, rfl, Nat.zero_le _, by simp, fun i h => by omega⟩ (by simp; omega)
  rintro ⟨a, l⟩ ⟨t, ha, ht, hl, hok⟩ kn hkn
  simp only at ha hl hok
  subst ha
  by_cases htm : t < m
  · simp only [order_Of_5, hrep, hl, lt_d htm, ge0_d, cond_true, Bool.and_self, Int.toNat_natCast, One_eq N t, Option.bind_some, w1 hm16 htm]
    refine hkn ((t : Int) + 1, l.set t (one t)) ⟨t + 1, rfl, by omega, by simp [hl], fun i hi => ?_⟩ (by simp; omega)
    rw [nth_set (by omega)]
    by_cases e : t = i
    · subst e; rw [if_pos rfl]
    · rw [if_neg e]; exact hok i (by omega)
  · have : t = m := by omega
    subst this
    simp only [order_Of_5, Int.toNat_natCast, hrep, lt_self, cond_false]
    rw [show l = oneL t from ext_nth (by rw [hl, oneL_len]) fun i hi => by rw [hok i (by omega), nth_oneL (by omega)]]
theorem of20 {u : List Int} (h : Tab m u) {c : Nat} (hc : c < m) (k : List Int → Option Rt_order_Of) : order_Of_20 N (c : Int) u k = k (warS u c) := by
  have hul := h.len
  unfold order_Of_20
  refine loopD_const (fun s => ∃ t : Nat, s.1 = (t : Int) ∧ t ≤ m ∧ s.2.length = m ∧ ∀ i, i < m → nth 0 s.2 i = if i < t then nth 0 (warS u c) i else nth 0 u i) (fun s => m - s.1.toNat) _ ?_ N _ ⟨0, rfl, Nat.zero_le _, hul, fun i h => by simp⟩ (by simp; omega)
  rintro ⟨a, l⟩ ⟨t, ha, ht, hl, hok⟩ kn hkn
  simp only at ha hl hok
  subst ha
  by_cases htm : t < m
  · have e1 : nth 0 l t = nth 0 u t := by rw [hok t htm, if_neg (by omega)]
    have e2 : nth 0 l c = nth 0 u c := by
      rw [hok c hc]
      split
      · exact war_self h hc
      · rfl
    have e3 := nth_war (u := u) (k := c) (i := t) (by omega)
    simp only [order_Of_19, hul, hl, lt_d htm, lt_d hc, ge0_d, cond_true, Bool.and_self, Int.toNat_natCast, e1, e2, Has_eq N (WL.nth h.w t), Option.bind_some, w1 hm16 htm]
    cases hb : bt (nth 0 u t) c with
    | true =>
      rw [if_pos (show le u t c from hb)] at e3
      refine hkn (_, _) ⟨t + 1, rfl, by omega, by simp [hl], fun i hi => ?_⟩ (by simp; omega)
      rw [nth_set (by omega)]
      by_cases e : t = i
      · subst e; rw [if_pos rfl, if_pos (by omega), e3]
      · rw [if_neg e, hok i hi]
        by_cases e' : i < t
        · rw [if_pos e', if_pos (by omega)]
        · rw [if_neg e', if_neg (by omega)]
    | false =>
      rw [if_neg (show ¬ le u t c by simp [le, hb])] at e3
      refine hkn (_, _) ⟨t + 1, rfl, by omega, hl, fun i hi => ?_⟩ (by simp; omega)
      by_cases e : i = t
      · subst e; rw [hok i hi, if_neg (by omega), if_pos (by omega), e3]
      · rw [hok i hi]
        by_cases e' : i < t
        · rw [if_pos e', if_pos (by omega)]
        · rw [if_neg e', if_neg (by omega)]
  · have : t = m := by omega
    subst this
    simp only [order_Of_19, hul, lt_self, cond_false]
    rw [show l = warS u c from ext_nth (by rw [hl, war_len, hul]) fun i hi => by rw [hok i (by omega), if_pos (by omega)]]
theorem of29 {pairs : List (Int × Int)} {u : List Int} (h : Tab m u) (hh : Holds pairs u) (hle : Least m pairs u) (k : List Int → Option Rt_order_Of) :
    ∃ u', (Tab m u' ∧ Holds pairs u' ∧ Least m pairs u' ∧ ClosTo m u' m) ∧ order_Of_29 N u k = k u' := by
  have hul := h.len
  unfold order_Of_29
  refine loopD_post (fun s => ∃ t : Nat, s.1 = (t : Int) ∧ t ≤ m ∧ Tab m s.2 ∧ Holds pairs s.2 ∧ Least m pairs s.2 ∧ ClosTo m s.2 t) (fun s => m - s.1.toNat) (fun r => ∃ u', (Tab m u' ∧ Holds pairs u' ∧ Least m pairs u' ∧ ClosTo m u' m) ∧ r = k u') ?_ N _
    ⟨0, rfl, Nat.zero_le _, h, hh, hle, fun c hc => by omega⟩ (by simp; omega)
  rintro ⟨a, l⟩ ⟨t, ha, ht, h1, h2, h3, h4⟩ kn hkn
  simp only at ha h1 h2 h3 h4
  subst ha
  by_cases htm : t < m
  · simp only [order_Of_28, order_Of_27, order_Of_26, order_Of_25, order_Of_24, order_Of_23, order_Of_22, order_Of_21, order_Of_18, order_Of_17, order_Of_16, order_Of_15, hul, lt_d htm, cond_true, of20 hm16 hN h1 htm, w1 hm16 htm]
    exact hkn (_, _) ⟨t + 1, rfl, by omega, war_tab h1 htm, fun i j hp => (le_war h1.w (by
      have := h1.len
      refine Nat.lt_of_not_le fun hge => ?_
      have := h2 i j hp
      unfold le at this
      rw [show nth 0 l i = 0 from by unfold nth; rw [List.getD_eq_getElem?_getD, List.getElem?_eq_none (by omega)]; rfl, bt_zero] at this
      cases this) j).2 (.inl (h2 i j hp)), war_least h1 htm h3, war_clos h1 htm h4⟩ (by simp; omega)
  · have : t = m := by omega
    subst this
    simp only [order_Of_28, order_Of_27, order_Of_16, order_Of_15, hul, lt_self, cond_false]
    exact ⟨l, ⟨h1, h2, h3, h4⟩, rfl⟩
end
/-- A pair that may be. -/
def pairIn (m : Nat) (p : Int × Int) : Prop := 0 ≤ p.1 ∧ 0 ≤ p.2 ∧ p.1 < m ∧ p.2 < m
theorem of10 {m N : Nat} {pairs : List (Int × Int)} (hp : pairs.length ≤ 256) {t : Nat} (ht : t < pairs.length) {l : List Int} (hl : l.length = m) (kn : Int → List Int → Option Rt_order_Of) (k : List Int → Option Rt_order_Of) :
    (¬ pairIn m (nth (0, 0) pairs t) → order_Of_10 N (m : Int) pairs t l kn k = some ((0, []), 2, ())) ∧
    (pairIn m (nth (0, 0) pairs t) → order_Of_10 N (m : Int) pairs t l kn k = kn ((t : Int) + 1) (l.set (nth (0, 0) pairs t).1.toNat (ior .u32 (nth 0 l (nth (0, 0) pairs t).1.toNat) (one (nth (0, 0) pairs t).2.toNat)))) := by
  generalize hpt : nth (0, 0) pairs t = p
  obtain ⟨a, b⟩ := p
  simp only [order_Of_10, lt_d ht, ge0_d, cond_true, Bool.and_self, Int.toNat_natCast, hpt, pairIn]
  constructor
  · intro h
    by_cases h1 : (if b < a then b else a) < 0
    · rw [d_true h1]; rfl
    · rw [d_false h1, cond_false]
      rw [d_true (show (if b > a then b else a) ≥ (m : Int) by split at h1 <;> split <;> omega)]; rfl
  · rintro ⟨h1, h2, h3, h4⟩
    obtain ⟨a, rfl⟩ : ∃ x : Nat, a = (x : Int) := ⟨a.toNat, by omega⟩
    obtain ⟨b, rfl⟩ : ∃ x : Nat, b = (x : Int) := ⟨b.toNat, by omega⟩
    rw [d_false (show ¬ (if (b : Int) < a then (b : Int) else a) < 0 by split <;> omega), d_false (show ¬ (if (b : Int) > a then (b : Int) else a) ≥ (m : Int) by split <;> omega)]
    simp only [cond_false, d_true h1, d_true (show (a : Int) < (l.length : Int) by omega), Bool.and_self, cond_true, One_eq N b, Option.bind_some, Int.toNat_natCast, w64 (show -9223372036854775808 ≤ (t : Int) + 1 by omega) (show (t : Int) + 1 ≤ 9223372036854775807 by omega)]
theorem of11_bad {m N : Nat} (hN : 1000 ≤ N) {pairs : List (Int × Int)} (hp : pairs.length ≤ 256) (hb : ∃ t, t < pairs.length ∧ ¬ pairIn m (nth (0, 0) pairs t)) {u : List Int} (hu : u.length = m) (k : List Int → Option Rt_order_Of) :
    order_Of_11 N (m : Int) pairs u k = some ((0, []), 2, ()) := by
  obtain ⟨b, hb1, hb2⟩ := hb
  unfold order_Of_11
  refine loopD_const (fun s => ∃ t : Nat, s.1 = (t : Int) ∧ t ≤ b ∧ s.2.length = m) (fun s => pairs.length - s.1.toNat) _ ?_ N _ ⟨0, rfl, Nat.zero_le _, hu⟩ (by simp; omega)
  rintro ⟨a, l⟩ ⟨t, ha, ht, hl⟩ kn hkn
  simp only at ha hl
  subst ha
  obtain ⟨h1, h2⟩ := of10 (N := N) hp (show t < pairs.length by omega) hl (fun v9 v10 => kn (v9, v10)) k
  by_cases hq : pairIn m (nth (0, 0) pairs t)
  · exact (h2 hq).trans (hkn (_, _) ⟨t + 1, rfl, by
      rcases Nat.lt_or_ge t b with h | h
      · omega
      · exact absurd hq (by rw [show t = b by omega]; exact hb2), by rw [List.length_set]; exact hl⟩ (by simp; omega))
  · exact h1 hq
theorem le_put {l : List Int} (hw : WL l) {a b : Nat} (ha : a < l.length) (hb : b < 32) (i j : Nat) : le (l.set a (ior .u32 (nth 0 l a) (one b))) i j ↔ le l i j ∨ i = a ∧ j = b := by
  show bt (nth 0 (l.set a _) i) j = true ↔ _
  rw [nth_set ha]
  by_cases e : a = i
  · subst e
    rw [if_pos rfl, bt_ior (WL.nth hw a) (W32.one b), bt_one hb]
    simp [le]
  · rw [if_neg e]
    exact ⟨.inl, fun h => h.elim id fun h => absurd h.1.symm e⟩
theorem of11_ok {m N : Nat} (hm16 : m ≤ 16) (hN : 1000 ≤ N) {pairs : List (Int × Int)} (hp : pairs.length ≤ 256) (hb : ∀ t, t < pairs.length → pairIn m (nth (0, 0) pairs t)) (k : List Int → Option Rt_order_Of) :
    ∃ u, (Tab m u ∧ Holds pairs u ∧ Least m pairs u) ∧ order_Of_11 N (m : Int) pairs (oneL m) k = k u := by
  unfold order_Of_11
  refine loopD_post (fun s => ∃ t : Nat, s.1 = (t : Int) ∧ t ≤ pairs.length ∧ Tab m s.2 ∧ Least m pairs s.2 ∧ ∀ t', t' < t → le s.2 (nth (0, 0) pairs t').1.toNat (nth (0, 0) pairs t').2.toNat) (fun s => pairs.length - s.1.toNat) (fun r => ∃ u, (Tab m u ∧ Holds pairs u ∧ Least m pairs u) ∧ r = k u) ?_ N _
    ⟨0, rfl, Nat.zero_le _, ⟨oneL_len m, fun x hx => by
      obtain ⟨i, _, e⟩ := List.mem_map.1 hx
      subst e; exact W32.one i, fun i hi => (le_oneL hm16 hi).2 rfl, fun i hi j hj => by rw [(le_oneL hm16 hi).1 hj]; exact hi⟩, fun Q q1 _ _ i j hi hj => by rw [(le_oneL hm16 hi).1 hj]; exact q1 i hi, fun t' h => by omega⟩ (by simp; omega)
  rintro ⟨a, l⟩ ⟨t, ha, ht, h1, h2, h3⟩ kn hkn
  simp only at ha h1 h2 h3
  subst ha
  by_cases htl : t < pairs.length
  · rw [(of10 (N := N) hp htl h1.len (fun v9 v10 => kn (v9, v10)) k).2 (hb t htl)]
    have hq := hb t htl
    have hmem := nth_mem (z := ((0, 0) : Int × Int)) htl
    generalize hpt : nth (0, 0) pairs t = p at hq hmem
    obtain ⟨a, b⟩ := p
    obtain ⟨q1, q2, q3, q4⟩ := hq
    obtain ⟨a, rfl⟩ : ∃ x : Nat, a = (x : Int) := ⟨a.toNat, by omega⟩
    obtain ⟨b, rfl⟩ : ∃ x : Nat, b = (x : Int) := ⟨b.toNat, by omega⟩
    simp only at q1 q2 q3 q4
    have hput := le_put h1.w (a := a) (b := b) (by rw [h1.len]; omega) (by omega)
    refine hkn (_, _) ⟨t + 1, rfl, by omega, ⟨by simp [h1.len], fun x hx => ?_, fun i hi => (hput i i).2 (.inl (h1.refl i hi)), fun i hi j hj => ?_⟩, fun Q r1 r2 r3 i j hi hj => ?_, fun t' ht' => ?_⟩ (by simp; omega)
    · rcases List.mem_or_eq_of_mem_set hx with hx | rfl
      · exact h1.w x hx
      · exact W32.ior
    · rcases (hput i j).1 hj with h | ⟨_, rfl⟩
      · exact h1.inn i hi j h
      · omega
    · rcases (hput i j).1 hj with h | ⟨rfl, rfl⟩
      · exact h2 Q r1 r2 r3 i j hi h
      · exact r3 _ _ hmem
    · by_cases e : t' = t
      · subst e
        rw [hpt]; exact (hput a b).2 (.inr ⟨rfl, rfl⟩)
      · exact (hput _ _).2 (.inl (h3 t' (by omega)))
  · have : t = pairs.length := by omega
    subst this
    simp only [order_Of_10, lt_self, cond_false]
    refine ⟨l, ⟨h1, fun i j hij => ?_, h2⟩, rfl⟩
    obtain ⟨t', e1, e2⟩ := List.getElem_of_mem hij
    have := h3 t' e1
    rw [nth_lt e1, e2] at this
    exact this
/-- Two that are below each other. -/
def cyc (u : List Int) (i : Nat) : Prop := ∃ j, j ≠ i ∧ le u i j ∧ le u j i
theorem of47 {m N : Nat} (hm16 : m ≤ 16) {u : List Int} (h : Tab m u) {i : Nat} (hi : i < m) (kn : Int → Option Rt_order_Of) (k : Option Rt_order_Of) :
    (cyc u i → order_Of_47 N u i kn k = some ((0, []), 4, ())) ∧ (¬ cyc u i → order_Of_47 N u i kn k = kn ((i : Int) + 1)) := by
  have hul := h.len
  have hW := WL.nth h.w i
  simp only [order_Of_47, order_Of_46, order_Of_45, order_Of_44, order_Of_43, order_Of_42, order_Of_41, order_Of_40, order_Of_39, order_Of_38, order_Of_37, order_Of_36, order_Of_35, order_Of_34, order_Of_33, hul, lt_d hi, ge0_d, cond_true, Bool.and_self, Int.toNat_natCast,
    Each_eq N, Option.bind_some, w1 hm16 hi]
  have step : ∀ j : Nat, bt (nth 0 u i) j = true → j < m ∧ D_sets_Has_uint32 N (nth 0 u j, (i : Int), ()) = some (bt (nth 0 u j) i, ()) := fun j hj => ⟨h.inn i hi j hj, Has_eq N (WL.nth h.w j) i⟩
  refine ⟨fun ⟨j, h1, h2, h3⟩ => els_hit hW (fun j => j ≠ i ∧ le u j i) (fun j _ hj hb kn => ?_) (fun j _ hj hb kn => ?_) ⟨j, h2, h1, h3⟩, fun hn => els_pass hW fun j _ hj kn => ?_⟩
  · obtain ⟨h1, h2⟩ := step j hj
    rw [show ((j : Int) != (i : Int)) = true from bne_iff_ne.2 (by have := hb.1; omega)]
    simp only [lt_d h1, ge0_d, cond_true, Bool.and_self, Int.toNat_natCast, h2, Option.bind_some, show bt (nth 0 u j) i = true from hb.2]
  · obtain ⟨h1, h2⟩ := step j hj
    by_cases e : j = i
    · subst e; simp only [bne_self_eq_false, cond_false]
    · rw [show ((j : Int) != (i : Int)) = true from bne_iff_ne.2 (by omega)]
      simp only [lt_d h1, ge0_d, cond_true, Bool.and_self, Int.toNat_natCast, h2, Option.bind_some, show bt (nth 0 u j) i = false from Bool.eq_false_iff.2 fun h => hb ⟨e, h⟩, cond_false]
  · obtain ⟨h1, h2⟩ := step j hj
    by_cases e : j = i
    · subst e; simp only [bne_self_eq_false, cond_false]
    · rw [show ((j : Int) != (i : Int)) = true from bne_iff_ne.2 (by omega)]
      simp only [lt_d h1, ge0_d, cond_true, Bool.and_self, Int.toNat_natCast, h2, Option.bind_some, show bt (nth 0 u j) i = false from Bool.eq_false_iff.2 fun h => hn ⟨j, e, hj, h⟩, cond_false]
theorem Of_spec {N : Nat} (hN : 1000 ≤ N) {m : Nat} (hm16 : m ≤ 16) {pairs : List (Int × Int)} (hp : pairs.length ≤ 256) :
    ((∃ t, t < pairs.length ∧ ¬ pairIn m (nth (0, 0) pairs t)) → D_order_Of N ((m : Int), pairs, ()) = some ((0, []), 2, ())) ∧
    ((∀ t, t < pairs.length → pairIn m (nth (0, 0) pairs t)) → ∃ u, Tab m u ∧ Holds pairs u ∧ Least m pairs u ∧ ClosTo m u m ∧
      (((∃ i, i < m ∧ cyc u i) ∧ D_order_Of N ((m : Int), pairs, ()) = some ((0, []), 4, ())) ∨ (Ord m u ∧ D_order_Of N ((m : Int), pairs, ()) = some (((m : Int), u), 0, ())))) := by
  simp only [D_order_Of, order_Of_58, order_Of_57, order_Of_56, order_Of_55, order_Of_54, order_Of_53, order_Of_52, order_Of_51, order_Of_50, order_Of_49, order_Of_32, order_Of_31, order_Of_30, order_Of_14, order_Of_13, order_Of_12, order_Of_9, order_Of_8, order_Of_7, order_Of_4, order_Of_3, order_Of_2, order_Of_1,
    d_false (show ¬ (m : Int) < 0 by omega), d_false (show ¬ (m : Int) > 16 by omega), d_false (show ¬ (pairs.length : Int) > 256 by omega), d_true (show (0 : Int) ≤ m by omega), d_true (show (m : Int) ≤ m by omega), d_true (show (m : Int) * 4 ≤ 281474976710656 by omega), cond_false, cond_true, Bool.and_self, of6 hm16 hN]
  refine ⟨fun hb => of11_bad hN hp hb (oneL_len m) _, fun hb => ?_⟩
  obtain ⟨u0, ⟨h1, h2, h3⟩, h4⟩ := of11_ok hm16 hN hp hb (fun v14 => order_Of_29 N v14 fun v33 => order_Of_48 N v33 (some (((m : Int), v33), 0, ())))
  rw [h4]
  obtain ⟨u, ⟨h5, h6, h7, h8⟩, h9⟩ := of29 hm16 hN h1 h2 h3 (fun v33 => order_Of_48 N v33 (some (((m : Int), v33), 0, ())))
  rw [h9]
  refine ⟨u, h5, h6, h7, h8, ?_⟩
  by_cases hc : ∃ i, i < m ∧ cyc u i
  · refine .inl ⟨hc, ?_⟩
    unfold order_Of_48
    exact loopD_hit (n := m) (by omega) _ (fun c hc hb kn => (of47 hm16 h5 hc _ _).1 hb) (fun c hc hb kn => (of47 hm16 h5 hc _ _).2 hb) (by omega) hc
  · refine .inr ⟨⟨by omega, by omega, by rw [h5.len]; omega, fun i hi => h5.inn i (by omega), fun i hi => h5.refl i (by omega), fun i j hi hj r1 r2 => ?_, fun i j k hi hj r1 r2 => h8 j (by omega) i k (by omega) r1 r2⟩, ?_⟩
    · exact Classical.byContradiction fun e => hc ⟨i, by omega, j, fun e' => e e'.symm, r1, r2⟩
    · unfold order_Of_48
      exact loopD_pass (n := m) (by omega) (fun c hc' kn => (of47 hm16 h5 hc' _ _).2 fun hb => hc ⟨c, hc', hb⟩) (fun kn => by
        have := h5.len
        simp only [order_Of_47, order_Of_46, order_Of_34, order_Of_33, this, lt_self, cond_false]) (by omega)
theorem Of_large {N : Nat} {n : Int} {pairs : List (Int × Int)} (h : n < 0 ∨ n > 16 ∨ (pairs.length : Int) > 256) : D_order_Of N (n, pairs, ()) = some ((0, []), 1, ()) := by
  simp only [D_order_Of, order_Of_58, order_Of_57, order_Of_2, order_Of_1]
  by_cases h1 : n < 0
  · rw [d_true h1]; rfl
  by_cases h2 : n > 16
  · rw [d_false h1, d_true h2]; rfl
  rw [d_false h1, d_false h2, d_true (show (pairs.length : Int) > 256 by omega)]; rfl
/-- order.Of always answers. -/
theorem Of_def {N : Nat} (hN : 1000 ≤ N) (n : Int) (pairs : List (Int × Int)) : ∃ r, D_order_Of N (n, pairs, ()) = some r := by
  by_cases h : n < 0 ∨ n > 16 ∨ (pairs.length : Int) > 256
  · exact ⟨_, Of_large h⟩
  obtain ⟨m, rfl⟩ : ∃ m : Nat, n = (m : Int) := ⟨n.toNat, by omega⟩
  obtain ⟨h1, h2⟩ := Of_spec hN (m := m) (by omega) (pairs := pairs) (by omega)
  by_cases hb : ∃ t, t < pairs.length ∧ ¬ pairIn m (nth (0, 0) pairs t)
  · exact ⟨_, h1 hb⟩
  · obtain ⟨u, -, -, -, -, ⟨-, e⟩ | ⟨-, e⟩⟩ := h2 fun t ht => Classical.byContradiction fun hn => hb ⟨t, ht, hn⟩
    · exact ⟨_, e⟩
    · exact ⟨_, e⟩
/-- The least order with pairs of an order is within it. -/
theorem Of_in {N : Nat} (hN : 1000 ≤ N) {m : Nat} {up : List Int} (h : Ord (m : Int) up) {pairs : List (Int × Int)} (hp : pairs.length ≤ 256) (hin : ∀ p ∈ pairs, ∃ i j : Nat, p = ((i : Int), (j : Int)) ∧ i < m ∧ le up i j) :
    ∃ u, Tab m u ∧ Holds pairs u ∧ Least m pairs u ∧ ClosTo m u m ∧ (∀ i j, i < m → le u i j → le up i j) ∧ D_order_Of N ((m : Int), pairs, ()) = some (((m : Int), u), 0, ()) := by
  have hm : m ≤ 16 := by have := h.h1; omega
  obtain ⟨-, s2⟩ := Of_spec hN hm hp
  have hb : ∀ t, t < pairs.length → pairIn m (nth (0, 0) pairs t) := fun t ht => by
    obtain ⟨i, j, e, hi, hl⟩ := hin _ (nth_mem (z := ((0 : Int), (0 : Int))) ht)
    have := h.inn i (by omega) j hl
    rw [e]
    exact ⟨by simp, by simp, by simpa using hi, by simp only; omega⟩
  obtain ⟨u, ht, hh, hle, hc, hcase⟩ := s2 hb
  have hsub : ∀ i j, i < m → le u i j → le up i j := hle (fun i j => le up i j) (fun i hi => h.refl i (by omega)) (fun i j k hi hj hk r1 r2 => h.trans i j k (by omega) (by omega) r1 r2) (fun i j hij => by
    obtain ⟨i', j', e, hi, hl⟩ := hin _ hij
    simp only [Prod.mk.injEq] at e
    obtain ⟨e1, e2⟩ := e
    rw [show i = i' by omega, show j = j' by omega]
    exact hl)
  rcases hcase with ⟨⟨i, hi, j, hne, c1, c2⟩, -⟩ | ⟨hou, e⟩
  · have hj := ht.inn i hi j c1
    exact absurd (h.anti j i (by omega) (by omega) (hsub j i hj c2) (hsub i j hi c1)) hne
  · exact ⟨u, ht, hh, hle, hc, hsub, e⟩
theorem tab_eq {m : Nat} {u up : List Int} (ht : Tab m u) (hw : WL up) (hl : up.length = m) (h : ∀ i j, i < m → (le u i j ↔ le up i j)) : u = up :=
  ext_nth (by rw [ht.len, hl]) fun i hi => bt_ext (ht.w.nth i) (hw.nth i) fun j _ => Bool.eq_iff_iff.2 (h i j (by rw [← ht.len]; exact hi))
end Go.Proofs.YtiepnpfjlknkoaaDoor
