/- The down-sets' order has as many irreducible elements as the order has elements. -/
import Derived.Test.YtagghgmpdjoknaaDoorDownsIS
namespace Go.Proofs.YtagghgmpdjoknaaDoor
open Go.Abs
/-- Sets closed below, by numbers; those with one cover are the complements of what is above an element. -/
theorem irr_count {m d : Nat} {R : Nat → Nat → Prop} {B : Nat → Nat → Prop} (refl : ∀ i, i < m → R i i) (anti : ∀ i j, i < m → j < m → R i j → R j i → i = j) (trans : ∀ i j k, i < m → j < m → k < m → R i j → R j k → R i k)
    (least : ∀ p : Nat → Prop, (∃ i, i < m ∧ p i) → ∃ i, i < m ∧ p i ∧ ∀ y, y < m → p y → R y i → y = i)
    (dn : ∀ i, i < d → ∀ x y, x < m → y < m → R x y → B i y → B i x)
    (ex : ∀ p : Nat → Prop, (∀ x y, x < m → y < m → R x y → p y → p x) → ∃ i, i < d ∧ ∀ x, x < m → (B i x ↔ p x))
    (inj : ∀ i j, i < d → j < d → (∀ x, x < m → (B i x ↔ B j x)) → i = j)
    {C : Nat → Nat → Prop} (hC : ∀ i k, i < d → k < d → (C i k ↔ (∀ x, x < m → B i x → B k x) ∧ k ≠ i ∧ ∀ z, z < d → (∀ x, x < m → B i x → B z x) → z ≠ i → (∀ x, x < m → B z x → B k x) → k = z))
    {l : List Nat} (hl : ∀ i, i ∈ l ↔ i < d ∧ ∃ k, k < d ∧ C i k ∧ ∀ k', k' < d → C i k' → k' = k) (hn : l.Nodup) : l.length = m := by
  classical
  -- one more element
  have one : ∀ i k x, i < d → k < d → x < m → ¬ B i x → (∀ y, y < m → (B k y ↔ B i y ∨ y = x)) → C i k := fun i k x hi hk hx hnx hb => by
    refine (hC i k hi hk).2 ⟨fun y hy h => (hb y hy).2 (.inl h), fun e => hnx (by have := (hb x hx).2 (.inr rfl); rwa [e] at this), fun z hz h1 h2 h3 => inj k z hk hz fun y hy => ⟨fun h => ?_, fun h => h3 y hy h⟩⟩
    have hzx : B z x := Classical.byContradiction fun hzx => h2 (inj z i hz hi fun a ha => ⟨fun hza => ((hb a ha).1 (h3 a ha hza)).resolve_right fun e => hzx (e ▸ hza), h1 a ha⟩)
    rcases (hb y hy).1 h with h | rfl
    · exact h1 y hy h
    · exact hzx
  have low : ∀ i x, i < d → x < m → ¬ B i x → (∀ y, y < m → R y x → y ≠ x → B i y) → ∃ k, k < d ∧ C i k ∧ ∀ y, y < m → (B k y ↔ B i y ∨ y = x) := fun i x hi hx hnx hb => by
    obtain ⟨k, hk, e⟩ := ex (fun y => B i y ∨ y = x) (fun y z hy hz hyz h => by
      rcases h with h | rfl
      · exact .inl (dn i hi y z hy hz hyz h)
      · by_cases e : y = z
        · exact .inr e
        · exact .inl (hb y hy hyz e))
    exact ⟨k, hk, one i k x hi hk hx hnx e, e⟩
  have hex : ∀ x, ∃ i, x < m → i < d ∧ ∀ y, y < m → (B i y ↔ ¬ R x y) := fun x => by
    by_cases hx : x < m
    · obtain ⟨i, hi, e⟩ := ex (fun y => ¬ R x y) (fun a b ha hb hab h h' => h (trans x a b hx ha hb h' hab))
      exact ⟨i, fun _ => ⟨hi, e⟩⟩
    · exact ⟨0, fun h => absurd h hx⟩
  obtain ⟨f, hf⟩ := Classical.axiomOfChoice hex
  have hn1 : ((List.range m).map f).Nodup := List.pairwise_map.2 (List.nodup_range.imp_of_mem fun {a b} ha hb hne e => hne ?_)
  · have ha := List.mem_range.1 ha
    have hb := List.mem_range.1 hb
    obtain ⟨a1, a2⟩ := hf a ha
    obtain ⟨b1, b2⟩ := hf b hb
    rw [e] at a2
    refine anti a b ha hb (Classical.byContradiction fun h => ?_) (Classical.byContradiction fun h => ?_)
    · exact (b2 b hb).1 ((a2 b hb).2 h) (refl b hb)
    · have := (b2 a ha).2 h
      exact (a2 a ha).1 this (refl a ha)
  have h1 := hn1.length_le_of_subset (l₂ := l) fun i hi => by
    obtain ⟨x, hx, rfl⟩ := List.mem_map.1 hi
    have hx := List.mem_range.1 hx
    obtain ⟨h1, h2⟩ := hf x hx
    obtain ⟨k, hk, k1, k2⟩ := low (f x) x h1 hx (fun h => (h2 x hx).1 h (refl x hx)) (fun y hy hyx hne => (h2 y hy).2 fun h => hne (anti y x hy hx hyx h))
    refine (hl _).2 ⟨h1, k, hk, k1, fun k' hk' h' => ?_⟩
    obtain ⟨c1, c2, c3⟩ := (hC _ _ h1 hk').1 h'
    have hx' : B k' x := Classical.byContradiction fun hn => c2 (inj k' (f x) hk' h1 fun y hy => ⟨fun h => (h2 y hy).2 fun hxy => hn (dn k' hk' x y hx hy hxy h), c1 y hy⟩)
    refine c3 k hk (fun y hy h => (k2 y hy).2 (.inl h)) (fun e => ?_) (fun y hy h => ?_)
    · have := (k2 x hx).2 (.inr rfl)
      rw [e] at this
      exact (h2 x hx).1 this (refl x hx)
    · rcases (k2 y hy).1 h with h | rfl
      · exact c1 y hy h
      · exact hx'
  have h2 := hn.length_le_of_subset (l₂ := (List.range m).map f) fun i hi => by
    obtain ⟨hi, k, hk, k1, k2⟩ := (hl i).1 hi
    obtain ⟨c1, c2, c3⟩ := (hC _ _ hi hk).1 k1
    have : ∃ x, x < m ∧ ¬ B i x := Classical.byContradiction fun hno => c2 (inj k i hk hi fun x hx => ⟨fun _ => Classical.byContradiction fun h => hno ⟨x, hx, h⟩, c1 x hx⟩)
    obtain ⟨x, hx, hnx, hmin⟩ := least _ this
    obtain ⟨k3, hk3, c3, e3⟩ := low i x hi hx hnx fun y hy hyx hne => Classical.byContradiction fun h => hne (hmin y hy h hyx)
    obtain rfl := k2 k3 hk3 c3
    refine List.mem_map.2 ⟨x, List.mem_range.2 hx, inj _ _ (hf x hx).1 hi fun y hy => ?_⟩
    rw [(hf x hx).2 y hy]
    constructor
    · intro h
      refine Classical.byContradiction fun hny => ?_
      obtain ⟨z, hz, ⟨hnz, hzy⟩, hzmin⟩ := least (fun z => ¬ B i z ∧ R z y) ⟨y, hy, hny, refl y hy⟩
      obtain ⟨k4, hk4, c4, e4⟩ := low i z hi hz hnz fun a ha haz hne => Classical.byContradiction fun h => hne (hzmin a ha ⟨h, trans a z y ha hz hy haz hzy⟩ haz)
      obtain rfl := k2 k4 hk4 c4
      have := (e3 z hz).1 ((e4 z hz).2 (.inr rfl))
      rcases this with h5 | rfl
      · exact hnz h5
      · exact h hzy
    · exact fun hy' hxy => hnx (dn i hi x y hx hy hxy hy')
  rw [List.length_map, List.length_range] at h1 h2
  omega
theorem els_one {w : Int} (hw : W32 w) : (els w).length = 1 ↔ ∃ k, bt w k = true ∧ ∀ k', bt w k' = true → k' = k := by
  have hnd := nodup_els w
  have hm : ∀ k, k ∈ els w ↔ bt w k = true := fun k => mem_els hw
  constructor
  · intro h
    match he : els w, h with
    | [k], _ =>
      rw [he] at hm
      exact ⟨k, (hm k).1 (by simp), fun k' hk' => by simpa using (hm k').2 hk'⟩
  · rintro ⟨k, h1, h2⟩
    have h3 : (els w).Nodup := hnd
    match he : els w with
    | [] =>
      have := (hm k).2 h1
      rw [he] at this
      cases this
    | [a] => rfl
    | a :: b :: r =>
      rw [he] at h3 hm
      have e1 := h2 a ((hm a).1 (by simp))
      have e2 := h2 b ((hm b).1 (by simp))
      rw [e1, e2] at h3
      simp at h3
section
variable {m : Nat} (hm : m ≤ 16) {up : List Int} (hw : WL up) (ho : Ord (m : Int) up)
include hm hw ho
omit hm hw ho in
theorem WL.incL (L : List Int) : WL (incL L) := fun x hx => by
  obtain ⟨a, -, rfl⟩ := List.mem_map.1 hx
  exact W32.mkw _ _
omit hm hw ho in
theorem irrL_nodup (u : List Int) (n : Nat) : (irrL u n).Nodup := List.nodup_range.sublist List.filter_sublist
theorem high_inc (q : (downs up m).length ≤ 16) : (irrL (incL (downs up m)) (downs up m).length).length = m := by
  have hD : ∀ {i}, i < (downs up m).length → isDn up m (nth 0 (downs up m) i) := fun hi => (mem_downs hw ho).1 (nth_mem (z := (0 : Int)) hi)
  have hi' : ∀ {i}, i < m → i < (m : Int).toNat := fun h => by simpa using h
  have hO := Ord_inc hw ho q
  refine irr_count (d := (downs up m).length) (R := le up) (B := fun i x => bt (nth 0 (downs up m) i) x = true) (C := cov (incL (downs up m))) (fun i hi => ho.refl i (hi' hi)) (fun i j hi hj => ho.anti i j (hi' hi) (hi' hj)) (fun i j k hi hj _ => ho.trans i j k (hi' hi) (hi' hj))
    (fun p ⟨i, hi, hp⟩ => by simpa using ho.least p (hi' hi) hp) (fun i hi x y hx hy hxy h => (hD hi).dn x y h hxy hx) (fun p hp => ?_) (fun i j hi hj h => dn_inj hw ho hi hj h) (fun i k hi hk => ?_) (fun i => ?_) (irrL_nodup _ _)
  · obtain ⟨i, h1, h2⟩ := dn_pred hw ho p hp hm
    exact ⟨i, h1, fun x hx => (h2 x).trans ⟨fun h => h.2, fun h => ⟨hx, h⟩⟩⟩
  · have hle : ∀ i j, i < (downs up m).length → j < (downs up m).length → (le (incL (downs up m)) i j ↔ ∀ x, x < m → bt (nth 0 (downs up m) i) x = true → bt (nth 0 (downs up m) j) x = true) := fun i j hi hj => by
      rw [le_inc hw ho q hi]
      exact ⟨fun h x _ => h.2 x, fun h => ⟨hj, fun x hx => h x ((hD hi).lt x hx) hx⟩⟩
    unfold cov
    rw [hle i k hi hk]
    refine and_congr_right fun _ => and_congr_right fun _ => ⟨fun h z hz h1 h2 h3 => h z ((hle i z hi hz).2 h1) h2 ((hle z k hz hk).2 h3), fun h z h1 h2 h3 => ?_⟩
    have hz := ((le_inc hw ho q hi).1 h1).1
    exact h z hz ((hle i z hi hz).1 h1) h2 ((hle z k hz hk).1 h3)
  · rw [irrL_mem]
    refine and_congr_right fun hi => ?_
    obtain ⟨h1, h2⟩ := bt_above (WL.incL (downs up m)) (show i < 32 by omega)
    rw [els_one h1]
    simp only [h2]
    constructor
    · rintro ⟨k, k1, k2⟩
      exact ⟨k, ((le_inc hw ho q hi).1 k1.1).1, k1, fun k' _ => k2 k'⟩
    · rintro ⟨k, hk, k1, k2⟩
      exact ⟨k, k1, fun k' h' => k2 k' ((le_inc hw ho q hi).1 h'.1).1 h'⟩
theorem low_inc (q : (downs up m).length ≤ 16) : (irrL (colsS (incL (downs up m)) (((downs up m).length : Nat) : Int) (incL (downs up m)).length) (downs up m).length).length = m := by
  have hD : ∀ {i}, i < (downs up m).length → isDn up m (nth 0 (downs up m) i) := fun hi => (mem_downs hw ho).1 (nth_mem (z := (0 : Int)) hi)
  have hi' : ∀ {i}, i < m → i < (m : Int).toNat := fun h => by simpa using h
  have hO := Ord_inc hw ho q
  have hj' : ∀ {i}, i < (downs up m).length → i < (((downs up m).length : Nat) : Int).toNat := fun h => by simpa using h
  refine irr_count (d := (downs up m).length) (R := fun i j => le up j i) (B := fun i x => ¬ bt (nth 0 (downs up m) i) x = true) (C := fun i k => cov (incL (downs up m)) k i) (fun i hi => ho.refl i (hi' hi)) (fun i j hi hj h1 h2 => ho.anti i j (hi' hi) (hi' hj) h2 h1) (fun i j k hi hj hk h1 h2 => ho.trans k j i (hi' hk) (hi' hj) h2 h1)
    (fun p ⟨i, hi, hp⟩ => ?_) (fun i hi x y hx hy hxy h h' => h ((hD hi).dn y x h' hxy hy)) (fun p hp => ?_) (fun i j hi hj h => dn_inj hw ho hi hj fun x hx => Decidable.not_iff_not.1 (h x hx)) (fun i k hi hk => ?_) (fun i => ?_) (irrL_nodup _ _)
  · obtain ⟨j, h1, h2, -, h3⟩ := ho.top p (hi' hi) hp
    exact ⟨j, by simpa using h1, h2, fun y hy hp' hle => h3 y (hi' hy) hp' hle⟩
  · obtain ⟨i, h1, h2⟩ := dn_pred hw ho (fun x => ¬ p x) (fun x y hx hy hxy h h' => h (hp y x hy hx hxy h')) hm
    exact ⟨i, h1, fun x hx => by rw [h2 x]; exact ⟨fun h => Classical.byContradiction fun hn => h ⟨hx, hn⟩, fun h h' => h'.2 h⟩⟩
  · have hle : ∀ i j, i < (downs up m).length → j < (downs up m).length → (le (incL (downs up m)) j i ↔ ∀ x, x < m → ¬ bt (nth 0 (downs up m) i) x = true → ¬ bt (nth 0 (downs up m) j) x = true) := fun i j hi hj => by
      rw [le_inc hw ho q hj]
      exact ⟨fun h x _ h1 h2 => h1 (h.2 x h2), fun h => ⟨hi, fun x hx => Classical.byContradiction fun hn => h x ((hD hj).lt x hx) hn hx⟩⟩
    unfold cov
    rw [hle i k hi hk]
    constructor
    · rintro ⟨h1, h2, h3⟩
      refine ⟨h1, fun e => h2 e.symm, fun z hz z1 z2 z3 => ?_⟩
      by_cases e : z = k
      · exact e.symm
      · have := h3 z ((hle z k hz hk).2 z3) e ((hle i z hi hz).2 z1)
        exact absurd this.symm z2
    · rintro ⟨h1, h2, h3⟩
      refine ⟨h1, fun e => h2 e.symm, fun z z1 z2 z3 => ?_⟩
      have hz := ((le_inc hw ho q hk).1 z1).1
      by_cases e : z = i
      · exact e.symm
      · exact absurd (h3 z hz ((hle i z hi hz).1 z3) e ((hle z k hz hk).1 z1)).symm z2
  · rw [irrL_mem]
    refine and_congr_right fun hi => ?_
    obtain ⟨h1, h2⟩ := bt_above (WL.colsS (incL (downs up m)) (((downs up m).length : Nat) : Int) (incL (downs up m)).length) (show i < 32 by omega)
    rw [els_one h1]
    simp only [h2]
    have hd := hO.dual
    constructor
    · rintro ⟨k, k1, k2⟩
      have hk := hd.inn i (hj' hi) k k1.1
      refine ⟨k, by simpa using hk, (cov_dual hO hk (hj' hi)).1 k1, fun k' hk' h' => k2 k' ((cov_dual hO (hj' hk') (hj' hi)).2 h')⟩
    · rintro ⟨k, hk, k1, k2⟩
      exact ⟨k, (cov_dual hO (hj' hk) (hj' hi)).2 k1, fun k' h' => k2 k' (by simpa using hd.inn i (hj' hi) k' h'.1) ((cov_dual hO (hd.inn i (hj' hi) k' h'.1) (hj' hi)).1 h')⟩
end
end Go.Proofs.YtagghgmpdjoknaaDoor
