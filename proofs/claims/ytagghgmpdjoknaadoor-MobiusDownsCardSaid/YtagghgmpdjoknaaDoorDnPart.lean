/- Down-sets of a part of an order, and how many down-sets there are. -/
import Derived.Test.YtagghgmpdjoknaaDoorWalkS
import Derived.Test.YtagghgmpdjoknaaDoorPartS
import Derived.Test.YtagghgmpdjoknaaDoorKeepS
namespace Go.Proofs.YtagghgmpdjoknaaDoor
open Go.Abs
theorem bij_len {A B : List Int} (hA : A.Nodup) (hB : B.Nodup) (f : Int → Int) (hf : ∀ a ∈ A, f a ∈ B) (inj : ∀ a ∈ A, ∀ a' ∈ A, f a = f a' → a = a') (sur : ∀ b ∈ B, ∃ a, a ∈ A ∧ f a = b) : A.length = B.length := by
  have hn : (A.map f).Nodup := List.pairwise_map.2 (hA.imp_of_mem fun {a b} ha hb hne e => hne (inj a ha b hb e))
  have h1 := hn.length_le_of_subset (l₂ := B) fun x hx => by
    obtain ⟨a, ha, rfl⟩ := List.mem_map.1 hx
    exact hf a ha
  have h2 := hB.length_le_of_subset (l₂ := A.map f) fun x hx => by
    obtain ⟨a, ha, rfl⟩ := sur x hx
    exact List.mem_map.2 ⟨a, ha, rfl⟩
  rw [List.length_map] at h1 h2
  omega
section
variable {m : Nat} (hm : m ≤ 16) {up : List Int} (hw : WL up) (ho : Ord (m : Int) up)
include hm hw ho
omit hw in
theorem part_count {p : Nat → Bool} {base : Nat → Prop} (hex : ∀ i, base i → p i = false) (hcl : ∀ i j, i < m → j < m → le up i j → p j = true → p i = true ∨ base i) (hb : ∀ i j, i < m → j < m → le up i j → base j → base i)
    {w : List Int} (hp : Pw up ((List.range m).filter p) ((List.range m).filter p).length w) (how : Ord ((((List.range m).filter p).length : Nat) : Int) w)
    {A : List Int} (hA : A.Nodup) (hmem : ∀ D, D ∈ A ↔ isDn up m D ∧ (∀ i, i < m → base i → bt D i = true) ∧ ∀ i, bt D i = true → base i ∨ p i = true) : A.length = (downs w ((List.range m).filter p).length).length := by
  classical
  generalize hl : (List.range m).filter p = l at *
  have hlm : ∀ i, i ∈ l ↔ i < m ∧ p i = true := fun i => by rw [← hl, List.mem_filter, List.mem_range]
  have hll : l.length ≤ 16 := by
    have := List.length_filter_le p (List.range m)
    rw [hl, List.length_range] at this
    omega
  have hlt : ∀ {j}, j < l.length → nth 0 l j < m ∧ p (nth 0 l j) = true := fun hj => (hlm _).1 (nth_mem hj)
  have hix : ∀ {i}, i < m → p i = true → ∃ j, j < l.length ∧ nth 0 l j = i := fun hi hpi => mem_nth ((hlm _).2 ⟨hi, hpi⟩)
  have hbit : ∀ D j, bt (mkw l.length fun j => bt D (nth 0 l j)) j = true ↔ j < l.length ∧ bt D (nth 0 l j) = true := fun D j => by
    rw [bt_mkw (by omega), Bool.and_eq_true, decide_eq_true_eq]
  refine bij_len hA (downs_nodup hp.wl how) (fun D => mkw l.length fun j => bt D (nth 0 l j)) (fun D hD => ?_) (fun D hD D' hD' e => ?_) (fun E hE => ?_)
  · obtain ⟨h1, h2, h3⟩ := (hmem D).1 hD
    refine (mem_downs hp.wl how).2 ⟨W32.mkw _ _, fun i hi => ((hbit D i).1 hi).1, fun i j hj hle hi => (hbit D i).2 ⟨hi, ?_⟩⟩
    obtain ⟨h4, h5⟩ := (hbit D j).1 hj
    exact h1.dn _ _ h5 ((hp.bit i hi j).1 hle).2 (hlt hi).1
  · obtain ⟨h1, h2, h3⟩ := (hmem D).1 hD
    obtain ⟨k1, k2, k3⟩ := (hmem D').1 hD'
    have hh : ∀ j, j < l.length → (bt D (nth 0 l j) = true ↔ bt D' (nth 0 l j) = true) := fun j hj => by
      have e1 := hbit D j
      have e2 := hbit D' j
      have e : bt (mkw l.length fun j => bt D (nth 0 l j)) j = bt (mkw l.length fun j => bt D' (nth 0 l j)) j := congrArg (fun w => bt w j) e
      rw [e] at e1
      exact ⟨fun h => (e2.1 (e1.2 ⟨hj, h⟩)).2, fun h => (e1.1 (e2.2 ⟨hj, h⟩)).2⟩
    refine bt_ext h1.w32 k1.w32 fun i _ => ?_
    rw [Bool.eq_iff_iff]
    constructor
    · intro hi
      rcases h3 i hi with hbi | hpi
      · exact k2 i (h1.lt i hi) hbi
      · obtain ⟨j, hj, rfl⟩ := hix (h1.lt i hi) hpi
        exact (hh j hj).1 hi
    · intro hi
      rcases k3 i hi with hbi | hpi
      · exact h2 i (k1.lt i hi) hbi
      · obtain ⟨j, hj, rfl⟩ := hix (k1.lt i hi) hpi
        exact (hh j hj).2 hi
  · have hE := (mem_downs hp.wl how).1 hE
    have hbt : ∀ i, bt (mkw m fun i => decide (base i ∨ ∃ j, j < l.length ∧ nth 0 l j = i ∧ bt E j = true)) i = true ↔ i < m ∧ (base i ∨ ∃ j, j < l.length ∧ nth 0 l j = i ∧ bt E j = true) := fun i => by
      rw [bt_mkw (by omega), Bool.and_eq_true, decide_eq_true_eq, decide_eq_true_eq]
    have hne : ∀ {i j}, i < l.length → j < l.length → nth 0 l i = nth 0 l j → i = j := fun {i j} hi hj e => by
      have h1 : le w i j := (hp.bit i hi j).2 ⟨hj, by rw [e]; exact ho.refl _ (by have := (hlt hj).1; omega)⟩
      have h2 : le w j i := (hp.bit j hj i).2 ⟨hi, by rw [e]; exact ho.refl _ (by have := (hlt hj).1; omega)⟩
      exact how.anti i j (by omega) (by omega) h1 h2
    refine ⟨mkw m fun i => decide (base i ∨ ∃ j, j < l.length ∧ nth 0 l j = i ∧ bt E j = true), (hmem _).2 ⟨⟨W32.mkw _ _, fun i hi => ((hbt i).1 hi).1, fun i j hj hle hi => ?_⟩, fun i hi hbi => (hbt i).2 ⟨hi, .inl hbi⟩, fun i hi => ?_⟩, ?_⟩
    · obtain ⟨hjm, h4⟩ := (hbt j).1 hj
      refine (hbt i).2 ⟨hi, ?_⟩
      rcases h4 with h4 | ⟨t, ht, rfl, hEt⟩
      · exact .inl (hb i j hi hjm hle h4)
      · rcases hcl i _ hi (hlt ht).1 hle (hlt ht).2 with h5 | h5
        · obtain ⟨s, hs, rfl⟩ := hix hi h5
          exact .inr ⟨s, hs, rfl, hE.dn s t hEt ((hp.bit s hs t).2 ⟨ht, hle⟩) hs⟩
        · exact .inl h5
    · obtain ⟨him, h4⟩ := (hbt i).1 hi
      rcases h4 with h4 | ⟨t, ht, rfl, _⟩
      · exact .inl h4
      · exact .inr (hlt ht).2
    · refine bt_ext (W32.mkw _ _) hE.w32 fun j _ => ?_
      rw [Bool.eq_iff_iff, hbit, hbt]
      constructor
      · rintro ⟨hj, -, h4 | ⟨t, ht, e, hEt⟩⟩
        · have := hex _ h4
          rw [(hlt hj).2] at this; cases this
        · rwa [← hne ht hj e]
      · intro hj
        have hjl := hE.lt j hj
        exact ⟨hjl, (hlt hjl).1, .inr ⟨j, hjl, rfl, hj⟩⟩
/-- There are more down-sets than elements. -/
theorem downs_more : m < (downs up m).length := by
  have hd : ∀ k, k < m → nth 0 (colsS up (m : Int) up.length) k ∈ downs up m := fun k hk => (mem_downs hw ho).2 (isDn_down ho hk)
  have hself : ∀ k, k < m → bt (nth 0 (colsS up (m : Int) up.length) k) k = true := fun k hk => (dn_bit ho hk).2 ⟨hk, ho.refl k (by omega)⟩
  have hn : ((0 : Int) :: (List.range m).map fun k => nth 0 (colsS up (m : Int) up.length) k).Nodup := by
    refine List.nodup_cons.2 ⟨fun h => ?_, List.pairwise_map.2 (List.nodup_range.imp_of_mem fun {a b} ha hb hne e => hne ?_)⟩
    · obtain ⟨k, hk, e⟩ := List.mem_map.1 h
      have := hself k (List.mem_range.1 hk)
      rw [e] at this
      exact no0 this
    · have ha := List.mem_range.1 ha
      have hb := List.mem_range.1 hb
      have h1 := hself a ha
      have h2 := hself b hb
      rw [e] at h1
      rw [← e] at h2
      exact ho.anti a b (by omega) (by omega) ((dn_bit ho hb).1 h1).2 ((dn_bit ho ha).1 h2).2
  have := hn.length_le_of_subset (l₂ := downs up m) fun x hx => by
    rcases List.mem_cons.1 hx with rfl | hx
    · exact (mem_downs hw ho).2 ⟨W32.zero, fun _ h => no0 h, fun _ _ h => no0 h⟩
    · obtain ⟨k, hk, rfl⟩ := List.mem_map.1 hx
      exact hd k (List.mem_range.1 hk)
  simp at this
  omega
end
end Go.Proofs.YtagghgmpdjoknaaDoor
