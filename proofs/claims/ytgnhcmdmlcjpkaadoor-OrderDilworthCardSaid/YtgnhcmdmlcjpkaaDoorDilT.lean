/- order.Split: what it comes to. -/
import Derived.Test.YtgnhcmdmlcjpkaaDoorDilS
import Derived.Test.YtgnhcmdmlcjpkaaDoorLoose
namespace Go.Proofs.YtgnhcmdmlcjpkaaDoor
open Go.Abs
/-- The chains that begin below t. -/
noncomputable def chainsL (m t : Nat) (nx ls : List Int) : List (List Int) := ((List.range t).filter fun i => decide (nth 0 ls i < 0)).map fun s => (Dil.chf (nth 0 nx) m s).map fun (i : Nat) => (i : Int)
theorem chainsL_len (m t : Nat) (nx ls : List Int) : (chainsL m t nx ls).length ≤ t := by
  unfold chainsL
  rw [List.length_map]
  exact Nat.le_trans (List.length_filter_le _ _) (by simp)
theorem chain_loop {m : Nat} {nx : List Int} (hm : m ≤ 16) (hnx : nx.length = m) {R : Type} {g : Int × List Int → (Int × List Int → Option R) → Option R} {K : List Int → Option R}
    (hg : ∀ (k : Int) (c : List Int) kn, g (k, c) kn = bif decide (k ≥ 0) then (bif decide ((c.length + [k].length) * 8 ≤ 140737488355328) && Nat.ble 1 8 then (bif decide (0 ≤ k) && decide (k < (nx.length : Int)) then kn (nth 0 nx k.toNat, c ++ [k]) else none) else none) else K c)
    {k : Nat} {c : List Nat} (h : Dil.Ch (nth 0 nx) k c) : ∀ (n : Nat) (acc : List Int), (∀ x ∈ c, x < m) → c.length < n → acc.length + c.length ≤ 100 → loopD g n ((k : Int), acc) = K (acc ++ c.map fun (i : Nat) => (i : Int)) := by
  have stp : ∀ (k : Nat) (acc : List Int) kn, k < m → acc.length + 1 ≤ 100 → g ((k : Int), acc) kn = kn (nth 0 nx k, acc ++ [(k : Int)]) := fun k acc kn hk ha => by
    rw [hg, show decide ((k : Int) ≥ 0) = true from d_true (by omega), cond_true, d_true (by simp only [List.length_singleton]; omega), show Nat.ble 1 8 = true from rfl, Bool.and_self, cond_true, lt_d (show k < nx.length by omega), Bool.and_self, cond_true, Int.toNat_natCast]
  induction h with
  | @one k h0 =>
    intro n acc hc hn ha
    obtain ⟨n, rfl⟩ : ∃ n', n = n' + 2 := ⟨n - 2, by simp at hn; omega⟩
    simp only [List.length_singleton] at ha
    rw [loopD, stp k acc _ (hc k (by simp)) ha, loopD, hg, d_false (show ¬ nth 0 nx k ≥ 0 by omega), cond_false]
    rfl
  | @more k j c e hcj ih =>
    intro n acc hc hn ha
    obtain ⟨n, rfl⟩ : ∃ n', n = n' + 1 := ⟨n - 1, by simp at hn; omega⟩
    simp only [List.length_cons] at ha hn
    rw [loopD, stp k acc _ (hc k (by simp)) (by omega), e, ih n _ (fun x hx => hc x (by simp [hx])) (by omega) (by simp; omega)]
    simp
theorem Split_eq {N m : Nat} (hN : 1000 ≤ N) {up : List Int} (hw : WL up) (ho : Ord (m : Int) up) : ∃ nx ls w, W32 w ∧ D_order_Split N (((m : Int), up), ()) = some (((els w).map fun (i : Nat) => (i : Int), chainsL m m nx ls), 0, ()) ∧
    Dil.Vl m (slt up) (nth 0 nx) (nth 0 ls) ∧ (∀ i, bt w i = true → i < m) ∧ (els w).length = (chainsL m m nx ls).length ∧ Loose up w := by
  have hm : m ≤ 16 := by have := ho.h1; omega
  have hul : up.length = m := by have := ho.len; omega
  obtain ⟨e, he, he0⟩ := Check_spec (N := N) (by omega) hw (m : Int)
  have he := he0.2 ho ▸ he
  simp only [D_order_Split, order_Split_11, he, Option.bind_some, bne_self_eq_false, cond_false]
  rw [d_true (show (0 : Int) ≤ (m : Int) by omega), d_true (show (m : Int) ≤ (m : Int) by omega), d_true (show (m : Int) * 8 ≤ 281474976710656 by omega), Bool.and_self, Bool.and_self, cond_true, cond_true]
  simp only [joinD, loopE, Int.toNat_natCast]
  -- both lists are -1 throughout
  obtain ⟨s, ⟨nx, ls, rfl, hnx, hls, h1, h2⟩, hs⟩ := loopD_inv (N := N) (g := fun (s : Int × List Int × List Int) kn => order_Split_10 N (fun s => order_Split_9 N s.1 s.2.1 s.2.2.1 s.2.2.2.1 s.2.2.2.2.1 s.2.2.2.2.2.1 s.2.2.2.2.2.2) (m : Int) (m : Int) up (m : Int) up 0 s.1 s.2.1 s.2.2 (backE ((m : Int), (m : Int), up, (m : Int), up, 0) kn))
    (k := fun s => order_Split_9 N (m : Int) up s.2.1 s.2.2 (m : Int) up 0) m
    (fun i s => ∃ nx ls : List Int, s = ((i : Int), nx, ls) ∧ nx.length = m ∧ ls.length = m ∧ (∀ j, j < i → nth 0 nx j = -1) ∧ ∀ j, j < i → nth 0 ls j = -1)
    (fun i s hi h => by
      obtain ⟨nx, ls, rfl, h1, h2, h3, h4⟩ := h
      refine ⟨((i + 1 : Nat), nx.set i (-1), ls.set i (-1)), ⟨_, _, rfl, by simpa using h1, by simpa using h2, fun j hj => ?_, fun j hj => ?_⟩, fun kn => ?_⟩
      · rw [nth_set (by omega)]; split
        · rfl
        · exact h3 j (by omega)
      · rw [nth_set (by omega)]; split
        · rfl
        · exact h4 j (by omega)
      · simp only [order_Split_10, lt_d hi, ge0_d, lt_d (show i < nx.length by omega), lt_d (show i < ls.length by omega), Bool.and_self, cond_true, backE_eq, w1 hm hi, Int.toNat_natCast]
        rfl)
    (fun s h kn => by
      obtain ⟨nx, ls, rfl, _⟩ := h
      simp only [order_Split_10, lt_self, cond_false])
    (by omega) (s := (0, List.replicate m 0, List.replicate m 0)) ⟨_, _, rfl, by simp, by simp, fun j hj => by omega, fun j hj => by omega⟩
  rw [hs]
  simp only [order_Split_9, joinD, loopE]
  -- the tries
  obtain ⟨s, ⟨nx, ls, sn, S, rfl, hnx, hls, hmt⟩, hs⟩ := loopD_inv (N := N) (g := fun (s : Int × List Int × List Int × Int × List Int × Int) kn => order_Split_8 N (fun s => order_Split_7 N s.1 s.2.1 s.2.2.1 s.2.2.2.1 s.2.2.2.2.1 s.2.2.2.2.2.1 s.2.2.2.2.2.2) (m : Int) (m : Int) up s.1 s.2.1 s.2.2.1 s.2.2.2.1 s.2.2.2.2.1 s.2.2.2.2.2 (backE ((m : Int), (m : Int), up) kn))
    (k := fun s => order_Split_7 N (m : Int) up s.2.1 s.2.2.1 s.2.2.2.1 s.2.2.2.2.1 s.2.2.2.2.2) m
    (fun i s => ∃ (nx ls : List Int) (sn : Int) (S : Nat → Prop), s = ((i : Int), nx, ls, (m : Int), up, sn) ∧ nx.length = m ∧ ls.length = m ∧ Dil.Mt m (slt up) i (nth 0 nx) (nth 0 ls) S)
    (fun i s hi h => by
      obtain ⟨nx, ls, sn, S, rfl, h1, h2, h3⟩ := h
      have hf0 : (fun j => bt 0 j = true) = fun _ : Nat => False := by funext j; rw [bt_zero]; simp
      have := tries_eq (N := N) hm hw ho N i none nx ls 0 h1 h2 W32.zero (by rw [hf0]; exact h3.sr hi) (by
        have := List.length_filter_le (fun j => !bt 0 j) (List.range m)
        rw [List.length_range] at this
        omega)
      rw [hf0] at this
      rcases this with ⟨s3, hs3, e3, hf3⟩ | ⟨s3, nx3, ls3, hs3, hn3, hl3, hm3, e3, ht3⟩
      · refine ⟨((i + 1 : Nat), nx, ls, (m : Int), up, s3), ⟨nx, ls, s3, _, rfl, h1, h2, h3.no hf3⟩, fun kn => ?_⟩
        simp only [order_Split_8, lt_d hi, cond_true, D_order_matching_tries_h, e3, Option.bind_some, backE_eq, w1 hm hi]
        rfl
      · refine ⟨((i + 1 : Nat), nx3, ls3, (m : Int), up, s3), ⟨nx3, ls3, s3, S, rfl, hn3, hl3, h3.yes hm3 ht3⟩, fun kn => ?_⟩
        simp only [order_Split_8, lt_d hi, cond_true, D_order_matching_tries_h, e3, Option.bind_some, backE_eq, w1 hm hi]
        rfl)
    (fun s h kn => by
      obtain ⟨nx, ls, sn, S, rfl, _⟩ := h
      simp only [order_Split_8, lt_self, cond_false])
    (by omega) (s := (0, nx, ls, (m : Int), up, 0)) ⟨nx, ls, 0, fun _ => False, rfl, hnx, hls, ⟨⟨fun i hi j e => by rw [h1 i hi] at e; omega, fun j hj i e => by rw [h2 j hj] at e; omega⟩, fun a ha _ => by rw [h1 a ha]; omega, fun j hj => by rw [h2 j hj]; omega, fun _ _ h => h.elim, fun a ha => by omega⟩⟩
  rw [hs]
  simp only [order_Split_7, joinD, loopE]
  have hv := hmt.vl
  have hso := slt_so ho
  -- what is reached, and the chains
  obtain ⟨s, ⟨l, r, rfl, hl, hr, hg, hgS, hlm⟩, hs⟩ := loopD_inv (N := N) (g := fun (s : Int × Int × List Int × List Int × List Int × Int × List Int × Int × Int × Int × List (List Int)) kn => order_Split_6 N (fun s => order_Split_1 N s.2.2.2.2.2.2.2.1 s.2.2.2.2.2.2.2.2.1 s.2.2.2.2.2.2.2.2.2) (m : Int) s.1 s.2.1 s.2.2.1 s.2.2.2.1 s.2.2.2.2.1 s.2.2.2.2.2.1 s.2.2.2.2.2.2.1 s.2.2.2.2.2.2.2.1 s.2.2.2.2.2.2.2.2.1 s.2.2.2.2.2.2.2.2.2.1 s.2.2.2.2.2.2.2.2.2.2 (backE (m : Int) kn))
    (k := fun s => order_Split_1 N s.2.2.2.2.2.2.2.2.1 s.2.2.2.2.2.2.2.2.2.1 s.2.2.2.2.2.2.2.2.2.2) m
    (fun i s => ∃ l r : Int, s = ((i : Int), (m : Int), up, nx, ls, (m : Int), up, sn, l, r, chainsL m i nx ls) ∧ W32 l ∧ W32 r ∧ Dil.Rg m (slt up) i (nth 0 nx) (nth 0 ls) (fun j => bt l j = true) (fun j => bt r j = true) ∧ (∀ j, j < m → bt r j = true → S j) ∧ ∀ j, bt l j = true → j < m)
    (fun i s hi h => by
      obtain ⟨l, r, rfl, hl, hr, hg, hgS, hlm⟩ := h
      have hcn := Dil.chf_n hso hv hi
      have hclen : (Dil.chf (nth 0 nx) m i).length ≤ m := by
        have h1 : (Dil.chf (nth 0 nx) m i).Nodup := (hcn.pw hso hv hi).1.imp fun {a b} (h : slt up a b) (e : a = b) => h.2 e
        have := h1.length_le_of_subset (l₂ := List.range m) fun x hx => List.mem_range.2 (hcn.low hv hi x hx)
        rwa [List.length_range] at this
      have hcl := chainsL_len m i nx ls
      -- the chain
      have hch : ∀ (l r : Int) (kn : _), order_Split_5 N (fun s => order_Split_2 N (backE (m : Int) kn) s.1 s.2.1 s.2.2.1 s.2.2.2.1 s.2.2.2.2.1 s.2.2.2.2.2.1 s.2.2.2.2.2.2.1 s.2.2.2.2.2.2.2.1 s.2.2.2.2.2.2.2.2.1 s.2.2.2.2.2.2.2.2.2.1 s.2.2.2.2.2.2.2.2.2.2.1 s.2.2.2.2.2.2.2.2.2.2.2) (i : Int) (m : Int) (i : Int) (m : Int) up nx ls (m : Int) up sn l r (chainsL m i nx ls) = kn (((i + 1 : Nat) : Int), (m : Int), up, nx, ls, (m : Int), up, sn, l, r, chainsL m (i + 1) nx ls) := fun l r kn => by
        simp only [order_Split_5, ge0_d, lt_d (show i < ls.length by omega), Bool.and_self, cond_true, Int.toNat_natCast]
        have hsucc : chainsL m (i + 1) nx ls = chainsL m i nx ls ++ if nth 0 ls i < 0 then [(Dil.chf (nth 0 nx) m i).map fun (i : Nat) => (i : Int)] else [] := by
          unfold chainsL
          rw [List.range_succ, List.filter_append, List.map_append]
          congr 1
          by_cases q : nth 0 ls i < 0
          · simp only [if_pos q, List.filter_cons, List.filter_nil, d_true q, if_true, List.map_cons, List.map_nil]
          · simp only [if_neg q, List.filter_cons, List.filter_nil, d_false q, Bool.false_eq_true, if_false, List.map_nil]
        rw [hsucc]
        by_cases q : nth 0 ls i < 0
        · rw [d_true q, cond_true, if_pos q]
          simp only [joinD, loopE]
          rw [chain_loop (m := m) (nx := nx) hm hnx (K := fun c => order_Split_3 N (fun s => order_Split_2 N (backE (m : Int) kn) s.1 s.2.1 s.2.2.1 s.2.2.2.1 s.2.2.2.2.1 s.2.2.2.2.2.1 s.2.2.2.2.2.2.1 s.2.2.2.2.2.2.2.1 s.2.2.2.2.2.2.2.2.1 s.2.2.2.2.2.2.2.2.2.1 s.2.2.2.2.2.2.2.2.2.2.1 s.2.2.2.2.2.2.2.2.2.2.2) (m : Int) (i : Int) (m : Int) up nx ls (m : Int) up sn l r (chainsL m i nx ls) c) ?_ hcn N [] (fun x hx => hcn.low hv hi x hx) (by omega) (by simp; omega)]
          · show order_Split_3 N _ _ _ _ _ _ _ _ _ _ _ _ _ _ = _
            unfold order_Split_3
            rw [d_true (by simp only [List.length_singleton]; omega), show Nat.ble 1 24 = true from rfl, Bool.and_self, cond_true]
            simp only [order_Split_2, List.nil_append, backE_eq, w1 hm hi]
            rfl
          · intro k c kn
            simp only [order_Split_4, backE_eq]
        · rw [d_false q, cond_false, if_neg q, List.append_nil]
          simp only [order_Split_2, backE_eq, w1 hm hi]
          rfl
      by_cases q : nth 0 nx i < 0
      · cases q2 : bt l i with
        | true =>
          refine ⟨_, ⟨l, r, rfl, hl, hr, hg.pass fun _ => q2, hgS, hlm⟩, fun kn => ?_⟩
          simp only [order_Split_6, joinD, lt_d hi, ge0_d, lt_d (show i < nx.length by omega), Bool.and_self, cond_true, Int.toNat_natCast, d_true q, Has_eq N hl i, q2, Option.bind_some, Bool.not_true, cond_false]
          exact hch l r kn
        | false =>
          obtain ⟨l', r', hl', hr', hlm', er, hc⟩ := reach_eq (N := N) hm hw ho hls hv (m : Int) (m : Int) up sn N i l r hi hl hr q2 hlm (by
            have := List.length_filter_le (fun j => !bt l j) (List.range m)
            rw [List.length_range] at this
            omega)
          obtain ⟨g1, g2⟩ := Dil.Rg.step hmt hgS hg hi q hc
          refine ⟨_, ⟨l', r', rfl, hl', hr', g1, g2, hlm'⟩, fun kn => ?_⟩
          simp only [order_Split_6, joinD, lt_d hi, ge0_d, lt_d (show i < nx.length by omega), Bool.and_self, cond_true, Int.toNat_natCast, d_true q, Has_eq N hl i, q2, Option.bind_some, Bool.not_false, D_order_Split_c1_h, er]
          exact hch l' r' kn
      · refine ⟨_, ⟨l, r, rfl, hl, hr, hg.pass fun h => absurd h q, hgS, hlm⟩, fun kn => ?_⟩
        simp only [order_Split_6, joinD, lt_d hi, ge0_d, lt_d (show i < nx.length by omega), Bool.and_self, cond_true, Int.toNat_natCast, d_false q, cond_false]
        exact hch l r kn)
    (fun s h kn => by
      obtain ⟨l, r, rfl, _⟩ := h
      simp only [order_Split_6, lt_self, cond_false])
    (by omega) (s := (0, (m : Int), up, nx, ls, (m : Int), up, sn, 0, 0, [])) ⟨0, 0, rfl, W32.zero, W32.zero, by
      have hf0 : (fun j => bt 0 j = true) = fun _ : Nat => False := by funext j; rw [bt_zero]; simp
      rw [hf0]; exact Dil.Rg.start, (fun j _ h => by rw [bt_zero] at h; cases h), (fun j h => by rw [bt_zero] at h; cases h)⟩
  rw [hs]
  simp only [order_Split_1, List32_eq (N := N) (W32.iandNot (a := l) (b := r)), Option.bind_some]
  have hbt : ∀ x, bt (iandNot .u32 l r) x = true ↔ bt l x = true ∧ ¬ bt r x = true := fun x => by rw [bt_iandNot hl hr]; simp
  refine ⟨nx, ls, _, W32.iandNot, rfl, hv, fun i h => hlm i ((hbt i).1 h).1, ?_, fun i j hi hj hle => Classical.byContradiction fun hne => ((hbt j).1 hj).2 (hg.lr i (hlm i ((hbt i).1 hi).1) ((hbt i).1 hi).1 j (hlm j ((hbt j).1 hj).1) ⟨hle, hne⟩)⟩
  have := Dil.anti_len hso hv hg (nodup_els (iandNot .u32 l r)) fun x => by
    rw [mem_els W32.iandNot, hbt]
    exact ⟨fun h => ⟨hlm x h.1, h⟩, fun h => h.2⟩
  rw [this]
  unfold chainsL
  rw [List.length_map]
  rfl
end Go.Proofs.YtgnhcmdmlcjpkaaDoor
