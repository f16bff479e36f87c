import Derived.Test.YtnieamciihdfpaaGreatTimA
namespace Go.Proofs.YtnieamciihdfpaaGreat
open Go.Abs Go.Bag
abbrev Df := List Int × List Row
abbrev zd : Df := ([], [])
def stL (h : List Df) (t : List Int) : List Row := h.flatMap fun d => if undr d.1 t = true then d.2 else []
theorem stL_snoc (h : List Df) (d : Df) (t : List Int) : stL (h ++ [d]) t = stL h t ++ if undr d.1 t = true then d.2 else [] := by unfold stL; rw [List.flatMap_append]; simp
theorem take_nd {h : List Df} {i : Nat} (hi : i < h.length) : h.take (i + 1) = h.take i ++ [nth zd h i] := by rw [List.take_succ_eq_append_getElem hi, nth_lt hi]
def cntR (h : List Df) : Nat := (h.map fun d => d.2.length).sum
theorem cntR_take {h : List Df} {i : Nat} (hi : i < h.length) : cntR (h.take (i + 1)) = cntR (h.take i) + (nth zd h i).2.length := by
 rw [take_nd hi]; unfold cntR; rw [List.map_append, List.sum_append]; simp
structure HOk (h : List Df) (t : List Int) : Prop where
 len : h.length ≤ 64
 rows : cntR h ≤ 128
 tt : tok t = true
 tok : ∀ d ∈ h, tok d.1 = true
 one : ∀ d ∈ h, d.1.length = t.length
theorem Stands_eq {N : Nat} (hN : 1000 ≤ N) {h : List Df} {t : List Int} (H : HOk h t) : ∃ d, D_diffs_Stands_h N (h, t) = some d ∧ BOk (amt (stL h t)) d ∧ d.2.length ≤ 128 := by
 have h64 := H.len
 have hmono : ∀ i, cntR (h.take i) ≤ cntR h := fun i => by
  have : cntR h = cntR (h.take i) + cntR (h.drop i) := by
   conv => lhs; rw [← List.take_append_drop i h]
   unfold cntR; rw [List.map_append, List.sum_append]
  omega
 simp only [D_diffs_Stands_h, diffs_Stands_h_3, joinD, loopE]
 obtain ⟨s, ⟨b, rfl, hb, hbl⟩, hs⟩ := loopD_inv (N := N) (g := fun (s : Int × Bg) kn => diffs_Stands_h_2 N (fun s => diffs_Stands_h_1 N s) t h (h.length : Int) s.1 s.2 (backE (t, h, (h.length : Int)) kn)) (k := fun s => some s.2) h.length
  (fun i s => ∃ b : Bg, s = ((i : Int), b) ∧ BOk (amt (stL (h.take i) t)) b ∧ b.2.length ≤ cntR (h.take i))
  (fun i s hi hI => by
   obtain ⟨b, rfl, hb, hbl⟩ := hI
   have hd := nth_mem (z := zd) hi
   have hu := Under_eq (N := N) (H.one _ hd) (tok_len (H.tok _ hd)).2 hN
   have hc1 := hmono (i + 1)
   have hr := H.rows
   rw [cntR_take hi] at hc1
   obtain ⟨b', e1, e2, e3⟩ := Pour_eq (N := N) hb (nth zd h i).2 1 (by omega) (by omega)
   cases q : undr (nth zd h i).1 t with
   | true =>
    refine ⟨_, ⟨b', rfl, ?_, by rw [cntR_take hi]; omega⟩, fun kn => ?_⟩
    ·refine e2.cg fun e => Cg.of_eq ?_
     rw [take_nd hi, stL_snoc, if_pos q, amt_append]; omega
    ·simp only [diffs_Stands_h_2, lt_d hi, ge0_d, Bool.and_self, cond_true, Int.toNat_natCast, hu, q, e1, Option.bind_some, backE_eq, ix1 hi (show h.length ≤ 4611686018427387904 by omega)]
     rfl
   | false =>
    refine ⟨_, ⟨b, rfl, ?_, by rw [cntR_take hi]; omega⟩, fun kn => ?_⟩
    ·rw [take_nd hi, stL_snoc, if_neg (by rw [q]; simp), List.append_nil]; exact hb
    ·simp only [diffs_Stands_h_2, lt_d hi, ge0_d, Bool.and_self, cond_true, Int.toNat_natCast, hu, q, Option.bind_some, cond_false, backE_eq, ix1 hi (show h.length ≤ 4611686018427387904 by omega)]
     rfl)
  (fun s hI kn => by
   obtain ⟨b, rfl, _⟩ := hI
   simp only [diffs_Stands_h_2, lt_self, cond_false, diffs_Stands_h_1])
  (by omega) (s := (0, ((0 : Int), []))) ⟨_, rfl, by rw [List.take_zero]; exact BOk.empty, Nat.le_refl _⟩
 rw [List.take_length] at hb hbl
 have hr := H.rows
 exact ⟨b, hs, hb, by omega⟩
theorem dTimes_eq {N : Nat} {h : List Df} (hN : h.length < N) (hl : h.length ≤ 64) : D_diffs_Times N (h, ()) = some (h.map Prod.fst) := by
 simp only [D_diffs_Times, diffs_Times_3, joinD, loopE]
 refine loopD_path (N := N) h.length (fun i => ((i : Int), (h.take i).map Prod.fst)) (fun i hi kn => ?_) (fun kn => ?_) hN
 ·simp only [diffs_Times_2, lt_d hi, ge0_d, Bool.and_self, cond_true, Int.toNat_natCast, backE_eq, ix1 hi (show h.length ≤ 4611686018427387904 by omega)]
  rw [d_true (by simp only [List.length_map, List.length_take, List.length_singleton]; omega), show Nat.ble 1 24 = true from rfl, Bool.and_self, cond_true, take_nd hi, List.map_append]
  rfl
 ·simp only [diffs_Times_2, lt_self, cond_false, diffs_Times_1, List.take_length]
theorem dCheck_iff {N : Nat} (hN : 1000 ≤ N) {h : List Df} (hl : h.length < N) (hl2 : h.length ≤ 4611686018427387904) : ∃ e, D_diffs_Check N (h, ()) = some (e, ()) ∧ (e = 0 ↔ h.length ≤ 64 ∧ cntR h ≤ 128 ∧ TL (h.map Prod.fst)) := by
 simp only [D_diffs_Check, diffs_Check_3, joinD, loopE]
 have key : ∀ k : (List Df × Int) → Option Rt_diffs_Check, ∃ r : Int, 0 ≤ r ∧ r ≤ 129 ∧ (r ≤ 128 ↔ cntR h ≤ 128) ∧ loopD (fun (s : Int × Int) kn => diffs_Check_2 N k h h (h.length : Int) s.1 s.2 (backE (h, h, (h.length : Int)) kn)) N (0, 0) = k (h, r) := fun k => by
  obtain ⟨s, ⟨r, rfl, h0, h1, h2, h3⟩, hs⟩ := loopD_inv (N := N) (g := fun (s : Int × Int) kn => diffs_Check_2 N k h h (h.length : Int) s.1 s.2 (backE (h, h, (h.length : Int)) kn)) (k := fun s => k (h, s.1)) h.length
   (fun i s => ∃ r : Int, s = (r, (i : Int)) ∧ 0 ≤ r ∧ r ≤ 129 ∧ (r ≤ 128 → (cntR (h.take i) : Int) ≤ r) ∧ r ≤ (cntR (h.take i) : Int))
   (fun i s hi hI => by
    obtain ⟨r, rfl, h0, h1, h2, h3⟩ := hI
    obtain ⟨m, hm, hm0, hm1, hm2, hm3⟩ : ∃ m : Int, m = (if (129 : Int) < ((nth zd h i).2.length : Int) then (129 : Int) else ((nth zd h i).2.length : Int)) ∧ 0 ≤ m ∧ m ≤ 129 ∧ (m ≤ 128 → m = (nth zd h i).2.length) ∧ m ≤ (nth zd h i).2.length := by
     refine ⟨_, rfl, ?_, ?_, ?_, ?_⟩ <;> split <;> omega
    refine ⟨(if 129 < r + m then 129 else r + m, ((i + 1 : Nat) : Int)), ⟨_, rfl, by split <;> omega, by split <;> omega, fun hle => ?_, by rw [cntR_take hi]; split <;> omega⟩, fun kn => ?_⟩
    ·have hrm : r + m ≤ 128 := by split at hle <;> omega
     have := h2 (by omega)
     have := hm2 (by omega)
     rw [if_neg (by omega), cntR_take hi]
     omega
    ·simp only [diffs_Check_2, lt_d hi, ge0_d, Bool.and_self, cond_true, Int.toNat_natCast, backE_eq, ix1 hi hl2]
     rw [← hm, w64 (show -9223372036854775808 ≤ r + m by omega) (by omega)]
     rfl)
   (fun s hI kn => by
    obtain ⟨r, rfl, _⟩ := hI
    simp only [diffs_Check_2, lt_self, cond_false])
   hl (s := (0, 0)) ⟨0, rfl, by omega, by omega, fun _ => (by rw [List.take_zero]; exact Int.le_refl _), (by rw [List.take_zero]; exact Int.le_refl _)⟩
  rw [List.take_length] at h2 h3
  exact ⟨r, h0, h1, ⟨fun h => by have := h2 h; omega, fun h => by omega⟩, hs⟩
 obtain ⟨r, h0, h1, h2, hs⟩ := key (fun s => diffs_Check_1 N s.1 s.2)
 rw [hs]
 simp only [diffs_Check_1]
 by_cases q : h.length ≤ 64
 case neg => exact ⟨1, by rw [d_true (show (h.length : Int) > 64 by omega), cond_true], fun h => (by cases h), fun h => absurd h.1 q⟩
 rw [d_false (show ¬ (h.length : Int) > 64 by omega), cond_false]
 by_cases q2 : r ≤ 128
 case neg => exact ⟨1, by rw [d_true (show r > 128 by omega), cond_true], fun h => (by cases h), fun h => absurd (h2.2 h.2.1) q2⟩
 rw [d_false (show ¬ r > 128 by omega), cond_false]
 obtain ⟨e, e1, e2⟩ := List_eq hN (h.map Prod.fst)
 simp only [dTimes_eq hl q, e1, Option.bind_some]
 exact ⟨e, rfl, fun h => ⟨q, h2.1 q2, e2.1 h⟩, fun h => e2.2 h.2.2⟩
theorem dCheck_eq {N : Nat} (hN : 1000 ≤ N) {h : List Df} (hl : h.length < N) (hl2 : h.length ≤ 4611686018427387904) : ∃ e, D_diffs_Check N (h, ()) = some (e, ()) ∧ (e = 0 → h.length ≤ 64 ∧ cntR h ≤ 128 ∧ TL (h.map Prod.fst)) := by
 obtain ⟨e, h1, h2⟩ := dCheck_iff hN hl hl2
 exact ⟨e, h1, h2.1⟩
theorem At_eq {N : Nat} (hN : 1000 ≤ N) {h : List Df} (hl : h.length < N) (hl2 : h.length ≤ 4611686018427387904) (t : List Int) : ∃ out e, D_diffs_At N (h, t, ()) = some (out, e, ()) ∧ (e = 0 → HOk h t ∧ IsBag (amt (stL h t)) out ∧ out.length ≤ 128) := by
 obtain ⟨e, e1, e2⟩ := dCheck_eq hN hl hl2
 obtain ⟨x, x1, x2⟩ := Check_eq hN t
 simp only [D_diffs_At, diffs_At_1, e1, x1, Option.bind_some]
 by_cases he : e = 0
 case neg => exact ⟨[], e, by rw [bne_iff_ne.2 he, cond_true], fun h => absurd h he⟩
 by_cases hx : x = 0
 case neg => exact ⟨[], x, by rw [he, bne_self_eq_false, cond_false, bne_iff_ne.2 hx, cond_true], fun h => absurd h hx⟩
 obtain ⟨g1, g2, g3⟩ := e2 he
 have ht := x2.1 hx
 rw [he, hx, bne_self_eq_false, cond_false, cond_false]
 have hfin : HOk h t → ∃ out e, (D_diffs_Stands_h N (h, t)).bind (fun y => (D_bags_Bag_Tells_h N y).bind fun z => (some (z.1, z.2.1, ()) : Option Rt_diffs_At)) = some (out, e, ()) ∧ (e = 0 → HOk h t ∧ IsBag (amt (stL h t)) out ∧ out.length ≤ 128) := fun H => by
  obtain ⟨d, d1, d2, d3⟩ := Stands_eq hN H
  obtain ⟨out, c, c1, c2⟩ := Tells_eq (N := N) d2 (by omega) (by omega)
  refine ⟨out, c, by rw [d1, Option.bind_some, c1, Option.bind_some], fun hc => ?_⟩
  rcases c2 with ⟨_, k1, k2⟩ | ⟨k, _⟩
  ·exact ⟨H, k2, k1⟩
  ·rw [hc] at k; cases k
 by_cases hp : 0 < h.length
 ·rw [d_true (show (h.length : Int) > 0 by omega), cond_true]
  simp only [show decide ((0 : Int) ≤ 0) = true from rfl, d_true (show (0 : Int) < (h.length : Int) by omega), Bool.and_self, cond_true, show ((0 : Int)).toNat = 0 from rfl]
  by_cases q : (nth zd h 0).1.length = t.length
  ·rw [show (((nth (([] : List Int), ([] : List Row)) h 0).1.length : Int) != (t.length : Int)) = false from by rw [bne_eq_false_iff_eq]; exact congrArg Int.ofNat q, cond_false]
   refine hfin ⟨g1, g2, ht, fun d hd => g3.tok _ (List.mem_map.2 ⟨d, hd, rfl⟩), fun d hd => ?_⟩
   have h1 := g3.eqL (List.mem_map.2 ⟨d, hd, rfl⟩) (List.mem_map.2 ⟨_, nth_mem (z := zd) hp, rfl⟩)
   exact h1.trans q
  ·refine ⟨[], 3, ?_, fun h => by cases h⟩
   rw [show (((nth (([] : List Int), ([] : List Row)) h 0).1.length : Int) != (t.length : Int)) = true from bne_iff_ne.2 fun e => q (Int.ofNat.inj e), cond_true]
 ·rw [d_false (show ¬ (h.length : Int) > 0 by omega), cond_false]
  have : h = [] := List.eq_nil_of_length_eq_zero (by omega)
  subst this
  exact hfin ⟨by simp, by decide, ht, fun d hd => (by cases hd), fun d hd => (by cases hd)⟩
end Go.Proofs.YtnieamciihdfpaaGreat
