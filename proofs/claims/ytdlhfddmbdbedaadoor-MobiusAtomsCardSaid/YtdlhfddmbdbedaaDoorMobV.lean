/- What the sum of two lists comes to. -/
import Derived.Test.YtdlhfddmbdbedaaDoorMobKa
import Derived.Test.YtdlhfddmbdbedaaDoorMobS
namespace Go.Proofs.YtdlhfddmbdbedaaDoor
open Go.Abs
theorem added_eq {N : Nat} (hN : 1000 ≤ N) {x y : List Int} (hl : x.length = y.length) (h : x.length < 900) :
    ∃ l, D_keep_added N (x, y, ()) = some l ∧ l.length = x.length ∧ (∀ v ∈ l, I64 v) ∧ ∀ i, i < x.length → nth 0 l i = IntKind.i64.wrap (nth 0 x i + nth 0 y i) := by
  simp only [D_keep_added, keep_added_11, keep_added_10, keep_added_9, keep_added_8, keep_added_7, keep_added_6, keep_added_3, keep_added_2, keep_added_1]
  unfold keep_added_5
  obtain ⟨⟨t, s⟩, ⟨-, q1, q2, q3⟩, e⟩ := loopD_inv (N := N) (g := fun (s : Int × List Int) kn => keep_added_4 N x y s.1 s.2 (fun v1 v2 => kn (v1, v2)) (fun v5 => some v5)) (k := fun s => some s.2) (s := ((0 : Int), [])) x.length
    (fun i s => s.1 = (i : Int) ∧ s.2.length = i ∧ (∀ v ∈ s.2, I64 v) ∧ ∀ j, j < i → nth 0 s.2 j = IntKind.i64.wrap (nth 0 x j + nth 0 y j)) (fun i s hi hs => by
      obtain ⟨t, s⟩ := s
      obtain ⟨ht, hc, hv, hn⟩ := hs
      simp only at ht hc hv hn
      subst ht
      refine ⟨((i : Int) + 1, s ++ [IntKind.i64.wrap (nth 0 x i + nth 0 y i)]), ⟨rfl, by simp [hc], fun v hv' => ?_, fun j hj => ?_⟩, fun kn => ?_⟩
      · rcases List.mem_append.1 hv' with h | h
        · exact hv v h
        · rw [List.mem_singleton.1 h]; exact I64.wrap _
      · unfold nth
        rw [List.getD_eq_getElem?_getD]
        by_cases e : j < s.length
        · rw [List.getElem?_append_left e, ← List.getD_eq_getElem?_getD]; exact hn j (by omega)
        · have : j = i := by omega
          subst this
          rw [List.getElem?_append_right (by omega)]
          simp [hc, nth]
      · simp only [keep_added_4, lt_d hi, lt_d (show i < y.length by omega), ge0_d, cond_true, Bool.and_self, Int.toNat_natCast, w64 (show -9223372036854775808 ≤ (i : Int) + 1 by omega) (show (i : Int) + 1 ≤ 9223372036854775807 by omega)]
        rw [d_true (by simp; omega)]; rfl)
    (fun s hs kn => by
      obtain ⟨t, s⟩ := s
      obtain ⟨ht, -⟩ := hs
      simp only at ht
      subst ht
      simp only [keep_added_4, lt_self, cond_false]) (by omega)
    ⟨rfl, rfl, (fun v hv => by cases hv), fun j hj => absurd hj (Nat.not_lt_zero _)⟩
  exact ⟨s, e, q1, q2, q3⟩
end Go.Proofs.YtdlhfddmbdbedaaDoor
