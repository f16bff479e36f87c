/- Fronts: more of what they come to. -/
import Derived.Test.YtololihlpldcdaaTimesF
namespace Go.Proofs.Ytololihlpldcdaa
open Go.Abs
theorem TL.of_mem {xs ys : List (List Int)} (h : TL xs) (hl : ys.length ≤ 64) (hm : ∀ t ∈ ys, t ∈ xs) : TL ys where
  len := hl
  tok := fun t ht => h.tok t (hm t ht)
  one := fun t ht => by
    have h0 : 0 < ys.length := List.length_pos_of_mem ht
    exact h.eqL (hm t ht) (hm _ (nth_mem h0))
theorem isMin_congr {xs ys : List (List Int)} (h : ∀ t, t ∈ xs ↔ t ∈ ys) (t : List Int) : isMin xs t ↔ isMin ys t := by simp only [isMin, h]
theorem isMin_self {xs f : List (List Int)} (hf : ∀ t, t ∈ f ↔ isMin xs t) (t : List Int) : isMin f t ↔ t ∈ f :=
  ⟨fun h => h.1, fun h => ⟨h, fun u hu hut => ((hf t).1 h).2 u ((hf u).1 hu).1 hut⟩⟩
theorem leqT_iff {a b : List Int} : leqT a b = true ↔ (a.length = b.length ∧ tok a = true ∧ tok b = true) ∧ undr a b = true := by
  unfold leqT; rw [Bool.and_eq_true, alk_iff]
/-- By a front just that is open which is open by the list. -/
theorem open_front {xs f : List (List Int)} (h : TL xs) (hf : ∀ t, t ∈ f ↔ isMin xs t) (t : List Int) : f.any (fun u => leqT u t) = xs.any (fun u => leqT u t) := by
  rw [Bool.eq_iff_iff, List.any_eq_true, List.any_eq_true]
  constructor
  · rintro ⟨u, hu, hl⟩
    exact ⟨u, ((hf u).1 hu).1, hl⟩
  · rintro ⟨u, hu, hl⟩
    obtain ⟨v, hv, hvu⟩ := front_under h.one hf hu
    obtain ⟨⟨h1, h2, h3⟩, h4⟩ := leqT_iff.1 hl
    have hvx := ((hf v).1 hv).1
    exact ⟨v, hv, leqT_iff.2 ⟨⟨by rw [h.eqL hvx hu]; exact h1, h.tok v hvx, h3⟩, undr_trans hvu h4⟩⟩
theorem Less_eq {N : Nat} (hN : 1000 ≤ N) (a b : List Int) : D_times_Less N (a, b, ()) = some (alk a b && decide (lexc a b < 0), ()) := by
  simp only [D_times_Less, times_Less_1, Alike_eq hN a b, Option.bind_some]
  cases h : alk a b with
  | false => rfl
  | true =>
    obtain ⟨h1, h2, -⟩ := alk_iff.1 h
    rw [cond_true, Compare_eq (tok_len h2).2 hN]
    rfl
end Go.Proofs.Ytololihlpldcdaa
