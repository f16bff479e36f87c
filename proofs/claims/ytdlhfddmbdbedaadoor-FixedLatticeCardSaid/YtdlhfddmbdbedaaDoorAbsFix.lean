/- A monotone map is done again and again until nothing changes. -/
import Derived.Test.YtdlhfddmbdbedaaDoorAbsLat
namespace Go.Abs
def itf (f : Nat → Nat) (x : Nat) : Nat → Nat
  | 0 => x
  | n + 1 => f (itf f x n)
theorem least_nat (P : Nat → Prop) : ∀ N, (∃ n, n < N ∧ P n ∧ ∀ k, k < n → ¬ P k) ∨ ∀ k, k < N → ¬ P k
  | 0 => .inr fun k h => absurd h (Nat.not_lt_zero _)
  | N + 1 => by
    rcases least_nat P N with ⟨n, h1, h2, h3⟩ | h
    · exact .inl ⟨n, by omega, h2, h3⟩
    · by_cases hp : P N
      · exact .inl ⟨N, by omega, hp, h⟩
      · refine .inr fun k hk => ?_
        by_cases e : k = N
        · subst e; exact hp
        · exact h k (by omega)
section
variable {m : Nat} {L : Nat → Nat → Prop} {f : Nat → Nat} {x : Nat} (hr : ∀ i, i < m → L i i) (ha : ∀ i j, i < m → j < m → L i j → L j i → i = j) (ht : ∀ i j k, i < m → j < m → k < m → L i j → L j k → L i k)
  (hf : ∀ i, i < m → f i < m) (hm : ∀ i j, i < m → j < m → L i j → L (f i) (f j)) (hx : x < m) (hup : L x (f x))
include hf hx
theorem itf_lt : ∀ n, itf f x n < m
  | 0 => hx
  | n + 1 => hf _ (itf_lt n)
include hm hup
theorem itf_step : ∀ n, L (itf f x n) (itf f x (n + 1))
  | 0 => hup
  | n + 1 => hm _ _ (itf_lt hf hx n) (itf_lt hf hx (n + 1)) (itf_step n)
include ht hr
theorem itf_mono (a d : Nat) : L (itf f x a) (itf f x (a + d)) := by
  induction d with
  | zero => exact hr _ (itf_lt hf hx a)
  | succ d ih => exact ht _ _ _ (itf_lt hf hx _) (itf_lt hf hx _) (itf_lt hf hx _) ih (itf_step hf hm hx hup (a + d))
include ha
/-- It stays after fewer steps than there are elements. -/
theorem settle_up : ∃ n, n < m ∧ f (itf f x n) = itf f x n ∧ (∀ k, k < n → f (itf f x k) ≠ itf f x k) ∧ itf f x n < m ∧ ∀ p, p < m → L (f p) p → L x p → L (itf f x n) p := by
  have fin : ∀ p, p < m → L (f p) p → L x p → ∀ n, L (itf f x n) p := fun p hp h1 h2 n => by
    induction n with
    | zero => exact h2
    | succ n ih => exact ht _ _ _ (itf_lt hf hx _) (hf p hp) hp (hm _ _ (itf_lt hf hx n) hp ih) h1
  rcases least_nat (fun n => f (itf f x n) = itf f x n) m with ⟨n, h1, h2, h3⟩ | h
  · exact ⟨n, h1, h2, h3, itf_lt hf hx n, fun p hp a b => fin p hp a b n⟩
  · exfalso
    have hne : ∀ a b, a < b → b ≤ m → itf f x a ≠ itf f x b := fun a b hab hb e => by
      obtain ⟨d, rfl⟩ : ∃ d, b = a + 1 + d := ⟨b - a - 1, by omega⟩
      have h1 := itf_mono hr ht hf hm hx hup (a + 1) d
      rw [← e] at h1
      exact h a (by omega) (ha (itf f x (a + 1)) (itf f x a) (itf_lt hf hx (a + 1)) (itf_lt hf hx a) h1 (itf_step hf hm hx hup a))
    have hn : ((List.range (m + 1)).map (itf f x)).Nodup := by
      rw [List.nodup_iff_pairwise_ne, List.pairwise_map]
      exact List.pairwise_iff_getElem.2 fun i j hi hj hij => by
        simp only [List.getElem_range]
        simp only [List.length_range] at hj
        exact hne i j hij (by omega)
    have := hn.length_le_of_subset (l₂ := List.range m) fun y hy => by
      obtain ⟨k, -, rfl⟩ := List.mem_map.1 hy
      exact List.mem_range.2 (itf_lt hf hx k)
    simp at this
    omega
end
end Go.Abs
