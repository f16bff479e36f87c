/- What the laws' small helpers answer: sound, refused, within. -/
import Derived.Test.YtkijpiphgnnonaaDoorOrderS
import Derived.Test.YtkijpiphgnnonaaDoorCheckS
namespace Go.Proofs.YtkijpiphgnnonaaDoor
open Go.Abs
theorem sound_eq {N : Nat} (hN : 40 ≤ N) {up : List Int} (hw : WL up) (n : Int) : ∃ b, D_keep_sound N ((n, up), ()) = some (b, ()) ∧ (b = true ↔ Ord n up) := by
  obtain ⟨e, h1, h2⟩ := OrderCheck_spec hN hw n
  refine ⟨e == 0, ?_, by rw [beq_iff_eq]; exact h2⟩
  simp only [D_keep_sound, keep_sound_1, h1, Option.bind_some]
theorem refused_eq {N : Nat} (hN : 40 ≤ N) {up : List Int} (hw : WL up) (n : Int) : ∃ b, D_keep_refused N ((n, up), ()) = some (b, ()) ∧ (b = true ↔ ¬ Ord n up) := by
  obtain ⟨e, h1, h2⟩ := Check_spec hN hw n
  refine ⟨e != 0, ?_, by rw [bne_iff_ne, ne_eq, h2]⟩
  simp only [D_keep_refused, keep_refused_1, h1, Option.bind_some]
theorem within_eq {N : Nat} {n : Int} {xs : List Int} (hN : xs.length < N) (hl : xs.length ≤ 9223372036854775807) : ∃ b, D_keep_within N (n, xs, ()) = some (b, ()) ∧ (b = true ↔ ∀ x ∈ xs, 0 ≤ x ∧ x < n) := by
  simp only [D_keep_within, keep_within_3, keep_within_1, joinD, loopE]
  have hbad : ∀ i : Nat, i < xs.length → ¬ (0 ≤ nth 0 xs i ∧ nth 0 xs i < n) → ∀ kn, keep_within_2 N (fun _ => some (true, ())) n xs xs.length (i : Int) kn = some (false, ()) := fun i hi hb kn => by
    simp only [keep_within_2, lt_d hi, ge0_d, cond_true, Bool.and_self, Int.toNat_natCast]
    by_cases h1 : nth 0 xs i < 0
    · rw [d_true h1]; rfl
    · rw [d_false h1, cond_false, d_true (show nth 0 xs i ≥ n by omega)]; rfl
  have hok : ∀ i : Nat, i < xs.length → (0 ≤ nth 0 xs i ∧ nth 0 xs i < n) → ∀ kn, keep_within_2 N (fun _ => some (true, ())) n xs xs.length (i : Int) (backE (n, xs, (xs.length : Int)) kn) = kn ((i : Int) + 1) := fun i hi hb kn => by
    simp only [keep_within_2, lt_d hi, ge0_d, cond_true, Bool.and_self, Int.toNat_natCast, d_false (show ¬ (nth 0 xs i < 0) by omega), d_false (show ¬ (nth 0 xs i ≥ n) by omega), cond_false, backE_eq, w64 (show -9223372036854775808 ≤ (i : Int) + 1 by omega) (show (i : Int) + 1 ≤ 9223372036854775807 by omega)]
  by_cases h : ∃ i : Nat, i < xs.length ∧ ¬ (0 ≤ nth 0 xs i ∧ nth 0 xs i < n)
  · refine ⟨false, loopD_hitU (n := xs.length) (fun i : Nat => ¬ (0 ≤ nth 0 xs i ∧ nth 0 xs i < n)) (fun i hi hb kn => hbad i hi hb _) (fun i hi hb kn => hok i hi (Classical.not_not.1 hb) _) hN h, ?_⟩
    obtain ⟨i, hi, hb⟩ := h
    exact ⟨fun h => Bool.noConfusion h, fun h => absurd (h _ (nth_mem hi)) hb⟩
  · refine ⟨true, loopD_passU (n := xs.length) (fun i hi kn => hok i hi (Classical.byContradiction fun hb => h ⟨i, hi, hb⟩) _) (fun kn => by simp only [keep_within_2, lt_self, cond_false]) hN, ?_⟩
    refine ⟨fun _ x hx => ?_, fun _ => rfl⟩
    obtain ⟨i, hi, rfl⟩ := List.getElem_of_mem hx
    refine Classical.byContradiction fun hb => h ⟨i, hi, ?_⟩
    rw [nth_lt hi]; exact hb
theorem mem_nth {α : Type} {z a : α} {xs : List α} (h : a ∈ xs) : ∃ t, t < xs.length ∧ nth z xs t = a := by
  obtain ⟨t, ht, e⟩ := List.getElem_of_mem h
  exact ⟨t, ht, by rw [nth_lt ht, e]⟩
theorem bcase {b : Bool} {p : Prop} (h : b = true ↔ p) : (p ∧ b = true) ∨ (¬ p ∧ b = false) := by
  cases b
  · exact .inr ⟨fun hp => Bool.noConfusion (h.2 hp), rfl⟩
  · exact .inl ⟨h.1 rfl, rfl⟩
end Go.Proofs.YtkijpiphgnnonaaDoor
