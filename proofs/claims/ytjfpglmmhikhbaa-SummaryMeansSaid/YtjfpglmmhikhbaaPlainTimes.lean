/- Plain facts on the order of lists. -/
import Derived.Test.YtjfpglmmhikhbaaTimesLaw
namespace Go.Proofs.Ytjfpglmmhikhbaa

theorem cmpL_self : ∀ xs : List Int, cmpL xs xs = 0
  | [] => rfl
  | x :: xs => by simp [cmpL, cmpL_self xs]
theorem cmpL_cases : ∀ xs ys : List Int, cmpL xs ys = -1 ∨ cmpL xs ys = 0 ∨ cmpL xs ys = 1
  | [], [] => by simp [cmpL]
  | [], _ :: _ => by simp [cmpL]
  | _ :: _, [] => by simp [cmpL]
  | x :: xs, y :: ys => by
    have := cmpL_cases xs ys
    simp only [cmpL]
    split
    · simp
    · split
      · simp
      · exact this
theorem cmpL_turn : ∀ xs ys : List Int, cmpL ys xs = -cmpL xs ys
  | [], [] => by simp [cmpL]
  | [], _ :: _ => by simp [cmpL]
  | _ :: _, [] => by simp [cmpL]
  | x :: xs, y :: ys => by
    have := cmpL_turn xs ys
    simp only [cmpL]
    by_cases h : x < y
    · have h' : ¬ y < x := by omega
      simp [h, h']
    · by_cases h' : y < x
      · simp [h, h']
      · simp [h, h', this]
theorem cmpL_eq : ∀ xs ys : List Int, cmpL xs ys = 0 → xs = ys
  | [], [], _ => rfl
  | [], _ :: _, h => by simp [cmpL] at h
  | _ :: _, [], h => by simp [cmpL] at h
  | x :: xs, y :: ys, h => by
    simp only [cmpL] at h
    by_cases h1 : x < y
    · simp [h1] at h
    · by_cases h2 : y < x
      · simp [h1, h2] at h
      · simp only [h1, h2, if_false] at h
        rw [cmpL_eq xs ys h, show x = y by omega]
theorem cmpL_trans : ∀ xs ys zs : List Int, cmpL xs ys < 0 → cmpL ys zs < 0 → cmpL xs zs < 0
  | [], [], _, h, _ => by simp [cmpL] at h
  | _, _ :: _, [], _, h => by simp [cmpL] at h
  | _ :: _, [], _, h, _ => by simp [cmpL] at h
  | [], _ :: _, _ :: _, _, _ => by simp [cmpL]
  | x :: xs, y :: ys, z :: zs, h, h' => by
    have ih := cmpL_trans xs ys zs
    simp only [cmpL] at h h' ⊢
    by_cases h1 : x < y
    · by_cases h2 : y < z
      · rw [if_pos (by omega)]; decide
      · by_cases h3 : z < y
        · simp [h2, h3] at h'
        · rw [if_pos (by omega)]; decide
    · by_cases h1' : y < x
      · simp [h1, h1'] at h
      · simp only [h1, h1', if_false] at h
        by_cases h2 : y < z
        · rw [if_pos (by omega)]; decide
        · by_cases h3 : z < y
          · simp [h2, h3] at h'
          · simp only [h2, h3, if_false] at h'
            rw [if_neg (by omega), if_neg (by omega)]
            exact ih h h'
theorem underB_tail {x y : Int} {xs ys : List Int} (h : underB (x :: xs) (y :: ys) = true) : x ≤ y ∧ underB xs ys = true := by
  simp only [underB, decide_eq_true_eq] at *
  refine ⟨h 0 (by simp), fun k hk => ?_⟩
  have := h (k + 1) (by simpa using hk)
  simpa [nth] using this
theorem cmpL_under : ∀ xs ys : List Int, xs.length = ys.length → underB xs ys = true → cmpL xs ys ≤ 0
  | [], [], _, _ => by simp [cmpL]
  | [], _ :: _, h, _ => by simp at h
  | _ :: _, [], h, _ => by simp at h
  | x :: xs, y :: ys, hl, h => by
    obtain ⟨h1, h2⟩ := underB_tail h
    have ih := cmpL_under xs ys (by simpa using hl) h2
    simp only [cmpL]
    by_cases h3 : x < y
    · rw [if_pos h3]; decide
    · rw [if_neg h3, if_neg (by omega)]; exact ih
theorem eqB_true {xs ys : List Int} : eqB xs ys = true ↔ xs = ys := by simp [eqB]
theorem eqB_false {xs ys : List Int} : eqB xs ys = false ↔ xs ≠ ys := by simp [eqB]
theorem alikeB_true {xs ys : List Int} : alikeB xs ys = true ↔ xs.length = ys.length ∧ timeCheck xs = 0 ∧ timeCheck ys = 0 := by simp [alikeB]
theorem lessB_true {xs ys : List Int} : lessB xs ys = true ↔ alikeB xs ys = true ∧ cmpL xs ys < 0 := by simp [lessB]
theorem leqB_true {xs ys : List Int} : leqB xs ys = true ↔ alikeB xs ys = true ∧ underB xs ys = true := by simp [leqB]
end Go.Proofs.Ytjfpglmmhikhbaa
