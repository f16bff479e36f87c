/- Lists of times: their order, and the front: those that no other is under. Plain. -/
import Derived.Test.YtnieamciihdfpaaAbsSort
namespace Go.Abs
/-- Which of two lists comes first, number by number. -/
def lexc : List Int → List Int → Int
  | [], [] => 0
  | [], _ :: _ => -1
  | _ :: _, [] => 1
  | x :: xs, y :: ys => if x < y then -1 else if y < x then 1 else lexc xs ys
theorem lexc_neg : ∀ a b, lexc b a = - lexc a b
  | [], [] => rfl
  | [], _ :: _ => rfl
  | _ :: _, [] => rfl
  | x :: xs, y :: ys => by
    simp only [lexc]
    by_cases h1 : x < y
    · have h2 : ¬ y < x := by omega
      simp [h1, h2]
    · by_cases h2 : y < x
      · simp [h1, h2]
      · simp [h1, h2, lexc_neg xs ys]
theorem lexc_eq : ∀ {a b}, lexc a b = 0 → a = b
  | [], [], _ => rfl
  | [], _ :: _, h => by cases h
  | _ :: _, [], h => by cases h
  | x :: xs, y :: ys, h => by
    simp only [lexc] at h
    by_cases h1 : x < y
    · rw [if_pos h1] at h; cases h
    · by_cases h2 : y < x
      · rw [if_neg h1, if_pos h2] at h; cases h
      · rw [if_neg h1, if_neg h2] at h
        rw [lexc_eq h, show x = y by omega]
theorem lexc_self (a : List Int) : lexc a a = 0 := by have := lexc_neg a a; omega
theorem lexc_trans : ∀ {a b c}, lexc a b < 0 → lexc b c < 0 → lexc a c < 0
  | [], [], _, h, _ => by cases h
  | [], _ :: _, [], _, h => by simp only [lexc] at h; omega
  | [], _ :: _, _ :: _, _, _ => by simp [lexc]
  | _ :: _, [], _, h, _ => by simp only [lexc] at h; omega
  | _ :: _, _ :: _, [], _, h => by simp only [lexc] at h; omega
  | x :: xs, y :: ys, z :: zs, h1, h2 => by
    simp only [lexc] at *
    by_cases a1 : x < y
    · by_cases b1 : y < z
      · rw [if_pos (by omega)]; omega
      · by_cases b2 : z < y
        · rw [if_neg b1, if_pos b2] at h2; omega
        · rw [if_pos (by omega)]; omega
    · by_cases a2 : y < x
      · rw [if_neg a1, if_pos a2] at h1; omega
      · rw [if_neg a1, if_neg a2] at h1
        by_cases b1 : y < z
        · rw [if_pos (by omega)]; omega
        · by_cases b2 : z < y
          · rw [if_neg b1, if_pos b2] at h2; omega
          · rw [if_neg b1, if_neg b2] at h2
            rw [if_neg (by omega), if_neg (by omega)]
            exact lexc_trans h1 h2
theorem lexc_ge {a b : List Int} (h1 : ¬ lexc a b < 0) (h2 : ¬ lexc b a < 0) : a = b := lexc_eq (by have := lexc_neg a b; omega)
/-- Is no number of the one greater than the other's? -/
def undr : List Int → List Int → Bool
  | [], _ => true
  | x :: xs, y :: ys => decide (x ≤ y) && undr xs ys
  | _ :: _, [] => false
theorem undr_refl : ∀ a, undr a a = true
  | [] => rfl
  | x :: xs => by simp [undr, undr_refl xs]
theorem undr_trans : ∀ {a b c}, undr a b = true → undr b c = true → undr a c = true
  | [], _, _, _, _ => rfl
  | _ :: _, [], _, h, _ => by cases h
  | _ :: _, _ :: _, [], _, h => by cases h
  | x :: xs, y :: ys, z :: zs, h1, h2 => by
    simp only [undr, Bool.and_eq_true, decide_eq_true_eq] at *
    exact ⟨by omega, undr_trans h1.2 h2.2⟩
theorem undr_lex : ∀ {a b : List Int}, a.length = b.length → undr a b = true → lexc a b ≤ 0
  | [], [], _, _ => Int.le_refl _
  | [], _ :: _, h, _ => by cases h
  | _ :: _, [], h, _ => by cases h
  | x :: xs, y :: ys, h, hu => by
    simp only [undr, Bool.and_eq_true, decide_eq_true_eq] at hu
    simp only [lexc]
    by_cases h1 : x < y
    · rw [if_pos h1]; omega
    · rw [if_neg h1, if_neg (by omega)]
      exact undr_lex (by simpa using h) hu.2
theorem undr_anti {a b : List Int} (h : a.length = b.length) (h1 : undr a b = true) (h2 : undr b a = true) : a = b :=
  lexc_eq (by have := undr_lex h h1; have := undr_lex h.symm h2; have := lexc_neg a b; omega)
/-- The order of the lists as the sort asks it. -/
abbrev lexD (p q : List Int) : Option Int := some (lexc p q)
theorem lex_ltB (a b : List Int) : ltB lexD a b = decide (lexc a b < 0) := rfl
theorem lex_ok (xs : List (List Int)) (h : xs.length < 4611686018427387904) : SortOk lexD xs where
  lt := h
  tot := fun a _ b _ => ⟨_, rfl⟩
  irrefl := fun a _ => by rw [lex_ltB, lexc_self]; rfl
  trans := fun a _ b _ c _ h1 h2 => by
    rw [lex_ltB, decide_eq_true_eq] at *
    exact lexc_trans h1 h2
  anti := fun a _ b _ h1 h2 => by
    rw [lex_ltB, decide_eq_false_iff_not] at *
    exact lexc_ge h1 h2
/-- One more into a front, if none of it is under it. -/
def frS (f : List (List Int)) (t : List Int) : List (List Int) := if f.any (fun u => undr u t) = true then f else f ++ [t]
def frL (ts : List (List Int)) : List (List Int) := ts.foldl frS []
/-- Strictly rising. -/
def Rise (f : List (List Int)) : Prop := f.Pairwise fun a b => lexc a b < 0
/-- Those of a list that no other is under. -/
def isMin (xs : List (List Int)) (t : List Int) : Prop := t ∈ xs ∧ ∀ u ∈ xs, undr u t = true → u = t
theorem frL_inv {k : Nat} : ∀ (ts f : List (List Int)) (done : List (List Int)), (∀ t ∈ done ++ ts, t.length = k) → (∀ t ∈ done, ∀ u ∈ ts, ¬ lexc u t < 0) → ts.Pairwise (fun a b => ¬ lexc b a < 0) → Rise f → (∀ t, t ∈ f ↔ isMin done t) →
    Rise (ts.foldl frS f) ∧ ∀ t, t ∈ ts.foldl frS f ↔ isMin (done ++ ts) t
  | [], f, done, _, _, _, h4, h5 => ⟨h4, by simpa using h5⟩
  | x :: ts, f, done, h1, h2, h3, h4, h5 => by
    obtain ⟨p1, p2⟩ := List.pairwise_cons.1 h3
    have hmin : ∀ t ∈ done, ∃ u, u ∈ f ∧ undr u t = true := by
      -- below each there is a least one
      intro t ht
      have key : ∀ n, ∀ t ∈ done, (done.filter fun u => decide (lexc u t < 0)).length ≤ n → ∃ u, u ∈ f ∧ undr u t = true := by
        intro n
        induction n with
        | zero =>
          intro t ht hn
          refine ⟨t, (h5 t).2 ⟨ht, fun u hu hut => ?_⟩, undr_refl t⟩
          have hlen : u.length = t.length := by rw [h1 u (by simp [hu]), h1 t (by simp [ht])]
          refine Classical.byContradiction fun hne => ?_
          have hlt : lexc u t < 0 := by
            have := undr_lex hlen hut
            rcases Int.lt_or_eq_of_le this with h | h
            · exact h
            · exact absurd (lexc_eq h) hne
          have : u ∈ done.filter fun u => decide (lexc u t < 0) := List.mem_filter.2 ⟨hu, by simpa using hlt⟩
          have := List.length_pos_of_mem this
          omega
        | succ n ih =>
          intro t ht hn
          by_cases hm : isMin done t
          · exact ⟨t, (h5 t).2 hm, undr_refl t⟩
          · obtain ⟨u, hu, hut, hne⟩ : ∃ u, u ∈ done ∧ undr u t = true ∧ u ≠ t := Classical.byContradiction fun hno => hm ⟨ht, fun u hu hut => Classical.byContradiction fun hne => hno ⟨u, hu, hut, hne⟩⟩
            have hlen : u.length = t.length := by rw [h1 u (by simp [hu]), h1 t (by simp [ht])]
            have hlt : lexc u t < 0 := by
              have := undr_lex hlen hut
              rcases Int.lt_or_eq_of_le this with h | h
              · exact h
              · exact absurd (lexc_eq h) hne
            obtain ⟨v, v1, v2⟩ := ih u hu (by
              have hsub : (done.filter fun v => decide (lexc v u < 0)).length < (done.filter fun v => decide (lexc v t < 0)).length := by
                have e : (done.filter fun v => decide (lexc v u < 0)) = (done.filter fun v => decide (lexc v t < 0)).filter fun v => decide (lexc v u < 0) := by
                  rw [List.filter_filter]
                  refine List.filter_congr fun v _ => ?_
                  by_cases q : lexc v u < 0
                  · have := lexc_trans q hlt; simp [q, this]
                  · simp [q]
                rw [e]
                exact List.length_filter_lt_length_iff_exists.2 ⟨u, List.mem_filter.2 ⟨hu, by simpa using hlt⟩, by rw [decide_eq_true_eq, lexc_self]; omega⟩
              omega)
            exact ⟨v, v1, undr_trans v2 hut⟩
      exact key _ t ht (Nat.le_refl _)
    have hold : ∀ t ∈ done, undr x t = true → x = t := fun t ht hxt => by
      have hlen : x.length = t.length := by rw [h1 x (by simp), h1 t (by simp [ht])]
      have := undr_lex hlen hxt
      have h6 := h2 t ht x (by simp)
      exact lexc_eq (by omega)
    have step : Rise (frS f x) ∧ ∀ t, t ∈ frS f x ↔ isMin (done ++ [x]) t := by
      unfold frS
      by_cases hany : f.any (fun u => undr u x) = true
      · rw [if_pos hany]
        obtain ⟨u, hu, hux⟩ := List.any_eq_true.1 hany
        have huD := ((h5 u).1 hu).1
        refine ⟨h4, fun t => (h5 t).trans ⟨fun h => ⟨by simp [h.1], fun v hv hvt => ?_⟩, fun h => ?_⟩⟩
        · rcases List.mem_append.1 hv with hv | hv
          · exact h.2 v hv hvt
          · rw [List.mem_singleton.1 hv] at hvt ⊢
            exact hold t h.1 hvt
        · rcases List.mem_append.1 h.1 with ht | ht
          · exact ⟨ht, fun v hv => h.2 v (by simp [hv])⟩
          · have ex := List.mem_singleton.1 ht
            subst ex
            have := h.2 u (by simp [huD]) hux
            subst this
            exact ⟨huD, fun v hv => h.2 v (by simp [hv])⟩
      · rw [if_neg hany]
        have hno : ∀ u ∈ f, ¬ undr u x = true := fun u hu h => hany (List.any_eq_true.2 ⟨u, hu, h⟩)
        have hnd : ∀ u ∈ done, ¬ undr u x = true := fun u hu h => by
          obtain ⟨v, v1, v2⟩ := hmin u hu
          exact hno v v1 (undr_trans v2 h)
        refine ⟨List.pairwise_append.2 ⟨h4, by simp, fun a ha b hb => ?_⟩, fun t => ?_⟩
        · rw [List.mem_singleton.1 hb]
          have haD := ((h5 a).1 ha).1
          have h6 := h2 a haD x (by simp)
          refine Classical.byContradiction fun hn => ?_
          have e := lexc_ge hn h6
          exact hno a ha (e ▸ undr_refl a)
        · rw [List.mem_append, List.mem_singleton, h5]
          constructor
          · rintro (h | rfl)
            · refine ⟨by simp [h.1], fun v hv hvt => ?_⟩
              rcases List.mem_append.1 hv with hv | hv
              · exact h.2 v hv hvt
              · rw [List.mem_singleton.1 hv] at hvt ⊢
                exact hold t h.1 hvt
            · refine ⟨by simp, fun v hv hvt => ?_⟩
              rcases List.mem_append.1 hv with hv | hv
              · exact absurd hvt (hnd v hv)
              · exact List.mem_singleton.1 hv
          · intro h
            rcases List.mem_append.1 h.1 with ht | ht
            · exact .inl ⟨ht, fun v hv => h.2 v (by simp [hv])⟩
            · exact .inr (List.mem_singleton.1 ht)
    have := frL_inv ts (frS f x) (done ++ [x]) (by simpa using h1) (fun t ht u hu => ?_) p2 step.1 step.2
    · simpa using this
    · rcases List.mem_append.1 ht with ht | ht
      · exact h2 t ht u (by simp [hu])
      · rw [List.mem_singleton.1 ht]; exact p1 u hu
/-- The front of a list of times of one length. -/
theorem front_spec {k : Nat} {xs ys : List (List Int)} (hl : ∀ t ∈ xs, t.length = k) (hs : SortsTo lexD xs ys) : Rise (frL ys) ∧ ∀ t, t ∈ frL ys ↔ isMin xs t := by
  obtain ⟨h1, h2⟩ := hs
  have hm : ∀ t, t ∈ ys ↔ t ∈ xs := fun t => h1.mem_iff
  obtain ⟨a, b⟩ := frL_inv (k := k) ys [] [] (by simpa using fun t ht => hl t ((hm t).1 ht)) (fun t ht => by cases ht) (h2.imp fun {a b} h => by
    have h : decide (lexc b a < 0) = false := h
    exact decide_eq_false_iff_not.1 h) .nil (fun t => ⟨fun h => (nomatch h), fun h => (nomatch h.1)⟩)
  refine ⟨a, fun t => (b t).trans ?_⟩
  simp only [List.nil_append, isMin, hm]
theorem rise_uniq {f g : List (List Int)} (hf : Rise f) (hg : Rise g) (h : ∀ t, t ∈ f ↔ t ∈ g) : f = g := by
  have nd : ∀ {f : List (List Int)}, Rise f → f.Nodup := fun h => h.imp fun {a b} h e => by subst e; rw [lexc_self] at h; omega
  refine sorted_uniq (r := fun a b => lexc a b ≤ 0) f g (fun a _ b _ h1 h2 => lexc_eq (by have := lexc_neg a b; omega)) ((List.perm_ext_iff_of_nodup (nd hf) (nd hg)).2 h) (hf.imp fun h => by omega) (hg.imp fun h => by omega)
/-- Below each there is one of the front. -/
theorem front_under {k : Nat} {xs f : List (List Int)} (hl : ∀ t ∈ xs, t.length = k) (hf : ∀ t, t ∈ f ↔ isMin xs t) {t : List Int} (ht : t ∈ xs) : ∃ u, u ∈ f ∧ undr u t = true := by
  have key : ∀ n, ∀ t ∈ xs, (xs.filter fun u => decide (lexc u t < 0)).length ≤ n → ∃ u, u ∈ f ∧ undr u t = true := by
    intro n
    induction n with
    | zero =>
      intro t ht hn
      refine ⟨t, (hf t).2 ⟨ht, fun u hu hut => ?_⟩, undr_refl t⟩
      refine Classical.byContradiction fun hne => ?_
      have hlt : lexc u t < 0 := by
        have := undr_lex (by rw [hl u hu, hl t ht]) hut
        rcases Int.lt_or_eq_of_le this with h | h
        · exact h
        · exact absurd (lexc_eq h) hne
      have := List.length_pos_of_mem (List.mem_filter.2 ⟨hu, by simpa using hlt⟩ : u ∈ xs.filter fun u => decide (lexc u t < 0))
      omega
    | succ n ih =>
      intro t ht hn
      by_cases hm : isMin xs t
      · exact ⟨t, (hf t).2 hm, undr_refl t⟩
      · obtain ⟨u, hu, hut, hne⟩ : ∃ u, u ∈ xs ∧ undr u t = true ∧ u ≠ t := Classical.byContradiction fun hno => hm ⟨ht, fun u hu hut => Classical.byContradiction fun hne => hno ⟨u, hu, hut, hne⟩⟩
        have hlt : lexc u t < 0 := by
          have := undr_lex (by rw [hl u hu, hl t ht]) hut
          rcases Int.lt_or_eq_of_le this with h | h
          · exact h
          · exact absurd (lexc_eq h) hne
        obtain ⟨v, v1, v2⟩ := ih u hu (by
          have hsub : (xs.filter fun v => decide (lexc v u < 0)).length < (xs.filter fun v => decide (lexc v t < 0)).length := by
            have e : (xs.filter fun v => decide (lexc v u < 0)) = (xs.filter fun v => decide (lexc v t < 0)).filter fun v => decide (lexc v u < 0) := by
              rw [List.filter_filter]
              refine List.filter_congr fun v _ => ?_
              by_cases q : lexc v u < 0
              · have := lexc_trans q hlt; simp [q, this]
              · simp [q]
            rw [e]
            exact List.length_filter_lt_length_iff_exists.2 ⟨u, List.mem_filter.2 ⟨hu, by simpa using hlt⟩, by rw [decide_eq_true_eq, lexc_self]; omega⟩
          omega)
        exact ⟨v, v1, undr_trans v2 hut⟩
  exact key _ t ht (Nat.le_refl _)
end Go.Abs
