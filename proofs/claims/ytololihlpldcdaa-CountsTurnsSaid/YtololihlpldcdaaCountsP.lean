/- Tallies: sorted lists of times with numbers, told by what stands at each time; their merge. Plain. -/
import Derived.Test.YtololihlpldcdaaTimesP
namespace Go.Abs
abbrev Cn := List Int × Int
/-- Is a number too great for a count? -/
def ov (n : Int) : Bool := decide (n < -1099511627776) || decide (1099511627776 < n)
theorem ov_false {n : Int} : ov n = false ↔ -1099511627776 ≤ n ∧ n ≤ 1099511627776 := by
  simp only [ov, Bool.or_eq_false_iff, decide_eq_false_iff_not]; omega
/-- What stands at a time. -/
def val : List Cn → List Int → Int
  | [], _ => 0
  | x :: r, t => if x.1 = t then x.2 else val r t
/-- Strictly rising times. -/
def RiseC (c : List Cn) : Prop := c.Pairwise fun a b => lexc a.1 b.1 < 0
theorem RiseC.tail {x : Cn} {c : List Cn} (h : RiseC (x :: c)) : RiseC c := (List.pairwise_cons.1 h).2
theorem val_out {c : List Cn} {t : List Int} (h : ∀ x ∈ c, x.1 ≠ t) : val c t = 0 := by
  induction c with
  | nil => rfl
  | cons x r ih => rw [val, if_neg (h x (by simp)), ih fun y hy => h y (by simp [hy])]
theorem val_below {x : Cn} {c : List Cn} {t : List Int} (h : RiseC (x :: c)) (ht : lexc t x.1 < 0) : val (x :: c) t = 0 := by
  refine val_out fun y hy e => ?_
  rcases List.mem_cons.1 hy with rfl | hy
  · rw [e, lexc_self] at ht; omega
  · have := lexc_trans ht ((List.pairwise_cons.1 h).1 y hy)
    rw [e, lexc_self] at this; omega
theorem val_head {x : Cn} {c : List Cn} (h : RiseC (x :: c)) : val c x.1 = 0 :=
  val_out fun y hy e => by have := (List.pairwise_cons.1 h).1 y hy; rw [e, lexc_self] at this; omega
theorem val_mem {c : List Cn} (h : RiseC c) {x : Cn} (hx : x ∈ c) : val c x.1 = x.2 := by
  induction c with
  | nil => cases hx
  | cons y r ih =>
    rw [val]
    rcases List.mem_cons.1 hx with rfl | hx
    · rw [if_pos rfl]
    · rw [if_neg fun e => by have := (List.pairwise_cons.1 h).1 x hx; rw [e, lexc_self] at this; omega, ih h.tail hx]
theorem val_ne {c : List Cn} {t : List Int} (h : val c t ≠ 0) : ∃ x, x ∈ c ∧ x.1 = t ∧ x.2 = val c t := by
  induction c with
  | nil => exact absurd rfl h
  | cons y r ih =>
    rw [val] at h
    by_cases e : y.1 = t
    · exact ⟨y, by simp, e, by rw [val, if_pos e]⟩
    · rw [if_neg e] at h
      obtain ⟨x, h1, h2, h3⟩ := ih h
      exact ⟨x, by simp [h1], h2, by rw [val, if_neg e]; exact h3⟩
/-- A sorted list without noughts is what stands at the times. -/
theorem val_uniq : ∀ {c d : List Cn}, RiseC c → RiseC d → (∀ x ∈ c, x.2 ≠ 0) → (∀ x ∈ d, x.2 ≠ 0) → (∀ t, val c t = val d t) → c = d
  | [], [], _, _, _, _, _ => rfl
  | [], y :: d, _, _, _, n2, h => by have := h y.1; rw [val, val, if_pos rfl] at this; exact absurd this.symm (n2 y (by simp))
  | x :: c, [], _, _, n1, _, h => by have := h x.1; exact absurd (by simpa [val] using this) (n1 x (by simp))
  | x :: c, y :: d, r1, r2, n1, n2, h => by
    have e : x.1 = y.1 := by
      refine lexc_ge (fun q => ?_) (fun q => ?_)
      · have := h x.1; rw [val_below r2 q, val, if_pos rfl] at this; exact n1 x (by simp) this
      · have := h y.1; rw [val_below r1 q, val, if_pos rfl] at this; exact n2 y (by simp) this.symm
    have e2 : x.2 = y.2 := by have := h x.1; rw [val, if_pos rfl, val, if_pos e.symm] at this; exact this
    have e3 : x = y := Prod.ext e e2
    subst e3
    rw [val_uniq r1.tail r2.tail (fun z hz => n1 z (by simp [hz])) (fun z hz => n2 z (by simp [hz])) fun t => ?_]
    have := h t
    rw [val, val] at this
    by_cases q : x.1 = t
    · subst q; rw [val_head r1, val_head r2]
    · rwa [if_neg q, if_neg q] at this
/-- One count ahead of a merge. -/
def push (x : Cn) (r : Option (List Cn)) : Option (List Cn) := if ov x.2 then none else r.map fun l => if x.2 = 0 then l else x :: l
def mg : Nat → List Cn → List Cn → Option (List Cn)
  | 0, _, _ => some []
  | _ + 1, [], [] => some []
  | n + 1, x :: c, [] => push x (mg n c [])
  | n + 1, [], y :: d => push y (mg n [] d)
  | n + 1, x :: c, y :: d => if lexc x.1 y.1 < 0 then push x (mg n c (y :: d)) else if 0 < lexc x.1 y.1 then push y (mg n (x :: c) d) else push (y.1, x.2 + y.2) (mg n c d)
/-- What a merge comes to. -/
def MgOk (c d : List Cn) (r : Option (List Cn)) : Prop :=
  match r with
  | none => ∃ t, ov (val c t + val d t) = true
  | some l => RiseC l ∧ (∀ x ∈ l, x.2 ≠ 0 ∧ ov x.2 = false ∧ ((∃ y ∈ c, y.1 = x.1) ∨ ∃ y ∈ d, y.1 = x.1)) ∧ (∀ t, val l t = val c t + val d t ∧ ov (val c t + val d t) = false)
theorem ov_zero : ov 0 = false := by decide
theorem push_ok {x : Cn} {c d c' d' : List Cn} {r : Option (List Cn)} (h : MgOk c' d' r) (b : ∀ y ∈ c', lexc x.1 y.1 < 0) (b' : ∀ y ∈ d', lexc x.1 y.1 < 0) (hv : ∀ t, val c t + val d t = if x.1 = t then x.2 else val c' t + val d' t)
    (mc : ∀ y ∈ c', y ∈ c) (md : ∀ y ∈ d', y ∈ d) (mx : (∃ y ∈ c, y.1 = x.1) ∨ ∃ y ∈ d, y.1 = x.1) : MgOk c d (push x r) := by
  have z1 : val c' x.1 = 0 := val_out fun y hy e => by have := b y hy; rw [e, lexc_self] at this; omega
  have z2 : val d' x.1 = 0 := val_out fun y hy e => by have := b' y hy; rw [e, lexc_self] at this; omega
  unfold push
  cases q : ov x.2 with
  | true => exact ⟨x.1, by rw [hv, if_pos rfl]; exact q⟩
  | false =>
    cases r with
    | none =>
      obtain ⟨t, ht⟩ := h
      refine ⟨t, ?_⟩
      rw [hv, if_neg, ht]
      intro e
      subst e
      rw [z1, z2, Int.add_zero, ov_zero] at ht
      cases ht
    | some l =>
      obtain ⟨h1, h2, h3⟩ := h
      have lx : ∀ y ∈ l, lexc x.1 y.1 < 0 := fun y hy => by
        rcases (h2 y hy).2.2 with ⟨z, hz, e⟩ | ⟨z, hz, e⟩
        · rw [← e]; exact b z hz
        · rw [← e]; exact b' z hz
      have lm : ∀ y ∈ l, y.2 ≠ 0 ∧ ov y.2 = false ∧ ((∃ z ∈ c, z.1 = y.1) ∨ ∃ z ∈ d, z.1 = y.1) := fun y hy => by
        obtain ⟨a1, a2, a3⟩ := h2 y hy
        refine ⟨a1, a2, ?_⟩
        rcases a3 with ⟨z, hz, e⟩ | ⟨z, hz, e⟩
        · exact .inl ⟨z, mc z hz, e⟩
        · exact .inr ⟨z, md z hz, e⟩
      have l0 : val l x.1 = 0 := by rw [(h3 x.1).1, z1, z2]; rfl
      by_cases e : x.2 = 0
      · simp only [Bool.false_eq_true, if_false, Option.map_some, if_pos e]
        refine ⟨h1, lm, fun t => ?_⟩
        rw [hv]
        by_cases e' : x.1 = t
        · subst e'; rw [if_pos rfl, e]; exact ⟨l0, ov_zero⟩
        · rw [if_neg e']; exact h3 t
      · simp only [Bool.false_eq_true, if_false, Option.map_some, if_neg e]
        refine ⟨List.pairwise_cons.2 ⟨lx, h1⟩, fun y hy => ?_, fun t => ?_⟩
        · rcases List.mem_cons.1 hy with rfl | hy
          · exact ⟨e, q, mx⟩
          · exact lm y hy
        · rw [hv, val]
          by_cases e' : x.1 = t
          · rw [if_pos e', if_pos e']; exact ⟨rfl, q⟩
          · rw [if_neg e', if_neg e']; exact h3 t
theorem mg_ok : ∀ (n : Nat) (c d : List Cn), c.length + d.length ≤ n → RiseC c → RiseC d → MgOk c d (mg n c d)
  | 0, c, d, h, _, _ => by
    obtain rfl := List.eq_nil_of_length_eq_zero (show c.length = 0 by omega)
    obtain rfl := List.eq_nil_of_length_eq_zero (show d.length = 0 by omega)
    exact ⟨.nil, fun x hx => (nomatch hx), fun t => ⟨rfl, ov_zero⟩⟩
  | n + 1, [], [], _, _, _ => ⟨.nil, fun x hx => (nomatch hx), fun t => ⟨rfl, ov_zero⟩⟩
  | n + 1, x :: c, [], h, r1, r2 => by
    refine push_ok (mg_ok n c [] (by simpa using h) r1.tail r2) (List.pairwise_cons.1 r1).1 (fun y hy => (nomatch hy)) (fun t => ?_) (fun y hy => by simp [hy]) (fun y hy => hy) (.inl ⟨x, by simp, rfl⟩)
    simp only [val]
    by_cases e : x.1 = t
    · rw [if_pos e, if_pos e, Int.add_zero]
    · rw [if_neg e, if_neg e]
  | n + 1, [], y :: d, h, r1, r2 => by
    refine push_ok (mg_ok n [] d (by simpa using h) r1 r2.tail) (fun y hy => (nomatch hy)) (List.pairwise_cons.1 r2).1 (fun t => ?_) (fun y hy => hy) (fun y hy => by simp [hy]) (.inr ⟨y, by simp, rfl⟩)
    simp only [val]
    by_cases e : y.1 = t
    · rw [if_pos e, if_pos e, Int.zero_add]
    · rw [if_neg e, if_neg e]
  | n + 1, x :: c, y :: d, h, r1, r2 => by
    simp only [List.length_cons] at h
    have b1 := (List.pairwise_cons.1 r1).1
    have b2 := (List.pairwise_cons.1 r2).1
    rw [mg]
    by_cases q1 : lexc x.1 y.1 < 0
    · rw [if_pos q1]
      have b3 : ∀ z ∈ y :: d, lexc x.1 z.1 < 0 := fun z hz => by
        rcases List.mem_cons.1 hz with rfl | hz
        · exact q1
        · exact lexc_trans q1 (b2 z hz)
      refine push_ok (mg_ok n c (y :: d) (by simp; omega) r1.tail r2) b1 b3 (fun t => ?_) (fun y hy => by simp [hy]) (fun y hy => hy) (.inl ⟨x, by simp, rfl⟩)
      by_cases e : x.1 = t
      · subst e; rw [if_pos rfl, val_below r2 q1, val, if_pos rfl, Int.add_zero]
      · rw [if_neg e, val, if_neg e]
    · rw [if_neg q1]
      have hn := lexc_neg x.1 y.1
      by_cases q2 : 0 < lexc x.1 y.1
      · rw [if_pos q2]
        have q3 : lexc y.1 x.1 < 0 := by omega
        have b3 : ∀ z ∈ x :: c, lexc y.1 z.1 < 0 := fun z hz => by
          rcases List.mem_cons.1 hz with rfl | hz
          · exact q3
          · exact lexc_trans q3 (b1 z hz)
        refine push_ok (mg_ok n (x :: c) d (by simp; omega) r1 r2.tail) b3 b2 (fun t => ?_) (fun y hy => hy) (fun y hy => by simp [hy]) (.inr ⟨y, by simp, rfl⟩)
        by_cases e : y.1 = t
        · subst e; rw [if_pos rfl, val_below r1 q3, val, if_pos rfl, Int.zero_add]
        · rw [if_neg e, val.eq_2 t y, if_neg e]
      · rw [if_neg q2]
        have e0 : x.1 = y.1 := lexc_eq (by omega)
        refine push_ok (mg_ok n c d (by omega) r1.tail r2.tail) (fun z hz => by rw [← e0]; exact b1 z hz) b2 (fun t => ?_) (fun y hy => by simp [hy]) (fun y hy => by simp [hy]) (.inr ⟨y, by simp, rfl⟩)
        by_cases e : y.1 = t
        · rw [if_pos e, val, if_pos (e0.trans e), val, if_pos e]
        · rw [if_neg e, val, if_neg (fun h => e (e0 ▸ h)), val, if_neg e]
end Go.Abs
