/- Words, sets and lists of words: what the functions' small parts come to. -/
import Derived.Test.YtdbjfdjpmoackaaDoorAbsBits
namespace Go.Abs
abbrev WL (xs : List Int) : Prop := ∀ x ∈ xs, W32 x
theorem nth_lt {α : Type} {z : α} {xs : List α} {i : Nat} (h : i < xs.length) : nth z xs i = xs[i] := by
  unfold nth; rw [List.getD_eq_getElem?_getD, List.getElem?_eq_getElem h]; rfl
theorem nth_mem {α : Type} {z : α} {xs : List α} {i : Nat} (h : i < xs.length) : nth z xs i ∈ xs := by
  rw [nth_lt h]; exact List.getElem_mem h
theorem WL.nth {xs : List Int} (h : WL xs) (i : Nat) : W32 (nth 0 xs i) := by
  by_cases hi : i < xs.length
  · exact h _ (nth_mem hi)
  · unfold Abs.nth; rw [List.getD_eq_getElem?_getD, List.getElem?_eq_none (by omega)]; exact W32.zero
theorem nth_set {α : Type} {z : α} {xs : List α} {i : Nat} {v : α} (h : i < xs.length) (j : Nat) : nth z (xs.set i v) j = if i = j then v else nth z xs j := by
  unfold nth
  rw [List.getD_eq_getElem?_getD, List.getD_eq_getElem?_getD, List.getElem?_set]
  by_cases hij : i = j
  · subst hij; simp [h]
  · simp [hij]
theorem ext_nth {xs ys : List Int} (hl : xs.length = ys.length) (h : ∀ i, i < xs.length → nth 0 xs i = nth 0 ys i) : xs = ys := by
  refine List.ext_getElem hl fun i h1 h2 => ?_
  have := h i h1
  rwa [nth_lt h1, nth_lt h2] at this
/-- A word with one bit. -/
def one (i : Nat) : Int := ishl .u32 1 (i : Int)
theorem W32.one (i : Nat) : W32 (one i) := W32.ishl
theorem bt_one {i : Nat} (hi : i < 32) (j : Nat) : bt (one i) j = decide (j = i) := by
  unfold one
  rw [bt_ishl (by omega)]
  by_cases h : j = i
  · subst h; simp [hi]
  · simp [h]
theorem one_eq {i : Int} (hi : 0 ≤ i) : ishl .u32 1 i = one i.toNat := by
  unfold one; congr 1; omega
/-- The word of the first n numbers. -/
def allw (n : Int) : Int := IntKind.u32.wrap (ishl .u32 1 n - 1)
theorem W32.allw (n : Int) : W32 (allw n) := W32.wrap _
theorem bt_allw {n : Int} (h0 : 0 ≤ n) (h1 : n < 32) (j : Nat) : bt (allw n) j = decide (j < n.toNat) := bt_all h0 h1 j
/-- No bit beyond the first n. -/
theorem in_all {w n : Int} (hw : W32 w) (h0 : 0 ≤ n) (h1 : n < 32) : (iandNot .u32 w (allw n) != 0) = false ↔ ∀ j, bt w j = true → j < n.toNat := by
  rw [← Bool.not_eq_true, ne_zero_iff W32.iandNot]
  constructor
  · intro h j hj
    apply Classical.byContradiction
    intro hn
    refine h ⟨j, bt_lt hw hj, ?_⟩
    rw [bt_iandNot hw (W32.allw n), hj, bt_allw h0 h1]
    simp; omega
  · rintro h ⟨j, _, hj⟩
    rw [bt_iandNot hw (W32.allw n), bt_allw h0 h1] at hj
    simp only [Bool.and_eq_true, Bool.not_eq_true', decide_eq_false_iff_not] at hj
    have := h j hj.1
    omega
/-- The word of the numbers below n with a property. -/
def mkw (n : Nat) (p : Nat → Bool) : Int := (List.range n).foldl (fun w i => bif p i then ior .u32 w (one i) else w) 0
theorem mkw_succ (n : Nat) (p : Nat → Bool) : mkw (n + 1) p = bif p n then ior .u32 (mkw n p) (one n) else mkw n p := by
  unfold mkw; rw [List.range_succ, List.foldl_append]; rfl
theorem W32.mkw (n : Nat) (p : Nat → Bool) : W32 (mkw n p) := by
  induction n with
  | zero => exact W32.zero
  | succ n ih =>
    rw [mkw_succ]
    cases p n with
    | true => exact W32.ior
    | false => exact ih
theorem bt_mkw {n : Nat} (hn : n ≤ 32) (p : Nat → Bool) (i : Nat) : bt (mkw n p) i = (decide (i < n) && p i) := by
  induction n with
  | zero => simp [mkw, bt_zero]
  | succ n ih =>
    rw [mkw_succ]
    cases hp : p n with
    | true =>
      rw [cond_true, bt_ior (W32.mkw n p) (W32.one n), ih (by omega), bt_one (by omega)]
      by_cases h : i = n
      · subst h; simp [hp]
      · have : (i < n + 1) ↔ i < n := by omega
        simp [h, this]
    | false =>
      rw [cond_false, ih (by omega)]
      by_cases h : i = n
      · subst h; simp [hp]
      · have : (i < n + 1) ↔ i < n := by omega
        simp [this]
theorem w64 {n : Int} (h1 : -9223372036854775808 ≤ n) (h2 : n ≤ 9223372036854775807) : IntKind.i64.wrap n = n := by rw [IntKind.wrap_i64]; omega
theorem nodup_els (w : Int) : (els w).Nodup := List.Pairwise.filter _ List.nodup_range
/-- Containment by way of or, of and. -/
theorem or_eq_iff {a b : Int} (ha : W32 a) (hb : W32 b) : (ior .u32 a b == b) = true ↔ ∀ i, bt a i = true → bt b i = true := by
  rw [beq_iff_eq]
  constructor
  · intro h i hi
    rw [← h, bt_ior ha hb, hi]; rfl
  · intro h
    refine bt_ext W32.ior hb fun i _ => ?_
    rw [bt_ior ha hb]
    cases e : bt a i with
    | false => rfl
    | true => rw [h i e]; rfl
theorem or_eq_left {a b : Int} (ha : W32 a) (hb : W32 b) : (ior .u32 a b == a) = true ↔ ∀ i, bt b i = true → bt a i = true := by
  rw [beq_iff_eq]
  constructor
  · intro h i hi
    rw [← h, bt_ior ha hb, hi]; simp
  · intro h
    refine bt_ext W32.ior ha fun i _ => ?_
    rw [bt_ior ha hb]
    cases e : bt b i with
    | false => simp
    | true => rw [h i e]; rfl
/-- A loop that ends with one and the same answer. -/
theorem loopD_const {R S : Type} {g : S → (S → Option R) → Option R} (I : S → Prop) (m : S → Nat) (r : Option R)
    (hs : ∀ s, I s → ∀ kn : S → Option R, (∀ s', I s' → m s' < m s → kn s' = r) → g s kn = r) (N : Nat) (s : S) (hi : I s) (hm : m s < N) : loopD g N s = r :=
  loopD_run I m (fun _ => r) hs N s hi hm
end Go.Abs
