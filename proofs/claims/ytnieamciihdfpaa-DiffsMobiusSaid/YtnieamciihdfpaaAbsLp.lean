/- Loops of the abstract machine's functions: what they come to. -/
import Derived.Test.YtnieamciihdfpaaAbsFrag
namespace Go.Abs
section
variable {R S : Type}
/-- A loop that goes down in a measure, by the states that it may come to. -/
theorem loopD_run {g : S → (S → Option R) → Option R} (I : S → Prop) (m : S → Nat) (out : S → Option R)
    (hs : ∀ s, I s → ∀ kn : S → Option R, (∀ s', I s' → m s' < m s → kn s' = out s') → g s kn = out s) : ∀ N s, I s → m s < N → loopD g N s = out s
  | 0, _, _, h => by omega
  | N + 1, s, hi, hm => hs s hi _ fun s' hi' hm' => loopD_run I m out hs N s' hi' (by omega)
theorem forD_nil {α : Type} {f : α → S → (S → Option R) → Option R} {k : S → Option R} {s : S} : forD f k [] s = k s := rfl
theorem forD_cons {α : Type} {f : α → S → (S → Option R) → Option R} {k : S → Option R} {x : α} {xs : List α} {s : S} : forD f k (x :: xs) s = f x s (forD f k xs) := rfl
/-- A range without a way out: a fold. -/
theorem forD_fold {α : Type} {f : α → S → (S → Option R) → Option R} {k : S → Option R} (st : S → α → S) : (xs : List α) → (I : S → List α → Prop) →
    (∀ x r s kn, I s (x :: r) → f x s kn = kn (st s x) ∧ I (st s x) r) → ∀ s, I s xs → forD f k xs s = k (xs.foldl st s)
  | [], _, _, s, _ => rfl
  | x :: r, I, h, s, hi => by
    obtain ⟨h1, h2⟩ := h x r s (forD f k r) hi
    rw [forD_cons, h1, forD_fold st r I h _ h2]; rfl
/-- A range, by what it comes to from each place on. -/
theorem forD_run {α : Type} {f : α → S → (S → Option R) → Option R} {k : S → Option R} (out : List α → S → Option R) (I : S → List α → Prop) (h0 : ∀ s, I s [] → k s = out [] s)
    (hs : ∀ x r s kn, I s (x :: r) → (∀ s', I s' r → kn s' = out r s') → f x s kn = out (x :: r) s) : ∀ xs s, I s xs → forD f k xs s = out xs s
  | [], s, hi => h0 s hi
  | x :: r, s, hi => hs x r s _ hi fun s' hi' => forD_run out I h0 hs r s' hi'
/-- A loop, by what is known of its answer. -/
theorem loopD_post {g : S → (S → Option R) → Option R} (I : S → Prop) (m : S → Nat) (Post : Option R → Prop)
    (hs : ∀ s, I s → ∀ kn : S → Option R, (∀ s', I s' → m s' < m s → Post (kn s')) → Post (g s kn)) : ∀ N s, I s → m s < N → Post (loopD g N s)
  | 0, _, _, h => by omega
  | N + 1, s, hi, hm => hs s hi _ fun s' hi' hm' => loopD_post I m Post hs N s' hi' (by omega)
theorem forD_post {α : Type} {f : α → S → (S → Option R) → Option R} {k : S → Option R} (Post : Option R → Prop) (I : List α → S → Prop) (h0 : ∀ s, I [] s → Post (k s))
    (hs : ∀ x r s (kn : S → Option R), I (x :: r) s → (∀ s', I r s' → Post (kn s')) → Post (f x s kn)) : ∀ xs s, I xs s → Post (forD f k xs s)
  | [], s, hi => h0 s hi
  | x :: r, s, hi => hs x r s _ hi fun s' hi' => forD_post Post I h0 hs r s' hi'
theorem forD_hit {α : Type} {f : α → Unit → (Unit → Option R) → Option R} {k : Unit → Option R} {r : Option R} (bad : α → Prop) : (xs : List α) → (∀ x ∈ xs, bad x → ∀ kn, f x () kn = r) → (∀ x ∈ xs, ¬ bad x → ∀ kn, f x () kn = kn ()) → (∃ x ∈ xs, bad x) → forD f k xs () = r
  | [], _, _, h => by obtain ⟨x, hx, _⟩ := h; cases hx
  | x :: xs, h1, h2, h => by
    by_cases hb : bad x
    · exact h1 x (by simp) hb _
    · rw [forD_cons, h2 x (by simp) hb]
      refine forD_hit bad xs (fun y hy => h1 y (by simp [hy])) (fun y hy => h2 y (by simp [hy])) ?_
      obtain ⟨y, hy, hyb⟩ := h
      rcases List.mem_cons.1 hy with rfl | hy
      · exact absurd hyb hb
      · exact ⟨y, hy, hyb⟩
theorem forD_find {α : Type} {f : α → Unit → (Unit → Option R) → Option R} {k : Unit → Option R} (c : α → Prop) (r : α → Option R) : (xs : List α) → (∀ x ∈ xs, c x → ∀ kn, f x () kn = r x) → (∀ x ∈ xs, ¬ c x → ∀ kn, f x () kn = kn ()) → (∃ x ∈ xs, c x) → ∃ x ∈ xs, c x ∧ forD f k xs () = r x
  | [], _, _, h => by obtain ⟨x, hx, _⟩ := h; cases hx
  | x :: xs, h1, h2, h => by
    by_cases hb : c x
    · exact ⟨x, by simp, hb, h1 x (by simp) hb _⟩
    · obtain ⟨y, hy, hyc⟩ := h
      have : y ∈ xs := by
        rcases List.mem_cons.1 hy with rfl | hy
        · exact absurd hyc hb
        · exact hy
      obtain ⟨z, hz, h3, h4⟩ := forD_find c r xs (fun y hy => h1 y (by simp [hy])) (fun y hy => h2 y (by simp [hy])) ⟨y, this, hyc⟩
      exact ⟨z, by simp [hz], h3, by rw [forD_cons, h2 x (by simp) hb]; exact h4⟩
theorem forD_pass {α : Type} {f : α → Unit → (Unit → Option R) → Option R} {k : Unit → Option R} : (xs : List α) → (∀ x ∈ xs, ∀ kn, f x () kn = kn ()) → forD f k xs () = k ()
  | [], _ => rfl
  | x :: xs, h => by rw [forD_cons, h x (by simp)]; exact forD_pass xs fun y hy => h y (by simp [hy])
end
theorem wrap_id {k : IntKind} {n : Int} (h1 : k.min ≤ n) (h2 : n ≤ k.max) : k.wrap n = n := by
  cases k <;> simp only [IntKind.min, IntKind.max, IntKind.wrap, IntKind.bits, IntKind.signed] at * <;> first | omega | (simp at *; omega)
end Go.Abs
namespace Go.Abs
/-- Is a number in a set? -/
def bt (w : Int) (i : Nat) : Bool := w.toNat.testBit i
abbrev W32 (w : Int) : Prop := 0 ≤ w ∧ w ≤ 4294967295
theorem wrap_u32 (n : Int) : IntKind.u32.wrap n = n % 4294967296 := by
  rw [IntKind.wrap_u32]
theorem W32.wrap (n : Int) : W32 (IntKind.u32.wrap n) := by rw [wrap_u32]; unfold W32; omega
theorem W32.iand {a b : Int} : W32 (iand .u32 a b) := W32.wrap _
theorem W32.ior {a b : Int} : W32 (ior .u32 a b) := W32.wrap _
theorem W32.ixor {a b : Int} : W32 (ixor .u32 a b) := W32.wrap _
theorem W32.iandNot {a b : Int} : W32 (iandNot .u32 a b) := W32.wrap _
theorem W32.ishl {a b : Int} : W32 (ishl .u32 a b) := W32.wrap _
theorem bt_bv (x : BitVec 32) (i : Nat) : bt (IntKind.u32.wrap (x.toNat : Int)) i = x.getLsbD i := by
  have : IntKind.u32.wrap (x.toNat : Int) = (x.toNat : Int) := by rw [wrap_u32]; have := x.isLt; omega
  rw [this]; rfl
theorem lsb_ofInt {a : Int} (ha : W32 a) (i : Nat) : (BitVec.ofInt 32 a).getLsbD i = bt a i := by
  have e : a = (a.toNat : Int) := by have := ha.1; omega
  have h2 : a.toNat < 2 ^ 32 := by have := ha.1; have := ha.2; omega
  unfold bt
  rw [e, BitVec.ofInt_natCast, BitVec.getLsbD_ofNat]
  simp only [Int.toNat_natCast]
  by_cases hi : i < 32
  · simp [hi]
  · rw [Nat.testBit_lt_two_pow (Nat.lt_of_lt_of_le h2 (Nat.pow_le_pow_right (by omega) (by omega)))]; simp
theorem bt_iand {a b : Int} (ha : W32 a) (hb : W32 b) (i : Nat) : bt (iand .u32 a b) i = (bt a i && bt b i) := by
  show bt (IntKind.u32.wrap ((BitVec.ofInt 32 a &&& BitVec.ofInt 32 b).toNat : Int)) i = _
  rw [bt_bv, BitVec.getLsbD_and, lsb_ofInt ha, lsb_ofInt hb]
theorem bt_ior {a b : Int} (ha : W32 a) (hb : W32 b) (i : Nat) : bt (ior .u32 a b) i = (bt a i || bt b i) := by
  show bt (IntKind.u32.wrap ((BitVec.ofInt 32 a ||| BitVec.ofInt 32 b).toNat : Int)) i = _
  rw [bt_bv, BitVec.getLsbD_or, lsb_ofInt ha, lsb_ofInt hb]
theorem bt_ixor {a b : Int} (ha : W32 a) (hb : W32 b) (i : Nat) : bt (ixor .u32 a b) i = (bt a i ^^ bt b i) := by
  show bt (IntKind.u32.wrap ((BitVec.ofInt 32 a ^^^ BitVec.ofInt 32 b).toNat : Int)) i = _
  rw [bt_bv, BitVec.getLsbD_xor, lsb_ofInt ha, lsb_ofInt hb]
theorem bt_lt {a : Int} (ha : W32 a) {i : Nat} (h : bt a i = true) : i < 32 := by
  rcases Nat.lt_or_ge i 32 with hl | hg
  · exact hl
  · have h2 : a.toNat < 2 ^ 32 := by have := ha.1; have := ha.2; omega
    unfold bt at h
    rw [Nat.testBit_lt_two_pow (Nat.lt_of_lt_of_le h2 (Nat.pow_le_pow_right (by omega) hg))] at h
    cases h
theorem bt_iandNot {a b : Int} (ha : W32 a) (hb : W32 b) (i : Nat) : bt (iandNot .u32 a b) i = (bt a i && !bt b i) := by
  show bt (IntKind.u32.wrap ((BitVec.ofInt 32 a &&& ~~~ BitVec.ofInt 32 b).toNat : Int)) i = _
  rw [bt_bv, BitVec.getLsbD_and, BitVec.getLsbD_not, lsb_ofInt ha, lsb_ofInt hb]
  cases h : bt a i with
  | false => simp
  | true => simp [bt_lt ha h]
theorem bt_zero (i : Nat) : bt 0 i = false := by simp [bt]
theorem bt_ext {a b : Int} (ha : W32 a) (hb : W32 b) (h : ∀ i, i < 32 → bt a i = bt b i) : a = b := by
  have : a.toNat = b.toNat := Nat.eq_of_testBit_eq fun i => by
    by_cases hi : i < 32
    · exact h i hi
    · have h1 : bt a i = false := Bool.eq_false_iff.2 fun e => hi (bt_lt ha e)
      have h2 : bt b i = false := Bool.eq_false_iff.2 fun e => hi (bt_lt hb e)
      exact h1.trans h2.symm
  have := ha.1; have := hb.1; omega
theorem W32.zero : W32 0 := by unfold W32; omega
theorem ne_zero_iff {a : Int} (ha : W32 a) : (a != 0) = true ↔ ∃ i, i < 32 ∧ bt a i = true := by
  constructor
  · intro h
    apply Classical.byContradiction
    intro hn
    have : a = 0 := bt_ext ha W32.zero fun i hi => by
      rw [bt_zero]
      exact Bool.eq_false_iff.2 fun e => hn ⟨i, hi, e⟩
    simp [this] at h
  · rintro ⟨i, _, h⟩
    simp only [bne_iff_ne, ne_eq]
    rintro rfl
    rw [bt_zero] at h; cases h
theorem eq_zero_iff {a : Int} (ha : W32 a) : a = 0 ↔ ∀ i, bt a i = false := by
  constructor
  · rintro rfl i; exact bt_zero i
  · intro h; exact bt_ext ha W32.zero fun i _ => by rw [h, bt_zero]
theorem bt_ishl {i : Int} (_hi : 0 ≤ i) (j : Nat) : bt (ishl .u32 1 i) j = (decide (j = i.toNat) && decide (j < 32)) := by
  unfold ishl
  rw [Int.one_mul, wrap_u32]
  have hb : IntKind.u32.bits = 32 := rfl
  rw [hb]
  by_cases h : i.toNat < 32
  · rw [Nat.min_eq_left (by omega)]
    have e : ((2 : Int) ^ i.toNat) % 4294967296 = ((2 ^ i.toNat : Nat) : Int) := by
      have h1 : (2 : Nat) ^ i.toNat < 2 ^ 32 := Nat.pow_lt_pow_right (by omega) h
      have h2 : ((2 : Int) ^ i.toNat) = ((2 ^ i.toNat : Nat) : Int) := by simp
      have h3 : (2 : Nat) ^ 32 = 4294967296 := by decide
      rw [h2, Int.emod_eq_of_lt (Int.natCast_nonneg _) (by omega)]
    rw [e]
    unfold bt
    rw [Int.toNat_natCast, Nat.testBit_two_pow]
    by_cases hj : i.toNat = j
    · subst hj; simp [h]
    · simp [hj, Ne.symm hj]
  · rw [Nat.min_eq_right (by omega)]
    have : ((2 : Int) ^ 32) % 4294967296 = 0 := by decide
    rw [this, bt_zero]
    by_cases hj : j = i.toNat
    · subst hj; simp [h]
    · simp [hj]
theorem W32.ishr {a i : Int} (ha : W32 a) : W32 (Abs.ishr .u32 a i) := by
  unfold Abs.ishr
  have h1 : (0 : Int) < 2 ^ (min i.toNat IntKind.u32.bits) := Int.pow_pos (by omega)
  rw [Int.fdiv_eq_ediv_of_nonneg _ (by omega)]
  refine ⟨Int.ediv_nonneg ha.1 (by omega), ?_⟩
  exact Int.le_trans (Int.ediv_le_self _ ha.1) ha.2
theorem bt_ishr {a i : Int} (ha : W32 a) (j : Nat) : bt (ishr .u32 a i) j = bt a (i.toNat + j) := by
  unfold ishr
  have hb : IntKind.u32.bits = 32 := rfl
  rw [hb]
  have h1 : (0 : Int) < 2 ^ (min i.toNat 32) := Int.pow_pos (by omega)
  rw [Int.fdiv_eq_ediv_of_nonneg _ (by omega)]
  have e : (a / 2 ^ (min i.toNat 32)).toNat = a.toNat >>> (min i.toNat 32) := by
    obtain ⟨n, rfl⟩ : ∃ n : Nat, a = (n : Int) := ⟨a.toNat, by have := ha.1; omega⟩
    have h3 : ((2 : Int) ^ min i.toNat 32) = ((2 ^ min i.toNat 32 : Nat) : Int) := by simp
    rw [Nat.shiftRight_eq_div_pow, Int.toNat_natCast, h3]
    exact Int.toNat_natCast _
  unfold bt
  rw [e, Nat.testBit_shiftRight]
  by_cases h : i.toNat ≤ 32
  · rw [Nat.min_eq_left h]
  · rw [Nat.min_eq_right (by omega)]
    have h1 : bt a (32 + j) = false := Bool.eq_false_iff.2 fun e => by have := bt_lt ha e; omega
    have h2 : bt a (i.toNat + j) = false := Bool.eq_false_iff.2 fun e => by have := bt_lt ha e; omega
    exact h1.trans h2.symm
theorem has_bit {a i : Int} (ha : W32 a) : (iand .u32 (ishr .u32 a i) 1 == 1) = bt a i.toNat := by
  have h1 : W32 (1 : Int) := by unfold W32; omega
  have hb : ∀ j, bt (1 : Int) j = decide (j = 0) := fun j => by
    unfold bt
    rw [show (1 : Int).toNat = 2 ^ 0 from rfl, Nat.testBit_two_pow]
    by_cases h : 0 = j
    · subst h; rfl
    · simp [h, Ne.symm h]
  have hs := W32.ishr (i := i) ha
  cases h : bt a i.toNat with
  | true =>
    have : iand .u32 (ishr .u32 a i) 1 = 1 := bt_ext W32.iand h1 fun j _ => by
      rw [bt_iand hs h1, bt_ishr ha, hb]
      cases j with
      | zero => simpa using h
      | succ j => simp
    simp [this]
  | false =>
    have : iand .u32 (ishr .u32 a i) 1 = 0 := bt_ext W32.iand W32.zero fun j _ => by
      rw [bt_iand hs h1, bt_ishr ha, hb, bt_zero]
      cases j with
      | zero => simpa using h
      | succ j => simp
    simp [this]
/-- The first n numbers. -/
theorem bt_all {n : Int} (h0 : 0 ≤ n) (h1 : n < 32) (j : Nat) : bt (IntKind.u32.wrap (ishl .u32 1 n - 1)) j = decide (j < n.toNat) := by
  have e : IntKind.u32.wrap (ishl .u32 1 n - 1) = ((2 ^ n.toNat - 1 : Nat) : Int) := by
    unfold ishl
    have hb : IntKind.u32.bits = 32 := rfl
    rw [hb, Int.one_mul, wrap_u32, wrap_u32, Nat.min_eq_left (by omega)]
    have h1 : (2 : Nat) ^ n.toNat < 2 ^ 32 := Nat.pow_lt_pow_right (by omega) (by omega)
    have h3 : 0 < (2 : Nat) ^ n.toNat := Nat.pow_pos (by omega)
    have h2 : ((2 : Int) ^ n.toNat) = ((2 ^ n.toNat : Nat) : Int) := by simp
    have h4 : (2 : Nat) ^ 32 = 4294967296 := by decide
    rw [h2, Int.emod_eq_of_lt (a := ((2 ^ n.toNat : Nat) : Int)) (by omega) (by omega), Int.emod_eq_of_lt (by omega) (by omega)]
    omega
  rw [e]
  unfold bt
  rw [Int.toNat_natCast, Nat.testBit_two_pow_sub_one]
/-- The numbers of a set, rising. -/
def els (w : Int) : List Nat := (List.range 32).filter (bt w)
theorem mem_els {w : Int} (hw : W32 w) {i : Nat} : i ∈ els w ↔ bt w i = true := by
  unfold els
  rw [List.mem_filter, List.mem_range]
  exact ⟨fun h => h.2, fun h => ⟨bt_lt hw h, h⟩⟩
theorem mem_els' {w : Int} {i : Nat} : i ∈ els w ↔ i < 32 ∧ bt w i = true := by
  unfold els
  rw [List.mem_filter, List.mem_range]
theorem els_zero : els 0 = [] := by
  unfold els
  rw [List.filter_eq_nil_iff]
  intro i _
  simp [bt_zero]
end Go.Abs
namespace Go.Abs
abbrev WL (xs : List Int) : Prop := ∀ x ∈ xs, W32 x
theorem nth_lt {α : Type} {z : α} {xs : List α} {i : Nat} (h : i < xs.length) : nth z xs i = xs[i] := by
  unfold nth; rw [List.getD_eq_getElem?_getD, List.getElem?_eq_getElem h]; rfl
theorem nth_mem {α : Type} {z : α} {xs : List α} {i : Nat} (h : i < xs.length) : nth z xs i ∈ xs := by
  rw [nth_lt h]; exact List.getElem_mem h
theorem WL.nth {xs : List Int} (h : WL xs) (i : Nat) : W32 (nth 0 xs i) := by
  by_cases hi : i < xs.length
  · exact h _ (nth_mem hi)
  · unfold Abs.nth; rw [List.getD_eq_getElem?_getD, List.getElem?_eq_none (by omega)]; exact W32.zero
theorem nth_set {α : Type} {z : α} {xs : List α} {i : Nat} {v : α} (h : i < xs.length) (j : Nat) : nth z (xs.set i v) j = if i = j then v else nth z xs j := by
  unfold nth
  rw [List.getD_eq_getElem?_getD, List.getD_eq_getElem?_getD, List.getElem?_set]
  by_cases hij : i = j
  · subst hij; simp [h]
  · simp [hij]
theorem ext_nth {xs ys : List Int} (hl : xs.length = ys.length) (h : ∀ i, i < xs.length → nth 0 xs i = nth 0 ys i) : xs = ys := by
  refine List.ext_getElem hl fun i h1 h2 => ?_
  have := h i h1
  rwa [nth_lt h1, nth_lt h2] at this
/-- A word with one bit. -/
def one (i : Nat) : Int := ishl .u32 1 (i : Int)
theorem W32.one (i : Nat) : W32 (one i) := W32.ishl
theorem bt_one {i : Nat} (hi : i < 32) (j : Nat) : bt (one i) j = decide (j = i) := by
  unfold one
  rw [bt_ishl (by omega)]
  by_cases h : j = i
  · subst h; simp [hi]
  · simp [h]
theorem one_eq {i : Int} (hi : 0 ≤ i) : ishl .u32 1 i = one i.toNat := by
  unfold one; congr 1; omega
/-- The word of the first n numbers. -/
def allw (n : Int) : Int := IntKind.u32.wrap (ishl .u32 1 n - 1)
theorem W32.allw (n : Int) : W32 (allw n) := W32.wrap _
theorem bt_allw {n : Int} (h0 : 0 ≤ n) (h1 : n < 32) (j : Nat) : bt (allw n) j = decide (j < n.toNat) := bt_all h0 h1 j
/-- No bit beyond the first n. -/
theorem in_all {w n : Int} (hw : W32 w) (h0 : 0 ≤ n) (h1 : n < 32) : (iandNot .u32 w (allw n) != 0) = false ↔ ∀ j, bt w j = true → j < n.toNat := by
  rw [← Bool.not_eq_true, ne_zero_iff W32.iandNot]
  constructor
  · intro h j hj
    apply Classical.byContradiction
    intro hn
    refine h ⟨j, bt_lt hw hj, ?_⟩
    rw [bt_iandNot hw (W32.allw n), hj, bt_allw h0 h1]
    simp; omega
  · rintro h ⟨j, _, hj⟩
    rw [bt_iandNot hw (W32.allw n), bt_allw h0 h1] at hj
    simp only [Bool.and_eq_true, Bool.not_eq_true', decide_eq_false_iff_not] at hj
    have := h j hj.1
    omega
/-- The word of the numbers below n with a property. -/
def mkw (n : Nat) (p : Nat → Bool) : Int := (List.range n).foldl (fun w i => bif p i then ior .u32 w (one i) else w) 0
theorem mkw_succ (n : Nat) (p : Nat → Bool) : mkw (n + 1) p = bif p n then ior .u32 (mkw n p) (one n) else mkw n p := by
  unfold mkw; rw [List.range_succ, List.foldl_append]; rfl
theorem W32.mkw (n : Nat) (p : Nat → Bool) : W32 (mkw n p) := by
  induction n with
  | zero => exact W32.zero
  | succ n ih =>
    rw [mkw_succ]
    cases p n with
    | true => exact W32.ior
    | false => exact ih
theorem bt_mkw {n : Nat} (hn : n ≤ 32) (p : Nat → Bool) (i : Nat) : bt (mkw n p) i = (decide (i < n) && p i) := by
  induction n with
  | zero => simp [mkw, bt_zero]
  | succ n ih =>
    rw [mkw_succ]
    cases hp : p n with
    | true =>
      rw [cond_true, bt_ior (W32.mkw n p) (W32.one n), ih (by omega), bt_one (by omega)]
      by_cases h : i = n
      · subst h; simp [hp]
      · have : (i < n + 1) ↔ i < n := by omega
        simp [h, this]
    | false =>
      rw [cond_false, ih (by omega)]
      by_cases h : i = n
      · subst h; simp [hp]
      · have : (i < n + 1) ↔ i < n := by omega
        simp [this]
theorem w64 {n : Int} (h1 : -9223372036854775808 ≤ n) (h2 : n ≤ 9223372036854775807) : IntKind.i64.wrap n = n := by rw [IntKind.wrap_i64]; omega
theorem nodup_els (w : Int) : (els w).Nodup := List.Pairwise.filter _ List.nodup_range
/-- Containment by way of or, of and. -/
theorem or_eq_iff {a b : Int} (ha : W32 a) (hb : W32 b) : (ior .u32 a b == b) = true ↔ ∀ i, bt a i = true → bt b i = true := by
  rw [beq_iff_eq]
  constructor
  · intro h i hi
    rw [← h, bt_ior ha hb, hi]; rfl
  · intro h
    refine bt_ext W32.ior hb fun i _ => ?_
    rw [bt_ior ha hb]
    cases e : bt a i with
    | false => rfl
    | true => rw [h i e]; rfl
theorem or_eq_left {a b : Int} (ha : W32 a) (hb : W32 b) : (ior .u32 a b == a) = true ↔ ∀ i, bt b i = true → bt a i = true := by
  rw [beq_iff_eq]
  constructor
  · intro h i hi
    rw [← h, bt_ior ha hb, hi]; simp
  · intro h
    refine bt_ext W32.ior ha fun i _ => ?_
    rw [bt_ior ha hb]
    cases e : bt b i with
    | false => simp
    | true => rw [h i e]; rfl
/-- A loop that ends with one and the same answer. -/
theorem loopD_const {R S : Type} {g : S → (S → Option R) → Option R} (I : S → Prop) (m : S → Nat) (r : Option R)
    (hs : ∀ s, I s → ∀ kn : S → Option R, (∀ s', I s' → m s' < m s → kn s' = r) → g s kn = r) (N : Nat) (s : S) (hi : I s) (hm : m s < N) : loopD g N s = r :=
  loopD_run I m (fun _ => r) hs N s hi hm
end Go.Abs
