/- Sums and tables of numbers modulo 2^64: plain lemmas. -/
import Derived.Test.YtagghgmpdjoknaaDoorAbsLat
import Derived.Test.YtagghgmpdjoknaaDoorAbsOpn
namespace Go.Abs
/-- A number modulo 2^64. -/
abbrev Z := BitVec 64
def ph (x : Int) : Z := BitVec.ofInt 64 x
def I64 (x : Int) : Prop := -9223372036854775808 ≤ x ∧ x ≤ 9223372036854775807
theorem wrap_i64' (x : Int) : IntKind.i64.wrap x = (x + 9223372036854775808) % 18446744073709551616 - 9223372036854775808 := IntKind.wrap_i64 x
theorem I64.wrap (x : Int) : I64 (IntKind.i64.wrap x) := by rw [wrap_i64']; unfold I64; omega
theorem I64.zero : I64 0 := by unfold I64; omega
theorem I64.one : I64 1 := by unfold I64; omega
theorem ph_eq {x y : Int} : ph x = ph y ↔ x % 18446744073709551616 = y % 18446744073709551616 := by
  unfold ph
  constructor
  · intro h
    have := congrArg BitVec.toNat h
    rw [BitVec.toNat_ofInt, BitVec.toNat_ofInt] at this
    omega
  · intro h
    apply BitVec.eq_of_toNat_eq
    rw [BitVec.toNat_ofInt, BitVec.toNat_ofInt]
    omega
theorem ph_wrap (x : Int) : ph (IntKind.i64.wrap x) = ph x := by rw [ph_eq, wrap_i64']; omega
theorem ph_inj {x y : Int} (hx : I64 x) (hy : I64 y) (h : ph x = ph y) : x = y := by rw [ph_eq] at h; unfold I64 at hx hy; omega
theorem ph_add (x y : Int) : ph (x + y) = ph x + ph y := BitVec.ofInt_add x y
theorem ph_mul (x y : Int) : ph (x * y) = ph x * ph y := BitVec.ofInt_mul x y
theorem ph_neg (x : Int) : ph (-x) = - ph x := BitVec.ofInt_neg
theorem ph_sub (x y : Int) : ph (x - y) = ph x - ph y := by rw [Int.sub_eq_add_neg, ph_add, ph_neg, BitVec.sub_eq_add_neg]
theorem ph_zero : ph 0 = 0 := rfl
theorem ph_one : ph 1 = 1 := rfl
theorem ph_m1 : ph (-1) = -1 := rfl
/-- The sum of the first n. -/
def Sg : Nat → (Nat → Z) → Z
  | 0, _ => 0
  | n + 1, f => Sg n f + f n
theorem Sg_congr {n : Nat} {f g : Nat → Z} (h : ∀ i, i < n → f i = g i) : Sg n f = Sg n g := by
  induction n with
  | zero => rfl
  | succ n ih => rw [Sg, Sg, ih fun i hi => h i (by omega), h n (by omega)]
theorem Sg_zero {n : Nat} {f : Nat → Z} (h : ∀ i, i < n → f i = 0) : Sg n f = 0 := by
  induction n with
  | zero => rfl
  | succ n ih => rw [Sg, ih fun i hi => h i (by omega), h n (by omega)]; grind
theorem Sg_add (n : Nat) (f g : Nat → Z) : Sg n (fun i => f i + g i) = Sg n f + Sg n g := by
  induction n with
  | zero => simp only [Sg]; grind
  | succ n ih => simp only [Sg, ih]; grind
theorem Sg_neg (n : Nat) (f : Nat → Z) : Sg n (fun i => - f i) = - Sg n f := by
  induction n with
  | zero => simp only [Sg]; grind
  | succ n ih => simp only [Sg, ih]; grind
theorem Sg_sub (n : Nat) (f g : Nat → Z) : Sg n (fun i => f i - g i) = Sg n f - Sg n g := by
  induction n with
  | zero => simp only [Sg]; grind
  | succ n ih => simp only [Sg, ih]; grind
theorem Sg_ml (n : Nat) (c : Z) (f : Nat → Z) : Sg n (fun i => c * f i) = c * Sg n f := by
  induction n with
  | zero => simp only [Sg]; grind
  | succ n ih => simp only [Sg, ih]; grind
theorem Sg_mr (n : Nat) (c : Z) (f : Nat → Z) : Sg n (fun i => f i * c) = Sg n f * c := by
  induction n with
  | zero => simp only [Sg]; grind
  | succ n ih => simp only [Sg, ih]; grind
theorem Sg_swap (n m : Nat) (f : Nat → Nat → Z) : Sg n (fun i => Sg m (f i)) = Sg m (fun j => Sg n fun i => f i j) := by
  induction n with
  | zero => simp only [Sg]; exact (Sg_zero fun _ _ => rfl).symm
  | succ n ih => simp only [Sg, ih, Sg_add]
/-- One of them alone. -/
theorem Sg_one {n a : Nat} (ha : a < n) {f : Nat → Z} (h : ∀ i, i < n → i ≠ a → f i = 0) : Sg n f = f a := by
  induction n with
  | zero => omega
  | succ n ih =>
    rw [Sg]
    by_cases e : a = n
    · subst e
      rw [Sg_zero fun i hi => h i (by omega) (by omega)]; grind
    · rw [ih (by omega) fun i hi => h i (by omega), h n (by omega) (by omega)]; grind
theorem Sg_delta {n a : Nat} (ha : a < n) (f : Nat → Z) : Sg n (fun i => if i = a then f i else 0) = f a := by
  rw [Sg_one ha fun i _ hne => if_neg hne, if_pos rfl]
/-- One of them set apart. -/
theorem Sg_apart {n a : Nat} (ha : a < n) (f : Nat → Z) : Sg n f = f a + Sg n (fun i => if i = a then 0 else f i) := by
  have : Sg n f = Sg n (fun i => (if i = a then f i else 0) + (if i = a then 0 else f i)) := Sg_congr fun i _ => by
    by_cases e : i = a
    · rw [if_pos e, if_pos e]; grind
    · rw [if_neg e, if_neg e]; grind
  rw [this, Sg_add, Sg_delta ha]
/-- Beyond a point there is nothing. -/
theorem Sg_more {m n : Nat} (h : m ≤ n) {f : Nat → Z} (hz : ∀ i, m ≤ i → i < n → f i = 0) : Sg n f = Sg m f := by
  induction n with
  | zero => have : m = 0 := by omega
            subst this; rfl
  | succ n ih =>
    by_cases e : m = n + 1
    · subst e; rfl
    · rw [Sg, ih (by omega) fun i h1 h2 => hz i h1 (by omega), hz n (by omega) (by omega)]; grind
/-- The sum over a list. -/
def Ls : List Nat → (Nat → Z) → Z
  | [], _ => 0
  | x :: xs, f => f x + Ls xs f
theorem Ls_append (xs ys : List Nat) (f : Nat → Z) : Ls (xs ++ ys) f = Ls xs f + Ls ys f := by
  induction xs with
  | nil => simp only [List.nil_append, Ls]; grind
  | cons x xs ih => simp only [List.cons_append, Ls, ih]; grind
theorem Ls_filter (n : Nat) (p : Nat → Bool) (f : Nat → Z) : Ls ((List.range n).filter p) f = Sg n fun i => if p i = true then f i else 0 := by
  induction n with
  | zero => rfl
  | succ n ih =>
    rw [List.range_succ, List.filter_append, Ls_append, ih, Sg]
    cases hp : p n with
    | true => simp only [List.filter_cons, hp, if_true, List.filter_nil, Ls]; grind
    | false => simp only [List.filter_cons, hp, List.filter_nil, Ls, Bool.false_eq_true, if_false]
/-! ### Tables -/
abbrev Tb := Nat → Nat → Z
def mulT (m : Nat) (f g : Tb) : Tb := fun a b => Sg m fun k => f a k * g k b
def dl : Tb := fun a b => if a = b then 1 else 0
def EqT (m : Nat) (f g : Tb) : Prop := ∀ a b, a < m → b < m → f a b = g a b
theorem mulT_congr {m : Nat} {f f' g g' : Tb} (h1 : EqT m f f') (h2 : EqT m g g') : EqT m (mulT m f g) (mulT m f' g') := fun a b ha hb => Sg_congr fun k hk => by rw [h1 a k ha hk, h2 k b hk hb]
theorem mulT_assoc (m : Nat) (f g h : Tb) (a b : Nat) : mulT m (mulT m f g) h a b = mulT m f (mulT m g h) a b := by
  unfold mulT
  have e1 : (Sg m fun k => (Sg m fun j => f a j * g j k) * h k b) = Sg m fun k => Sg m fun j => f a j * g j k * h k b := Sg_congr fun k _ => (Sg_mr m _ _).symm
  have e2 : (Sg m fun k => f a k * Sg m fun j => g k j * h j b) = Sg m fun k => Sg m fun j => f a k * (g k j * h j b) := Sg_congr fun k _ => (Sg_ml m _ _).symm
  rw [e1, e2, Sg_swap]
  exact Sg_congr fun i _ => Sg_congr fun j _ => by grind
theorem mulT_dl {m : Nat} (f : Tb) {a b : Nat} (hb : b < m) : mulT m f dl a b = f a b := by
  unfold mulT dl
  rw [Sg_one hb fun k _ hne => by rw [if_neg hne]; grind]
  rw [if_pos rfl]; grind
theorem dl_mulT {m : Nat} (f : Tb) {a b : Nat} (ha : a < m) : mulT m dl f a b = f a b := by
  unfold mulT dl
  rw [Sg_one ha fun k _ hne => by rw [if_neg (fun e => hne e.symm)]; grind]
  rw [if_pos rfl]; grind
theorem mulT_add (m : Nat) (f g h : Tb) (a b : Nat) : mulT m f (fun x y => g x y + h x y) a b = mulT m f g a b + mulT m f h a b := by
  unfold mulT
  rw [← Sg_add]
  exact Sg_congr fun k _ => by grind
/-- A one-sided inverse that has one itself is two-sided. -/
theorem inv_both {m : Nat} {f g h : Tb} (h1 : EqT m (mulT m f g) dl) (h2 : EqT m (mulT m g h) dl) : EqT m h f ∧ EqT m (mulT m g f) dl := by
  have key : EqT m h f := fun a b ha hb => by
    have e1 : mulT m (mulT m f g) h a b = h a b := by
      rw [mulT_congr h1 (fun _ _ _ _ => rfl : EqT m h h) a b ha hb, dl_mulT h ha]
    have e2 : mulT m f (mulT m g h) a b = f a b := by
      rw [mulT_congr (fun _ _ _ _ => rfl : EqT m f f) h2 a b ha hb, mulT_dl f hb]
    rw [← e1, mulT_assoc, e2]
  exact ⟨key, fun a b ha hb => by rw [← h2 a b ha hb]; exact mulT_congr (fun _ _ _ _ => rfl : EqT m g g) (fun x y hx hy => (key x y hx hy).symm) a b ha hb⟩
/-- Two right inverses of what has a left one are the same. -/
theorem inv_uniq {m : Nat} {f g h k : Tb} (h0 : EqT m (mulT m k f) dl) (h1 : EqT m (mulT m f g) dl) (h2 : EqT m (mulT m f h) dl) : EqT m g h := fun a b ha hb => by
  have e : ∀ x : Tb, EqT m (mulT m f x) dl → x a b = k a b := fun x hx => by
    have e1 : mulT m (mulT m k f) x a b = x a b := by
      rw [mulT_congr h0 (fun _ _ _ _ => rfl : EqT m x x) a b ha hb, dl_mulT x ha]
    have e2 : mulT m k (mulT m f x) a b = k a b := by
      rw [mulT_congr (fun _ _ _ _ => rfl : EqT m k k) hx a b ha hb, mulT_dl k hb]
    rw [← e1, mulT_assoc, e2]
  rw [e g h1, e h h2]
end Go.Abs
