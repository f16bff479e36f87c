/- Sums of bytes, plainly. -/
import Derived.Test.YtnieamciihdfpaaAbsOrd
import Derived.Test.YtnieamciihdfpaaAbsLp
namespace Go.Wir
open Go.Abs
def Byt (x : Int) : Prop := 0 ≤ x ∧ x ≤ 255
theorem byt_wrap (n : Int) : Byt (IntKind.u8.wrap n) := by
  have h : IntKind.u8.wrap n = n % 256 := by
    unfold IntKind.wrap
    simp [IntKind.signed, IntKind.bits]
  unfold Byt
  rw [h]; omega
theorem wrap_byt {n : Int} (h1 : 0 ≤ n) (h2 : n ≤ 255) : IntKind.u8.wrap n = n := by
  have h : IntKind.u8.wrap n = n % 256 := by
    unfold IntKind.wrap
    simp [IntKind.signed, IntKind.bits]
  rw [h]; omega
theorem wrap_mod (n : Int) : IntKind.u8.wrap n = n % 256 := by
  unfold IntKind.wrap
  simp [IntKind.signed, IntKind.bits]
theorem byt_ior (a b : Int) : Byt (ior .u8 a b) := byt_wrap _
theorem ior_two {a c : Int} (ha : Byt a) (hc : Byt c) : ior .i64 a (ishl .i64 c 8) = a + 256 * c := by
  have h1 : ishl .i64 c 8 = c * 256 := by
    unfold ishl
    have : (2 : Int) ^ (min (8 : Int).toNat IntKind.i64.bits) = 256 := by decide
    rw [this, w64 (by have := hc.1; omega) (by have := hc.2; omega)]
  rw [h1]
  unfold ior
  obtain ⟨x, rfl⟩ := Int.eq_ofNat_of_zero_le ha.1
  obtain ⟨y, rfl⟩ := Int.eq_ofNat_of_zero_le hc.1
  have hx : x ≤ 255 := by have := ha.2; omega
  have hy : y ≤ 255 := by have := hc.2; omega
  have e1 : BitVec.ofInt IntKind.i64.bits ((x : Nat) : Int) = BitVec.ofNat 64 x := by simp [IntKind.bits]
  have e2 : BitVec.ofInt IntKind.i64.bits (((y : Nat) : Int) * 256) = BitVec.ofNat 64 (y * 256) := by
    show BitVec.ofInt 64 (((y : Nat) : Int) * 256) = _
    rw [show ((y : Nat) : Int) * 256 = ((y * 256 : Nat) : Int) by omega, BitVec.ofInt_natCast]
  rw [e1, e2]
  have e3 : (BitVec.ofNat 64 x ||| BitVec.ofNat 64 (y * 256)).toNat = y * 256 + x := by
    rw [BitVec.toNat_or, BitVec.toNat_ofNat, BitVec.toNat_ofNat, Nat.mod_eq_of_lt (by omega), Nat.mod_eq_of_lt (by omega), Nat.or_comm]
    have := Nat.shiftLeft_add_eq_or_of_lt (a := y) (b := x) (i := 8) (by omega)
    rw [Nat.shiftLeft_eq] at this
    exact this.symm
  have e4 : ((BitVec.ofNat 64 x ||| BitVec.ofNat 64 (y * 256)).toNat : Int) = (y : Int) * 256 + x := by rw [e3]; omega
  show IntKind.i64.wrap ((BitVec.ofNat 64 x ||| BitVec.ofNat 64 (y * 256)).toNat : Int) = _
  rw [e4, w64 (by omega) (by omega)]
  omega
/-- The sum from behind. -/
def smS : List Int → Int
  | [] => 0
  | x :: r => (smS r + x) % 65521
def smA : List Int → Int
  | [] => 0
  | x :: r => (smA r + (smS r + x) % 65521) % 65521
def sS : List Int → Int
  | [] => 0
  | x :: r => sS r + x
def sT : List Int → Int
  | [] => 0
  | x :: r => sT r + sS r + x
theorem smS_eq : ∀ b, smS b = sS b % 65521
  | [] => rfl
  | x :: r => by rw [smS, sS, smS_eq r]; omega
theorem smA_eq : ∀ b, smA b = sT b % 65521
  | [] => rfl
  | x :: r => by rw [smA, sT, smA_eq r, smS_eq r]; omega
theorem smA_lt (b : List Int) : 0 ≤ smA b ∧ smA b < 65521 := by rw [smA_eq]; omega
theorem smS_lt (b : List Int) : 0 ≤ smS b ∧ smS b < 65521 := by rw [smS_eq]; omega
theorem sS_set : ∀ (b : List Int) (i : Nat) (x : Int), i < b.length → sS (b.set i x) = sS b + (x - nth 0 b i)
  | [], _, _, h => absurd h (Nat.not_lt_zero _)
  | y :: b, 0, x, _ => by
    have : nth (0 : Int) (y :: b) 0 = y := rfl
    rw [List.set_cons_zero, sS, sS, this]; omega
  | y :: b, i + 1, x, h => by
    have := sS_set b i x (by simpa using h)
    rw [List.set_cons_succ, sS, sS, this, show nth (0 : Int) (y :: b) (i + 1) = nth 0 b i by simp [nth]]; omega
theorem sT_set : ∀ (b : List Int) (i : Nat) (x : Int), i < b.length → sT (b.set i x) = sT b + ((i : Int) + 1) * (x - nth 0 b i)
  | [], _, _, h => absurd h (Nat.not_lt_zero _)
  | y :: b, 0, x, _ => by
    have : nth (0 : Int) (y :: b) 0 = y := rfl
    rw [List.set_cons_zero, sT, sT, this]; omega
  | y :: b, i + 1, x, h => by
    have h1 := sT_set b i x (by simpa using h)
    have h2 := sS_set b i x (by simpa using h)
    rw [List.set_cons_succ, sT, sT, h1, h2, show nth (0 : Int) (y :: b) (i + 1) = nth 0 b i by simp [nth]]
    have : (((i + 1 : Nat) : Int) + 1) * (x - nth 0 b i) = ((i : Int) + 1) * (x - nth 0 b i) + (x - nth 0 b i) := by
      rw [show (((i + 1 : Nat) : Int) + 1) = ((i : Int) + 1) + 1 by omega, Int.add_mul ((i : Int) + 1) 1, Int.one_mul]
    rw [this]; omega
theorem cop : ∀ d : Nat, d < 256 → 0 < d → Nat.gcd 65521 d = 1 := by decide +kernel
/-- Another byte is another sum. -/
theorem sum_turned {b : List Int} {i : Nat} {x : Int} (hi : i < b.length) (hl : b.length ≤ 8192) (hx : Byt x) (hb : Byt (nth 0 b i)) (hne : nth 0 b i ≠ x) : smA (b.set i x) ≠ smA b := by
  rw [smA_eq, smA_eq, sT_set b i x hi]
  intro h
  have h1 : (((i : Int) + 1) * (x - nth 0 b i)) % 65521 = 0 := by omega
  have h2 : (65521 : Int) ∣ ((i : Int) + 1) * (x - nth 0 b i) := Int.dvd_of_emod_eq_zero h1
  have h3 : (65521 : Nat) ∣ (i + 1) * (x - nth 0 b i).natAbs := by
    have := Int.natAbs_dvd_natAbs.2 h2
    rw [Int.natAbs_mul] at this
    have e : ((i : Int) + 1).natAbs = i + 1 := by omega
    rw [e] at this
    exact this
  have hx1 := hx.1
  have hx2 := hx.2
  have hb1 := hb.1
  have hb2 := hb.2
  have h4 := cop (x - nth 0 b i).natAbs (by omega) (by omega)
  have h5 : (65521 : Nat) ∣ i + 1 := Nat.Coprime.dvd_of_dvd_mul_right h4 h3
  have := Nat.le_of_dvd (by omega) h5
  omega
end Go.Wir
