/- Contracts of wire.Num and of the bytes' comparison. -/
import Derived.Test.YtjfpglmmhikhbaaPlainTimes
import Derived.Lib.Varint
namespace Go.Proofs.Ytjfpglmmhikhbaa
open Go.RowKit

theorem eltByte : Elt 22 5 (.int .u8 0) 1 := ⟨Try.underlying22, by kernel_rfl, rfl⟩
abbrev Byts (w : World) (v : Value) (xs : List Int) : Prop := Rd (Value.int .u8) w v xs
abbrev OwnB (w : World) (base : Nat) (v : Value) (xs : List Int) : Prop := OwnL 5 (Value.int .u8) w base v xs

/-- The zigzag of a number. -/
def zig (n : Int) : Int := if 0 ≤ n then 2 * n else -2 * n - 1
theorem zig_bounds {n : Int} (h1 : -9223372036854775808 ≤ n) (h2 : n ≤ 9223372036854775807) : 0 ≤ zig n ∧ zig n ≤ 18446744073709551615 := by
  unfold zig; split <;> omega
theorem zig_inj {n m : Int} (h : zig n = zig m) : n = m := by
  unfold zig at h; split at h <;> split at h <;> omega
theorem xor_ones (a : Nat) (ha : a < 18446744073709551616) : bits .xor .u64 (a : Int) 18446744073709551615 = 18446744073709551615 - (a : Int) := by
  have h1 : (BitVec.ofInt 64 (a : Int)).toNat = a := by
    rw [BitVec.ofInt_natCast, BitVec.toNat_ofNat]; exact Nat.mod_eq_of_lt (by omega)
  have h2 : BitVec.ofInt 64 18446744073709551615 = BitVec.allOnes 64 := by decide
  show IntKind.u64.wrap ((BitVec.ofInt 64 (a : Int) ^^^ BitVec.ofInt 64 18446744073709551615).toNat : Int) = _
  rw [h2, BitVec.xor_allOnes, BitVec.toNat_not, h1, IntKind.wrap_u64]
  omega
theorem xor_zero (a : Nat) (ha : a < 18446744073709551616) : bits .xor .u64 (a : Int) 0 = (a : Int) := by
  have := bits_xor_u64_nat a 0 ha (by omega)
  simpa using this
theorem zig_bits {n : Int} (h1 : -9223372036854775808 ≤ n) (h2 : n ≤ 9223372036854775807) :
    bits BinOp.xor IntKind.u64 (IntKind.u64.wrap (IntKind.u64.wrap n * 2)) (IntKind.u64.wrap (n / 9223372036854775808)) = zig n := by
  simp only [IntKind.wrap_u64]
  unfold zig
  by_cases h : 0 ≤ n
  · rw [if_pos h]
    have e1 : n / 9223372036854775808 % 18446744073709551616 = 0 := by omega
    have e2 : n % 18446744073709551616 * 2 % 18446744073709551616 = ((2 * n).toNat : Int) := by omega
    rw [e1, e2, xor_zero _ (by omega)]
    omega
  · rw [if_neg h]
    have e1 : n / 9223372036854775808 % 18446744073709551616 = 18446744073709551615 := by omega
    have e2 : n % 18446744073709551616 * 2 % 18446744073709551616 = ((2 * n + 18446744073709551616).toNat : Int) := by omega
    rw [e1, e2, xor_ones _ (by omega)]
    omega
/-- Groups of seven bits, the lowest first. -/
def groups : Nat → Int → List Int
  | 0, _ => []
  | f + 1, x => if x < 128 then [x] else (x % 128 + 128) :: groups f (x / 128)
theorem groups_last {f : Nat} {x : Int} (h : x < 128) : groups (f + 1) x = [x] := by simp [groups, h]
theorem groups_more {f : Nat} {x : Int} (h : ¬ x < 128) : groups (f + 1) x = (x % 128 + 128) :: groups f (x / 128) := by simp [groups, h]
theorem own_byte (w : World) (x : Int) : OwnB (w.alloc (.cells #[.int .u8 x] 5)) w.heap.size (.slice (some ⟨w.heap.size, 0, none⟩) 1 1) [x] := by
  refine ⟨rfl, .inr ⟨w.heap.size, 1, #[.int .u8 x], rfl, Nat.le_refl _, ?_, Nat.le_refl _, by unfold maxLen; omega, rfl, rfl⟩⟩
  show (w.heap.push _)[w.heap.size]? = _
  simp
theorem or_byte {y : Int} (h : 0 ≤ y) : bits BinOp.or IntKind.u8 (y % 256) 128 = y % 128 + 128 := by
  rw [Lib.u8_or128_any _ (by omega) (by omega)]
  omega

def RetB (w : World) (xs : List Int) (e : Ending) (w' : World) : Prop := ∃ u, e = .returned u ∧ OwnB w' w.heap.size u xs ∧ Ext w w'
set_option maxHeartbeats 600000 in
theorem num_any (n : Int) (w : World) (h1 : -9223372036854775808 ≤ n) (h2 : n ≤ 9223372036854775807) :
    Calls Try.prog 13 #[.int .i64 n] w (RetB w (groups 10 (zig n))) := by
  have hz := hid (zig_bits h1 h2)
  have hzb := hid (zig_bounds h1 h2)
  go_enter Try.func13, Try.ntmps13
  go_wp2_with fail
  rw [hz.out]
  clear hz h1 h2
  have hx0 := hzb.out.1
  generalize hX : zig n = X at *
  clear hX
  go_loopw [3, 4] (fun x v wr => ∃ (y : Int) (f : Nat) (ys : List Int), x = .int .u64 y ∧ 0 ≤ y ∧ Hid (ys ++ groups (f + 1) y = groups 10 X ∧ y < 128 ^ (f + 1) ∧ ys.length + f ≤ 10) ∧ Ext w wr ∧ Hid (OwnB wr w.heap.size v ys)) (fun x _ _ => (intOf x).toNat)
  case atStart => exact ⟨X, 9, [], rfl, hx0, hid ⟨rfl, by have := hzb.out.2; omega, by simp⟩, Ext.refl _, hid (OwnL.nil _ _)⟩
  case round =>
    obtain ⟨y, f, ys, rfl, hy, hg, hx, hp⟩ := hrel
    by_cases hlt : y < 128
    · have hw8 : IntKind.u8.wrap y = y := by rw [IntKind.wrap_u8]; omega
      have hE := hid (Ext.alloc' hx (.cells #[.int .u8 y] 5))
      have ho := hid (OwnL.rd (own_byte wr y))
      replace hp := hid (OwnL.keeps (Ext.alloc wr (.cells #[.int .u8 y] 5)) hp.out)
      have hlk := hid (show ys.length + [y].length ≤ 2000000000000 by have := hg.out.2.2; simp; omega)
      replace hx := hid hx
      have hfin := hid (show ys ++ [y] = groups 10 X by rw [← hg.out.1, groups_last hlt])
      go_wp2_with (at_builtin; refine app_row (enc := Value.int .u8) (fun _ => rfl) eltByte (by decide) rfl rfl _ _ rfl w.heap.size _ _ ys [y] rfl rfl hp.out ho.out hlk.out hE.out.size ?c5)
      case c5 =>
      intro v' w' hown hgr
      have hx2 := hid (Ext.grown hE.out hgr (OwnL.block hp.out))
      rw [hfin.out] at hown
      replace hown := hid hown
      clear hgr hp ho hE hlk hx
      go_wp2_with fail
      go_ret
      exact ⟨_, rfl, hown.out, hx2.out⟩
    · have hge : 128 ≤ y := by omega
      have hor := or_byte hy
      have hE := hid (Ext.alloc' hx (.cells #[.int .u8 (y % 128 + 128)] 5))
      have ho := hid (OwnL.rd (own_byte wr (y % 128 + 128)))
      replace hp := hid (OwnL.keeps (Ext.alloc wr (.cells #[.int .u8 (y % 128 + 128)] 5)) hp.out)
      have hlk := hid (show ys.length + [y % 128 + 128].length ≤ 2000000000000 by have := hg.out.2.2; simp; omega)
      replace hx := hid hx
      go_wp2_with (at_builtin; refine app_row (enc := Value.int .u8) (fun _ => rfl) eltByte (by decide) rfl rfl _ _ rfl w.heap.size _ _ ys [y % 128 + 128] rfl rfl hp.out ho.out hlk.out hE.out.size ?c5)
      case c5 =>
      intro v' w' hown hgr
      have hx2 := hid (Ext.grown hE.out hgr (OwnL.block hp.out))
      replace hown := hid hown
      clear hgr hp ho hE hlk hx hor
      obtain ⟨f', rfl⟩ : ∃ f', f = f' + 1 := by
        cases f with
        | zero => have := hg.out.2.1; simp at this; omega
        | succ f' => exact ⟨f', rfl⟩
      have hg2 := hid (show (ys ++ [y % 128 + 128]) ++ groups (f' + 1) (y / 128) = groups 10 X ∧ y / 128 < 128 ^ (f' + 1) ∧ (ys ++ [y % 128 + 128]).length + f' ≤ 10 by
        obtain ⟨g1, g2, g3⟩ := hg.out
        refine ⟨by rw [← g1, groups_more (x := y) (by omega)]; simp, ?_, by simp; omega⟩
        rw [Int.pow_succ] at g2
        omega)
      clear hg
      go_wp2_with fail
      go_roundw
      case rel => exact ⟨y / 128, f', _, rfl, by omega, hg2, hx2.out, hown⟩
      case measure => simp [intOf]; omega
set_option maxHeartbeats 400000 in
theorem bytes_any (v u : Value) (xs ys : List Int) (w : World) (hv : Byts w v xs) (hu : Byts w u ys) :
    Calls Try.prog 14 #[v, u] w fun e w' => e = .returned (.bool (eqB xs ys)) ∧ Ext w w' := by
  obtain ⟨a, cap, rfl, hl, -, ha, hc⟩ := hv
  obtain ⟨a', cap', rfl, hl', -, ha', hc'⟩ := hu
  replace hc := hid hc
  have hc' := hid hc'
  replace ha := hid ha
  have ha' := hid ha'
  by_cases hlen : xs.length = ys.length
  case neg =>
    have h1 : ((xs.length : Int) != (ys.length : Int)) = true := by rw [bne_iff_ne]; omega
    go_enter Try.func14, Try.ntmps14
    go_wp2
    go_ret
    exact ⟨ret_bool (eqB_len hlen).symm, Ext.refl _⟩
  have h1 : ((xs.length : Int) != (ys.length : Int)) = false := by rw [bne_eq_false_iff_eq]; omega
  replace hlen := hid hlen
  go_enter Try.func14, Try.ntmps14
  go_wp2
  go_loopw [5] (fun i wr => ∃ k : Nat, k ≤ xs.length ∧ i = .int .i64 k ∧ Ext w wr ∧ Hid (∀ j, j < k → nth xs j = nth ys j)) (fun i _ => xs.length - (intOf i).toNat)
  case atStart => exact ⟨0, Nat.zero_le _, rfl, Ext.refl _, hid (fun j hj => by omega)⟩
  case round =>
    obtain ⟨k, hk, rfl, hx, hp⟩ := hrel
    obtain ⟨g, rfl⟩ := Ext.out hx
    by_cases hlt : k < xs.length
    · obtain ⟨b, off, rfl⟩ := ha.out.resolve_left (by omega)
      obtain ⟨b', off', rfl⟩ := ha'.out.resolve_left (by have := hlen.out; omega)
      have hlt' : k < ys.length := by have := hlen.out; omega
      have hcell := hc.out b off rfl k hlt
      have hcell' := hc'.out b' off' rfl k hlt'
      have hb : Inside w b := Inside.of_cell hcell
      have hb' : Inside w b' := Inside.of_cell hcell'
      by_cases heq : nth xs k = nth ys k
      · have h2 : (nth xs k != nth ys k) = false := by rw [bne_eq_false_iff_eq]; exact heq
        replace heq := hid heq
        go_wp2
        refine region_ext (by kernel_rfl) (by kernel_rfl) ?_
        repeat (go_big_quiet_step (fail))
        refine wpQuiet_nil ?_
        rintro _ ⟨g1, rfl⟩
        go_wp2
        go_roundw
        case rel => exact ⟨k + 1, by omega, by go_num, Ext.grow hx g1, hid (lt_succ_all k hp.out heq.out)⟩
        case measure => simp [intOf]; omega
      · have h2 : (nth xs k != nth ys k) = true := by rw [bne_iff_ne]; exact heq
        go_wp2
        refine region_ext (by kernel_rfl) (by kernel_rfl) ?_
        repeat (go_big_quiet_step (fail))
        refine wpQuiet_nil ?_
        rintro _ ⟨g1, rfl⟩
        go_wp2
        go_ret
        exact ⟨ret_bool (eqB_ne k heq).symm, Ext.grow hx g1⟩
    · go_wp2
      go_ret
      exact ⟨ret_bool (eqB_all hlen.out (fun j hj => hp.out j (by omega))).symm, hx⟩

theorem groups_prefix : ∀ (f : Nat) (x y : Int), 0 ≤ x → 0 ≤ y → x < 128 ^ f → y < 128 ^ f → groups f x <+: groups f y → x = y := by
  intro f
  induction f with
  | zero => intro x y hx hy h1 h2 _; simp at h1 h2; omega
  | succ f ih =>
    intro x y hx hy h1 h2 h
    rw [Int.pow_succ] at h1 h2
    by_cases a : x < 128 <;> by_cases b : y < 128
    · rw [groups_last a, groups_last b] at h
      have := h.length_le; have := List.cons_prefix_cons.1 h; exact this.1
    · rw [groups_last a, groups_more b] at h
      have := (List.cons_prefix_cons.1 h).1; omega
    · rw [groups_more a, groups_last b] at h
      have := (List.cons_prefix_cons.1 h).1; omega
    · rw [groups_more a, groups_more b] at h
      obtain ⟨e, h'⟩ := List.cons_prefix_cons.1 h
      have := ih (x / 128) (y / 128) (by omega) (by omega) (by omega) (by omega) h'
      omega
theorem groups_len : ∀ (f : Nat) (x : Int), (groups f x).length ≤ f := by
  intro f
  induction f with
  | zero => intro x; simp [groups]
  | succ f ih => intro x; by_cases a : x < 128
                 · rw [groups_last a]; simp
                 · rw [groups_more a]; simp; exact ih _
theorem groups_pos (f : Nat) (x : Int) : 0 < (groups (f + 1) x).length := by
  by_cases a : x < 128
  · rw [groups_last a]; simp
  · rw [groups_more a]; simp
theorem num_apart {n m : Int} (h1 : -9223372036854775808 ≤ n) (h2 : n ≤ 9223372036854775807) (h3 : -9223372036854775808 ≤ m) (h4 : m ≤ 9223372036854775807) (h : n ≠ m) :
    eqB (groups 10 (zig n)) ((groups 10 (zig m)).take (groups 10 (zig n)).length) = false := by
  rw [Bool.eq_false_iff]
  intro e
  have e' := eqB_true.1 e
  have a := zig_bounds h1 h2
  have b := zig_bounds h3 h4
  apply h
  apply zig_inj
  refine groups_prefix 10 _ _ a.1 b.1 (by omega) (by omega) ?_
  rw [List.prefix_iff_eq_take]
  exact e'
end Go.Proofs.Ytjfpglmmhikhbaa
