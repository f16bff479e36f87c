/- How many bits are set; the irreducible elements. -/
import Derived.Test.YtagghgmpdjoknaaDoorOnes
import Derived.Test.YtagghgmpdjoknaaDoorLatticeS
namespace Go.Proofs.YtagghgmpdjoknaaDoor
open Go.Abs
def pc (b : Nat) : Nat := ((List.range 8).filter fun i => b.testBit i).length
theorem tab_pc : ∀ b : Fin 256, nth 0 str_85a303e3 b.val = ((pc b.val : Nat) : Int) := by decide +kernel
theorem tab_len : str_85a303e3.length = 256 := by decide +kernel
theorem pc_byte {w : Int} {y : Int} (hy : W32 y) {k : Nat} (h : ∀ i, bt y i = (bt w (k + i) && decide (i < 8))) : 0 ≤ y ∧ y < 256 ∧ nth 0 str_85a303e3 y.toNat = ((((List.range 8).filter fun i => bt w (k + i)).length : Nat) : Int) := by
  have hlt : y.toNat < 2 ^ 8 := Nat.lt_pow_two_of_testBit _ fun i hi => by
    have := h i
    rw [decide_eq_false (by omega), Bool.and_false] at this
    exact this
  have h0 := hy.1
  refine ⟨h0, by omega, ?_⟩
  have e := tab_pc ⟨y.toNat, hlt⟩
  simp only at e
  rw [e]
  have e2 : pc y.toNat = ((List.range 8).filter fun i => bt w (k + i)).length := by
    unfold pc
    refine congrArg List.length (List.filter_congr fun i hi => ?_)
    have := h i
    rw [decide_eq_true (List.mem_range.1 hi), Bool.and_true] at this
    exact this
  rw [e2]
theorem els_len (w : Int) : (els w).length = ((List.range 8).filter fun i => bt w (24 + i)).length + ((List.range 8).filter fun i => bt w (16 + i)).length + ((List.range 8).filter fun i => bt w (8 + i)).length + ((List.range 8).filter fun i => bt w (0 + i)).length := by
  have e : List.range 32 = (List.range 8).map (0 + ·) ++ ((List.range 8).map (8 + ·) ++ ((List.range 8).map (16 + ·) ++ (List.range 8).map (24 + ·))) := by decide
  unfold els
  rw [e]
  simp only [List.filter_append, List.length_append, List.filter_map, List.length_map]
  simp only [Function.comp_def]
  omega
theorem bt_255 (j : Nat) : bt 255 j = decide (j < 8) := by
  show (255 : Nat).testBit j = decide (j < 8)
  have : (255 : Nat) = 2 ^ 8 - 1 := by decide
  rw [this, Nat.testBit_two_pow_sub_one]
theorem sum4 {a b c d : Nat} (h1 : a ≤ 8) (h2 : b ≤ 8) (h3 : c ≤ 8) (h4 : d ≤ 8) :
    (((((a : Int) + b) % 256 + c) % 256 + d) % 256 + 9223372036854775808) % 18446744073709551616 - 9223372036854775808 = ((a + b + c + d : Nat) : Int) := by
  have e1 : ((a : Int) + b) % 256 = a + b := by omega
  have e2 : ((a : Int) + b + c) % 256 = a + b + c := by omega
  have e3 : ((a : Int) + b + c + d) % 256 = a + b + c + d := by omega
  rw [e1, e2, e3]
  omega
theorem Ones_eq (N : Nat) {w : Int} (hw : W32 w) : D_math_bits_OnesCount32 N (w, ()) = some ((((els w).length : Nat) : Int), ()) := by
  have w255 : W32 255 := by unfold W32; omega
  obtain ⟨a1, a2, a3⟩ := pc_byte (w := w) (k := 24) (W32.ishr (i := 24) hw) (fun i => by
    rw [bt_ishr hw]
    by_cases q : i < 8
    · rw [decide_eq_true q, Bool.and_true]; rfl
    · rw [decide_eq_false q, Bool.and_false]
      exact Bool.eq_false_iff.2 fun hb => by have := bt_lt hw hb; simp at this; omega)
  obtain ⟨b1, b2, b3⟩ := pc_byte (w := w) (y := iand .u32 (ishr .u32 w 16) 255) (k := 16) W32.iand (fun i => by rw [bt_iand (W32.ishr hw) w255, bt_255, bt_ishr hw]; rfl)
  obtain ⟨c1, c2, c3⟩ := pc_byte (w := w) (y := iand .u32 (ishr .u32 w 8) 255) (k := 8) W32.iand (fun i => by rw [bt_iand (W32.ishr hw) w255, bt_255, bt_ishr hw]; rfl)
  obtain ⟨d1, d2, d3⟩ := pc_byte (w := w) (y := iand .u32 w 255) (k := 0) W32.iand (fun i => by rw [bt_iand hw w255, bt_255, Nat.zero_add])
  have l1 := List.length_filter_le (fun i => bt w (24 + i)) (List.range 8)
  have l2 := List.length_filter_le (fun i => bt w (16 + i)) (List.range 8)
  have l3 := List.length_filter_le (fun i => bt w (8 + i)) (List.range 8)
  have l4 := List.length_filter_le (fun i => bt w (0 + i)) (List.range 8)
  rw [List.length_range] at l1 l2 l3 l4
  have e := els_len w
  simp only [D_math_bits_OnesCount32, math_bits_OnesCount32_1, tab_len, d_false (show ¬ ((24 : Int) < 0) by omega), d_false (show ¬ ((16 : Int) < 0) by omega), d_false (show ¬ ((8 : Int) < 0) by omega), cond_false, d_true a1, d_true b1, d_true c1, d_true d1,
    d_true (show ishr .u32 w 24 < ((256 : Nat) : Int) by omega), d_true (show iand .u32 (ishr .u32 w 16) 255 < ((256 : Nat) : Int) by omega), d_true (show iand .u32 (ishr .u32 w 8) 255 < ((256 : Nat) : Int) by omega), d_true (show iand .u32 w 255 < ((256 : Nat) : Int) by omega), Bool.and_self, cond_true, a3, b3, c3, d3]
  congr 2
  rw [IntKind.wrap_i64]
  simp only [IntKind.wrap_u8]
  rw [e]
  exact sum4 l1 l2 l3 l4
def irrL (up : List Int) (n : Nat) : List Nat := (List.range n).filter fun i => decide ((els (aboveW up i)).length = 1)
theorem irrL_succ (up : List Int) (n : Nat) : irrL up (n + 1) = if (els (aboveW up n)).length = 1 then irrL up n ++ [n] else irrL up n := by
  unfold irrL
  rw [List.range_succ, List.filter_append]
  by_cases h : (els (aboveW up n)).length = 1
  · rw [if_pos h]; simp [h]
  · rw [if_neg h]; simp [h]
theorem irrL_len (up : List Int) (n : Nat) : (irrL up n).length ≤ n := by
  have := List.length_filter_le (fun i => decide ((els (aboveW up i)).length = 1)) (List.range n)
  simpa [irrL] using this
theorem irrL_mem {up : List Int} {n x : Nat} : x ∈ irrL up n ↔ x < n ∧ (els (aboveW up x)).length = 1 := by
  unfold irrL
  rw [List.mem_filter, List.mem_range, decide_eq_true_eq]
theorem IrrC_eq {N m : Nat} (hN : 1000 ≤ N) {up : List Int} (hw : WL up) (ho : Ord (m : Int) up) : D_lattice_Irreducible_c1 N (((m : Int), up), ()) = some ((irrL up m).map fun (i : Nat) => (i : Int)) := by
  have hm : m ≤ 16 := by have := ho.h1; omega
  simp only [D_lattice_Irreducible_c1, lattice_Irreducible_c1_3, joinD, loopE]
  refine loopD_path (N := N) m (fun i => ((i : Int), (irrL up i).map fun (j : Nat) => (j : Int))) (fun i hi kn => ?_) (fun kn => ?_) (by omega)
  · have hab := (bt_above hw (show i < 32 by omega)).1
    simp only [lattice_Irreducible_c1_2, lt_d hi, cond_true, Above_eq (N := N) hw ho (show i < (m : Int).toNat by omega), D_sets_Size, sets_Size_1, Ones_eq N hab, Option.bind_some, w1 hm hi, irrL_succ]
    by_cases q : (els (aboveW up i)).length = 1
    · rw [if_pos q, show ((((els (aboveW up i)).length : Nat) : Int) == 1) = true from by rw [q]; rfl, cond_true, d_true (by have := irrL_len up i; simp; omega)]
      simp [backE_eq]
      rfl
    · rw [if_neg q, show ((((els (aboveW up i)).length : Nat) : Int) == 1) = false from beq_false_of_ne (by omega), cond_false, backE_eq]
      rfl
  · simp only [lattice_Irreducible_c1_2, lattice_Irreducible_c1_1, lt_self, cond_false]
/-- An element below all irreducible ones that are above another one is below that one. -/
theorem irr_gen {m : Nat} {u : List Int} (hw : WL u) (ho : Ord (m : Int) u) (hmeet : ∀ a b, a < m → b < m → ∃ c, c < m ∧ ∀ d, d < m → (le u d c ↔ le u d a ∧ le u d b)) (htop : ∃ t, t < m ∧ ∀ d, d < m → le u d t) {x d : Nat} (hx : x < m) (hd : d < m)
    (h : ∀ y, y < m → (els (aboveW u y)).length = 1 → le u x y → le u d y) : le u d x := by
  have hm := ho.h1
  refine Classical.byContradiction fun hn => ?_
  obtain ⟨x', hx', ⟨p1, p2⟩, -, hmax⟩ := ho.top (fun x => (∀ y, y < m → (els (aboveW u y)).length = 1 → le u x y → le u d y) ∧ ¬ le u d x) (i := x) (by omega) ⟨h, hn⟩
  rw [Int.toNat_natCast] at hx' hmax
  obtain ⟨t, ht, htt⟩ := htop
  have hbit := (bt_above hw (show x' < 32 by omega)).2
  have hW := (bt_above hw (show x' < 32 by omega)).1
  have hxt : x' ≠ t := fun e => p2 (e ▸ htt d hd)
  have hup : ∀ k, cov u x' k → le u d k := fun k hk => by
    have hkm : k < m := by have := ho.inn x' (by omega) k hk.1; omega
    refine Classical.byContradiction fun hnk => ?_
    have := hmax k hkm ⟨fun y hy hy1 hy2 => p1 y hy hy1 (ho.trans x' k y (by omega) (by omega) hk.1 hy2), hnk⟩ hk.1
    exact hk.2.1 this
  obtain ⟨k, hk, ⟨c1, c2⟩, kmin⟩ := ho.least (fun y => le u x' y ∧ y ≠ x') (i := t) (by omega) ⟨htt x' hx', fun e => hxt e.symm⟩
  have hcov : cov u x' k := ⟨c1, c2, fun z z1 z2 z3 => (kmin z (ho.inn x' (by omega) z z1) ⟨z1, z2⟩ z3).symm⟩
  have hkm : k < m := by omega
  by_cases hone : (els (aboveW u x')).length = 1
  · exact p2 (p1 x' hx' hone (ho.refl x' (by omega)))
  have hkmem : k ∈ els (aboveW u x') := (mem_els hW).2 ((hbit k).2 hcov)
  have hnd := nodup_els (aboveW u x')
  obtain ⟨k2, hk2, hne⟩ : ∃ k2, k2 ∈ els (aboveW u x') ∧ k2 ≠ k := by
    refine Classical.byContradiction fun hno => hone ?_
    have hall : ∀ z ∈ els (aboveW u x'), z = k := fun z hz => Classical.byContradiction fun q => hno ⟨z, hz, q⟩
    match hl : els (aboveW u x'), hkmem, hnd, hall with
    | [], hkmem, _, _ => cases hkmem
    | [a], _, _, _ => rfl
    | a :: b :: r, _, hnd, hall =>
      exfalso
      have e1 := hall a (by simp)
      have e2 := hall b (by simp)
      rw [e1, e2] at hnd
      simp at hnd
  have hcov2 : cov u x' k2 := (hbit k2).1 ((mem_els hW).1 hk2)
  have hk2m : k2 < m := by have := ho.inn x' (by omega) k2 hcov2.1; omega
  obtain ⟨c, hc, hcc⟩ := hmeet k k2 hkm hk2m
  have hdc := (hcc d hd).2 ⟨hup k hcov, hup k2 hcov2⟩
  have hxc := (hcc x' hx').2 ⟨hcov.1, hcov2.1⟩
  have hck := (hcc c hc).1 (ho.refl c (by omega))
  by_cases e : c = x'
  · subst e; exact p2 hdc
  · have e1 := hcov.2.2 c hxc e hck.1
    have e2 := hcov2.2.2 c hxc e hck.2
    exact hne (by rw [e1, e2])
end Go.Proofs.YtagghgmpdjoknaaDoor
