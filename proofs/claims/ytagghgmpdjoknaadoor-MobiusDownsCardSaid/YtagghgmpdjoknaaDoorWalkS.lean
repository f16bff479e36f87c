/- downs.Count and downs.All: the down-sets, as rising numbers, each once. -/
import Derived.Test.YtagghgmpdjoknaaDoorDownsW
import Derived.Test.YtagghgmpdjoknaaDoorDualS
namespace Go.Proofs.YtagghgmpdjoknaaDoor
open Go.Abs
/-- A set of numbers below m that has all below each of its own. -/
structure isDn (up : List Int) (m : Nat) (w : Int) : Prop where
  w32 : W32 w
  lt : ∀ i, bt w i = true → i < m
  dn : ∀ i j, bt w j = true → le up i j → i < m → bt w i = true
/-- The down-sets between two sets, by the numbers below k. -/
def dsL (up dn : List Int) : Nat → Int → Int → List Int
  | 0, a, _ => [a]
  | k + 1, a, b => (if bt a k = true then [] else dsL up dn k a (ior .u32 b (nth 0 up k))) ++
      (if bt b k = true ∨ (iand .u32 (nth 0 dn k) b != 0) = true then [] else dsL up dn k (ior .u32 a (nth 0 dn k)) b)
theorem dsL_len (up dn : List Int) : ∀ k a b, (dsL up dn k a b).length ≤ 2 ^ k
  | 0, _, _ => Nat.le_refl _
  | k + 1, a, b => by
    simp only [dsL, List.length_append, Nat.pow_succ]
    have h1 := dsL_len up dn k a (ior .u32 b (nth 0 up k))
    have h2 := dsL_len up dn k (ior .u32 a (nth 0 dn k)) b
    split <;> split <;> simp <;> omega
theorem nat_lt_of_bit {x y : Nat} : ∀ k, x.testBit k = false → y.testBit k = true → (∀ j, k < j → x.testBit j = y.testBit j) → x < y
  | 0, hx, hy, hj => by
    have e : x / 2 = y / 2 := Nat.eq_of_testBit_eq fun i => by
      rw [Nat.testBit_div_two, Nat.testBit_div_two]; exact hj (i + 1) (by omega)
    rw [Nat.testBit_zero] at hx hy
    simp only [decide_eq_false_iff_not, decide_eq_true_eq] at hx hy
    omega
  | k + 1, hx, hy, hj => by
    have := nat_lt_of_bit (x := x / 2) (y := y / 2) k (by rw [Nat.testBit_div_two]; exact hx) (by rw [Nat.testBit_div_two]; exact hy) (fun j h => by rw [Nat.testBit_div_two, Nat.testBit_div_two]; exact hj (j + 1) (by omega))
    omega
theorem no0 {i : Nat} {p : Prop} (h : bt 0 i = true) : p := by rw [bt_zero] at h; cases h
section
variable {m : Nat} {up : List Int} (hw : WL up) (ho : Ord (m : Int) up)
structure WInv (up : List Int) (m k : Nat) (a b : Int) : Prop where
  da : isDn up m a
  b32 : W32 b
  bup : ∀ i j, i < m → bt b i = true → le up i j → bt b j = true
  off : ∀ i, bt a i = true → bt b i = true → False
  all : ∀ j, k ≤ j → j < m → bt a j = true ∨ bt b j = true
include hw ho
omit hw in
theorem dn_bit {i y : Nat} (hi : i < m) : bt (nth 0 (colsS up (m : Int) up.length) i) y = true ↔ y < m ∧ le up y i := by
  have hl := ho.len
  have h1 := ho.h1
  have := le_cols (up := up) (n := (m : Int)) (i := y) (j := i) (by omega) (by omega)
  exact this.trans (by rw [show up.length = m by omega])
omit hw ho in
theorem dn32 (i : Nat) : W32 (nth 0 (colsS up (m : Int) up.length) i) := (WL.colsS up (m : Int) up.length).nth i
omit hw in
theorem clash {b : Int} (hb : W32 b) {k : Nat} (hk : k < m) : (iand .u32 (nth 0 (colsS up (m : Int) up.length) k) b != 0) = true ↔ ∃ y, y < m ∧ le up y k ∧ bt b y = true := by
  rw [ne_zero_iff W32.iand]
  constructor
  · rintro ⟨y, _, h⟩
    rw [bt_iand (dn32 k) hb, Bool.and_eq_true, dn_bit ho hk] at h
    exact ⟨y, h.1.1, h.1.2, h.2⟩
  · rintro ⟨y, h1, h2, h3⟩
    exact ⟨y, bt_lt hb h3, by rw [bt_iand (dn32 k) hb, Bool.and_eq_true, dn_bit ho hk]; exact ⟨⟨h1, h2⟩, h3⟩⟩
omit hw ho in
theorem isDn.or {a b : Int} (ha : isDn up m a) (hb : isDn up m b) : isDn up m (ior .u32 a b) := by
  have hbit : ∀ i, bt (ior .u32 a b) i = true ↔ bt a i = true ∨ bt b i = true := fun i => by rw [bt_ior ha.w32 hb.w32, Bool.or_eq_true]
  exact ⟨W32.ior, fun i h => ((hbit i).1 h).elim (ha.lt i) (hb.lt i), fun i j h hle hi => (hbit i).2 (((hbit j).1 h).imp (fun h => ha.dn i j h hle hi) (fun h => hb.dn i j h hle hi))⟩
omit hw in
theorem isDn_down {k : Nat} (hk : k < m) : isDn up m (nth 0 (colsS up (m : Int) up.length) k) :=
  ⟨dn32 k, fun i h => ((dn_bit ho hk).1 h).1, fun i j h hle hi => by
    obtain ⟨h1, h2⟩ := (dn_bit ho hk).1 h
    exact (dn_bit ho hk).2 ⟨hi, ho.trans i j k (by omega) (by omega) hle h2⟩⟩
theorem WInv.out {k : Nat} {a b : Int} (h : WInv up m (k + 1) a b) (hk : k < m) (ha : ¬ bt a k = true) : WInv up m k a (ior .u32 b (nth 0 up k)) := by
  have hbit : ∀ i, bt (ior .u32 b (nth 0 up k)) i = true ↔ bt b i = true ∨ le up k i := fun i => by rw [bt_ior h.b32 (WL.nth hw k), Bool.or_eq_true]; exact Iff.rfl
  refine ⟨h.da, W32.ior, fun i j hi h1 h2 => ?_, fun i h1 h2 => ?_, fun j hj hjm => ?_⟩
  · rcases (hbit i).1 h1 with h1 | h1
    · exact (hbit j).2 (.inl (h.bup i j hi h1 h2))
    · exact (hbit j).2 (.inr (ho.trans k i j (by omega) (by omega) h1 h2))
  · rcases (hbit i).1 h2 with h2 | h2
    · exact h.off i h1 h2
    · exact ha (h.da.dn k i h1 h2 hk)
  · rcases Nat.lt_or_ge k j with hlt | hge
    · exact (h.all j hlt hjm).imp id fun h => (hbit j).2 (.inl h)
    · have : j = k := by omega
      subst this
      exact .inr ((hbit j).2 (.inr (ho.refl j (by omega))))
omit hw in
theorem WInv.into {k : Nat} {a b : Int} (h : WInv up m (k + 1) a b) (hk : k < m) (hc : ¬ ∃ y, y < m ∧ le up y k ∧ bt b y = true) : WInv up m k (ior .u32 a (nth 0 (colsS up (m : Int) up.length) k)) b := by
  have hbit : ∀ i, bt (ior .u32 a (nth 0 (colsS up (m : Int) up.length) k)) i = true ↔ bt a i = true ∨ i < m ∧ le up i k := fun i => by rw [bt_ior h.da.w32 (dn32 k), Bool.or_eq_true, dn_bit ho hk]
  refine ⟨isDn.or h.da (isDn_down ho hk), h.b32, h.bup, fun i h1 h2 => ?_, fun j hj hjm => ?_⟩
  · rcases (hbit i).1 h1 with h1 | h1
    · exact h.off i h1 h2
    · exact hc ⟨i, h1.1, h1.2, h2⟩
  · rcases Nat.lt_or_ge k j with hlt | hge
    · exact (h.all j hlt hjm).imp (fun h => (hbit j).2 (.inl h)) id
    · have : j = k := by omega
      subst this
      exact .inl ((hbit j).2 (.inr ⟨hk, ho.refl j (by omega)⟩))
theorem mem_dsL {D : Int} : ∀ k a b, k ≤ m → WInv up m k a b → (D ∈ dsL up (colsS up (m : Int) up.length) k a b ↔ isDn up m D ∧ (∀ i, bt a i = true → bt D i = true) ∧ ∀ i, bt D i = true → bt b i = true → False)
  | 0, a, b, _, h => by
    simp only [dsL, List.mem_singleton]
    constructor
    · rintro rfl
      exact ⟨h.da, fun _ h => h, h.off⟩
    · rintro ⟨h1, h2, h3⟩
      refine bt_ext h1.w32 h.da.w32 fun i _ => ?_
      rw [Bool.eq_iff_iff]
      constructor
      · intro hi
        rcases h.all i (Nat.zero_le _) (h1.lt i hi) with h4 | h4
        · exact h4
        · exact (h3 i hi h4).elim
      · exact h2 i
  | k + 1, a, b, hk, h => by
    have hk' : k < m := hk
    simp only [dsL, List.mem_append]
    have i1 : ¬ bt a k = true → (D ∈ dsL up (colsS up (m : Int) up.length) k a (ior .u32 b (nth 0 up k)) ↔ _) := fun ha => mem_dsL k a _ (by omega) (h.out hw ho hk' ha)
    have i2 : (¬ ∃ y, y < m ∧ le up y k ∧ bt b y = true) → (D ∈ dsL up (colsS up (m : Int) up.length) k (ior .u32 a (nth 0 (colsS up (m : Int) up.length) k)) b ↔ _) := fun hc => mem_dsL k _ b (by omega) (h.into ho hk' hc)
    have hob : ∀ i, bt (ior .u32 b (nth 0 up k)) i = true ↔ bt b i = true ∨ le up k i := fun i => by rw [bt_ior h.b32 (WL.nth hw k), Bool.or_eq_true]; exact Iff.rfl
    have hib : ∀ i, bt (ior .u32 a (nth 0 (colsS up (m : Int) up.length) k)) i = true ↔ bt a i = true ∨ i < m ∧ le up i k := fun i => by rw [bt_ior h.da.w32 (dn32 k), Bool.or_eq_true, dn_bit ho hk']
    have hcl := clash ho h.b32 hk'
    have hdead : (bt b k = true ∨ (iand .u32 (nth 0 (colsS up (m : Int) up.length) k) b != 0) = true) ↔ ∃ y, y < m ∧ le up y k ∧ bt b y = true := by
      rw [hcl]
      constructor
      · rintro (h1 | h1)
        · exact ⟨k, hk', ho.refl k (by omega), h1⟩
        · exact h1
      · exact .inr
    constructor
    · rintro (h1 | h1)
      · split at h1
        · cases h1
        · rename_i ha
          obtain ⟨q1, q2, q3⟩ := (i1 ha).1 h1
          exact ⟨q1, q2, fun i h4 h5 => q3 i h4 ((hob i).2 (.inl h5))⟩
      · split at h1
        · cases h1
        · rename_i hd
          obtain ⟨q1, q2, q3⟩ := (i2 fun h => hd (hdead.2 h)).1 h1
          exact ⟨q1, fun i h4 => q2 i ((hib i).2 (.inl h4)), q3⟩
    · rintro ⟨q1, q2, q3⟩
      by_cases hDk : bt D k = true
      · have hd : ¬ ∃ y, y < m ∧ le up y k ∧ bt b y = true := fun ⟨y, h4, h5, h6⟩ => q3 y (q1.dn y k hDk h5 h4) h6
        right
        rw [if_neg (fun h => hd (hdead.1 h))]
        refine (i2 hd).2 ⟨q1, fun i hi => ?_, q3⟩
        rcases (hib i).1 hi with hi | hi
        · exact q2 i hi
        · exact q1.dn i k hDk hi.2 hi.1
      · left
        have ha : ¬ bt a k = true := fun h => hDk (q2 k h)
        rw [if_neg ha]
        refine (i1 ha).2 ⟨q1, q2, fun i h4 h5 => ?_⟩
        rcases (hob i).1 h5 with h5 | h5
        · exact q3 i h4 h5
        · exact hDk (q1.dn k i h4 h5 hk')
theorem sorted_dsL : ∀ k a b, k ≤ m → WInv up m k a b → (dsL up (colsS up (m : Int) up.length) k a b).Pairwise (fun x y => x < y)
  | 0, a, b, _, h => List.pairwise_singleton _ _
  | k + 1, a, b, hk, h => by
    have hk' : k < m := hk
    have hob : ∀ i, bt (ior .u32 b (nth 0 up k)) i = true ↔ bt b i = true ∨ le up k i := fun i => by rw [bt_ior h.b32 (WL.nth hw k), Bool.or_eq_true]; exact Iff.rfl
    have hib : ∀ i, bt (ior .u32 a (nth 0 (colsS up (m : Int) up.length) k)) i = true ↔ bt a i = true ∨ i < m ∧ le up i k := fun i => by rw [bt_ior h.da.w32 (dn32 k), Bool.or_eq_true, dn_bit ho hk']
    simp only [dsL]
    refine List.pairwise_append.2 ⟨?_, ?_, fun x hx y hy => ?_⟩
    · split
      · exact List.Pairwise.nil
      · rename_i ha; exact sorted_dsL k _ _ (by omega) (h.out hw ho hk' ha)
    · split
      · exact List.Pairwise.nil
      · rename_i hd; exact sorted_dsL k _ _ (by omega) (h.into ho hk' fun h' => hd (.inr ((clash ho h.b32 hk').2 h')))
    · split at hx
      · cases hx
      rename_i ha
      split at hy
      · cases hy
      rename_i hd
      obtain ⟨x1, x2, x3⟩ := (mem_dsL hw ho k _ _ (by omega) (h.out hw ho hk' ha)).1 hx
      obtain ⟨y1, y2, y3⟩ := (mem_dsL hw ho k _ _ (by omega) (h.into ho hk' fun h' => hd (.inr ((clash ho h.b32 hk').2 h')))).1 hy
      have hxk : bt x k = false := Bool.eq_false_iff.2 fun hxk => x3 k hxk ((hob k).2 (.inr (ho.refl k (by omega))))
      have hyk : bt y k = true := y2 k ((hib k).2 (.inr ⟨hk', ho.refl k (by omega)⟩))
      have hag : ∀ j, k < j → bt x j = bt y j := fun j hj => by
        by_cases hjm : j < m
        · rcases h.all j hj hjm with h1 | h1
          · rw [x2 j h1, y2 j ((hib j).2 (.inl h1))]
          · rw [Bool.eq_false_iff.2 fun h2 => x3 j h2 ((hob j).2 (.inl h1)), Bool.eq_false_iff.2 fun h2 => y3 j h2 h1]
        · rw [Bool.eq_false_iff.2 fun h2 => hjm (x1.lt j h2), Bool.eq_false_iff.2 fun h2 => hjm (y1.lt j h2)]
      have := nat_lt_of_bit k hxk hyk hag
      have h1 := x1.w32.1
      have h2 := y1.w32.1
      omega
omit hw ho in
theorem winv0 : WInv up m m 0 0 :=
  ⟨⟨W32.zero, fun _ h => no0 h, fun _ _ h => no0 h⟩, W32.zero, fun _ _ _ h => no0 h, fun _ h => no0 h, fun _ h1 h2 => by omega⟩
/-- The down-sets. -/
abbrev downs (up : List Int) (m : Nat) : List Int := dsL up (colsS up (m : Int) up.length) m 0 0
theorem mem_downs {D : Int} : D ∈ downs up m ↔ isDn up m D := by
  rw [mem_dsL hw ho m 0 0 (Nat.le_refl _) winv0]
  exact ⟨fun h => h.1, fun h => ⟨h, fun _ h => no0 h, fun _ _ h => no0 h⟩⟩
theorem downs_sorted : (downs up m).Pairwise (fun x y => x < y) := sorted_dsL hw ho m 0 0 (Nat.le_refl _) winv0
theorem downs_nodup : (downs up m).Nodup := (downs_sorted hw ho).imp fun h => Int.ne_of_lt h
end
/-! ### The walks -/
section
variable {N m : Nat} (hm : m ≤ 16) {up : List Int} (hw : WL up) (ho : Ord (m : Int) up)
include hm hw ho
theorem walkC : ∀ k f, k ≤ m → k < f → ∀ a b : Int, WInv up m k a b → ∀ c : Int, 0 ≤ c → c + 2 ^ k ≤ 1099511627776 →
    R_downs_walk_c1_h N f ((k : Int) - 1, a, b, (m : Int), up, c, colsS up (m : Int) up.length) = some (true, (m : Int), up, c + ((dsL up (colsS up (m : Int) up.length) k a b).length : Int), colsS up (m : Int) up.length)
  | 0, f + 1, _, _, a, b, h, c, hc, hc2 => by
    simp only [R_downs_walk_c1_h, S_downs_walk_c1_h, downs_walk_c1_h_1, D_downs_Count_c1_h, downs_Count_c1_h_1, Option.bind_some, dsL, List.length_singleton]
    rw [d_true (by omega), cond_true, w64 (by omega) (by omega)]
    rfl
  | k + 1, f + 1, hk, hf, a, b, h, c, hc, hc2 => by
    have hk' : k < m := hk
    have hlu := ho.len
    have hp : (2 : Int) ^ (k + 1) = 2 ^ k + 2 ^ k := by rw [Int.pow_succ]; omega
    have hp0 : (0 : Int) ≤ 2 ^ k := Int.le_of_lt (Int.pow_pos (by omega))
    have hcst : ∀ a b, (((dsL up (colsS up (m : Int) up.length) k a b).length : Nat) : Int) ≤ 2 ^ k := fun a b => by
      have := dsL_len up (colsS up (m : Int) up.length) k a b
      have h2 : ((2 ^ k : Nat) : Int) = (2 : Int) ^ k := by simp
      omega
    have e1 : ((k + 1 : Nat) : Int) - 1 = (k : Int) := by omega
    have e2 : IntKind.i64.wrap ((k : Int) - 1) = (k : Int) - 1 := w64 (by omega) (by omega)
    rw [e1]
    have hcl : (colsS up (m : Int) up.length).length = m := by rw [colsS_len]; omega
    simp only [R_downs_walk_c1_h, S_downs_walk_c1_h, downs_walk_c1_h_1, d_false (show ¬ ((k : Int) < 0) by omega), cond_false, Has_eq N h.da.w32, Has_eq N h.b32, Option.bind_some, ge0_d, lt_d (show k < up.length by omega), hcl, lt_d hk', Bool.and_self, cond_true, Int.toNat_natCast, e2]
    have p2 : ∀ c' : Int, 0 ≤ c' → c' + 2 ^ k ≤ 1099511627776 → (bif bt b k then some (true, (m : Int), up, c', colsS up (m : Int) up.length) else bif iand .u32 (nth 0 (colsS up (m : Int) up.length) k) b != 0 then some (true, (m : Int), up, c', colsS up (m : Int) up.length)
        else (R_downs_walk_c1_h N f ((k : Int) - 1, ior .u32 a (nth 0 (colsS up (m : Int) up.length) k), b, (m : Int), up, c', colsS up (m : Int) up.length)).bind fun y => some (y.1, y.2.1, y.2.2.1, y.2.2.2.1, y.2.2.2.2)) =
        some (true, (m : Int), up, c' + (((if bt b k = true ∨ (iand .u32 (nth 0 (colsS up (m : Int) up.length) k) b != 0) = true then [] else dsL up (colsS up (m : Int) up.length) k (ior .u32 a (nth 0 (colsS up (m : Int) up.length) k)) b).length : Nat) : Int), colsS up (m : Int) up.length) := fun c' h1 h2 => by
      cases q1 : bt b k with
      | true => simp
      | false =>
        cases q2 : (iand .u32 (nth 0 (colsS up (m : Int) up.length) k) b != 0) with
        | true => simp
        | false =>
          have hi := h.into ho hk' fun h' => by rw [(clash ho h.b32 hk').2 h'] at q2; cases q2
          rw [cond_false, cond_false, walkC k f (by omega) (by omega) _ _ hi c' h1 h2, if_neg (by simp)]
          rfl
    simp only [dsL, List.length_append]
    by_cases q : bt a k = true
    · rw [if_pos q]
      simp only [q, Bool.not_true, cond_false, List.length_nil, Nat.zero_add]
      exact p2 c hc (by omega)
    · have ho1 := h.out hw ho hk' q
      rw [if_neg q]
      have q : bt a k = false := Bool.eq_false_iff.2 q
      have hb2 : W32 (ior .u32 b (nth 0 up k)) := W32.ior
      have hl1 := hcst a (ior .u32 b (nth 0 up k))
      simp only [q, Bool.not_false, cond_true, walkC k f (by omega) (by omega) a _ ho1 c hc (by omega), Option.bind_some, Bool.not_true, cond_false, hcl, lt_d hk', Has_eq N h.b32, ge0_d, Bool.and_self]
      rw [p2 _ (by omega) (by omega), Int.natCast_add, Int.add_assoc]
theorem Count_eq (hN : 40 ≤ N) : D_downs_Count N (((m : Int), up), ()) = some (((downs up m).length : Int), 0, ()) := by
  obtain ⟨e, h1, h2⟩ := Check_spec hN hw (m : Int)
  obtain rfl := h2.2 ho
  have hp : (2 : Int) ^ m ≤ 2 ^ 16 := by
    have : (2 : Nat) ^ m ≤ 2 ^ 16 := Nat.pow_le_pow_right (by omega) hm
    have h3 : ((2 ^ m : Nat) : Int) = (2 : Int) ^ m := by simp
    have h4 : ((2 ^ 16 : Nat) : Int) = (2 : Int) ^ 16 := by simp
    omega
  have e2 : IntKind.i64.wrap ((m : Int) - 1) = (m : Int) - 1 := w64 (by omega) (by omega)
  have := walkC (N := N) hm hw ho m N (Nat.le_refl _) (by omega) 0 0 winv0 0 (by omega) (by omega)
  simp only [D_downs_Count, downs_Count_1, h1, Option.bind_some, bne_self_eq_false, cond_false, D_downs_walk_h, downs_walk_h_1, Down_eq hw ho hN, e2, D_downs_walk_c1_h, this]
  rw [Int.zero_add]
theorem walkA : ∀ k f, k ≤ m → k < f → ∀ a b : Int, WInv up m k a b → ∀ l : List Int, l.length ≤ 256 →
    R_downs_walk_c1_h2 N f ((k : Int) - 1, a, b, (m : Int), up, colsS up (m : Int) up.length, l) =
      some (Nat.ble (l ++ dsL up (colsS up (m : Int) up.length) k a b).length 256, (m : Int), up, colsS up (m : Int) up.length, (l ++ dsL up (colsS up (m : Int) up.length) k a b).take 257)
  | 0, f + 1, _, _, a, b, h, l, hl => by
    simp only [R_downs_walk_c1_h2, S_downs_walk_c1_h2, downs_walk_c1_h2_1, D_downs_All_c1_h2, downs_All_c1_h2_1, Option.bind_some, dsL]
    rw [d_true (show ((0 : Nat) : Int) - 1 < 0 by omega), cond_true, d_true (by simp; omega)]
    have e : decide (((l ++ [a]).length : Int) ≤ 256) = Nat.ble (l ++ [a]).length 256 := by
      rw [Bool.eq_iff_iff, decide_eq_true_eq, Nat.ble_eq]; omega
    have e2 : (l ++ [a]).take 257 = l ++ [a] := List.take_of_length_le (by simp; omega)
    simp only [show Nat.ble 1 4 = true from rfl, Bool.and_self, cond_true, Option.bind_some, e, e2]
  | k + 1, f + 1, hk, hf, a, b, h, l, hl => by
    have hk' : k < m := hk
    have hlu := ho.len
    have e1 : ((k + 1 : Nat) : Int) - 1 = (k : Int) := by omega
    have e2 : IntKind.i64.wrap ((k : Int) - 1) = (k : Int) - 1 := w64 (by omega) (by omega)
    rw [e1]
    have hcl : (colsS up (m : Int) up.length).length = m := by rw [colsS_len]; omega
    simp only [R_downs_walk_c1_h2, S_downs_walk_c1_h2, downs_walk_c1_h2_1, d_false (show ¬ ((k : Int) < 0) by omega), cond_false, Has_eq N h.da.w32, Has_eq N h.b32, Option.bind_some, ge0_d, lt_d (show k < up.length by omega), hcl, lt_d hk', Bool.and_self, cond_true, Int.toNat_natCast, e2]
    have p2 : ∀ l' : List Int, l'.length ≤ 256 → (bif bt b k then some (true, (m : Int), up, colsS up (m : Int) up.length, l') else bif iand .u32 (nth 0 (colsS up (m : Int) up.length) k) b != 0 then some (true, (m : Int), up, colsS up (m : Int) up.length, l')
        else (R_downs_walk_c1_h2 N f ((k : Int) - 1, ior .u32 a (nth 0 (colsS up (m : Int) up.length) k), b, (m : Int), up, colsS up (m : Int) up.length, l')).bind fun y => some (y.1, y.2.1, y.2.2.1, y.2.2.2.1, y.2.2.2.2)) =
        some (Nat.ble (l' ++ (if bt b k = true ∨ (iand .u32 (nth 0 (colsS up (m : Int) up.length) k) b != 0) = true then [] else dsL up (colsS up (m : Int) up.length) k (ior .u32 a (nth 0 (colsS up (m : Int) up.length) k)) b)).length 256, (m : Int), up, colsS up (m : Int) up.length,
          (l' ++ (if bt b k = true ∨ (iand .u32 (nth 0 (colsS up (m : Int) up.length) k) b != 0) = true then [] else dsL up (colsS up (m : Int) up.length) k (ior .u32 a (nth 0 (colsS up (m : Int) up.length) k)) b)).take 257) := fun l' h1 => by
      have e3 : l'.take 257 = l' := List.take_of_length_le (by omega)
      have e5 : Nat.ble l'.length 256 = true := Nat.ble_eq_true_of_le h1
      cases q1 : bt b k with
      | true => simp [e5, e3]
      | false =>
        cases q2 : (iand .u32 (nth 0 (colsS up (m : Int) up.length) k) b != 0) with
        | true => simp [e5, e3]
        | false =>
          have hi := h.into ho hk' fun h' => by rw [(clash ho h.b32 hk').2 h'] at q2; cases q2
          rw [cond_false, cond_false, walkA k f (by omega) (by omega) _ _ hi l' h1, if_neg (by simp)]
          rfl
    simp only [dsL]
    by_cases q : bt a k = true
    · rw [if_pos q]
      simp only [q, Bool.not_true, cond_false, List.nil_append]
      exact p2 l hl
    · have ho1 := h.out hw ho hk' q
      rw [if_neg q]
      have q : bt a k = false := Bool.eq_false_iff.2 q
      simp only [q, Bool.not_false, cond_true, walkA k f (by omega) (by omega) a _ ho1 l hl, Option.bind_some]
      generalize hP : dsL up (colsS up (m : Int) up.length) k a (ior .u32 b (nth 0 up k)) = P
      generalize hQ : (if bt b k = true ∨ (iand .u32 (nth 0 (colsS up (m : Int) up.length) k) b != 0) = true then [] else dsL up (colsS up (m : Int) up.length) k (ior .u32 a (nth 0 (colsS up (m : Int) up.length) k)) b) = Q at p2 ⊢
      by_cases hs : (l ++ P).length ≤ 256
      · have e3 : (l ++ P).take 257 = l ++ P := List.take_of_length_le (by omega)
        rw [Nat.ble_eq_true_of_le hs, e3]
        simp only [Bool.not_true, cond_false, hcl, lt_d hk', Has_eq N h.b32, ge0_d, Bool.and_self, Option.bind_some, cond_true]
        rw [p2 _ hs, List.append_assoc]
      · rw [show Nat.ble (l ++ P).length 256 = false from Bool.eq_false_iff.2 fun h => hs (Nat.le_of_ble_eq_true h), ← List.append_assoc]
        simp only [Bool.not_false, cond_true]
        have e4 : ((l ++ P) ++ Q).take 257 = (l ++ P).take 257 := by rw [List.take_append_of_le_length (by omega)]
        rw [e4, show Nat.ble (l ++ P ++ Q).length 256 = false from Bool.eq_false_iff.2 fun h => hs (by have := Nat.le_of_ble_eq_true h; rw [List.length_append] at this; omega)]
theorem All_eq2 (hN : 40 ≤ N) : D_downs_All N (((m : Int), up), ()) = if (downs up m).length ≤ 256 then some (downs up m, 0, ()) else some ([], 1, ()) := by
  obtain ⟨e, h1, h2⟩ := Check_spec hN hw (m : Int)
  obtain rfl := h2.2 ho
  have e2 : IntKind.i64.wrap ((m : Int) - 1) = (m : Int) - 1 := w64 (by omega) (by omega)
  have := walkA (N := N) hm hw ho m N (Nat.le_refl _) (by omega) 0 0 winv0 [] (by simp)
  simp only [D_downs_All, downs_All_1, h1, Option.bind_some, bne_self_eq_false, cond_false, D_downs_walk_h2, downs_walk_h2_1, Down_eq hw ho hN, e2, D_downs_walk_c1_h2, this, List.nil_append]
  by_cases q : (downs up m).length ≤ 256
  · have q' : (dsL up (colsS up (m : Int) up.length) m 0 0).length ≤ 256 := q
    rw [if_pos q, d_false (by rw [List.length_take]; omega), cond_false, List.take_of_length_le (by omega)]
  · have q' : ¬ (dsL up (colsS up (m : Int) up.length) m 0 0).length ≤ 256 := q
    rw [if_neg q, d_true (by rw [List.length_take, Nat.min_eq_left (by omega)]; omega), cond_true]
end
end Go.Proofs.YtagghgmpdjoknaaDoor
