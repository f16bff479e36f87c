/- Orders on the numbers below n, as words; counted loops. -/
import Derived.Test.YtnieamciihdfpaaAbsLp
namespace Go.Abs
open Classical in
/-- A counted loop that looks for a bad number. -/
theorem loopD_all {R : Type} {g : Int → (Int → Option R) → Option R} {n : Nat} (hn : n < 4611686018427387904) {r k : Option R} (bad : Nat → Prop)
    (h1 : ∀ i : Nat, i < n → bad i → ∀ kn, g i kn = r) (h2 : ∀ i : Nat, i < n → ¬ bad i → ∀ kn, g i kn = kn ((i : Int) + 1)) (h3 : ∀ kn, g n kn = k) {N : Nat} (hN : n < N) (a : Nat) (ha : a ≤ n) :
    loopD g N (a : Int) = if ∃ i, a ≤ i ∧ i < n ∧ bad i then r else k := by
  refine loopD_const (fun s => ∃ i : Nat, s = (i : Int) ∧ a ≤ i ∧ i ≤ n ∧ ∀ j, a ≤ j → j < i → ¬ bad j) (fun s => n - s.toNat) _ ?_ N _ ⟨a, rfl, Nat.le_refl _, ha, fun j h h' => by omega⟩ (by simp; omega)
  rintro s ⟨i, rfl, hai, hi, hok⟩ kn hkn
  by_cases hin : i < n
  · by_cases hb : bad i
    · rw [h1 i hin hb, if_pos ⟨i, hai, hin, hb⟩]
    · rw [h2 i hin hb]
      refine hkn _ ⟨i + 1, by omega, by omega, by omega, fun j h h' => ?_⟩ (by simp; omega)
      by_cases e : j = i
      · subst e; exact hb
      · exact hok j h (by omega)
  · have : i = n := by omega
    subst this
    rw [h3, if_neg]
    rintro ⟨j, h, h', hb⟩
    exact hok j h h' hb
/-- A counted loop that comes upon a bad number. -/
theorem loopD_hit {R : Type} {g : Int → (Int → Option R) → Option R} {n : Nat} (hn : n < 4611686018427387904) {r : Option R} (bad : Nat → Prop)
    (h1 : ∀ i : Nat, i < n → bad i → ∀ kn, g i kn = r) (h2 : ∀ i : Nat, i < n → ¬ bad i → ∀ kn, g i kn = kn ((i : Int) + 1)) {N : Nat} (hN : n < N) (hb : ∃ i, i < n ∧ bad i) : loopD g N 0 = r := by
  obtain ⟨b, hbn, hbb⟩ := hb
  refine loopD_const (fun s => ∃ i : Nat, s = (i : Int) ∧ i ≤ n ∧ ∀ j, j < i → ¬ bad j) (fun s => n - s.toNat) _ ?_ N _ ⟨0, rfl, Nat.zero_le _, fun j h => by omega⟩ (by simp; omega)
  rintro s ⟨i, rfl, hi, hok⟩ kn hkn
  have hin : i < n := by
    rcases Nat.lt_or_ge i n with h | h
    · exact h
    · exact absurd hbb (hok b (by omega))
  by_cases hb : bad i
  · exact h1 i hin hb kn
  · rw [h2 i hin hb]
    refine hkn _ ⟨i + 1, by omega, by omega, fun j h => ?_⟩ (by simp; omega)
    by_cases e : j = i
    · subst e; exact hb
    · exact hok j (by omega)
/-- A counted loop that goes through. -/
theorem loopD_pass {R : Type} {g : Int → (Int → Option R) → Option R} {n : Nat} (hn : n < 4611686018427387904) {k : Option R} (h2 : ∀ i : Nat, i < n → ∀ kn, g i kn = kn ((i : Int) + 1)) (h3 : ∀ kn, g n kn = k) {N : Nat} (hN : n < N) : loopD g N 0 = k := by
  refine loopD_const (fun s => ∃ i : Nat, s = (i : Int) ∧ i ≤ n) (fun s => n - s.toNat) _ ?_ N _ ⟨0, rfl, Nat.zero_le _⟩ (by simp; omega)
  rintro s ⟨i, rfl, hi⟩ kn hkn
  by_cases hin : i < n
  · rw [h2 i hin]
    exact hkn _ ⟨i + 1, by omega, by omega⟩ (by simp; omega)
  · have : i = n := by omega
    subst this
    exact h3 kn
def le (up : List Int) (i j : Nat) : Prop := bt (nth 0 up i) j = true
instance {up : List Int} {i j : Nat} : Decidable (le up i j) := inferInstanceAs (Decidable (_ = true))
/-- An order that may be. -/
structure Ord (n : Int) (up : List Int) : Prop where
  h0 : 0 ≤ n
  h1 : n ≤ 16
  len : up.length = n.toNat
  inn : ∀ i, i < n.toNat → ∀ j, le up i j → j < n.toNat
  refl : ∀ i, i < n.toNat → le up i i
  anti : ∀ i j, i < n.toNat → j < n.toNat → le up i j → le up j i → i = j
  trans : ∀ i j k, i < n.toNat → j < n.toNat → le up i j → le up j k → le up i k
theorem d_true {p : Prop} [Decidable p] (h : p) : decide p = true := decide_eq_true h
theorem d_false {p : Prop} [Decidable p] (h : ¬ p) : decide p = false := decide_eq_false h
/-! ### Least elements -/
theorem filter_lt {α : Type} {p q : α → Bool} : (l : List α) → (∀ x ∈ l, p x = true → q x = true) → (∃ x ∈ l, q x = true ∧ p x = false) → (l.filter p).length < (l.filter q).length
  | [], _, h => by obtain ⟨x, hx, _⟩ := h; cases hx
  | x :: l, h1, h2 => by
    have hle : ∀ l : List α, (∀ x ∈ l, p x = true → q x = true) → (l.filter p).length ≤ (l.filter q).length := fun l => by
      induction l with
      | nil => intro _; simp
      | cons x l ih =>
        intro h
        have := ih fun y hy => h y (by simp [hy])
        have hx := h x (by simp)
        cases hp : p x with
        | true => simp [List.filter_cons, hp, hx hp]; omega
        | false => cases hq : q x <;> simp [List.filter_cons, hp, hq] <;> omega
    have hx := h1 x (by simp)
    have hl := hle l fun y hy => h1 y (by simp [hy])
    by_cases hxx : q x = true ∧ p x = false
    · simp [List.filter_cons, hxx.1, hxx.2]; omega
    · have : ∃ y ∈ l, q y = true ∧ p y = false := by
        obtain ⟨y, hy, h3⟩ := h2
        rcases List.mem_cons.1 hy with rfl | hy
        · exact absurd h3 hxx
        · exact ⟨y, hy, h3⟩
      have ih := filter_lt l (fun y hy => h1 y (by simp [hy])) this
      cases hp : p x with
      | true => simp [List.filter_cons, hp, hx hp]; omega
      | false => cases hq : q x <;> simp [List.filter_cons, hp, hq] <;> omega
/-- Among the numbers with a property one has none of them strictly below it. -/
theorem Ord.least {n : Int} {up : List Int} (h : Ord n up) (p : Nat → Prop) {i : Nat} (hi : i < n.toNat) (hp : p i) : ∃ i, i < n.toNat ∧ p i ∧ ∀ y, y < n.toNat → p y → le up y i → y = i := by
  have key : ∀ k i, ((List.range n.toNat).filter fun x => decide (le up x i)).length ≤ k → i < n.toNat → p i → ∃ i, i < n.toNat ∧ p i ∧ ∀ y, y < n.toNat → p y → le up y i → y = i := by
    intro k
    induction k with
    | zero =>
      intro i hk hi _
      have : i ∈ (List.range n.toNat).filter fun x => decide (le up x i) := List.mem_filter.2 ⟨List.mem_range.2 hi, decide_eq_true (h.refl i hi)⟩
      have := List.length_pos_of_mem this
      omega
    | succ k ih =>
      intro i hk hi hp
      by_cases hm : ∃ y, y < n.toNat ∧ p y ∧ le up y i ∧ y ≠ i
      · obtain ⟨y, hy, hpy, hle, hne⟩ := hm
        refine ih y ?_ hy hpy
        have := filter_lt (p := fun x => decide (le up x y)) (q := fun x => decide (le up x i)) (List.range n.toNat) (fun x hx h1 => decide_eq_true (h.trans x y i (List.mem_range.1 hx) hy (of_decide_eq_true h1) hle))
          ⟨i, List.mem_range.2 hi, decide_eq_true (h.refl i hi), decide_eq_false fun h1 => hne (h.anti y i hy hi hle h1)⟩
        omega
      · exact ⟨i, hi, hp, fun y hy hpy hle => Classical.byContradiction fun hne => hm ⟨y, hy, hpy, hle, hne⟩⟩
  exact key _ i (Nat.le_refl _) hi hp
/-! ### Turned round -/
def colsS (rows : List Int) (n : Int) (k : Nat) : List Int := (List.range n.toNat).map fun j => mkw k fun i => bt (nth 0 rows i) j
theorem colsS_len (rows : List Int) (n : Int) (k : Nat) : (colsS rows n k).length = n.toNat := by simp [colsS]
theorem nth_cols {rows : List Int} {n : Int} {k j : Nat} (hj : j < n.toNat) : nth 0 (colsS rows n k) j = mkw k fun i => bt (nth 0 rows i) j := by
  rw [nth_lt (by rw [colsS_len]; exact hj)]; simp [colsS]
theorem WL.colsS (rows : List Int) (n : Int) (k : Nat) : WL (colsS rows n k) := fun x hx => by
  unfold Abs.colsS at hx
  obtain ⟨j, _, rfl⟩ := List.mem_map.1 hx
  exact W32.mkw _ _
theorem cols_step {rows : List Int} (hw : WL rows) {n : Int} {k : Nat} (hk : k < 32) (hin : ∀ j, bt (nth 0 rows k) j = true → j < n.toNat) :
    (els (nth 0 rows k)).foldl (fun cs j => cs.set j (ior .u32 (nth 0 cs j) (one k))) (colsS rows n k) = colsS rows n (k + 1) := by
  have hW := WL.nth hw k
  have key : ∀ (l : List Nat) (cs : List Int), l.Nodup → (∀ j ∈ l, j < cs.length) → (l.foldl (fun cs j => cs.set j (ior .u32 (nth 0 cs j) (one k))) cs).length = cs.length ∧
      ∀ j, nth 0 (l.foldl (fun cs j => cs.set j (ior .u32 (nth 0 cs j) (one k))) cs) j = if j ∈ l then ior .u32 (nth 0 cs j) (one k) else nth 0 cs j := by
    intro l
    induction l with
    | nil => intro cs _ _; exact ⟨rfl, fun j => by simp⟩
    | cons i l ih =>
      intro cs hn hl
      obtain ⟨h1, h2⟩ := List.nodup_cons.1 hn
      obtain ⟨h3, h4⟩ := ih (cs.set i (ior .u32 (nth 0 cs i) (one k))) h2 (fun j hj => by rw [List.length_set]; exact hl j (by simp [hj]))
      refine ⟨by rw [List.foldl_cons, h3, List.length_set], fun j => ?_⟩
      rw [List.foldl_cons, h4, nth_set (hl i (by simp))]
      by_cases hij : i = j
      · subst hij; simp [h1]
      · simp [hij, Ne.symm hij]
  have hnd := nodup_els (nth 0 rows k)
  have hlt : ∀ j ∈ els (nth 0 rows k), j < (colsS rows n k).length := fun j hj => by rw [colsS_len]; exact hin j (mem_els'.1 hj).2
  obtain ⟨h1, h2⟩ := key _ _ hnd hlt
  refine ext_nth (by rw [h1, colsS_len, colsS_len]) fun j hj => ?_
  rw [h1, colsS_len] at hj
  rw [h2, nth_cols hj, nth_cols hj, mkw_succ, Bool.cond_eq_ite]
  simp only [mem_els hW]

/-- The dual order. -/
abbrev dual (up : List Int) : List Int := colsS up (up.length : Nat) up.length
theorem le_cols {up : List Int} {n : Int} (hl : up.length ≤ 32) {i j : Nat} (hj : j < n.toNat) : le (colsS up n up.length) j i ↔ i < up.length ∧ le up i j := by
  unfold le
  rw [nth_cols hj, bt_mkw hl]
  simp
theorem Ord.dual {n : Int} {up : List Int} (h : Ord n up) : Ord n (colsS up n up.length) where
  h0 := h.h0
  h1 := h.h1
  len := colsS_len _ _ _
  inn := fun i hi j hj => by
    have := ((le_cols (by have := h.len; have := h.h1; omega) hi).1 hj).1
    rw [h.len] at this; exact this
  refl := fun i hi => (le_cols (by have := h.len; have := h.h1; omega) hi).2 ⟨by rw [h.len]; exact hi, h.refl i hi⟩
  anti := fun i j hi hj h1 h2 => by
    have hl : up.length ≤ 32 := by have := h.len; have := h.h1; omega
    exact h.anti i j hi hj ((le_cols hl hj).1 h2).2 ((le_cols hl hi).1 h1).2
  trans := fun i j k hi hj h1 h2 => by
    have hl : up.length ≤ 32 := by have := h.len; have := h.h1; omega
    have h3 := (le_cols hl hi).1 h1
    have h4 := (le_cols hl hj).1 h2
    exact (le_cols hl hi).2 ⟨h4.1, h.trans k j i (by rw [← h.len]; exact h4.1) hj h4.2 h3.2⟩
theorem le_dual {n : Int} {up : List Int} (h : Ord n up) {i j : Nat} (hi : i < n.toNat) (hj : j < n.toNat) : le (colsS up n up.length) j i ↔ le up i j := by
  rw [le_cols (by have := h.len; have := h.h1; omega) hj, h.len]
  exact ⟨fun h => h.2, fun h => ⟨hi, h⟩⟩
/-- Covers: nothing between. -/
def cov (up : List Int) (i j : Nat) : Prop := le up i j ∧ j ≠ i ∧ ∀ x, le up i x → x ≠ i → le up x j → j = x
def aboveW (up : List Int) (i : Nat) : Int := (els (iandNot .u32 (nth 0 up i) (one i))).foldl (fun w j => iandNot .u32 w (iandNot .u32 (nth 0 up j) (one j))) (iandNot .u32 (nth 0 up i) (one i))
theorem above_fold {up : List Int} (hw : WL up) (l : List Nat) (hl : ∀ j ∈ l, j < 32) {w : Int} (hW : W32 w) : W32 (l.foldl (fun w j => iandNot .u32 w (iandNot .u32 (nth 0 up j) (one j))) w) ∧
    ∀ k, bt (l.foldl (fun w j => iandNot .u32 w (iandNot .u32 (nth 0 up j) (one j))) w) k = true ↔ bt w k = true ∧ ∀ j ∈ l, le up j k → k = j := by
  induction l generalizing w with
  | nil => exact ⟨hW, fun k => by simp⟩
  | cons i l ih =>
    obtain ⟨h1, h2⟩ := ih (fun j hj => hl j (by simp [hj])) (w := iandNot .u32 w (iandNot .u32 (nth 0 up i) (one i))) W32.iandNot
    refine ⟨h1, fun k => ?_⟩
    rw [List.foldl_cons, h2, bt_iandNot hW W32.iandNot, bt_iandNot (WL.nth hw i) (W32.one i), bt_one (hl i (by simp))]
    simp only [List.mem_cons, forall_eq_or_imp, Bool.and_eq_true, Bool.not_eq_true', Bool.and_eq_false_imp, Bool.not_eq_false', decide_eq_true_eq, and_assoc]
    exact Iff.rfl
theorem bt_above {up : List Int} (hw : WL up) {i : Nat} (hi : i < 32) : W32 (aboveW up i) ∧ ∀ j, bt (aboveW up i) j = true ↔ cov up i j := by
  have hW : W32 (iandNot .u32 (nth 0 up i) (one i)) := W32.iandNot
  obtain ⟨h1, h2⟩ := above_fold hw (els (iandNot .u32 (nth 0 up i) (one i))) (fun j hj => (mem_els'.1 hj).1) hW
  have hb : ∀ j, bt (iandNot .u32 (nth 0 up i) (one i)) j = true ↔ le up i j ∧ j ≠ i := fun j => by
    rw [bt_iandNot (WL.nth hw i) (W32.one i), bt_one hi]
    simp [le]
  refine ⟨h1, fun j => ?_⟩
  unfold aboveW cov
  rw [h2, hb]
  simp only [mem_els hW, hb, and_imp, and_assoc]
theorem cov_dual {n : Int} {up : List Int} (h : Ord n up) {i j : Nat} (hi : i < n.toNat) (hj : j < n.toNat) : cov (colsS up n up.length) j i ↔ cov up i j := by
  have hd := h.dual
  unfold cov
  rw [le_dual h hi hj]
  constructor
  · rintro ⟨h1, h2, h3⟩
    refine ⟨h1, fun e => h2 e.symm, fun x h4 h5 h6 => ?_⟩
    have hx := h.inn i hi x h4
    apply Classical.byContradiction
    intro hne
    exact h5 (h3 x ((le_dual h hx hj).2 h6) (fun e => hne e.symm) ((le_dual h hi hx).2 h4)).symm
  · rintro ⟨h1, h2, h3⟩
    refine ⟨h1, fun e => h2 e.symm, fun x h4 h5 h6 => ?_⟩
    have hx := hd.inn j hj x h4
    apply Classical.byContradiction
    intro hne
    exact h5 (h3 x ((le_dual h hi hx).1 h6) (fun e => hne e.symm) ((le_dual h hx hj).1 h4)).symm
theorem dual_dual {n : Int} {up : List Int} (hw : WL up) (h : Ord n up) : colsS (colsS up n up.length) n (colsS up n up.length).length = up := by
  have hd := h.dual
  have hl : (colsS up n up.length).length = up.length := by rw [colsS_len, h.len]
  refine ext_nth (by rw [colsS_len, h.len]) fun i hi => ?_
  rw [colsS_len] at hi
  refine bt_ext ((WL.colsS _ _ _).nth i) (hw.nth i) fun j _ => ?_
  rw [Bool.eq_iff_iff]
  have e := le_cols (up := colsS up n up.length) (n := n) (by rw [hl]; have := h.len; have := h.h1; omega) (i := j) hi
  refine e.trans ⟨fun h' => ?_, fun h' => ?_⟩
  · have h3 : j < n.toNat := by have := h'.1; rw [hl, h.len] at this; exact this
    exact (le_dual h hi h3).1 h'.2
  · have hj := h.inn i hi j h'
    exact ⟨by rw [hl, h.len]; exact hj, (le_dual h hi hj).2 h'⟩
/-- Above each number with a property stands one with none above it. -/
theorem Ord.top {n : Int} {up : List Int} (h : Ord n up) (p : Nat → Prop) {i : Nat} (hi : i < n.toNat) (hp : p i) : ∃ j, j < n.toNat ∧ p j ∧ le up i j ∧ ∀ y, y < n.toNat → p y → le up j y → y = j := by
  obtain ⟨j, hj, ⟨h1, h2⟩, h3⟩ := h.dual.least (fun y => p y ∧ le up i y) hi ⟨hp, h.refl i hi⟩
  exact ⟨j, hj, h1, h2, fun y hy hpy hle => h3 y hy ⟨hpy, h.trans i j y hi hj h2 hle⟩ ((le_dual h hj hy).2 hle)⟩
/-- The covers as a list, in its order. -/
def coversL (up : List Int) (m : Nat) : List (Int × Int) := (List.range m).flatMap fun i => (els (aboveW up i)).map fun (j : Nat) => ((i : Int), (j : Int))
theorem mem_covers {up : List Int} (hw : WL up) {m : Nat} (hm : m ≤ 32) {p : Int × Int} : p ∈ coversL up m ↔ ∃ i j : Nat, p = ((i : Int), (j : Int)) ∧ i < m ∧ cov up i j := by
  unfold coversL
  simp only [List.mem_flatMap, List.mem_range, List.mem_map]
  constructor
  · rintro ⟨i, hi, j, hj, rfl⟩
    exact ⟨i, j, rfl, hi, ((bt_above hw (by omega)).2 j).1 (mem_els'.1 hj).2⟩
  · rintro ⟨i, j, rfl, hi, hc⟩
    obtain ⟨h1, h2⟩ := bt_above hw (show i < 32 by omega)
    exact ⟨i, hi, j, (mem_els h1).2 ((h2 j).2 hc), rfl⟩
theorem nodup_covers (up : List Int) (m : Nat) : (coversL up m).Nodup := by
  unfold coversL List.Nodup
  rw [List.pairwise_flatMap]
  refine ⟨fun i _ => ?_, List.Pairwise.imp (R := fun a b : Nat => a ≠ b) (fun {a b} hab x hx y hy e => ?_) List.nodup_range⟩
  · rw [List.pairwise_map]
    exact List.Pairwise.imp (fun {a b} hab e => hab (by simp at e; omega)) (nodup_els (aboveW up i))
  · obtain ⟨_, _, rfl⟩ := List.mem_map.1 hx
    obtain ⟨_, _, rfl⟩ := List.mem_map.1 hy
    simp at e
    omega
theorem covers_len (up : List Int) (m : Nat) : (coversL up m).length ≤ 32 * m := by
  induction m with
  | zero => simp [coversL]
  | succ m ih =>
    have : coversL up (m + 1) = coversL up m ++ (els (aboveW up m)).map fun (j : Nat) => ((m : Int), (j : Int)) := by simp [coversL, List.range_succ, List.flatMap_append]
    rw [this, List.length_append, List.length_map]
    have : (els (aboveW up m)).length ≤ 32 := by
      unfold els
      exact Nat.le_trans (List.length_filter_le _ _) (by simp)
    omega
theorem len_dual {n : Int} {up : List Int} (hw : WL up) (h : Ord n up) : (coversL (colsS up n up.length) n.toNat).length = (coversL up n.toNat).length := by
  have hm : n.toNat ≤ 32 := by have := h.h1; omega
  have hd := h.dual
  have p : List.Perm ((coversL up n.toNat).map fun p => (p.2, p.1)) (coversL (colsS up n up.length) n.toNat) := by
    rw [List.perm_ext_iff_of_nodup ?_ (nodup_covers _ _)]
    · intro p
      rw [mem_covers (WL.colsS _ _ _) hm, List.mem_map]
      constructor
      · rintro ⟨q, hq, rfl⟩
        obtain ⟨i, j, rfl, hi, hc⟩ := (mem_covers hw hm).1 hq
        have hj := h.inn i hi j hc.1
        exact ⟨j, i, rfl, hj, (cov_dual h hi hj).2 hc⟩
      · rintro ⟨i, j, rfl, hi, hc⟩
        have hj := hd.inn i hi j hc.1
        exact ⟨((j : Int), (i : Int)), (mem_covers hw hm).2 ⟨j, i, rfl, hj, (cov_dual h hj hi).1 hc⟩, rfl⟩
    · unfold List.Nodup
      rw [List.pairwise_map]
      exact List.Pairwise.imp (fun {a b} hab e => hab (by obtain ⟨a1, a2⟩ := a; obtain ⟨b1, b2⟩ := b; simp at e; simp [e.1, e.2])) (nodup_covers up n.toNat)
  rw [← p.length_eq, List.length_map]
/-! ### Loops with a known path, or with an invariant -/
theorem loopD_path {R S : Type} {g : S → (S → Option R) → Option R} (n : Nat) (st : Nat → S) {k : Option R} (h2 : ∀ i, i < n → ∀ kn, g (st i) kn = kn (st (i + 1))) (h3 : ∀ kn, g (st n) kn = k) {N : Nat} (hN : n < N) : loopD g N (st 0) = k := by
  have key : ∀ d N a, a + d = n → d < N → loopD g N (st a) = k := by
    intro d
    induction d with
    | zero =>
      intro N a ha hd
      obtain ⟨N, rfl⟩ : ∃ M, N = M + 1 := ⟨N - 1, by omega⟩
      obtain rfl : a = n := by omega
      exact h3 _
    | succ d ih =>
      intro N a ha hd
      obtain ⟨N, rfl⟩ : ∃ M, N = M + 1 := ⟨N - 1, by omega⟩
      show g (st a) (loopD g N) = k
      rw [h2 a (by omega)]
      exact ih N (a + 1) (by omega) (by omega)
  exact key n N 0 (by omega) hN
theorem loopD_inv {R S : Type} {g : S → (S → Option R) → Option R} (n : Nat) (I : Nat → S → Prop) {k : S → Option R} (h2 : ∀ i s, i < n → I i s → ∃ s', I (i + 1) s' ∧ ∀ kn, g s kn = kn s') (h3 : ∀ s, I n s → ∀ kn, g s kn = k s) {N : Nat} (hN : n < N) {s : S} (h0 : I 0 s) :
    ∃ s', I n s' ∧ loopD g N s = k s' := by
  have key : ∀ d N a s, a + d = n → d < N → I a s → ∃ s', I n s' ∧ loopD g N s = k s' := by
    intro d
    induction d with
    | zero =>
      intro N a s ha hd hi
      obtain ⟨N, rfl⟩ : ∃ M, N = M + 1 := ⟨N - 1, by omega⟩
      obtain rfl : a = n := by omega
      exact ⟨s, hi, h3 s hi _⟩
    | succ d ih =>
      intro N a s ha hd hi
      obtain ⟨N, rfl⟩ : ∃ M, N = M + 1 := ⟨N - 1, by omega⟩
      obtain ⟨s', hi', e⟩ := h2 a s (by omega) hi
      show ∃ s', I n s' ∧ g s (loopD g N) = k s'
      rw [e]
      exact ih N (a + 1) s' (by omega) (by omega) hi'
  exact key n N 0 s (by omega) hN h0
theorem loopD_hitU {R : Type} {g : Int → (Int → Option R) → Option R} {n : Nat} {r : Option R} (bad : Nat → Prop)
    (h1 : ∀ i : Nat, i < n → bad i → ∀ kn, g i kn = r) (h2 : ∀ i : Nat, i < n → ¬ bad i → ∀ kn, g i kn = kn ((i : Int) + 1)) {N : Nat} (hN : n < N) (hb : ∃ i, i < n ∧ bad i) : loopD g N 0 = r := by
  obtain ⟨b, hbn, hbb⟩ := hb
  refine loopD_const (fun s => ∃ i : Nat, s = (i : Int) ∧ i ≤ n ∧ ∀ j, j < i → ¬ bad j) (fun s => n - s.toNat) _ ?_ N _ ⟨0, rfl, Nat.zero_le _, fun j h => by omega⟩ (by simp; omega)
  rintro s ⟨i, rfl, hi, hok⟩ kn hkn
  have hin : i < n := by
    rcases Nat.lt_or_ge i n with h | h
    · exact h
    · exact absurd hbb (hok b (by omega))
  by_cases hb : bad i
  · exact h1 i hin hb kn
  · rw [h2 i hin hb]
    refine hkn _ ⟨i + 1, by omega, by omega, fun j h => ?_⟩ (by simp; omega)
    by_cases e : j = i
    · subst e; exact hb
    · exact hok j (by omega)
theorem loopD_passU {R : Type} {g : Int → (Int → Option R) → Option R} {n : Nat} {k : Option R} (h2 : ∀ i : Nat, i < n → ∀ kn, g i kn = kn ((i : Int) + 1)) (h3 : ∀ kn, g n kn = k) {N : Nat} (hN : n < N) : loopD g N 0 = k := by
  refine loopD_const (fun s => ∃ i : Nat, s = (i : Int) ∧ i ≤ n) (fun s => n - s.toNat) _ ?_ N _ ⟨0, rfl, Nat.zero_le _⟩ (by simp; omega)
  rintro s ⟨i, rfl, hi⟩ kn hkn
  by_cases hin : i < n
  · rw [h2 i hin]
    exact hkn _ ⟨i + 1, by omega, by omega⟩ (by simp; omega)
  · have : i = n := by omega
    subst this
    exact h3 kn
end Go.Abs
