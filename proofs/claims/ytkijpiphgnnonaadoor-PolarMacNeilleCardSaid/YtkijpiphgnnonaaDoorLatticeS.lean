/- lattice.Of and lattice.Make: joins and meets, if there are all. -/
import Derived.Test.YtkijpiphgnnonaaDoorLattice
import Derived.Test.YtkijpiphgnnonaaDoorCoversS
import Derived.Test.YtkijpiphgnnonaaDoorAbsLat
namespace Go.Proofs.YtkijpiphgnnonaaDoor
open Go.Abs
/-- One of a set below which all of the set are. -/
def isB (rows : List Int) (a b c : Nat) : Prop := (le rows a c ∧ le rows b c) ∧ ∀ d, le rows a d → le rows b d → le rows c d
theorem best4 (N : Nat) {w : Int} {rows : List Int} (hw : W32 w) (hr : WL rows) {i : Nat} (hi : i < rows.length) (k : Unit → Option Rt_lattice_best) :
    ((∀ j, bt w j = true → le rows i j) → lattice_best_2 N w rows 0 (backE (w, rows, 0) k) (i : Int) = some ((i : Int), ())) ∧ ((¬ ∀ j, bt w j = true → le rows i j) → lattice_best_2 N w rows 0 (backE (w, rows, 0) k) (i : Int) = k ()) := by
  have hb := bad_le hw (hr.nth i)
  simp only [lattice_best_2, ge0_d, lt_d hi, Bool.and_self, cond_true, Int.toNat_natCast, backE_eq]
  constructor
  · intro h
    have : (iandNot .u32 w (nth 0 rows i) == 0) = true := by
      cases e : (iandNot .u32 w (nth 0 rows i) == 0) with
      | true => rfl
      | false =>
        obtain ⟨j, j1, j2⟩ := hb.1 (by rw [bne, e]; rfl)
        exact absurd (h j j1) j2
    rw [this]; rfl
  · intro h
    have : (iandNot .u32 w (nth 0 rows i) == 0) = false := by
      have := hb.2 (Classical.byContradiction fun hn => h fun j hj => Classical.byContradiction fun hn' => hn ⟨j, hj, hn'⟩)
      rw [bne] at this
      simpa using this
    rw [this]; rfl
theorem best_spec (N : Nat) {w : Int} {rows : List Int} (hw : W32 w) (hr : WL rows) (hin : ∀ i, bt w i = true → i < rows.length) :
    (∃ c : Nat, bt w c = true ∧ (∀ j, bt w j = true → le rows c j) ∧ D_lattice_best N (w, rows, ()) = some ((c : Int), ())) ∨
    ((¬ ∃ c, bt w c = true ∧ ∀ j, bt w j = true → le rows c j) ∧ D_lattice_best N (w, rows, ()) = some (-1, ())) := by
  simp only [D_lattice_best, lattice_best_3, lattice_best_1, joinD, forE, Each_eq N w, Option.bind_some]
  by_cases hex : ∃ c, bt w c = true ∧ ∀ j, bt w j = true → le rows c j
  · left
    obtain ⟨x, hx, hgx, e⟩ := forD_find (f := fun (y : Int) (_ : Unit) kn => lattice_best_2 N w rows 0 (backE (w, rows, 0) kn) y) (k := fun _ => some (-1, ())) (fun x => ∀ j, bt w j = true → le rows x.toNat j) (fun x => some (x, ())) (eachXs (w, ()))
      (fun x hx hg kn => by
        obtain ⟨i, rfl, hi, hb⟩ := (mem_each hw).1 hx
        exact (best4 N hw hr (hin i hb) _).1 (by simpa using hg))
      (fun x hx hg kn => by
        obtain ⟨i, rfl, hi, hb⟩ := (mem_each hw).1 hx
        exact (best4 N hw hr (hin i hb) _).2 (by simpa using hg)) (by
        obtain ⟨c, h1, h2⟩ := hex
        exact ⟨(c : Int), (mem_each hw).2 ⟨c, rfl, bt_lt hw h1, h1⟩, by simpa using h2⟩)
    obtain ⟨i, rfl, hi, hb⟩ := (mem_each hw).1 hx
    exact ⟨i, hb, by simpa using hgx, e⟩
  · exact .inr ⟨hex, els_pass hw fun i _ hb kn => (best4 N hw hr (hin i hb) _).2 fun h => hex ⟨i, hb, h⟩⟩
section
variable {N m : Nat} (hm : m ≤ 16) {rows : List Int} (hr : WL rows) (hl : rows.length = m) (hi : ∀ i, i < m → ∀ j, le rows i j → j < m)
include hr hl hi
theorem best2 (N : Nat) {a b : Nat} (ha : a < m) :
    (∃ c : Nat, isB rows a b c ∧ D_lattice_best N (iand .u32 (nth 0 rows a) (nth 0 rows b), rows, ()) = some ((c : Int), ())) ∨
    ((¬ ∃ c, isB rows a b c) ∧ D_lattice_best N (iand .u32 (nth 0 rows a) (nth 0 rows b), rows, ()) = some (-1, ())) := by
  have hb : ∀ j, bt (iand .u32 (nth 0 rows a) (nth 0 rows b)) j = true ↔ le rows a j ∧ le rows b j := fun j => by
    rw [bt_iand (hr.nth a) (hr.nth b), Bool.and_eq_true]; rfl
  rcases best_spec N (w := iand .u32 (nth 0 rows a) (nth 0 rows b)) W32.iand hr (fun i h => by rw [hl]; exact hi a ha i ((hb i).1 h).1) with ⟨c, h1, h2, h3⟩ | ⟨h1, h2⟩
  · exact .inl ⟨c, ⟨(hb c).1 h1, fun d d1 d2 => h2 d ((hb d).2 ⟨d1, d2⟩)⟩, h3⟩
  · exact .inr ⟨fun ⟨c, c1, c2⟩ => h1 ⟨c, (hb c).2 c1, fun j hj => c2 j ((hb j).1 hj).1 ((hb j).1 hj).2⟩, h2⟩
end
theorem bestA {m : Nat} {rows : List Int} (hr : WL rows) (hl : rows.length = m) (N : Nat) (hm : m ≤ 16) (hex : ∃ c, c < m ∧ ∀ j, j < m → le rows c j) :
    ∃ c : Nat, c < m ∧ (∀ j, j < m → le rows c j) ∧ D_lattice_best N (allw (m : Int), rows, ()) = some ((c : Int), ()) := by
  have hb : ∀ j, bt (allw (m : Int)) j = true ↔ j < m := fun j => by rw [bt_allw (by omega) (by omega)]; simp
  rcases best_spec N (w := allw (m : Int)) (W32.allw _) hr (fun i h => by rw [hl]; exact (hb i).1 h) with ⟨c, h1, h2, h3⟩ | ⟨h1, h2⟩
  · exact ⟨c, (hb c).1 h1, fun j hj => h2 j ((hb j).2 hj), h3⟩
  · obtain ⟨c, c1, c2⟩ := hex
    exact absurd ⟨c, (hb c).2 c1, fun j hj => c2 j ((hb j).1 hj)⟩ h1
/-- What stands in a table so far. -/
def EInv (rows : List Int) (m : Nat) (J : List Int) (k : Nat) : Prop := J.length = k ∧ ∀ t, t < k → ∃ c : Nat, nth 0 J t = (c : Int) ∧ isB rows (t / m) (t % m) c
theorem at_div {m a b : Nat} (hb : b < m) : (a * m + b) / m = a := by
  rw [Nat.add_comm, Nat.add_mul_div_right _ _ (by omega), Nat.div_eq_of_lt hb, Nat.zero_add]
theorem at_mod {m a b : Nat} (hb : b < m) : (a * m + b) % m = b := by
  rw [Nat.add_comm, Nat.add_mul_mod_self_right, Nat.mod_eq_of_lt hb]
theorem nth_app {α : Type} {z : α} (l r : List α) (t : Nat) : nth z (l ++ r) t = if t < l.length then nth z l t else nth z r (t - l.length) := by
  by_cases h : t < l.length
  · rw [if_pos h, nth_lt h, nth_lt (by simp; omega), List.getElem_append_left h]
  · rw [if_neg h]
    unfold nth
    rw [List.getD_eq_getElem?_getD, List.getD_eq_getElem?_getD, List.getElem?_append_right (by omega)]
theorem EInv.push {rows : List Int} {m : Nat} {J : List Int} {a b c : Nat} (h : EInv rows m J (a * m + b)) (hb : b < m) (hc : isB rows a b c) : EInv rows m (J ++ [(c : Int)]) (a * m + (b + 1)) := by
  refine ⟨by simp [h.1]; omega, fun t ht => ?_⟩
  rw [nth_app, h.1]
  by_cases e : t < a * m + b
  · rw [if_pos e]; exact h.2 t e
  · have : t = a * m + b := by omega
    subst this
    rw [if_neg e, at_div hb, at_mod hb, Nat.sub_self]
    exact ⟨c, rfl, hc⟩
def goodP (up dn : List Int) (a b : Nat) : Prop := (∃ c, isB up a b c) ∧ ∃ c, isB dn a b c
abbrev zeroT : (Int × List Int) × List Int × List Int × Int × Int := ((0, []), ([], ([], (0, 0))))
abbrev K3 : Type := Int × Int × Int × List Int × Int × Int × Int × Int × List Int × Int × Int × List Int × List Int × List Int → Option Rt_lattice_Of
abbrev K4 : Type := Int × List Int × Int × Int × Int × Int × List Int × Int × Int × List Int × List Int × List Int → Option Rt_lattice_Of
noncomputable def O3 (N m : Nat) (up dn : List Int) (a : Nat) (k : K3) (b : Int) (J M : List Int) (kn : Int × List Int × List Int → Option Rt_lattice_Of) : Option Rt_lattice_Of :=
  lattice_Of_3 N k (a : Int) (m : Int) (a : Int) (m : Int) (m : Int) up 0 0 0 (m : Int) up 0 0 dn b J M (backE ((a : Int), (m : Int), (a : Int), (m : Int), (m : Int), up, 0, 0, 0, (m : Int), up, 0, 0, dn) kn)
/-- What the inner loop leaves by. -/
def ap3 (m : Nat) (up dn : List Int) (a : Nat) (k : K3) (J M : List Int) : Option Rt_lattice_Of := k ((m : Int), (a : Int), (m : Int), up, 0, 0, 0, (m : Int), up, 0, 0, dn, J, M)
noncomputable def L3 (N m : Nat) (up dn : List Int) (a : Nat) (J M : List Int) (k : K3) : Option Rt_lattice_Of :=
  loopD (fun (s : Int × List Int × List Int) kn => O3 N m up dn a k s.1 s.2.1 s.2.2 kn) N (0, J, M)
noncomputable def O4 (N m : Nat) (up dn : List Int) (k : K4) (a : Int) (J M : List Int) (kn : Int × List Int × List Int → Option Rt_lattice_Of) : Option Rt_lattice_Of :=
  lattice_Of_4 N k (m : Int) (m : Int) up 0 0 0 (m : Int) up 0 0 dn a J M (backE ((m : Int), (m : Int), up, 0, 0, 0, (m : Int), up, 0, 0, dn) kn)
def ap4 (m : Nat) (up dn : List Int) (k : K4) (J M : List Int) : Option Rt_lattice_Of := k ((m : Int), up, 0, 0, 0, (m : Int), up, 0, 0, dn, J, M)
noncomputable def L4 (N m : Nat) (up dn : List Int) (k : K4) : Option Rt_lattice_Of :=
  loopD (fun (s : Int × List Int × List Int) kn => O4 N m up dn k s.1 s.2.1 s.2.2 kn) N (0, [], [])
theorem O4_in {N m : Nat} {up dn : List Int} {a : Nat} (ha : a < m) (hm : m ≤ 16) (k : K4) (J M : List Int) (kn : Int × List Int × List Int → Option Rt_lattice_Of) (r : Option Rt_lattice_Of)
    (h : ∀ k3 : K3, (∀ J' M', ap3 m up dn a k3 J' M' = kn ((a : Int) + 1, J', M')) → L3 N m up dn a J M k3 = r) : O4 N m up dn k (a : Int) J M kn = r := by
  simp only [O4, lattice_Of_4, lt_d ha, cond_true, joinD, loopE]
  refine h _ fun J' M' => ?_
  simp only [ap3, lattice_Of_2, w1 hm ha, backE_eq]
theorem O4_out {N m : Nat} {up dn : List Int} (k : K4) (J M : List Int) (kn : Int × List Int × List Int → Option Rt_lattice_Of) : O4 N m up dn k (m : Int) J M kn = ap4 m up dn k J M := by
  simp only [O4, lattice_Of_4, lt_self, cond_false, ap4]
section
variable {N m : Nat} (hm : m ≤ 16) (hN : 1000 ≤ N) {up dn : List Int} (hu : WL up) (hlu : up.length = m) (hiu : ∀ i, i < m → ∀ j, le up i j → j < m) (hd : WL dn) (hld : dn.length = m) (hid : ∀ i, i < m → ∀ j, le dn i j → j < m)
include hm hu hlu hiu hd hld hid
theorem lo11 {a b : Nat} (ha : a < m) (hb : b < m) {J M : List Int} (hJ : J.length ≤ 1000) (hM : M.length ≤ 1000) :
    (¬ goodP up dn a b → ∀ kn k, O3 N m up dn a k (b : Int) J M kn = some (zeroT, 5, ())) ∧
    (goodP up dn a b → ∃ c d : Nat, isB up a b c ∧ isB dn a b d ∧ ∀ kn k, O3 N m up dn a k (b : Int) J M kn = kn ((b : Int) + 1, J ++ [(c : Int)], M ++ [(d : Int)])) := by
  simp only [O3, lattice_Of_3, backE_eq, lt_d hb, ge0_d, lt_d (show a < up.length by omega), lt_d (show b < up.length by omega), lt_d (show a < dn.length by omega), lt_d (show b < dn.length by omega), Bool.and_self, cond_true, Int.toNat_natCast, w1 hm hb]
  rcases best2 hu hlu hiu N (a := a) (b := b) ha with ⟨c, c1, c2⟩ | ⟨c1, c2⟩
  · rcases best2 hd hld hid N (a := a) (b := b) ha with ⟨d, d1, d2⟩ | ⟨d1, d2⟩
    · refine ⟨fun h => absurd ⟨⟨c, c1⟩, ⟨d, d1⟩⟩ h, fun _ => ⟨c, d, c1, d1, fun kn k => ?_⟩⟩
      simp only [c2, d2, Option.bind_some, d_false (show ¬ (c : Int) < 0 by omega), d_false (show ¬ (d : Int) < 0 by omega), cond_false]
      rw [d_true (by simp; omega), d_true (by simp; omega)]
      rfl
    · refine ⟨fun _ kn k => ?_, fun h => absurd h.2 d1⟩
      simp only [c2, d2, Option.bind_some, d_false (show ¬ (c : Int) < 0 by omega), d_true (show (-1 : Int) < 0 by omega), cond_false, cond_true]
  · refine ⟨fun _ kn k => ?_, fun h => absurd h.1 c1⟩
    rcases best2 hd hld hid N (a := a) (b := b) ha with ⟨d, d1, d2⟩ | ⟨d1, d2⟩ <;>
    simp only [c2, d2, Option.bind_some, d_true (show (-1 : Int) < 0 by omega), cond_true]
include hN
theorem lo12_ok {a : Nat} (ha : a < m) (hg : ∀ b, b < m → goodP up dn a b) {J M : List Int} (hJ : EInv up m J (a * m)) (hM : EInv dn m M (a * m)) :
    ∃ J' M', EInv up m J' ((a + 1) * m) ∧ EInv dn m M' ((a + 1) * m) ∧ ∀ k : K3, L3 N m up dn a J M k = ap3 m up dn a k J' M' := by
  unfold L3
  have hmm : a * m + m ≤ 16 * 16 := by rw [← Nat.succ_mul]; exact Nat.mul_le_mul (by omega) hm
  have key := loopD_invk (N := N) (fun (k : K3) (s : Int × List Int × List Int) kn => O3 N m up dn a k s.1 s.2.1 s.2.2 kn) (fun k s => ap3 m up dn a k s.2.1 s.2.2) (s := (0, J, M)) m
    (fun b s => s.1 = (b : Int) ∧ EInv up m s.2.1 (a * m + b) ∧ EInv dn m s.2.2 (a * m + b)) ?_ ?_ (by omega) ⟨rfl, hJ, hM⟩
  · obtain ⟨⟨s, J', M'⟩, ⟨-, h1, h2⟩, h⟩ := key
    rw [← Nat.succ_mul] at h1 h2
    exact ⟨J', M', h1, h2, h⟩
  · rintro b ⟨s, J', M'⟩ hb ⟨hs, h1, h2⟩
    simp only at hs h1 h2
    subst hs
    have l1 := h1.1
    have l2 := h2.1
    obtain ⟨c, d, c1, d1, e⟩ := (lo11 (N := N) hm hu hlu hiu hd hld hid ha hb (J := J') (M := M') (by omega) (by omega)).2 (hg b hb)
    exact ⟨((b : Int) + 1, J' ++ [(c : Int)], M' ++ [(d : Int)]), ⟨rfl, h1.push hb c1, h2.push hb d1⟩, fun k kn => e _ _⟩
  · rintro ⟨s, J', M'⟩ ⟨hs, -, -⟩ k kn
    simp only at hs
    subst hs
    simp only [O3, lattice_Of_3, lt_self, cond_false, ap3]
theorem lo12_bad {a : Nat} (ha : a < m) (hg : ¬ ∀ b, b < m → goodP up dn a b) {J M : List Int} (hJ : J.length ≤ 500) (hM : M.length ≤ 500) (k : K3) :
    L3 N m up dn a J M k = some (zeroT, 5, ()) := by
  unfold L3
  refine loopD_const (fun s => ∃ b : Nat, s.1 = (b : Int) ∧ b ≤ m ∧ s.2.1.length ≤ 500 + b ∧ s.2.2.length ≤ 500 + b ∧ ∀ b', b' < b → goodP up dn a b') (fun s => m - s.1.toNat) _ ?_ N _ ⟨0, rfl, Nat.zero_le _, hJ, hM, fun b h => absurd h (Nat.not_lt_zero _)⟩ (by simp; omega)
  rintro ⟨s, J', M'⟩ ⟨b, hs, hbm, l1, l2, hok⟩ kn hkn
  simp only at hs l1 l2
  subst hs
  have hb : b < m := by
    rcases Nat.lt_or_ge b m with h | h
    · exact h
    · exact absurd (fun b' h' => hok b' (by omega)) hg
  by_cases hgb : goodP up dn a b
  · obtain ⟨c, d, c1, d1, e⟩ := (lo11 (N := N) hm hu hlu hiu hd hld hid ha hb (J := J') (M := M') (by omega) (by omega)).2 hgb
    rw [e]
    refine hkn (_, _, _) ⟨b + 1, rfl, by omega, by simp; omega, by simp; omega, fun b' h' => ?_⟩ (by simp; omega)
    by_cases eb : b' = b
    · subst eb; exact hgb
    · exact hok b' (by omega)
  · exact (lo11 (N := N) hm hu hlu hiu hd hld hid ha hb (J := J') (M := M') (by omega) (by omega)).1 hgb _ _
theorem lo21_ok (hg : ∀ a b, a < m → b < m → goodP up dn a b) :
    ∃ J' M', EInv up m J' (m * m) ∧ EInv dn m M' (m * m) ∧ ∀ k : K4, L4 N m up dn k = ap4 m up dn k J' M' := by
  unfold L4
  have key := loopD_invk (N := N) (fun (k : K4) (s : Int × List Int × List Int) kn => O4 N m up dn k s.1 s.2.1 s.2.2 kn) (fun k s => ap4 m up dn k s.2.1 s.2.2) (s := (0, [], [])) m
    (fun a s => s.1 = (a : Int) ∧ EInv up m s.2.1 (a * m) ∧ EInv dn m s.2.2 (a * m)) ?_ ?_ (by omega) ⟨rfl, ⟨by simp, fun t ht => by simp at ht⟩, ⟨by simp, fun t ht => by simp at ht⟩⟩
  · obtain ⟨⟨s, J', M'⟩, ⟨-, h1, h2⟩, h⟩ := key
    exact ⟨J', M', h1, h2, h⟩
  · rintro a ⟨s, J, M⟩ ha ⟨hs, h1, h2⟩
    simp only at hs h1 h2
    subst hs
    obtain ⟨J', M', e1, e2, e⟩ := lo12_ok (N := N) hm hN hu hlu hiu hd hld hid ha (fun b hb => hg a b ha hb) h1 h2
    refine ⟨((a : Int) + 1, J', M'), ⟨rfl, e1, e2⟩, fun k kn => ?_⟩
    exact O4_in ha hm k J M kn _ fun k3 h3 => by rw [e, h3]
  · rintro ⟨s, J', M'⟩ ⟨hs, -, -⟩ k kn
    simp only at hs
    subst hs
    exact O4_out k J' M' kn
theorem lo21_bad (hg : ¬ ∀ a b, a < m → b < m → goodP up dn a b) (k : K4) :
    L4 N m up dn k = some (zeroT, 5, ()) := by
  unfold L4
  refine loopD_const (fun s => ∃ a : Nat, s.1 = (a : Int) ∧ a ≤ m ∧ EInv up m s.2.1 (a * m) ∧ EInv dn m s.2.2 (a * m) ∧ ∀ a', a' < a → ∀ b, b < m → goodP up dn a' b) (fun s => m - s.1.toNat) _ ?_ N _ ⟨0, rfl, Nat.zero_le _, ⟨by simp, fun t ht => by simp at ht⟩, ⟨by simp, fun t ht => by simp at ht⟩, fun a h => absurd h (Nat.not_lt_zero _)⟩ (by simp; omega)
  rintro ⟨s, J, M⟩ ⟨a, hs, ham, h1, h2, hok⟩ kn hkn
  simp only at hs h1 h2
  subst hs
  have ha : a < m := by
    rcases Nat.lt_or_ge a m with h | h
    · exact h
    · exact absurd (fun a' b' ha' hb' => hok a' (by omega) b' hb') hg
  have hmm : a * m ≤ 16 * 16 := Nat.mul_le_mul (by omega) hm
  have l1 := h1.1
  have l2 := h2.1
  refine O4_in ha hm k J M kn _ fun k3 h3 => ?_
  by_cases hgb : ∀ b, b < m → goodP up dn a b
  · obtain ⟨J', M', e1, e2, e⟩ := lo12_ok (N := N) hm hN hu hlu hiu hd hld hid ha hgb h1 h2
    rw [e, h3]
    refine hkn (_, _, _) ⟨a + 1, rfl, by omega, e1, e2, fun a' h' => ?_⟩ (by simp; omega)
    by_cases eb : a' = a
    · subst eb; exact hgb
    · exact hok a' (by omega)
  · exact lo12_bad (N := N) hm hN hu hlu hiu hd hld hid ha hgb (by omega) (by omega) _
end
/-- The join or the meet at a place of a table. -/
def jo (m : Nat) (J : List Int) (a b : Nat) : Nat := (nth 0 J (a * m + b)).toNat
/-- What a lattice's tables say. -/
structure IsLat (m : Nat) (up J M : List Int) (B T : Int) : Prop where
  jl : J.length = m * m
  ml : M.length = m * m
  lat : Latt m (le up) (jo m J) (jo m M) B.toNat T.toNat
  jn : ∀ a b, a < m → b < m → nth 0 J (a * m + b) = ((jo m J a b : Nat) : Int)
  mn : ∀ a b, a < m → b < m → nth 0 M (a * m + b) = ((jo m M a b : Nat) : Int)
  b0 : 0 ≤ B
  t0 : 0 ≤ T
/-- There are all joins and meets. -/
def HasLat (m : Nat) (up : List Int) : Prop := ∃ J K b t, Latt m (le up) J K b t
theorem at_lt {m a b : Nat} (ha : a < m) (hb : b < m) : a * m + b < m * m := by
  have : (a + 1) * m ≤ m * m := Nat.mul_le_mul (by omega) (Nat.le_refl _)
  rw [Nat.succ_mul] at this
  omega
theorem EInv.get {rows J : List Int} {m : Nat} (h : EInv rows m J (m * m)) {a b : Nat} (ha : a < m) (hb : b < m) : nth 0 J (a * m + b) = ((jo m J a b : Nat) : Int) ∧ isB rows a b (jo m J a b) := by
  obtain ⟨c, c1, c2⟩ := h.2 _ (at_lt ha hb)
  rw [at_div hb, at_mod hb] at c2
  unfold jo
  rw [c1]
  exact ⟨rfl, c2⟩
theorem LatOf_spec {N : Nat} (hN : 1000 ≤ N) {up : List Int} (hw : WL up) (n : Int) :
    (∃ e, e ≠ 0 ∧ D_lattice_Of N ((n, up), ()) = some (zeroT, e, ()) ∧ (Ord n up → e = 5 ∧ ¬ HasLat n.toNat up)) ∨
    (∃ (m : Nat) (J M : List Int) (B T : Int), n = (m : Int) ∧ Ord (m : Int) up ∧ IsLat m up J M B T ∧ D_lattice_Of N ((n, up), ()) = some ((((m : Int), up), (J, (M, (B, T)))), 0, ())) := by
  obtain ⟨e, k1, k2⟩ := Check_spec (N := N) (by omega) hw n
  simp only [D_lattice_Of, lattice_Of_5, k1, Option.bind_some, joinD, loopE]
  by_cases h : Ord n up
  case neg =>
    have he : e ≠ 0 := fun h' => h (k2.1 h')
    refine .inl ⟨e, he, ?_, fun h' => absurd h' h⟩
    rw [show (e != 0) = true from bne_iff_ne.2 he]; rfl
  obtain rfl := k2.2 h
  obtain ⟨m, rfl⟩ : ∃ m : Nat, n = (m : Int) := ⟨n.toNat, by have := h.h0; omega⟩
  have hm : m ≤ 16 := by have := h.h1; omega
  have hlu : up.length = m := by have := h.len; omega
  rcases Nat.eq_zero_or_pos m with hm0 | hm0
  · subst hm0
    refine .inl ⟨5, by decide, rfl, fun _ => ⟨rfl, fun ⟨J, K, b, t, hL⟩ => absurd hL.blt (Nat.not_lt_zero _)⟩⟩
  have hdn := h.dual
  have hwd : WL (colsS up (m : Int) up.length) := WL.colsS _ _ _
  have hld : (colsS up (m : Int) up.length).length = m := by rw [colsS_len]; simp
  have hiu : ∀ i, i < m → ∀ j, le up i j → j < m := fun i hi j hj => by have := h.inn i (by omega) j hj; omega
  have hid : ∀ i, i < m → ∀ j, le (colsS up (m : Int) up.length) i j → j < m := fun i hi j hj => by have := hdn.inn i (by omega) j hj; omega
  have hD := Down_eq (N := N) hw h (by omega)
  have hled : ∀ i j, i < m → j < m → (le (colsS up (m : Int) up.length) j i ↔ le up i j) := fun i j hi hj => le_dual h (by omega) (by omega)
  simp only [bne_self_eq_false, cond_false, show ((m : Int) == 0) = false from beq_false_of_ne (by omega), hD, Option.bind_some]
  generalize colsS up (m : Int) up.length = dn at *
  by_cases hg : ∀ a b, a < m → b < m → goodP up dn a b
  case neg =>
    refine .inl ⟨5, by decide, lo21_bad (N := N) hm hN hw hlu hiu hwd hld hid hg _, fun _ => ⟨rfl, ?_⟩⟩
    rintro ⟨J, K, b, t, hL⟩
    refine hg fun x y hx hy => ⟨⟨J x y, ⟨hL.jl hx hy, hL.jr hx hy⟩, fun d d1 d2 => (hL.jle x y d hx hy (hiu x hx d d1)).2 ⟨d1, d2⟩⟩, ⟨K x y, ?_, fun d d1 d2 => ?_⟩⟩
    · have hk := hL.klt x y hx hy
      exact ⟨(hled _ _ hk hx).2 (hL.kl hx hy), (hled _ _ hk hy).2 (hL.kr hx hy)⟩
    · have hd := hid x hx d d1
      have hk := hL.klt x y hx hy
      exact (hled _ _ hd hk).2 ((hL.kle x y d hx hy hd).2 ⟨(hled _ _ hd hx).1 d1, (hled _ _ hd hy).1 d2⟩)
  obtain ⟨J, M, e1, e2, e3⟩ := lo21_ok (N := N) hm hN hw hlu hiu hwd hld hid hg
  have hu1 : ∀ a b, a < m → b < m → jo m J a b < m := fun a b ha hb => hiu a ha _ (e1.get ha hb).2.1.1
  have hd1 : ∀ a b, a < m → b < m → jo m M a b < m := fun a b ha hb => hid a ha _ (e2.get ha hb).2.1.1
  obtain ⟨i, hi, -, imin⟩ := h.least (fun _ => True) (i := 0) (by omega) trivial
  obtain ⟨i2, hi2, -, -, imax⟩ := h.top (fun _ => True) (i := 0) (by omega) trivial
  obtain ⟨c, hc, c1, c2⟩ := bestA hw hlu N hm ⟨i, by omega, fun j hj => by
    have hk := hd1 i j (by omega) hj
    have := (e2.get (a := i) (b := j) (by omega) hj).2.1
    have h1 := imin _ (by omega) trivial ((hled _ _ hk (by omega)).1 this.1)
    have h2 := (hled _ _ hk hj).1 this.2
    rwa [h1] at h2⟩
  obtain ⟨d, hd, d1, d2⟩ := bestA hwd hld N hm ⟨i2, by omega, fun j hj => by
    have hk := hu1 i2 j (by omega) hj
    have := (e1.get (a := i2) (b := j) (by omega) hj).2.1
    have h1 := imax _ (by omega) trivial this.1
    have h2 := this.2
    rw [h1] at h2
    exact (hled _ _ hj (by omega)).2 h2⟩
  refine .inr ⟨m, J, M, (c : Int), (d : Int), rfl, h, ⟨e1.1, e2.1, ?_, fun a b ha hb => (e1.get ha hb).1, fun a b ha hb => (e2.get ha hb).1, by omega, by omega⟩, ?_⟩
  · exact {
      refl := fun i hi => h.refl i (by omega)
      anti := fun i j hi hj => h.anti i j (by omega) (by omega)
      trans := fun i j k hi hj _ => h.trans i j k (by omega) (by omega)
      jlt := hu1
      klt := hd1
      jle := fun x y d hx hy _ => ⟨fun e => ⟨h.trans _ _ _ (by omega) (by have := hu1 x y hx hy; omega) (e1.get hx hy).2.1.1 e, h.trans _ _ _ (by omega) (by have := hu1 x y hx hy; omega) (e1.get hx hy).2.1.2 e⟩, fun e => (e1.get hx hy).2.2 d e.1 e.2⟩
      kle := fun x y d hx hy hd => by
        have hk := hd1 x y hx hy
        have g := (e2.get hx hy).2
        refine ⟨fun e => ⟨h.trans _ _ _ (by omega) (by omega) e ((hled _ _ hk hx).1 g.1.1), h.trans _ _ _ (by omega) (by omega) e ((hled _ _ hk hy).1 g.1.2)⟩, fun e => (hled _ _ hd hk).1 (g.2 d ((hled _ _ hd hx).2 e.1) ((hled _ _ hd hy).2 e.2))⟩
      blt := by simpa using hc
      tlt := by simpa using hd
      ble := fun j hj => by simpa using c1 j hj
      tle := fun j hj => by simpa using (hled _ _ hj hd).1 (d1 j hj) }
  · refine (e3 _).trans ?_
    simp only [ap4, lattice_Of_1, All_eq N (show (0 : Int) ≤ (m : Int) by omega), Option.bind_some, c2, d2]
end Go.Proofs.YtkijpiphgnnonaaDoor
