/- What tables over orders come to: Zeta and products. -/
import Derived.Test.YtagghgmpdjoknaaDoorMobA
import Derived.Test.YtagghgmpdjoknaaDoorCheckS
import Derived.Test.YtagghgmpdjoknaaDoorAbsMob
namespace Go.Proofs.YtagghgmpdjoknaaDoor
open Go.Abs
/-! ### Loops that add -/
/-- A range over a word's elements that adds. -/
theorem each_add {R S K ι : Type} {w : Int} (hw : W32 w) {m : Nat} (hm : ∀ j, bt w j = true → j < m) (hm32 : m ≤ 32) (P : ι → Prop) (v : S → ι → Z) (c : Nat → ι → Z) (Good : S → Prop)
    (g : K → Int → S → (S → Option R) → Option R) (ap : K → S → Option R)
    (h : ∀ j s, j < m → bt w j = true → Good s → ∃ s', Good s' ∧ (∀ i, P i → v s' i = v s i + c j i) ∧ ∀ k kn, g k (j : Int) s kn = kn s') (s0 : S) (h0 : Good s0) :
    ∃ s', Good s' ∧ (∀ i, P i → v s' i = v s0 i + Sg m fun j => if bt w j = true then c j i else 0) ∧ ∀ k, forD (g k) (ap k) (eachXs (w, ())) s0 = ap k s' := by
  have key : ∀ (l : List Nat) (s0 : S), (∀ j ∈ l, j < m ∧ bt w j = true) → Good s0 → ∃ s', Good s' ∧ (∀ i, P i → v s' i = v s0 i + Ls l fun j => c j i) ∧ ∀ k, forD (g k) (ap k) (l.map fun (j : Nat) => (j : Int)) s0 = ap k s' := by
    intro l
    induction l with
    | nil => exact fun s0 _ h0 => ⟨s0, h0, fun i _ => by simp only [Ls]; grind, fun k => rfl⟩
    | cons j l ih =>
      intro s0 hl h0
      obtain ⟨h1, h2⟩ := hl j (by simp)
      obtain ⟨s1, g1, g2, g3⟩ := h j s0 h1 h2 h0
      obtain ⟨s2, q1, q2, q3⟩ := ih s1 (fun x hx => hl x (by simp [hx])) g1
      refine ⟨s2, q1, fun i hi => by rw [q2 i hi, g2 i hi]; simp only [Ls]; grind, fun k => ?_⟩
      rw [List.map_cons, forD, g3, q3]
  rw [eachXs_els hw]
  obtain ⟨s', q1, q2, q3⟩ := key (els w) s0 (fun j hj => ⟨hm j ((mem_els hw).1 hj), (mem_els hw).1 hj⟩) h0
  refine ⟨s', q1, fun i hi => ?_, q3⟩
  rw [q2 i hi]
  unfold els
  rw [Ls_filter 32 (bt w) fun j => c j i, Sg_more hm32 fun j h1 _ => if_neg fun hb => by have := hm j hb; omega]
theorem loop_add {R S K ι : Type} (g : K → Int × S → (Int × S → Option R) → Option R) (ap : K → S → Option R) {n N : Nat} (hN : n < N) (P : ι → Prop) (v : S → ι → Z) (c : Nat → ι → Z) (Good : S → Prop)
    (h : ∀ i s, i < n → Good s → ∃ s', Good s' ∧ (∀ x, P x → v s' x = v s x + c i x) ∧ ∀ k kn, g k ((i : Int), s) kn = kn ((i : Int) + 1, s')) (h3 : ∀ s k kn, g k ((n : Int), s) kn = ap k s) (s0 : S) (h0 : Good s0) :
    ∃ s', Good s' ∧ (∀ x, P x → v s' x = v s0 x + Sg n fun i => c i x) ∧ ∀ k, loopD (g k) N ((0 : Int), s0) = ap k s' := by
  have key := loopD_invk (N := N) g (fun k s => ap k s.2) (s := ((0 : Int), s0)) n (fun i s => s.1 = (i : Int) ∧ Good s.2 ∧ ∀ x, P x → v s.2 x = v s0 x + Sg i fun i => c i x) ?_ ?_ hN ⟨rfl, h0, fun x _ => by simp only [Sg]; grind⟩
  · obtain ⟨⟨t, s'⟩, ⟨-, h1, h2⟩, e⟩ := key
    exact ⟨s', h1, h2, e⟩
  · rintro i ⟨t, s⟩ hi ⟨ht, hg, hv⟩
    simp only at ht hg hv
    subst ht
    obtain ⟨s', q1, q2, q3⟩ := h i s hi hg
    exact ⟨((i : Int) + 1, s'), ⟨rfl, q1, fun x hx => by simp only [q2 x hx, hv x hx, Sg]; grind⟩, q3⟩
  · rintro ⟨t, s⟩ ⟨ht, -⟩ k kn
    simp only at ht
    subst ht
    exact h3 s k kn
/-! ### Cells -/
theorem cell_div {m a b : Nat} (hb : b < m) : (a * m + b) / m = a := by
  rw [Nat.add_comm, Nat.add_mul_div_right _ _ (by omega), Nat.div_eq_of_lt hb, Nat.zero_add]
theorem cell_mod {m a b : Nat} (hb : b < m) : (a * m + b) % m = b := by
  rw [Nat.add_comm, Nat.add_mul_mod_self_right, Nat.mod_eq_of_lt hb]
theorem cell_lt {m a b : Nat} (ha : a < m) (hb : b < m) : a * m + b < m * m := by
  have : (a + 1) * m ≤ m * m := Nat.mul_le_mul (by omega) (Nat.le_refl _)
  rw [Nat.succ_mul] at this
  omega
theorem cell_inj {m a b a' b' : Nat} (hb : b < m) (hb' : b' < m) (h : a * m + b = a' * m + b') : a = a' ∧ b = b' :=
  ⟨by rw [← cell_div (a := a) hb, h, cell_div hb'], by rw [← cell_mod (a := a) hb, h, cell_mod hb']⟩
theorem wrap_sq {m : Nat} (hm : m ≤ 16) : IntKind.i64.wrap ((m : Int) * (m : Int)) = ((m * m : Nat) : Int) := by
  have : m * m ≤ 16 * 16 := Nat.mul_le_mul hm hm
  rw [← Int.natCast_mul]
  exact w64 (by omega) (by omega)
theorem wrap_cell {m a b : Nat} (hm : m ≤ 16) (ha : a < m) (hb : b < m) : IntKind.i64.wrap (IntKind.i64.wrap ((a : Int) * (m : Int)) + (b : Int)) = ((a * m + b : Nat) : Int) := by
  have h1 := cell_lt ha hb
  have : m * m ≤ 16 * 16 := Nat.mul_le_mul hm hm
  rw [← Int.natCast_mul, w64 (n := ((a * m : Nat) : Int)) (by omega) (by omega), w64 (by omega) (by omega)]
  omega
theorem grid_eq {m a b : Nat} (hm : m ≤ 16) (ha : a < m) (hb : b < m) : gridIx (m : Int) (a : Int) (b : Int) = ((a * m + b : Nat) : Int) := wrap_cell hm ha hb
theorem okIf_cell {m a b : Nat} (ha : a < m) (hb : b < m) {l : List Int} (hl : l.length = m * m) : okIf (decide ((0 : Int) ≤ ((a * m + b : Nat) : Int)) && decide (((a * m + b : Nat) : Int) < (l.length : Int))) = some () := by
  have := cell_lt ha hb
  rw [d_true (by omega), d_true (by omega)]; rfl
theorem ord_in {m : Nat} {up : List Int} (ho : Ord (m : Int) up) {a j : Nat} (ha : a < m) (h : le up a j) : j < m := by have := ho.inn a (by omega) j h; omega
def tv (m : Nat) (l : List Int) : Tb := fun a b => ph (nth 0 l (a * m + b))
structure Cel (m : Nat) (l : List Int) : Prop where
  len : l.length = m * m
  i64 : ∀ x ∈ l, I64 x
theorem I64.nth {l : List Int} (h : ∀ x ∈ l, I64 x) (i : Nat) : I64 (nth 0 l i) := by
  by_cases hi : i < l.length
  · exact h _ (nth_mem hi)
  · unfold Abs.nth; rw [List.getD_eq_getElem?_getD, List.getElem?_eq_none (by omega)]; exact I64.zero
theorem Cel.set {m : Nat} {l : List Int} (h : Cel m l) {x : Int} (hx : I64 x) (i : Nat) : Cel m (l.set i x) :=
  ⟨by rw [List.length_set]; exact h.len, fun y hy => (List.mem_or_eq_of_mem_set hy).elim (h.i64 y) fun e => e ▸ hx⟩
theorem Cel.zero (m : Nat) : Cel m (List.replicate (m * m) 0) := ⟨by simp, fun x hx => by rw [List.eq_of_mem_replicate hx]; exact I64.zero⟩
theorem nth_zeros (n i : Nat) : nth (0 : Int) (List.replicate n 0) i = 0 := by
  unfold nth
  rw [List.getD_eq_getElem?_getD, List.getElem?_replicate]
  split <;> rfl
theorem nth_cell {m : Nat} {l : List Int} (hl : l.length = m * m) {a b a' b' : Nat} (ha : a < m) (hb : b < m) (_ha' : a' < m) (hb' : b' < m) (x : Int) :
    nth 0 (l.set (a * m + b) x) (a' * m + b') = if a' = a ∧ b' = b then x else nth 0 l (a' * m + b') := by
  rw [nth_set (by rw [hl]; exact cell_lt ha hb)]
  by_cases e : a' = a ∧ b' = b
  · rw [if_pos e, if_pos (by rw [e.1, e.2])]
  · rw [if_neg e, if_neg fun h => e (by have := cell_inj hb hb' h; exact ⟨this.1.symm, this.2.symm⟩)]
theorem tv_set {m : Nat} {l : List Int} (hl : l.length = m * m) {a b a' b' : Nat} (ha : a < m) (hb : b < m) (ha' : a' < m) (hb' : b' < m) (x : Int) :
    tv m (l.set (a * m + b) x) a' b' = if a' = a ∧ b' = b then ph x else tv m l a' b' := by
  unfold tv
  rw [nth_cell hl ha hb ha' hb']
  split <;> rfl
/-- Two tables with the same numbers are the same. -/
theorem Cel.ext {m : Nat} {l k : List Int} (hl : Cel m l) (hk : Cel m k) (h : EqT m (tv m l) (tv m k)) : l = k := by
  refine ext_nth (by rw [hl.len, hk.len]) fun i hi => ?_
  have hmm : i < m * m := by rw [← hl.len]; exact hi
  have hm0 : 0 < m := Nat.pos_of_ne_zero fun e => by subst e; omega
  have e : i / m * m + i % m = i := by rw [Nat.mul_comm]; exact Nat.div_add_mod i m
  have := h (i / m) (i % m) (Nat.div_lt_of_lt_mul hmm) (Nat.mod_lt _ hm0)
  unfold tv at this
  rw [e] at this
  exact ph_inj (I64.nth hl.i64 i) (I64.nth hk.i64 i) this
/-- A table that may be. -/
structure Tab (m : Nat) (up f : List Int) : Prop where
  len : f.length = m * m
  off : ∀ a b, a < m → b < m → ¬ le up a b → nth 0 f (a * m + b) = 0
theorem Tab.tv0 {m : Nat} {up f : List Int} (h : Tab m up f) {a b : Nat} (ha : a < m) (hb : b < m) (hle : ¬ le up a b) : tv m f a b = 0 := by
  unfold tv; rw [h.off a b ha hb hle]; rfl
theorem wrap_lt {q m : Nat} (hm : m ≤ 16) (hq : q < m) : IntKind.i64.wrap (q : Int) = (q : Int) := w64 (by omega) (by omega)
theorem tdiv_nat (i m : Nat) : (i : Int).tdiv (m : Int) = ((i / m : Nat) : Int) := rfl
theorem tmod_nat (i m : Nat) : (i : Int).tmod (m : Int) = ((i % m : Nat) : Int) := rfl
theorem table_eq {N m : Nat} (hN : 1000 ≤ N) (hm : m ≤ 16) {up f : List Int} (hw : WL up) (hl : up.length = m) :
    (Tab m up f ∧ D_mobius_table N (((m : Int), up), f, ()) = some (((m : Int), f), true, ())) ∨ (¬ Tab m up f ∧ D_mobius_table N (((m : Int), up), f, ()) = some ((0, []), false, ())) := by
  have hmm : m * m ≤ 16 * 16 := Nat.mul_le_mul hm hm
  simp only [D_mobius_table, mobius_table_3, mobius_table_1, joinD, loopE, wrap_sq hm]
  by_cases hlen : f.length = m * m
  case neg =>
    exact .inr ⟨fun h => hlen h.len, by rw [show ((f.length : Int) != ((m * m : Nat) : Int)) = true from bne_iff_ne.2 (by omega), cond_true]⟩
  rw [show ((f.length : Int) != ((m * m : Nat) : Int)) = false from by rw [hlen]; exact bne_self_eq_false _, cond_false]
  have hcell : ∀ i, i < m * m → i / m < m ∧ i % m < m ∧ i / m * m + i % m = i := fun i hi => by
    have hm0 : 0 < m := Nat.pos_of_ne_zero fun e => by subst e; omega
    exact ⟨Nat.div_lt_of_lt_mul hi, Nat.mod_lt _ hm0, by rw [Nat.mul_comm]; exact Nat.div_add_mod i m⟩
  have h4 : ∀ i, i < m * m → ∀ kn k, mobius_table_2 N k f f f.length m up 0 (i : Int) (backE (f, f, (f.length : Int), (m : Int), up, 0) kn) = if nth 0 f i ≠ 0 ∧ ¬ le up (i / m) (i % m) then some ((0, []), false, ()) else kn ((i : Int) + 1) := fun i hi kn k => by
    obtain ⟨h1, h2, -⟩ := hcell i hi
    have hi' : i < f.length := by omega
    simp only [mobius_table_2, backE_eq, lt_d hi', ge0_d, cond_true, Bool.and_self, Int.toNat_natCast, tdiv_nat, tmod_nat, wrap_lt hm h1, w64 (show -9223372036854775808 ≤ (i : Int) + 1 by omega) (show (i : Int) + 1 ≤ 9223372036854775807 by omega), lt_d (show i / m < up.length by omega), show ((m : Int) == 0) = false from beq_false_of_ne (by omega), cond_false, Has_eq N (WL.nth hw _), Option.bind_some]
    by_cases q1 : nth 0 f i = 0
    · rw [q1, if_neg (fun h => h.1 rfl)]; rfl
    · rw [show (nth 0 f i != 0) = true from bne_iff_ne.2 q1, cond_true]
      cases q2 : bt (nth 0 up (i / m)) (i % m) with
      | true => rw [if_neg (fun h => h.2 q2)]; rfl
      | false => rw [if_pos ⟨q1, fun h => by rw [le, q2] at h; cases h⟩]; rfl
  by_cases hb : ∃ i, i < m * m ∧ (nth 0 f i ≠ 0 ∧ ¬ le up (i / m) (i % m))
  · refine .inr ⟨fun h => ?_, loopD_hitU (n := m * m) (fun i => nth 0 f i ≠ 0 ∧ ¬ le up (i / m) (i % m)) (fun i hi hb kn => by rw [h4 i hi, if_pos hb]) (fun i hi hb kn => by rw [h4 i hi, if_neg hb]) (by omega) hb⟩
    obtain ⟨i, hi, h1, h2⟩ := hb
    obtain ⟨q1, q2, q3⟩ := hcell i hi
    have := h.off _ _ q1 q2 h2
    rw [q3] at this
    exact h1 this
  · refine .inl ⟨⟨hlen, fun a b ha hb' hle => ?_⟩, loopD_passU (n := m * m) (fun i hi kn => by rw [h4 i hi, if_neg fun h => hb ⟨i, hi, h⟩]) (fun kn => ?_) (by omega)⟩
    · refine Classical.byContradiction fun hne => hb ⟨a * m + b, cell_lt ha hb', hne, ?_⟩
      rw [cell_div hb', cell_mod hb']; exact hle
    · simp only [mobius_table_2, hlen, lt_self, cond_false]
theorem square_eq {N m : Nat} (hm : m ≤ 16) : D_mobius_square_int64_D N ((m : Int), ()) = some ((m : Int), List.replicate (m * m) 0) := by
  have hmm : m * m ≤ 16 * 16 := Nat.mul_le_mul hm hm
  simp only [D_mobius_square_int64_D, mobius_square_int64_D_1, wrap_sq hm, Int.toNat_natCast, ge0_d]
  rw [d_true (by omega), d_true (by omega)]; rfl
section
variable {N m : Nat} (hN : 1000 ≤ N) (hm : m ≤ 16) {up : List Int} (hw : WL up) (ho : Ord (m : Int) up)
include hm hw ho
theorem zeta_row {a : Nat} (ha : a < m) {s0 : List Int} (h0 : Cel m s0) :
    ∃ s, Cel m s ∧ (∀ a' b', a' < m → b' < m → nth 0 s (a' * m + b') = if a' = a ∧ le up a b' then 1 else nth 0 s0 (a' * m + b')) ∧
      ∀ k : List Int → Option Rt_mobius_Zeta, forD (fun y s kn => mobius_Zeta_3 N (m : Int) up (m : Int) (a : Int) s (backE ((m : Int), up, (m : Int), (a : Int)) kn) y) k (eachXs (nth 0 up a, ())) s0 = k s := by
  have hwa := WL.nth hw a
  have key := forD_invk (fun (k : List Int → Option Rt_mobius_Zeta) (y : Int) (s : List Int) kn => mobius_Zeta_3 N (m : Int) up (m : Int) (a : Int) s (backE ((m : Int), up, (m : Int), (a : Int)) kn) y) (fun k s => k s)
    (fun r s => Cel m s ∧ (∀ a' b', a' < m → b' < m → ¬ (a' = a ∧ le up a b') → nth 0 s (a' * m + b') = nth 0 s0 (a' * m + b')) ∧ (∀ b' : Nat, b' < m → le up a b' → (b' : Int) ∈ r ∨ nth 0 s (a * m + b') = 1) ∧ ∀ x ∈ r, ∃ b : Nat, x = (b : Int) ∧ b < m ∧ le up a b)
    ?_ (eachXs (nth 0 up a, ())) s0 ⟨h0, fun _ _ _ _ _ => rfl, fun b hb hle => .inl ((mem_each hwa).2 ⟨b, rfl, bt_lt hwa hle, hle⟩), fun x hx => by
      obtain ⟨j, e, -, hb⟩ := (mem_each hwa).1 hx
      have := ho.inn a (by omega) j hb
      exact ⟨j, e, by omega, hb⟩⟩
  · obtain ⟨s, ⟨h1, h2, h3, -⟩, e⟩ := key
    refine ⟨s, h1, fun a' b' ha' hb' => ?_, e⟩
    by_cases q : a' = a ∧ le up a b'
    · rw [if_pos q, q.1]
      exact (h3 b' hb' q.2).elim (fun h => by cases h) id
    · rw [if_neg q, h2 a' b' ha' hb' q]
  · rintro x r s ⟨h1, h2, h3, h4⟩
    obtain ⟨b, rfl, hb, hle⟩ := h4 x (by simp)
    refine ⟨s.set (a * m + b) 1, ⟨h1.set I64.one _, fun a' b' ha' hb' q => ?_, fun b' hb' hle' => ?_, fun x hx => h4 x (by simp [hx])⟩, fun k kn => ?_⟩
    · rw [nth_cell h1.len ha hb ha' hb', if_neg (show ¬ (a' = a ∧ b' = b) from fun h => q ⟨h.1, h.2 ▸ hle⟩), h2 a' b' ha' hb' q]
    · rcases h3 b' hb' hle' with h | h
      · rcases List.mem_cons.1 h with e | h
        · have : b' = b := by omega
          subst this
          exact .inr (by rw [nth_cell h1.len ha hb ha hb', if_pos ⟨rfl, rfl⟩])
        · exact .inl h
      · refine .inr ?_
        rw [nth_cell h1.len ha hb ha hb']
        split
        · rfl
        · exact h
    · simp only [mobius_Zeta_3, backE_eq, grid_eq hm ha hb, okIf_cell ha hb h1.len, Option.bind_some, Int.toNat_natCast]
include hN
theorem Zeta_eq : ∃ l, D_mobius_Zeta N (((m : Int), up), ()) = some (l, 0, ()) ∧ Cel m l ∧ ∀ a b, a < m → b < m → nth 0 l (a * m + b) = if le up a b then 1 else 0 := by
  obtain ⟨e, h1, h2⟩ := Check_spec (N := N) (by omega) hw (m : Int)
  obtain rfl := h2.2 ho
  have hlu : up.length = m := by have := ho.len; omega
  simp only [D_mobius_Zeta, mobius_Zeta_5, mobius_Zeta_1, joinD, loopE, h1, Option.bind_some, bne_self_eq_false, cond_false, square_eq hm]
  obtain ⟨⟨t, s⟩, ⟨-, q1, q2⟩, e⟩ := loopD_invk (N := N) (fun (k : Int × List Int × List Int × Int → Option Rt_mobius_Zeta) (s : Int × List Int) kn => mobius_Zeta_4 N k up up.length m up m s.1 s.2 (backE (up, (up.length : Int), (m : Int), up, (m : Int)) kn)) (fun k s => k ((m : Int), up, s.2, (m : Int))) (s := ((0 : Int), List.replicate (m * m) 0)) m
    (fun i s => s.1 = (i : Int) ∧ Cel m s.2 ∧ ∀ a b, a < m → b < m → nth 0 s.2 (a * m + b) = if a < i ∧ le up a b then 1 else 0) (fun i s hi hs => by
      obtain ⟨t, s⟩ := s
      obtain ⟨ht, hc, hv⟩ := hs
      simp only at ht hc hv
      subst ht
      obtain ⟨s', r1, r2, r3⟩ := zeta_row (N := N) hm hw ho hi hc
      refine ⟨((i : Int) + 1, s'), ⟨rfl, r1, fun a b ha hb => ?_⟩, fun k kn => ?_⟩
      · rw [r2 a b ha hb, hv a b ha hb]
        by_cases e : a = i
        · subst e
          by_cases q : le up a b
          · rw [if_pos ⟨rfl, q⟩, if_pos ⟨by omega, q⟩]
          · rw [if_neg fun h => q h.2, if_neg fun h => q h.2, if_neg fun h => q h.2]
        · rw [if_neg fun h => e h.1]
          by_cases q : a < i ∧ le up a b
          · rw [if_pos q, if_pos ⟨by omega, q.2⟩]
          · rw [if_neg q, if_neg fun h => q ⟨by omega, h.2⟩]
      · simp only [mobius_Zeta_4, mobius_Zeta_2, joinD, forE, backE_eq, lt_d (show i < up.length by omega), ge0_d, Bool.and_self, cond_true, Int.toNat_natCast, Each_eq N, Option.bind_some, r3, w1 hm hi])
    (fun s hs k kn => by
      obtain ⟨t, s⟩ := s
      obtain ⟨ht, -⟩ := hs
      simp only at ht
      subst ht
      simp only [mobius_Zeta_4, hlu, lt_self, cond_false]) (by omega)
    ⟨rfl, Cel.zero m, fun a b _ _ => by rw [nth_zeros, if_neg fun h => absurd h.1 (Nat.not_lt_zero _)]⟩
  refine ⟨s, e _, q1, fun a b ha hb => ?_⟩
  rw [q2 a b ha hb]
  by_cases q : le up a b
  · rw [if_pos ⟨ha, q⟩, if_pos q]
  · rw [if_neg fun h => q h.2, if_neg q]
end
end Go.Proofs.YtagghgmpdjoknaaDoor
