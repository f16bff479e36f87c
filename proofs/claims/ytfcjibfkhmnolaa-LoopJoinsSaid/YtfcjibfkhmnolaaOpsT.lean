/- The document's bag, what is there of it, the rows with a key: what the functions come to. -/
import Derived.Test.YtfcjibfkhmnolaaOpsB
import Derived.Test.YtfcjibfkhmnolaaOpsS
import Derived.Test.YtfcjibfkhmnolaaOpsQ
namespace Go.Proofs.Ytfcjibfkhmnolaa
open Go.Abs Go.Bag
theorem rlt_ky {a b c : Row} (h : ky b = ky c) : rlt a b ↔ rlt a c := by
  unfold ky at h
  simp only [Prod.mk.injEq] at h
  unfold rlt
  rw [h.1, h.2]
theorem rlt_ky' {a b c : Row} (h : ky b = ky c) : rlt b a ↔ rlt c a := by
  unfold ky at h
  simp only [Prod.mk.injEq] at h
  unfold rlt
  rw [h.1, h.2]
/-- A row put into rows in their order. -/
def insB : List Row → Row → List Row
  | [], r => [r]
  | x :: xs, r => if rlt x r then x :: insB xs r else if ky x = ky r then (x.1, x.2.1, w (x.2.2 + r.2.2)) :: xs else r :: x :: xs
def posB (l : List Row) (r : Row) : Nat := (l.takeWhile fun x => decide (rlt x r)).length
theorem posB_le (l : List Row) (r : Row) : posB l r ≤ l.length := (List.takeWhile_sublist _).length_le
theorem posB_in : (l : List Row) → (r : Row) → (i : Nat) → i < posB l r → rlt (nth (0, 0, 0) l i) r
  | [], r, i, h => by simp [posB] at h
  | x :: l, r, i, h => by
    unfold posB at h
    by_cases q : rlt x r
    · rw [List.takeWhile_cons_of_pos (by simp [q])] at h
      cases i with
      | zero => exact q
      | succ i => exact posB_in l r i (by simpa [posB] using h)
    · rw [List.takeWhile_cons_of_neg (by simp [q])] at h; simp at h
theorem posB_out : (l : List Row) → (r : Row) → posB l r < l.length → ¬ rlt (nth (0, 0, 0) l (posB l r)) r
  | [], r, h => by simp at h
  | x :: l, r, h => by
    unfold posB at h ⊢
    by_cases q : rlt x r
    · rw [List.takeWhile_cons_of_pos (by simp [q])] at h ⊢
      exact posB_out l r (by simpa [posB] using h)
    · rw [List.takeWhile_cons_of_neg (by simp [q])]
      exact q
theorem insB_same : (l : List Row) → (r : Row) → posB l r < l.length → ky (nth (0, 0, 0) l (posB l r)) = ky r →
    insB l r = l.set (posB l r) ((nth ((0 : Int), (0 : Int), (0 : Int)) l (posB l r)).1, (nth ((0 : Int), (0 : Int), (0 : Int)) l (posB l r)).2.1, w ((nth ((0 : Int), (0 : Int), (0 : Int)) l (posB l r)).2.2 + r.2.2))
  | [], r, h, _ => by simp at h
  | x :: l, r, h, hk => by
    unfold posB at h hk ⊢
    by_cases q : rlt x r
    · rw [List.takeWhile_cons_of_pos (by simp [q])] at h hk ⊢
      simp only [insB, if_pos q]
      rw [insB_same l r (by simpa [posB] using h) hk]
      rfl
    · rw [List.takeWhile_cons_of_neg (by simp [q])] at hk ⊢
      have hk : ky x = ky r := hk
      simp only [insB, if_neg q, if_pos hk]
      rfl
theorem insB_new : (l : List Row) → (r : Row) → ¬ (posB l r < l.length ∧ ky (nth (0, 0, 0) l (posB l r)) = ky r) → insB l r = l.take (posB l r) ++ r :: l.drop (posB l r)
  | [], r, _ => rfl
  | x :: l, r, h => by
    unfold posB at h ⊢
    by_cases q : rlt x r
    · rw [List.takeWhile_cons_of_pos (by simp [q])] at h ⊢
      simp only [insB, if_pos q]
      rw [insB_new l r fun ⟨h1, h2⟩ => h ⟨by simpa [posB] using h1, h2⟩]
      rfl
    · rw [List.takeWhile_cons_of_neg (by simp [q])] at h ⊢
      have hk : ¬ ky x = ky r := fun e => h ⟨by simp, e⟩
      simp only [insB, if_neg q, if_neg hk]
      rfl
theorem insB_ky : (l : List Row) → (r y : Row) → y ∈ insB l r → ky y = ky r ∨ ∃ z ∈ l, ky z = ky y
  | [], r, y, h => by simp [insB] at h; exact .inl (by rw [h])
  | x :: l, r, y, h => by
    by_cases q : rlt x r
    · simp only [insB, if_pos q] at h
      rcases List.mem_cons.1 h with rfl | h
      · exact .inr ⟨y, by simp, rfl⟩
      · rcases insB_ky l r y h with h | ⟨z, hz, e⟩
        · exact .inl h
        · exact .inr ⟨z, by simp [hz], e⟩
    · by_cases hk : ky x = ky r
      · simp only [insB, if_neg q, if_pos hk] at h
        rcases List.mem_cons.1 h with rfl | h
        · exact .inr ⟨x, by simp, rfl⟩
        · exact .inr ⟨y, by simp [h], rfl⟩
      · simp only [insB, if_neg q, if_neg hk] at h
        rcases List.mem_cons.1 h with rfl | h
        · exact .inl rfl
        · exact .inr ⟨y, h, rfl⟩
theorem insB_sorted : (l : List Row) → (r : Row) → l.Pairwise rlt → (insB l r).Pairwise rlt
  | [], r, _ => by simp [insB]
  | x :: l, r, h => by
    obtain ⟨h1, h2⟩ := List.pairwise_cons.1 h
    by_cases q : rlt x r
    · simp only [insB, if_pos q]
      refine List.pairwise_cons.2 ⟨fun y hy => ?_, insB_sorted l r h2⟩
      rcases insB_ky l r y hy with e | ⟨z, hz, e⟩
      · exact (rlt_ky e).2 q
      · exact (rlt_ky e).1 (h1 z hz)
    · by_cases hk : ky x = ky r
      · simp only [insB, if_neg q, if_pos hk]
        exact List.pairwise_cons.2 ⟨fun y hy => (rlt_ky' (b := (x.1, x.2.1, w (x.2.2 + r.2.2))) (c := x) rfl).2 (h1 y hy), h2⟩
      · simp only [insB, if_neg q, if_neg hk]
        have hrx : rlt r x := Classical.byContradiction fun hn => hk (rlt_total q hn)
        refine List.pairwise_cons.2 ⟨fun y hy => ?_, h⟩
        rcases List.mem_cons.1 hy with rfl | hy
        · exact hrx
        · exact rlt_trans hrx (h1 y hy)
theorem insB_amt : (l : List Row) → (r : Row) → (e : Key) → Cg (amt (insB l r) e) (amt l e + if ky r = e then r.2.2 else 0)
  | [], r, e => .of_eq (by simp [insB, amt])
  | x :: l, r, e => by
    by_cases q : rlt x r
    · simp only [insB, if_pos q, amt]
      have := (Cg.rfl (a := if ky x = e then x.2.2 else 0)).add (insB_amt l r e)
      exact this.trans (.of_eq (by omega))
    · by_cases hk : ky x = ky r
      · simp only [insB, if_neg q, if_pos hk, amt]
        have hk2 : ky (x.1, x.2.1, w (x.2.2 + r.2.2)) = ky x := rfl
        rw [hk2, hk]
        by_cases he : ky r = e
        · simp only [if_pos he]
          exact ((cg_w (x.2.2 + r.2.2)).add (Cg.rfl (a := amt l e))).trans (.of_eq (by omega))
        · simp only [if_neg he]
          exact .of_eq (by omega)
      · simp only [insB, if_neg q, if_neg hk, amt]
        exact .of_eq (by omega)
theorem insB_len : (l : List Row) → (r : Row) → (insB l r).length ≤ l.length + 1
  | [], r => by simp [insB]
  | x :: l, r => by
    by_cases q : rlt x r
    · simp only [insB, if_pos q, List.length_cons]; have := insB_len l r; omega
    · by_cases hk : ky x = ky r
      · simp only [insB, if_neg q, if_pos hk, List.length_cons]; omega
      · simp only [insB, if_neg q, if_neg hk, List.length_cons]; omega
theorem insB_rng : (l : List Row) → (r : Row) → (∀ x ∈ l, w x.2.2 = x.2.2) → w r.2.2 = r.2.2 → ∀ x ∈ insB l r, w x.2.2 = x.2.2
  | [], r, _, hr, x, hx => by simp [insB] at hx; rw [hx]; exact hr
  | y :: l, r, h, hr, x, hx => by
    by_cases q : rlt y r
    · simp only [insB, if_pos q] at hx
      rcases List.mem_cons.1 hx with rfl | hx
      · exact h x (by simp)
      · exact insB_rng l r (fun x hx => h x (by simp [hx])) hr x hx
    · by_cases hk : ky y = ky r
      · simp only [insB, if_neg q, if_pos hk] at hx
        rcases List.mem_cons.1 hx with rfl | hx
        · exact w_idem _
        · exact h x (by simp [hx])
      · simp only [insB, if_neg q, if_neg hk] at hx
        rcases List.mem_cons.1 hx with rfl | hx
        · exact hr
        · exact h x hx
theorem Ahead_eq (N : Nat) (x r : Row) : D_ref_rowsAhead N (x, r, ()) = some (decide (rlt x r), ()) := by
  simp only [D_ref_rowsAhead, ref_rowsAhead_1]
  by_cases q : x.1 = r.1
  · rw [q, bne_self_eq_false, cond_false]
    exact congrArg (fun b => some (b, ())) (bool_eq (by simp only [decide_eq_true_eq]; unfold rlt; omega))
  · rw [show (x.1 != r.1) = true from bne_iff_ne.2 q, cond_true]
    exact congrArg (fun b => some (b, ())) (bool_eq (by simp only [decide_eq_true_eq]; unfold rlt; omega))
theorem shift_set {l : List Row} {i : Nat} (h1 : 0 < i) (h2 : i ≤ l.length) (z : Row) : (l.take i ++ z :: l.drop i).set i (nth (0, 0, 0) (l.take i ++ z :: l.drop i) (i - 1)) = l.take (i - 1) ++ (nth (0, 0, 0) l (i - 1)) :: l.drop (i - 1) := by
  have hl : (l.take i).length = i := by rw [List.length_take]; omega
  have e1 : nth ((0 : Int), (0 : Int), (0 : Int)) (l.take i ++ z :: l.drop i) (i - 1) = nth (0, 0, 0) l (i - 1) := by
    unfold nth
    rw [List.getD_eq_getElem?_getD, List.getD_eq_getElem?_getD, List.getElem?_append_left (by omega), List.getElem?_take, if_pos (by omega)]
  rw [e1]
  obtain ⟨j, rfl⟩ : ∃ j, i = j + 1 := ⟨i - 1, by omega⟩
  have hj : j < l.length := by omega
  simp only [Nat.add_sub_cancel]
  rw [List.set_append_right _ _ (by omega), hl, Nat.sub_self, List.set_cons_zero, List.take_succ_eq_append_getElem hj, List.append_assoc]
  congr 1
  have : nth ((0 : Int), (0 : Int), (0 : Int)) l j = l[j] := by simp [nth, hj]
  rw [this, List.drop_eq_getElem_cons hj]
  rfl
theorem loop6 {R : Type} {N : Nat} (hN : 1000 ≤ N) (K : Int × List Row × Int × Int × List Row × Int × Int × Int × List Row → Option Rt_ref_Bag) (out v20 v27 : List Row) (v21 v22 : Int) (r : Row) (p : Nat) (hp : p ≤ out.length) (ho : out.length ≤ 128) :
    ∃ z, loopD (fun (s : Int × List Row) kn => ref_Bag_6 N K (p : Int) v20 v21 v22 r.1 r.2.1 r.2.2 v27 s.1 s.2 (backE ((p : Int), v20, v21, v22, r.1, r.2.1, r.2.2, v27) kn)) N ((out.length : Int), out ++ [r]) = K ((p : Int), v20, v21, v22, out.take p ++ z :: out.drop p, r.1, r.2.1, r.2.2, v27) := by
  obtain ⟨s', ⟨z, rfl⟩, e⟩ := loopD_inv (g := fun (s : Int × List Row) kn => ref_Bag_6 N K (p : Int) v20 v21 v22 r.1 r.2.1 r.2.2 v27 s.1 s.2 (backE ((p : Int), v20, v21, v22, r.1, r.2.1, r.2.2, v27) kn))
    (k := fun s : Int × List Row => K ((p : Int), v20, v21, v22, s.2, r.1, r.2.1, r.2.2, v27)) (out.length - p)
    (fun j s => ∃ z, s = (((out.length - j : Nat) : Int), out.take (out.length - j) ++ z :: out.drop (out.length - j))) (N := N) (s := ((out.length : Int), out ++ [r]))
    (by
      rintro j _ hj ⟨z, rfl⟩
      obtain ⟨i, hi⟩ : ∃ i, out.length - j = i + 1 := ⟨out.length - j - 1, by omega⟩
      rw [hi]
      have hl : (out.take (i + 1) ++ z :: out.drop (i + 1)).length = out.length + 1 := by rw [List.length_append, List.length_cons, List.length_take, List.length_drop]; omega
      have hw1 : IntKind.i64.wrap (((i + 1 : Nat) : Int) - 1) = (i : Int) := by rw [w64 (by omega) (by omega)]; omega
      have hsh := shift_set (l := out) (i := i + 1) (by omega) (by omega) z
      simp only [Nat.add_sub_cancel] at hsh
      refine ⟨((i : Int), out.take i ++ (nth (0, 0, 0) out i) :: out.drop i), ⟨nth (0, 0, 0) out i, by rw [show out.length - (j + 1) = i by omega]⟩, fun kn => ?_⟩
      have hd : decide ((((i + 1 : Nat) : Int)) > (p : Int)) = true := d_true (by omega)
      have heta : ∀ x : Row, (x.1, x.2.1, x.2.2) = x := fun _ => rfl
      simp only [ref_Bag_6, hd, hw1, hl, ge0_d, lt_d (show i < out.length + 1 by omega), lt_d (show i + 1 < out.length + 1 by omega), Bool.and_self, cond_true, Int.toNat_natCast, heta, hsh, backE_eq])
    (by
      rintro _ ⟨z, rfl⟩ kn
      have hd : decide ((((out.length - (out.length - p) : Nat) : Int)) > (p : Int)) = false := d_false (by omega)
      simp only [ref_Bag_6, hd, cond_false])
    (by omega) ⟨r, by simp⟩
  refine ⟨z, e.trans ?_⟩
  simp only [show out.length - (out.length - p) = p by omega]
theorem loop9 {N : Nat} (hN : 1000 ≤ N) (K : Int × List Row × Int × Int × List Row × Int × Int × Int → Option Rt_ref_Bag) (l out : List Row) (v6 v7 : Int) (r : Row) (ho : out.length ≤ 128) :
    loopD (fun (s : Int) kn => ref_Bag_9 N K l v6 v7 out r.1 r.2.1 r.2.2 s (backE (l, v6, v7, out, r.1, r.2.1, r.2.2) kn)) N (0 : Int) = K ((posB out r : Int), l, v6, v7, out, r.1, r.2.1, r.2.2) := by
  have hle := posB_le out r
  have heta : ∀ x : Row, (x.1, x.2.1, x.2.2) = x := fun _ => rfl
  refine loopD_path (posB out r) (fun i => (i : Int)) (fun i hi kn => ?_) (fun kn => ?_) (by omega)
  · simp only [ref_Bag_9, lt_d (show i < out.length by omega), ge0_d, Bool.and_self, cond_true, Int.toNat_natCast, heta, Ahead_eq N, Option.bind_some, d_true (posB_in out r i hi), ix1 (show i < out.length by omega) (by omega), backE_eq]
    rfl
  · by_cases h : posB out r < out.length
    · simp only [ref_Bag_9, lt_d h, ge0_d, Bool.and_self, cond_true, Int.toNat_natCast, heta, Ahead_eq N, Option.bind_some, d_false (posB_out out r h), cond_false]
    · simp only [ref_Bag_9, d_false (show ¬ ((posB out r : Nat) : Int) < ((out.length : Nat) : Int) by omega), cond_false]
/-- One row goes into the document's bag. -/
theorem bag_row {N : Nat} (hN : 1000 ≤ N) (l : List Row) {i : Nat} (hi : i < l.length) (hl : l.length ≤ 128) (out : List Row) (ho : out.length ≤ 128) (K : List Row → Option Rt_ref_Bag) (kn : Int × List Row → Option Rt_ref_Bag) :
    ref_Bag_10 N K l (l.length : Int) (i : Int) out (backE (l, (l.length : Int)) kn) = kn ((i : Int) + 1, insB out (nth (0, 0, 0) l i)) := by
  simp only [ref_Bag_10, lt_d hi, ge0_d, Int.toNat_natCast, Bool.and_self, cond_true, joinD, loopE]
  generalize hr : nth ((0 : Int), (0 : Int), (0 : Int)) l i = r
  rw [loop9 hN _ l out _ _ r ho]
  have hp := posB_le out r
  have hnext : ∀ o : List Row, ref_Bag_4 N (backE (l, (l.length : Int)) kn) l (l.length : Int) (i : Int) o = kn ((i : Int) + 1, o) := fun o => by
    simp only [ref_Bag_4, ix1 hi (by omega), backE_eq]
  -- a row of a new key
  have hnew : ¬ (posB out r < out.length ∧ ky (nth (0, 0, 0) out (posB out r)) = ky r) → ref_Bag_7 N (fun s : List Row × Int × Int × List Row × Int × Int × Int => ref_Bag_4 N (backE (l, (l.length : Int)) kn) s.1 s.2.1 s.2.2.1 s.2.2.2.1) (posB out r : Int) l (l.length : Int) (i : Int) out r.1 r.2.1 r.2.2 = kn ((i : Int) + 1, insB out r) := fun hno => by
    have hcap : decide ((out.length + ([(r.1, r.2.1, r.2.2)] : List Row).length) * 24 ≤ 140737488355328) = true := d_true (by simp only [List.length_singleton]; omega)
    have hw1 : IntKind.i64.wrap ((((out ++ [(r.1, r.2.1, r.2.2)]).length : Nat) : Int) - 1) = (out.length : Int) := by
      rw [List.length_append, List.length_singleton, w64 (by omega) (by omega)]; omega
    simp only [ref_Bag_7, hcap, show Nat.ble 1 24 = true from rfl, Bool.and_self, cond_true, joinD, loopE, hw1]
    obtain ⟨z, e⟩ := loop6 (R := Unit) hN (fun s : Int × List Row × Int × Int × List Row × Int × Int × Int × List Row => ref_Bag_5 N (fun s : List Row × Int × Int × List Row × Int × Int × Int => ref_Bag_4 N (backE (l, (l.length : Int)) kn) s.1 s.2.1 s.2.2.1 s.2.2.2.1) s.1 s.2.1 s.2.2.1 s.2.2.2.1 s.2.2.2.2.1 s.2.2.2.2.2.1 s.2.2.2.2.2.2.1 s.2.2.2.2.2.2.2.1) out l [(r.1, r.2.1, r.2.2)] (l.length : Int) (i : Int) r (posB out r) hp ho
    refine e.trans ?_
    have hl3 : (out.take (posB out r) ++ z :: out.drop (posB out r)).length = out.length + 1 := by rw [List.length_append, List.length_cons, List.length_take, List.length_drop]; omega
    simp only [ref_Bag_5, hl3, ge0_d, lt_d (show posB out r < out.length + 1 by omega), Bool.and_self, cond_true, Int.toNat_natCast, hnext]
    rw [insB_new out r hno]
    have hlt : (out.take (posB out r)).length = posB out r := by rw [List.length_take]; omega
    rw [List.set_append_right _ _ (by omega), hlt, Nat.sub_self, List.set_cons_zero]
  simp only [ref_Bag_8, joinD]
  by_cases h1 : posB out r < out.length
  · simp only [lt_d h1, ge0_d, Bool.and_self, cond_true, Int.toNat_natCast]
    by_cases h2 : (nth ((0 : Int), (0 : Int), (0 : Int)) out (posB out r)).1 = r.1
    · rw [show ((nth ((0 : Int), (0 : Int), (0 : Int)) out (posB out r)).1 == r.1) = true from beq_iff_eq.2 h2, cond_true]
      by_cases h3 : (nth ((0 : Int), (0 : Int), (0 : Int)) out (posB out r)).2.1 = r.2.1
      · rw [show ((nth ((0 : Int), (0 : Int), (0 : Int)) out (posB out r)).2.1 == r.2.1) = true from beq_iff_eq.2 h3, cond_true]
        rw [hnext, insB_same out r h1 (by unfold ky; rw [h2, h3])]
        rfl
      · rw [show ((nth ((0 : Int), (0 : Int), (0 : Int)) out (posB out r)).2.1 == r.2.1) = false from beq_false_of_ne h3, cond_false]
        exact hnew fun ⟨_, e⟩ => h3 (by unfold ky at e; exact (Prod.mk.inj e).2)
    · rw [show ((nth ((0 : Int), (0 : Int), (0 : Int)) out (posB out r)).1 == r.1) = false from beq_false_of_ne h2, cond_false]
      exact hnew fun ⟨_, e⟩ => h2 (by unfold ky at e; exact (Prod.mk.inj e).1)
  · rw [d_false (show ¬ ((posB out r : Nat) : Int) < ((out.length : Nat) : Int) by omega), cond_false]
    exact hnew fun ⟨e, _⟩ => h1 e
theorem amt_nz (out : List Row) (e : Key) : amt (out.filter fun r => decide (r.2.2 ≠ 0)) e = amt out e := by
  induction out with
  | nil => rfl
  | cons r out ih =>
    by_cases q : r.2.2 = 0
    · rw [List.filter_cons_of_neg (by simp [q]), ih]; simp only [amt, q]; split <;> omega
    · rw [List.filter_cons_of_pos (by simp [q])]; simp only [amt, ih]
/-- The document's bag of rows. -/
theorem Bag_eq {N : Nat} (hN : 1000 ≤ N) (l : List Row) (hl : l.length ≤ 128) (hw : ∀ r ∈ l, w r.2.2 = r.2.2) : ∃ out : List Row, D_ref_Bag N (l, ()) = some out ∧ IsBag (amt l) out ∧ out.length ≤ l.length := by
  simp only [D_ref_Bag, ref_Bag_11, joinD, loopE]
  obtain ⟨s', ⟨h1, h2, h3, h4, h5⟩, e⟩ := loopD_inv (g := fun (s : Int × List Row) kn => ref_Bag_10 N (fun s => ref_Bag_3 N s) l (l.length : Int) s.1 s.2 (backE (l, (l.length : Int)) kn)) (k := fun s : Int × List Row => ref_Bag_3 N s.2) l.length
    (fun i s => s.1 = (i : Int) ∧ s.2.Pairwise rlt ∧ (∀ e, Cg (amt s.2 e) (amt (l.take i) e)) ∧ s.2.length ≤ i ∧ ∀ x ∈ s.2, w x.2.2 = x.2.2) (N := N) (s := ((0 : Int), []))
    (by
      rintro i ⟨_, out⟩ hi ⟨rfl, p1, p2, p3, p4⟩
      simp only at p1 p2 p3 p4
      refine ⟨((i : Int) + 1, insB out (nth (0, 0, 0) l i)), ⟨by simp, insB_sorted _ _ p1, fun e => ?_, ?_, insB_rng _ _ p4 (hw _ (nth_mem hi))⟩, fun kn => bag_row hN l hi hl out (by omega) _ kn⟩
      · refine (insB_amt out (nth (0, 0, 0) l i) e).trans ?_
        rw [take_nth (z := ((0 : Int), (0 : Int), (0 : Int))) hi, amt_append]
        simp only [amt, Int.add_zero]
        exact (p2 e).add Cg.rfl
      · have := insB_len out (nth (0, 0, 0) l i)
        simp only; omega)
    (by
      rintro ⟨_, out⟩ ⟨rfl, p⟩ kn
      simp only [ref_Bag_10, lt_self, cond_false])
    (by omega) ⟨rfl, .nil, fun e => Cg.rfl, Nat.le_refl _, fun x hx => by cases hx⟩
  rw [List.take_length] at h3
  obtain ⟨i0, out⟩ := s'
  simp only at h1 h2 h3 h4 h5 e
  rw [e]
  -- those that are left
  have hleft : ref_Bag_3 N out = some (out.filter fun r => decide (r.2.2 ≠ 0)) := by
    simp only [ref_Bag_3, joinD, loopE]
    have heta : ∀ x : Row, (x.1, x.2.1, x.2.2) = x := fun _ => rfl
    obtain ⟨s', hI, e⟩ := loopD_inv (g := fun (s : Int × List Row) kn => ref_Bag_2 N (fun s : List Row × List Row => ref_Bag_1 N s.2) (out.length : Int) out s.1 s.2 (backE ((out.length : Int), out) kn)) (k := fun s : Int × List Row => some s.2) out.length
      (fun i s => s = ((i : Int), (out.take i).filter fun r => decide (r.2.2 ≠ 0))) (N := N) (s := ((0 : Int), []))
      (by
        rintro i _ hi rfl
        refine ⟨_, rfl, fun kn => ?_⟩
        have hlen := List.length_filter_le (fun r : Row => decide (r.2.2 ≠ 0)) (out.take i)
        rw [List.length_take] at hlen
        simp only [ref_Bag_2, lt_d hi, ge0_d, Int.toNat_natCast, Bool.and_self, cond_true, heta, ix1 hi (by omega)]
        rw [take_nth (z := ((0 : Int), (0 : Int), (0 : Int))) hi, List.filter_append]
        by_cases q : (nth ((0 : Int), (0 : Int), (0 : Int)) out i).2.2 = 0
        · rw [show ((nth ((0 : Int), (0 : Int), (0 : Int)) out i).2.2 != 0) = false by rw [q]; rfl, cond_false, backE_eq, List.filter_cons_of_neg (by simp [q]), List.filter_nil, List.append_nil]
          rfl
        · rw [show ((nth ((0 : Int), (0 : Int), (0 : Int)) out i).2.2 != 0) = true from bne_iff_ne.2 q, cond_true, List.filter_cons_of_pos (by simp [q]), List.filter_nil]
          rw [d_true (show (((out.take i).filter fun r => decide (r.2.2 ≠ 0)).length + ([nth ((0 : Int), (0 : Int), (0 : Int)) out i] : List Row).length) * 24 ≤ 140737488355328 by simp only [List.length_singleton]; omega), show Nat.ble 1 24 = true from rfl, Bool.and_self, cond_true, backE_eq]
          rfl)
      (by
        rintro _ rfl kn
        simp only [ref_Bag_2, lt_self, cond_false, ref_Bag_1])
      (by omega) rfl
    subst hI
    rw [e, List.take_length]
  refine ⟨_, hleft, ⟨h2.sublist List.filter_sublist, fun r hr => by simpa using (List.mem_filter.1 hr).2, fun e => ?_⟩, by have := List.length_filter_le (fun r : Row => decide (r.2.2 ≠ 0)) out; omega⟩
  have hz : amt (out.filter fun r => decide (r.2.2 ≠ 0)) e = amt out e := amt_nz out e
  rw [hz]
  by_cases hk : ∃ r ∈ out, ky r = e
  · obtain ⟨r, hr, rfl⟩ := hk
    have ha := amt_mem (rise_nodup h2) hr
    rw [ha, ← h5 r hr, ← ha]
    exact h3 _
  · have ha : amt out e = 0 := amt_notin fun r hr he => hk ⟨r, hr, he⟩
    have := h3 e
    rw [ha] at this ⊢
    unfold Cg at this
    rw [w_zero] at this
    exact this
/-- What is there of rows. -/
theorem There_eq {N : Nat} (hN : 1000 ≤ N) (l : List Row) (hl : l.length ≤ 128) (hw : ∀ r ∈ l, w r.2.2 = r.2.2) : ∃ bag : List Row, IsBag (amt l) bag ∧ bag.length ≤ l.length ∧ D_ref_There N (l, ()) = some ((bag.filter fun r => decide (r.2.2 > 0)).map oneR) := by
  obtain ⟨out, h1, h2, h3⟩ := Bag_eq hN l hl hw
  refine ⟨out, h2, h3, ?_⟩
  simp only [D_ref_There, ref_There_3, joinD, loopE, h1, Option.bind_some]
  obtain ⟨s', hI, e⟩ := loopD_inv (g := fun (s : Int × List Row) kn => ref_There_2 N (fun s : List Row × List Row => ref_There_1 N s.2) (out.length : Int) out s.1 s.2 (backE ((out.length : Int), out) kn)) (k := fun s : Int × List Row => some s.2) out.length
    (fun i s => s = ((i : Int), ((out.take i).filter fun r => decide (r.2.2 > 0)).map oneR)) (N := N) (s := ((0 : Int), []))
    (by
      rintro i _ hi rfl
      refine ⟨_, rfl, fun kn => ?_⟩
      have hlen := List.length_filter_le (fun r : Row => decide (r.2.2 > 0)) (out.take i)
      rw [List.length_take] at hlen
      simp only [ref_There_2, lt_d hi, ge0_d, Int.toNat_natCast, Bool.and_self, cond_true, ix1 hi (by omega)]
      rw [take_nth (z := ((0 : Int), (0 : Int), (0 : Int))) hi, List.filter_append]
      by_cases q : (nth ((0 : Int), (0 : Int), (0 : Int)) out i).2.2 > 0
      · rw [d_true q, cond_true, List.filter_cons_of_pos (by simpa using q), List.filter_nil, List.map_append]
        rw [d_true (show ((((out.take i).filter fun r => decide (r.2.2 > 0)).map oneR).length + ([((nth ((0 : Int), (0 : Int), (0 : Int)) out i).1, (nth ((0 : Int), (0 : Int), (0 : Int)) out i).2.1, 1)] : List Row).length) * 24 ≤ 140737488355328 by simp only [List.length_singleton, List.length_map]; omega), show Nat.ble 1 24 = true from rfl, Bool.and_self, cond_true, backE_eq]
        rfl
      · rw [d_false q, cond_false, List.filter_cons_of_neg (by simpa using q), List.filter_nil, List.append_nil, backE_eq]
        rfl)
    (by
      rintro _ rfl kn
      simp only [ref_There_2, lt_self, cond_false, ref_There_1])
    (by omega) rfl
  subst hI
  rw [e, List.take_length]
end Go.Proofs.Ytfcjibfkhmnolaa
