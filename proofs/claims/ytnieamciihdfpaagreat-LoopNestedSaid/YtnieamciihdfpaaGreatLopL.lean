import Derived.Test.YtnieamciihdfpaaGreatLopT
namespace Go.Proofs.YtnieamciihdfpaaGreat
open Go.Abs Go.Bag
noncomputable def nxt (E X : List Row) : List Row := setOf (X.map ky ++ (X.map ky).flatMap fun a => (E.filter fun r => decide (r.1 = a.1)).map fun r => (r.2.1, a.2))
theorem nxt_s (E X : List Row) : S1 (nxt E X) := setOf_s _
theorem nxt_mem {E X : List Row} (k : Key) : k ∈ (nxt E X).map ky ↔ k ∈ X.map ky ∨ ∃ a ∈ X.map ky, gen E a k := by
 unfold nxt gen
 rw [setOf_mem, List.mem_append, List.mem_flatMap]
 refine or_congr Iff.rfl (exists_congr fun a => and_congr Iff.rfl ?_)
 rw [List.mem_map]
 constructor
 ·rintro ⟨r, hr, rfl⟩
  obtain ⟨h1, h2⟩ := List.mem_filter.1 hr
  exact ⟨r, h1, of_decide_eq_true h2, rfl⟩
 ·rintro ⟨r, h1, h2, rfl⟩
  exact ⟨r, List.mem_filter.2 ⟨h1, decide_eq_true h2⟩, rfl⟩
noncomputable def itr (E X : List Row) : Nat → List Row
 | 0 => X
 | n + 1 => nxt E (itr E X n)
theorem itr_s {E X : List Row} (h : S1 X) : ∀ n, S1 (itr E X n)
 | 0 => h
 | _ + 1 => nxt_s _ _
theorem sub_len {l m : List Row} (hl : S1 l) (h : ∀ k ∈ l.map ky, k ∈ m.map ky) : l.length ≤ m.length := by
 have := keys_le m.length m (Nat.le_refl _) (l.map ky) (rise_nodup hl.1) fun e he => by
  obtain ⟨r, hr, h2⟩ := List.mem_map.1 (h e he)
  exact ⟨r, hr, h2⟩
 rwa [List.length_map] at this
theorem cb_len (l : List Row) : (cb l).2.length = l.length := by unfold cb; simp
theorem len_mul {a b : Nat} (ha : a ≤ 128) (hb : b ≤ 128) : a * b ≤ 16384 := Nat.mul_le_mul ha hb
theorem step_nxt {N : Nat} {E X : List Row} (hE : S1 E) (hX : S1 X) (h1 : E.length ≤ 128) (h2 : X.length ≤ 128) (hN : 1000 ≤ N) : D_loop_step_h N (cb E, cb X) = some (cb E, cb X, cb (nxt E X)) :=
 step_run hE hX (nxt_s E X) (fun k => nxt_mem k) (by omega) (by omega) (by have := len_mul h2 h1; omega)
theorem there_of {N : Nat} (hN : 1000 ≤ N) {l : List Row} (hl : l.length ≤ 128) : ∃ b d, IsBag (amt l) b ∧ b.length ≤ l.length ∧ D_bags_Of_h N l = some d ∧ D_loop_there_h N d = some (d, cb (thr b)) := by
 obtain ⟨d, e1, h, e3⟩ := Of_eq (N := N) l (by omega) (by omega)
 have hn : ((d.2.map rowOf).map ky).Nodup := by rw [List.map_map]; exact h.ok.keys
 obtain ⟨out, r1, r2, r3⟩ := Rows_eq h (N := N) (by omega) (by omega)
 obtain ⟨ys, _, s2, s3⟩ := sort_rows (N := 10) (by omega) (xs := d.2.map rowOf) (by rw [List.length_map]; omega) hn
 have hb : IsBag (amt l) ys := by
  refine ⟨s3, fun r hr => ?_, fun e => ?_⟩
  ·obtain ⟨x, hx, rfl⟩ := List.mem_map.1 (s2.subset hr)
   exact h.nz x hx
  ·rw [amt_perm s2 e, ← h.val e]
   cases q : mpHas kS vS d e with
   | true =>
    obtain ⟨x, x1, x2, x3⟩ := has_mem (k := kS) (v := vS) q
    have := amt_mem hn (List.mem_map.2 ⟨x, x1, rfl⟩)
    have hk : ky (rowOf x) = e := x2
    rw [hk] at this
    rw [this]; exact x3
   | false =>
    rw [get_zero (k := kS) (v := vS) q]
    refine amt_notin fun r hr hk => ?_
    obtain ⟨x, hx, rfl⟩ := List.mem_map.1 hr
    have := (mem_get (k := kS) (v := vS) kSn h.ok hx).1
    have hk' : x.2.1 = e := hk
    rw [hk', q] at this
    cases this
 exact ⟨ys, d, hb, by have := s2.length_eq; rw [List.length_map] at this; omega, e1, there_eq s3 s2 (by omega) (by omega)⟩
theorem thr_len (l : List Row) : (thr l).length ≤ l.length := by unfold thr; rw [List.length_map]; exact List.length_filter_le _ _
theorem thr_bag {l b : List Row} (h : IsBag (amt l) b) : S1 (thr b) := thr_s h.rise
theorem Step_eq {N : Nat} (hN : 1000 ≤ N) (edges x : List Row) :
  (D_loop_Step N (edges, x, ()) = some ([], 1, ()) ∧ (128 < edges.length ∨ 128 < x.length)) ∨
  (edges.length ≤ 128 ∧ x.length ≤ 128 ∧ ∃ be bx, IsBag (amt edges) be ∧ IsBag (amt x) bx ∧ be.length ≤ edges.length ∧ bx.length ≤ x.length ∧
   D_loop_Step N (edges, x, ()) = some (if (nxt (thr be) (thr bx)).length > 128 then ([], 1, ()) else (nxt (thr be) (thr bx), 0, ()))) := by
 simp only [D_loop_Step, loop_Step_1, Large_eq (N := N) (ls := [edges, x]) (by simp; omega) (by simp), Option.bind_some]
 by_cases q : ∃ l ∈ [edges, x], 128 < l.length
 ·refine .inl ⟨by rw [decide_eq_true q, cond_true], ?_⟩
  obtain ⟨l, hl, h⟩ := q
  simp only [List.mem_cons, List.not_mem_nil, or_false] at hl
  rcases hl with rfl | rfl
  ·exact .inl h
  ·exact .inr h
 ·have l1 : edges.length ≤ 128 := Nat.le_of_not_lt fun h => q ⟨edges, by simp, h⟩
  have l2 : x.length ≤ 128 := Nat.le_of_not_lt fun h => q ⟨x, by simp, h⟩
  obtain ⟨be, de, hb1, hl1, o1, t1⟩ := there_of hN l1
  obtain ⟨bx, dx, hb2, hl2, o2, t2⟩ := there_of hN l2
  refine .inr ⟨l1, l2, be, bx, hb1, hb2, hl1, hl2, ?_⟩
  rw [decide_eq_false q, cond_false]
  have sE := thr_bag hb1
  have sX := thr_bag hb2
  have nE : (thr be).length ≤ 128 := by have := thr_len be; omega
  have nX : (thr bx).length ≤ 128 := by have := thr_len bx; omega
  have ht := tells_h2 (N := N) (nxt_s (thr be) (thr bx)).1 (by omega)
  by_cases c : (nxt (thr be) (thr bx)).length > 128
  ·rw [if_pos c] at ht ⊢
   simp only [o1, o2, t1, t2, Option.bind_some, step_nxt sE sX nE nX hN, ht]
  ·rw [if_neg c] at ht ⊢
   simp only [o1, o2, t1, t2, Option.bind_some, step_nxt sE sX nE nX hN, ht]
end Go.Proofs.YtnieamciihdfpaaGreat
