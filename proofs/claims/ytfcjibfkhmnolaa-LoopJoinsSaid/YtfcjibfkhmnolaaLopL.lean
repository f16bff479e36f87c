/- loop: rounds, and the limit. -/
import Derived.Test.YtfcjibfkhmnolaaLopT
namespace Go.Proofs.Ytfcjibfkhmnolaa
open Go.Abs Go.Bag
/-- One round more. -/
noncomputable def nxt (E X : List Row) : List Row := setOf (X.map ky ++ (X.map ky).flatMap fun a => (E.filter fun r => decide (r.1 = a.1)).map fun r => (r.2.1, a.2))
theorem nxt_s (E X : List Row) : S1 (nxt E X) := setOf_s _
theorem nxt_mem {E X : List Row} (k : Key) : k ∈ (nxt E X).map ky ↔ k ∈ X.map ky ∨ ∃ a ∈ X.map ky, gen E a k := by
  unfold nxt gen
  rw [setOf_mem, List.mem_append, List.mem_flatMap]
  refine or_congr Iff.rfl (exists_congr fun a => and_congr Iff.rfl ?_)
  rw [List.mem_map]
  constructor
  · rintro ⟨r, hr, rfl⟩
    obtain ⟨h1, h2⟩ := List.mem_filter.1 hr
    exact ⟨r, h1, of_decide_eq_true h2, rfl⟩
  · rintro ⟨r, h1, h2, rfl⟩
    exact ⟨r, List.mem_filter.2 ⟨h1, decide_eq_true h2⟩, rfl⟩
noncomputable def itr (E X : List Row) : Nat → List Row
  | 0 => X
  | n + 1 => nxt E (itr E X n)
theorem itr_s {E X : List Row} (h : S1 X) : ∀ n, S1 (itr E X n)
  | 0 => h
  | _ + 1 => nxt_s _ _
theorem itr_sub {E X : List Row} (n : Nat) {k : Key} (h : k ∈ (itr E X n).map ky) : k ∈ (itr E X (n + 1)).map ky := (nxt_mem k).2 (.inl h)
theorem sub_len {l m : List Row} (hl : S1 l) (h : ∀ k ∈ l.map ky, k ∈ m.map ky) : l.length ≤ m.length := by
  have := keys_le m.length m (Nat.le_refl _) (l.map ky) (rise_nodup hl.1) fun e he => by
    obtain ⟨r, hr, h2⟩ := List.mem_map.1 (h e he)
    exact ⟨r, hr, h2⟩
  rwa [List.length_map] at this
theorem sub_eq {l m : List Row} (hl : S1 l) (hm : S1 m) (h : ∀ k ∈ l.map ky, k ∈ m.map ky) (he : l.length = m.length) : l = m := by
  refine hl.uniq hm fun k => ⟨h k, fun hk => ?_⟩
  by_cases q : k ∈ l.map ky
  · exact q
  · have := keys_le m.length m (Nat.le_refl _) (k :: l.map ky) (List.nodup_cons.2 ⟨q, rise_nodup hl.1⟩) fun e he => by
      rcases List.mem_cons.1 he with rfl | he
      · obtain ⟨r, hr, h2⟩ := List.mem_map.1 hk
        exact ⟨r, hr, h2⟩
      · obtain ⟨r, hr, h2⟩ := List.mem_map.1 (h e he)
        exact ⟨r, hr, h2⟩
    rw [List.length_cons, List.length_map] at this
    omega
theorem itr_len {E X : List Row} (h : S1 X) (n : Nat) : (itr E X n).length ≤ (itr E X (n + 1)).length := sub_len (itr_s h n) fun _ => itr_sub n
theorem itr_mono {E X : List Row} {i : Nat} : ∀ {j : Nat}, i ≤ j → ∀ {k : Key}, k ∈ (itr E X i).map ky → k ∈ (itr E X j).map ky
  | 0, h, k, hk => by
    obtain rfl : i = 0 := (by omega)
    exact hk
  | j + 1, h, k, hk => by
    by_cases e : i = j + 1
    · subst e; exact hk
    · exact itr_sub j (itr_mono (by omega) hk)
/-- Where it stops. -/
def Stops (E X : List Row) (m : Nat) : Prop := 128 < (itr E X (m + 1)).length ∨ (itr E X (m + 1)).length = (itr E X m).length
theorem stops_ex {E X : List Row} (h : S1 X) : ∃ m, m ≤ 128 ∧ Stops E X m ∧ ∀ i, i < m → ¬ Stops E X i := by
  have hex : ∃ m, Stops E X m := by
    by_cases q : ∃ m, Stops E X m
    · exact q
    · exfalso
      have hg : ∀ m, m ≤ (itr E X m).length := fun m => by
        induction m with
        | zero => omega
        | succ m ih =>
          have h1 := itr_len (E := E) h m
          have h2 : (itr E X (m + 1)).length ≠ (itr E X m).length := fun e => q ⟨m, .inr e⟩
          omega
      exact q ⟨128, .inl (Nat.lt_of_lt_of_le (by omega) (hg 129))⟩
  obtain ⟨m, h1, h2⟩ := least hex
  have h3 : ∀ i, i < m → ¬ Stops E X i := fun i hi hs => by have := h2 i hs; omega
  refine ⟨m, ?_, h1, h3⟩
  have hg : ∀ i, i ≤ m → i ≤ (itr E X i).length := fun i => by
    induction i with
    | zero => intro _; omega
    | succ i ih =>
      intro hi
      have h4 := ih (by omega)
      have h5 := itr_len (E := E) h i
      have h6 : (itr E X (i + 1)).length ≠ (itr E X i).length := fun e => h3 i (by omega) (.inr e)
      omega
  rcases Nat.lt_or_ge 128 m with q | q
  · exfalso
    have := hg m (Nat.le_refl _)
    refine h3 (m - 1) (by omega) (.inl ?_)
    rw [show m - 1 + 1 = m by omega]
    omega
  · exact q
theorem cb_len (l : List Row) : (cb l).2.length = l.length := by unfold cb; simp
theorem step2 (N : Nat) (x : Bg × Bg) : D_loop_step_h2 N x = D_loop_step_h N x := rfl
theorem len_mul {a b : Nat} (ha : a ≤ 128) (hb : b ≤ 128) : a * b ≤ 16384 := Nat.mul_le_mul ha hb
theorem step_nxt {N : Nat} {E X : List Row} (hE : S1 E) (hX : S1 X) (h1 : E.length ≤ 128) (h2 : X.length ≤ 128) (hN : 1000 ≤ N) : D_loop_step_h N (cb E, cb X) = some (cb E, cb X, cb (nxt E X)) :=
  step_run hE hX (nxt_s E X) (fun k => nxt_mem k) (by omega) (by omega) (by have := len_mul h2 h1; omega)
theorem there_of {N : Nat} (hN : 1000 ≤ N) {l : List Row} (hl : l.length ≤ 128) : ∃ b d, IsBag (amt l) b ∧ b.length ≤ l.length ∧ D_bags_Of_h N l = some d ∧ D_loop_there_h N d = some (d, cb (thr b)) := by
  obtain ⟨d, e1, h, e3⟩ := Of_eq (N := N) l (by omega) (by omega)
  have hn : ((d.2.map rowOf).map ky).Nodup := by rw [List.map_map]; exact h.ok.keys
  obtain ⟨out, r1, r2, r3⟩ := Rows_eq h (N := N) (by omega) (by omega)
  obtain ⟨ys, _, s2, s3⟩ := sort_rows (N := 10) (by omega) (xs := d.2.map rowOf) (by rw [List.length_map]; omega) hn
  have hb : IsBag (amt l) ys := by
    refine ⟨s3, fun r hr => ?_, fun e => ?_⟩
    · obtain ⟨x, hx, rfl⟩ := List.mem_map.1 (s2.subset hr)
      exact h.nz x hx
    · rw [amt_perm s2 e, ← h.val e]
      cases q : mpHas kS vS d e with
      | true =>
        obtain ⟨x, x1, x2, x3⟩ := has_mem (k := kS) (v := vS) q
        have := amt_mem hn (List.mem_map.2 ⟨x, x1, rfl⟩)
        have hk : ky (rowOf x) = e := x2
        rw [hk] at this
        rw [this]; exact x3
      | false =>
        rw [get_zero (k := kS) (v := vS) q]
        refine amt_notin fun r hr hk => ?_
        obtain ⟨x, hx, rfl⟩ := List.mem_map.1 hr
        have := (mem_get (k := kS) (v := vS) kSn h.ok hx).1
        have hk' : x.2.1 = e := hk
        rw [hk', q] at this
        cases this
  exact ⟨ys, d, hb, by have := s2.length_eq; rw [List.length_map] at this; omega, e1, there_eq s3 s2 (by omega) (by omega)⟩
theorem thr_len (l : List Row) : (thr l).length ≤ l.length := by unfold thr; rw [List.length_map]; exact List.length_filter_le _ _
theorem thr_bag {l b : List Row} (h : IsBag (amt l) b) : S1 (thr b) := thr_s h.rise
/-- What the limit comes to. -/
theorem Limit_eq {N : Nat} (hN : 1000 ≤ N) (edges x : List Row) :
    (D_loop_Limit N (edges, x, ()) = some ([], 0, 1, ()) ∧ (128 < edges.length ∨ 128 < x.length)) ∨
    (edges.length ≤ 128 ∧ x.length ≤ 128 ∧ ∃ be bx, IsBag (amt edges) be ∧ IsBag (amt x) bx ∧ be.length ≤ edges.length ∧ bx.length ≤ x.length ∧
      ((D_loop_Limit N (edges, x, ()) = some ([], 0, 1, ()) ∧ ∃ i, 128 < (itr (thr be) (thr bx) i).length) ∨
      ∃ m : Nat, D_loop_Limit N (edges, x, ()) = some (itr (thr be) (thr bx) m, (m : Int), 0, ()) ∧ nxt (thr be) (itr (thr be) (thr bx) m) = itr (thr be) (thr bx) m ∧ (itr (thr be) (thr bx) m).length ≤ 128 ∧
        ∀ i, i < m → nxt (thr be) (itr (thr be) (thr bx) i) ≠ itr (thr be) (thr bx) i)) := by
  simp only [D_loop_Limit, loop_Limit_2, Large_eq (N := N) (ls := [edges, x]) (by simp; omega) (by simp), Option.bind_some]
  by_cases q : ∃ l ∈ [edges, x], 128 < l.length
  · refine .inl ⟨by rw [decide_eq_true q, cond_true], ?_⟩
    obtain ⟨l, hl, h⟩ := q
    simp only [List.mem_cons, List.not_mem_nil, or_false] at hl
    rcases hl with rfl | rfl
    · exact .inl h
    · exact .inr h
  · have l1 : edges.length ≤ 128 := Nat.le_of_not_lt fun h => q ⟨edges, by simp, h⟩
    have l2 : x.length ≤ 128 := Nat.le_of_not_lt fun h => q ⟨x, by simp, h⟩
    obtain ⟨be, de, hb1, hl1, o1, t1⟩ := there_of hN l1
    obtain ⟨bx, dx, hb2, hl2, o2, t2⟩ := there_of hN l2
    refine .inr ⟨l1, l2, be, bx, hb1, hb2, hl1, hl2, ?_⟩
    rw [decide_eq_false q, cond_false]
    simp only [o1, o2, t1, t2, Option.bind_some, loopE]
    have sE := thr_bag hb1
    have sX := thr_bag hb2
    have nE : (thr be).length ≤ 128 := by have := thr_len be; omega
    have nX : (thr bx).length ≤ 128 := by have := thr_len bx; omega
    generalize thr be = E at *
    generalize thr bx = X at *
    obtain ⟨m, m1, m2, m3⟩ := stops_ex (E := E) sX
    have hle : ∀ i, i ≤ m → (itr E X i).length ≤ 128 := fun i => by
      cases i with
      | zero => intro _; exact nX
      | succ i => intro hi; exact Nat.le_of_not_lt fun h => m3 i (by omega) (.inl h)
    have body : ∀ (i : Nat), i ≤ m → ∀ kn, loop_Limit_1 N [edges, x] de dx (i : Int) (cb E) (cb (itr E X i)) kn =
        (bif decide (((itr E X (i + 1)).length : Int) > 128) then (some ([], (0 : Int), (1 : Int), ())) else (bif (((itr E X (i + 1)).length : Int) == ((itr E X i).length : Int)) then some (itr E X i, (i : Int), (0 : Int), ()) else kn (([edges, x], de, dx), (IntKind.i64.wrap ((i : Int) + 1), cb E, cb (itr E X (i + 1)))))) := fun i hi kn => by
      have hr := rows_h2 (N := N) (itr_s (E := E) sX i).1 (by have := hle i hi; omega) (by have := hle i hi; omega)
      simp only [loop_Limit_1, step2, step_nxt sE (itr_s sX i) nE (hle i hi) hN, Option.bind_some, cb_len, hr]
      rfl
    have hrun : ∀ r, (∀ kn, loop_Limit_1 N [edges, x] de dx (m : Int) (cb E) (cb (itr E X m)) (backE ([edges, x], de, dx) kn) = some r) →
        loopD (fun (s : Int × Bg × Bg) kn => loop_Limit_1 N [edges, x] de dx s.1 s.2.1 s.2.2 (backE ([edges, x], de, dx) kn)) N ((0 : Int), cb E, cb X) = some r := fun r hr =>
      loopD_path (n := m) (st := fun i => ((i : Int), cb E, cb (itr E X i))) (fun i hi kn => by
        have h1 : ¬ ((itr E X (i + 1)).length : Int) > 128 := by have := hle (i + 1) (by omega); omega
        have h2 : ((itr E X (i + 1)).length : Int) ≠ ((itr E X i).length : Int) := fun e => m3 i hi (.inr (by omega))
        simp only [body i (by omega)]
        rw [d_false h1, cond_false, beq_false_of_ne h2, cond_false, backE_eq, w64 (n := (i : Int) + 1) (by omega) (by omega)]
        rfl) (fun kn => hr kn) (by omega)
    by_cases c1 : 128 < (itr E X (m + 1)).length
    · refine .inl ⟨hrun _ fun kn => ?_, m + 1, c1⟩
      rw [body m (Nat.le_refl _), d_true (show ((itr E X (m + 1)).length : Int) > 128 by omega), cond_true]
    · have c2 : (itr E X (m + 1)).length = (itr E X m).length := m2.resolve_left c1
      refine .inr ⟨m, hrun _ fun kn => ?_, ?_, hle m (Nat.le_refl _), fun i hi e => m3 i hi (.inr (by show (nxt E _).length = _; rw [e]))⟩
      · rw [body m (Nat.le_refl _), d_false (show ¬ ((itr E X (m + 1)).length : Int) > 128 by omega), cond_false, c2, beq_self_eq_true, cond_true]
      · exact (sub_eq (itr_s sX m) (itr_s sX (m + 1)) (fun _ => itr_sub m) c2.symm).symm
end Go.Proofs.Ytfcjibfkhmnolaa
