import Derived.Test.YtnieamciihdfpaaGreatLoop
import Derived.Test.YtnieamciihdfpaaGreatOpsR
namespace Go.Proofs.YtnieamciihdfpaaGreat
open Go.Abs Go.Bag
def S1 (l : List Row) : Prop := l.Pairwise rlt ∧ ∀ r ∈ l, r.2.2 = 1
open Classical in
theorem S1.bag {l : List Row} (h : S1 l) : IsBag (fun k => if k ∈ l.map ky then 1 else 0) l := by
 refine ⟨h.1, fun r hr => by rw [h.2 r hr]; decide, fun e => ?_⟩
 have hn := rise_nodup h.1
 by_cases q : e ∈ l.map ky
 ·simp only [if_pos q]
  obtain ⟨r, hr, rfl⟩ := List.mem_map.1 q
  rw [amt_mem hn hr, h.2 r hr]; decide
 ·simp only [if_neg q]
  rw [amt_notin fun r hr he => q (List.mem_map.2 ⟨r, hr, he⟩)]; decide
theorem S1.uniq {l m : List Row} (h : S1 l) (h' : S1 m) (e : ∀ k, k ∈ l.map ky ↔ k ∈ m.map ky) : l = m := by
 have a := h.bag
 have b := h'.bag
 simp only [e] at a
 exact a.uniq b
theorem S1.nil : S1 [] := ⟨List.Pairwise.nil, fun r h => by cases h⟩
theorem S1.flt {l : List Row} (h : S1 l) : (l.filter fun r => decide (r.2.2 > 0)).map oneR = l := by
 rw [List.filter_eq_self.2 fun r hr => by rw [h.2 r hr]; rfl]
 refine (List.map_congr_left fun r hr => ?_).trans (List.map_id l)
 have := h.2 r hr
 obtain ⟨a, b, c⟩ := r
 simp only at this
 subst this; rfl
theorem mkS (ks : List Key) : ∃ l, S1 l ∧ ∀ k, k ∈ l.map ky ↔ k ∈ ks := by
 induction ks with
 | nil => exact ⟨[], S1.nil, fun k => Iff.rfl⟩
 | cons k ks ih =>
  obtain ⟨l, h, hm⟩ := ih
  by_cases q : k ∈ l.map ky
  ·refine ⟨l, h, fun x => ?_⟩
   rw [hm x, List.mem_cons]
   constructor
   ·exact .inr
   ·rintro (rfl | hx)
    ·exact (hm _).1 q
    ·exact hx
  ·have hne : ∀ r ∈ l, ky r ≠ ky (k.1, k.2, (1 : Int)) := fun r hr e => q (List.mem_map.2 ⟨r, hr, e⟩)
   have hlt : ∀ a, rlt a (k.1, k.2, (1 : Int)) → ∀ b, rlt (k.1, k.2, (1 : Int)) b → rlt a b := fun a h1 b h2 => rlt_trans h1 h2
   refine ⟨(l.filter fun r => decide (rlt r (k.1, k.2, 1))) ++ (k.1, k.2, 1) :: l.filter fun r => decide (rlt (k.1, k.2, 1) r), ⟨?_, fun r hr => ?_⟩, fun x => ?_⟩
   ·rw [List.pairwise_append]
    refine ⟨h.1.filter _, List.pairwise_cons.2 ⟨fun r hr => by simpa using (List.mem_filter.1 hr).2, h.1.filter _⟩, fun a ha b hb => ?_⟩
    have ha := of_decide_eq_true (List.mem_filter.1 ha).2
    rcases List.mem_cons.1 hb with rfl | hb
    ·exact ha
    ·exact hlt a ha b (of_decide_eq_true (List.mem_filter.1 hb).2)
   ·rcases List.mem_append.1 hr with hr | hr
    ·exact h.2 r (List.mem_filter.1 hr).1
    ·rcases List.mem_cons.1 hr with rfl | hr
     ·rfl
     ·exact h.2 r (List.mem_filter.1 hr).1
   ·rw [List.map_append, List.map_cons, List.mem_append, List.mem_cons, List.mem_cons, ← hm x]
    have hk : ky (k.1, k.2, (1 : Int)) = k := rfl
    rw [hk]
    constructor
    ·rintro (h1 | rfl | h1)
     ·obtain ⟨r, hr, rfl⟩ := List.mem_map.1 h1
      exact .inr (List.mem_map.2 ⟨r, (List.mem_filter.1 hr).1, rfl⟩)
     ·exact .inl rfl
     ·obtain ⟨r, hr, rfl⟩ := List.mem_map.1 h1
      exact .inr (List.mem_map.2 ⟨r, (List.mem_filter.1 hr).1, rfl⟩)
    ·rintro (rfl | h1)
     ·exact .inr (.inl rfl)
     ·obtain ⟨r, hr, rfl⟩ := List.mem_map.1 h1
      by_cases q1 : rlt r (k.1, k.2, 1)
      ·exact .inl (List.mem_map.2 ⟨r, List.mem_filter.2 ⟨hr, decide_eq_true q1⟩, rfl⟩)
      ·by_cases q2 : rlt (k.1, k.2, 1) r
       ·exact .inr (.inr (List.mem_map.2 ⟨r, List.mem_filter.2 ⟨hr, decide_eq_true q2⟩, rfl⟩))
       ·exact absurd (rlt_total q1 q2) (hne r hr)
noncomputable def setOf (ks : List Key) : List Row := (mkS ks).choose
theorem setOf_s (ks : List Key) : S1 (setOf ks) := (mkS ks).choose_spec.1
theorem setOf_mem (ks : List Key) (k : Key) : k ∈ (setOf ks).map ky ↔ k ∈ ks := (mkS ks).choose_spec.2 k
def cb (l : List Row) : Bg := ((0 : Int), l.map fun r => ((0 : Int), ((r.1, r.2.1), r.2.2)))
theorem cb_rows (l : List Row) : (cb l).2.map rowOf = l := by
 unfold cb
 rw [List.map_map]
 exact (List.map_congr_left fun r _ => rfl).trans (List.map_id l)
theorem leD_r (a b : Row) : leD kS (a.1, a.2.1) (b.1, b.2.1) = decide (¬ rlt b a) := by
 refine bool_eq ?_
 rw [decide_eq_true_eq]
 simp only [leD, rlt]
 by_cases h1 : a.1 ≤ b.1
 ·rw [d_true h1, cond_true]
  by_cases h2 : b.1 ≤ a.1
  ·rw [d_true h2, cond_true, decide_eq_true_eq]
   show a.2.1 ≤ b.2.1 ↔ _
   omega
  ·rw [d_false h2, cond_false]; simp only [true_iff]; omega
 ·rw [d_false h1, cond_false]; simp only [Bool.false_eq_true, false_iff]; omega
theorem canon_eq {l : List Row} (hl : l.Pairwise rlt) {d : Bg} (p : l.Perm (d.2.map rowOf)) : canonE kS vS d = cb l := by
 unfold canonE cb
 congr 1
 have e1 : ∀ m : List (Int × (Int × Int) × Int), (m.map fun e => ((0 : Int), e.2)) = (m.map rowOf).map fun r => ((0 : Int), ((r.1, r.2.1), r.2.2)) := fun m => by
  rw [List.map_map]; rfl
 rw [e1]
 congr 1
 have hperm : ((d.2.mergeSort fun a b => leD kS a.2.1 b.2.1).map rowOf).Perm l := ((List.mergeSort_perm d.2 _).map rowOf).trans p.symm
 have hs : ((d.2.mergeSort fun a b => leD kS a.2.1 b.2.1).map rowOf).Pairwise fun a b => ¬ rlt b a := by
  rw [List.pairwise_map]
  have := List.pairwise_mergeSort (le := fun a b : Int × (Int × Int) × Int => leD kS a.2.1 b.2.1) (fun a b c h1 h2 => by
   have h1 := of_decide_eq_true ((leD_r (rowOf a) (rowOf b)).symm.trans h1)
   have h2 := of_decide_eq_true ((leD_r (rowOf b) (rowOf c)).symm.trans h2)
   refine (leD_r (rowOf a) (rowOf c)).trans (decide_eq_true fun h => ?_)
   unfold rlt at *; omega) (fun a b => by
   rw [Bool.or_eq_true]
   by_cases q : rlt (rowOf b) (rowOf a)
   ·exact .inr ((leD_r (rowOf b) (rowOf a)).trans (decide_eq_true fun h => rlt_irrefl _ (rlt_trans h q)))
   ·exact .inl ((leD_r (rowOf a) (rowOf b)).trans (decide_eq_true q))) d.2
  exact this.imp fun {a b} h => of_decide_eq_true ((leD_r (rowOf a) (rowOf b)).symm.trans h)
 have hn := rise_nodup hl
 have hn2 := (hperm.map ky).nodup_iff.2 hn
 have hs2 : ((d.2.mergeSort fun a b => leD kS a.2.1 b.2.1).map rowOf).Pairwise rlt := by
  generalize (d.2.mergeSort fun a b => leD kS a.2.1 b.2.1).map rowOf = m at hs hn2
  rw [List.nodup_iff_pairwise_ne, List.pairwise_map] at hn2
  refine (hs.and hn2).imp fun {a b} h => ?_
  by_cases q : rlt a b
  ·exact q
  ·exact absurd (rlt_total q h.1) h.2
 exact sorted_uniq (r := fun a b => rlt a b) _ _ (fun a _ b _ h1 h2 => absurd (rlt_trans h1 h2) (rlt_irrefl a)) hperm hs2 hl
theorem un_perm {l : List Row} {d : Bg} (h : UnE kS vS (cb l) d) : l.Perm (d.2.map rowOf) := by
 have := List.Perm.map (fun x : (Int × Int) × Int => ((x.1.1, x.1.2, x.2) : Row)) h
 rw [List.map_map, List.map_map] at this
 have e := cb_rows l
 have e1 : ((cb l).2.map ((fun x : (Int × Int) × Int => ((x.1.1, x.1.2, x.2) : Row)) ∘ fun x => x.2)) = l := e
 rw [e1] at this
 exact this
theorem anyU_run {R : Type} {k v : Sh} {d : Mp k v} {f : Mp k v → Option R} {r : R} (h : ∀ d', UnE k v d d' → f d' = some r) : anyU d f = some r := by
 classical
 unfold anyU
 have hx : ∃ r, ∀ d', UnE k v d d' → f d' = some r := ⟨r, h⟩
 rw [dif_pos hx]
 have h1 := hx.choose_spec d (List.Perm.refl _)
 rw [← h1, h d (List.Perm.refl _)]
theorem sort_perm {N : Nat} (hN : 10 ≤ N) {l xs : List Row} (hl : l.Pairwise rlt) (hb : l.length < 4611686018427387904) (hp : xs.Perm l) : sortR (fun p q => (D_bags_Bag_Rows_c1 N (p, q, ())).map (·.1)) xs = some l := by
 obtain ⟨zs, t1, t2, t3⟩ := sort_rows (N := N) hN (xs := xs) (by rw [hp.length_eq]; exact hb) ((hp.map ky).nodup_iff.2 (rise_nodup hl))
 rw [t1]
 exact congrArg some (sorted_uniq (r := fun a b => rlt a b) zs l (fun a _ b _ h1 h2 => absurd (rlt_trans h1 h2) (rlt_irrefl a)) (t2.trans hp) t3 hl)
theorem rows_h2 {N : Nat} {l : List Row} (hl : l.Pairwise rlt) (hN : l.length + 10 < N) (hb : l.length * 24 ≤ 140737488355328) : D_bags_Bag_Rows_h2 N (cb l) = some (l, cb l) := by
 simp only [D_bags_Bag_Rows_h2, bags_Bag_Rows_h2_3]
 refine anyU_run (k := kS) (v := vS) fun d hd => ?_
 have p := un_perm hd
 have hle : d.2.length = l.length := by have := p.length_eq; rw [List.length_map] at this; exact this.symm
 simp only [joinD, loopE]
 refine range_loop (k := kS) (v := vS) (l, cb l) (fun rest s => (s ++ rest.map rowOf).Perm l) (fun dd s kn hI hkn => ?_) N ((0 : Int), d.2) [] p.symm (by show d.2.length < N; omega)
 simp only [bags_Bag_Rows_h2_2]
 refine nextE_run (k := kS) (v := vS) (fun hr => ?_) (fun i x hx => ?_)
 ·rw [hr, List.map_nil, List.append_nil] at hI
  simp only [bags_Bag_Rows_h2_1, sort_perm (N := N) (by omega) hl (by omega) hI, Option.bind_some, canon_eq hl p]
 ·have hl' := hI.length_eq
  simp only [List.length_append, List.length_map] at hl'
  have hpos := (List.getElem?_eq_some_iff.1 hx).1
  rw [d_true (show (s.length + ([(x.2.1.1, (x.2.1.2, x.2.2))] : List Row).length) * 24 ≤ 140737488355328 by simp only [List.length_singleton]; omega), show Nat.ble 1 24 = true from rfl, Bool.and_self, cond_true, backE_eq]
  refine hkn x _ _ ?_ (erase_len hx)
  refine List.Perm.trans ?_ hI
  rw [List.append_assoc]
  exact (erase_perm rowOf hx).append_left s
theorem rows_h {N : Nat} {l : List Row} (hl : l.Pairwise rlt) {d : Bg} (p : l.Perm (d.2.map rowOf)) (hN : l.length + 10 < N) (hb : l.length * 24 ≤ 140737488355328) : D_bags_Bag_Rows_h N d = some (l, d) := by
 have hle : d.2.length = l.length := by have := p.length_eq; rw [List.length_map] at this; exact this.symm
 simp only [D_bags_Bag_Rows_h, bags_Bag_Rows_h_3, joinD, loopE]
 refine range_loop (k := kS) (v := vS) (l, d) (fun rest s => (s ++ rest.map rowOf).Perm l) (fun dd s kn hI hkn => ?_) N ((0 : Int), d.2) [] p.symm (by show d.2.length < N; omega)
 simp only [bags_Bag_Rows_h_2]
 refine nextE_run (k := kS) (v := vS) (fun hr => ?_) (fun i x hx => ?_)
 ·rw [hr, List.map_nil, List.append_nil] at hI
  simp only [bags_Bag_Rows_h_1, sort_perm (N := N) (by omega) hl (by omega) hI, Option.bind_some]
 ·have hl' := hI.length_eq
  simp only [List.length_append, List.length_map] at hl'
  have hpos := (List.getElem?_eq_some_iff.1 hx).1
  rw [d_true (show (s.length + ([(x.2.1.1, (x.2.1.2, x.2.2))] : List Row).length) * 24 ≤ 140737488355328 by simp only [List.length_singleton]; omega), show Nat.ble 1 24 = true from rfl, Bool.and_self, cond_true, backE_eq]
  refine hkn x _ _ ?_ (erase_len hx)
  refine List.Perm.trans ?_ hI
  rw [List.append_assoc]
  exact (erase_perm rowOf hx).append_left s
theorem tells_h2 {N : Nat} {l : List Row} (hl : l.Pairwise rlt) (hN : 200 ≤ N) :
  D_bags_Bag_Tells_h2 N (cb l) = some (if l.length > 128 then ([], 1, cb l) else (l, 0, cb l)) := by
 simp only [D_bags_Bag_Tells_h2, bags_Bag_Tells_h2_1]
 refine anyU_run (k := kS) (v := vS) fun d hd => ?_
 have p := un_perm hd
 have hle : d.2.length = l.length := by have := p.length_eq; rw [List.length_map] at this; exact this.symm
 rw [canon_eq hl p, hle]
 by_cases q : l.length > 128
 ·rw [if_pos q, d_true (show (l.length : Int) > 128 by omega), cond_true]
 ·have hr : roR (q := Q_bags_Rows) (s := .sl (.pair (.int .i64) (.pair (.int .i64) (.int .i64)))) (D_bags_Bag_Rows_h N) d = some l := roR_of (q := Q_bags_Rows) (s := .sl (.pair (.int .i64) (.pair (.int .i64) (.int .i64)))) (rows_h hl p (by omega) (by omega))
  rw [if_neg q, d_false (show ¬ (l.length : Int) > 128 by omega), cond_false, hr, Option.bind_some]
end Go.Proofs.YtnieamciihdfpaaGreat
