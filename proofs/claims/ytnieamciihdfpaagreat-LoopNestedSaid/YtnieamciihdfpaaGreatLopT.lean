import Derived.Test.YtnieamciihdfpaaGreatLopS
namespace Go.Proofs.YtnieamciihdfpaaGreat
open Go.Abs Go.Bag
def thr (l : List Row) : List Row := (l.filter fun r => decide (r.2.2 > 0)).map oneR
theorem thr_s {l : List Row} (h : l.Pairwise rlt) : S1 (thr l) := by
 refine ⟨?_, fun r hr => ?_⟩
 ·unfold thr
  rw [List.pairwise_map]
  exact (h.filter _).imp fun {a b} h => h
 ·obtain ⟨x, _, rfl⟩ := List.mem_map.1 hr
  rfl
theorem thr_mem {l : List Row} {k : Key} : k ∈ (thr l).map ky ↔ ∃ r ∈ l, r.2.2 > 0 ∧ ky r = k := by
 unfold thr
 rw [List.map_map, List.mem_map]
 constructor
 ·rintro ⟨r, hr, rfl⟩
  obtain ⟨h1, h2⟩ := List.mem_filter.1 hr
  exact ⟨r, h1, of_decide_eq_true h2, rfl⟩
 ·rintro ⟨r, h1, h2, rfl⟩
  exact ⟨r, List.mem_filter.2 ⟨h1, decide_eq_true h2⟩, rfl⟩
theorem S1.t {l : List Row} (h : S1 l) : thr l = l := h.flt
structure OneM (d : Bg) : Prop where
 keys : (d.2.map fun e => e.2.1).Nodup
 one : ∀ e ∈ d.2, e.2.2 = 1
theorem OneM.empty : OneM ((0 : Int), []) := ⟨List.nodup_nil, fun e h => by cases h⟩
abbrev kd (d : Bg) : List Key := d.2.map fun e => e.2.1
theorem has_iff {d : Bg} {k : Key} : mpHas kS vS d k = true ↔ k ∈ kd d := by
 constructor
 ·intro h
  obtain ⟨e, h1, h2, _⟩ := has_mem (k := kS) (v := vS) h
  exact List.mem_map.2 ⟨e, h1, h2⟩
 ·intro h
  obtain ⟨e, h1, h2⟩ := List.mem_map.1 h
  cases q : mpHas kS vS d k with
  | true => rfl
  | false =>
   unfold mpHas at q
   cases q2 : entOf kS vS k d.2 with
   | some x => rw [q2] at q; cases q
   | none => exact absurd h2 (entOf_no (k := kS) (v := vS) kSn q2 e h1)
theorem turn_one {k : Key} : (es : List (Int × (Int × Int) × Int)) → (∀ e ∈ es, e.2.2 = 1) → ∀ e ∈ turnL kS vS k (fun _ => (1 : Int)) es, e.2.2 = 1
 | [], _, e, he => by cases he
 | x :: r, h, e, he => by
  simp only [turnL] at he
  cases q : eqD kS k x.2.1 with
  | true =>
   rw [q, cond_true] at he
   rcases List.mem_cons.1 he with rfl | he
   ·rfl
   ·exact h e (List.mem_cons_of_mem _ he)
  | false =>
   rw [q, cond_false] at he
   rcases List.mem_cons.1 he with rfl | he
   ·exact h _ (List.mem_cons_self ..)
   ·exact turn_one r (fun e he => h e (List.mem_cons_of_mem _ he)) e he
theorem OneM.put {d : Bg} (h : OneM d) (k : Key) : OneM (mpPut kS vS d k (1 : Int)) ∧ ∀ z, z ∈ kd (mpPut kS vS d k (1 : Int)) ↔ z = k ∨ z ∈ kd d := by
 unfold mpPut
 cases q : mpHas kS vS d k with
 | true =>
  have hk := has_iff.1 q
  have ht := (turn_keys (k := kS) (v := vS) (x := k) (fun _ => (1 : Int)) d.2).1
  simp only [cond_true]
  refine ⟨⟨?_, turn_one _ h.one⟩, fun z => ?_⟩
  ·have := h.keys
   rw [← ht] at this
   exact this
  ·unfold kd
   rw [show (turnL kS vS k (fun _ => (1 : Int)) d.2).map (fun e => e.2.1) = d.2.map fun e => e.2.1 from ht]
   constructor
   ·exact .inr
   ·rintro (rfl | h)
    ·exact hk
    ·exact h
 | false =>
  have hk : k ∉ kd d := fun h => by rw [has_iff.2 h] at q; cases q
  simp only [cond_false]
  refine ⟨⟨?_, fun e he => ?_⟩, fun z => ?_⟩
  ·rw [List.map_append, List.map_cons, List.map_nil, List.nodup_append]
   refine ⟨h.keys, by simp, fun a ha b hb => ?_⟩
   rw [List.mem_singleton] at hb
   subst hb
   exact fun e => hk (by rw [← e]; exact ha)
  ·rcases List.mem_append.1 he with he | he
   ·exact h.one e he
   ·rw [List.mem_singleton] at he; subst he; rfl
  ·simp only [kd, List.map_append, List.map_cons, List.map_nil, List.mem_append, List.mem_singleton]
   exact ⟨fun h => h.symm, fun h => h.symm⟩
theorem canon_one {d : Bg} (h : OneM d) {l : List Row} (hl : S1 l) (hlen : d.2.length < 4611686018427387904) (e : ∀ k, k ∈ kd d ↔ k ∈ l.map ky) : canonE kS vS d = cb l := by
 have hn : ((d.2.map rowOf).map ky).Nodup := by rw [List.map_map]; exact h.keys
 obtain ⟨ys, _, s2, s3⟩ := sort_rows (N := 10) (by omega) (xs := d.2.map rowOf) (by rw [List.length_map]; exact hlen) hn
 have hy : S1 ys := ⟨s3, fun r hr => by
  obtain ⟨x, hx, rfl⟩ := List.mem_map.1 (s2.subset hr)
  exact h.one x hx⟩
 have : ys = l := hy.uniq hl fun k => by
  rw [← e k, (s2.map ky).mem_iff, List.map_map]
  exact Iff.rfl
 subst this
 exact canon_eq s3 s2
theorem range_loop2 {R S : Type} {k v : Sh} {g : S × Mp k v → (S × Mp k v → Option R) → Option R} (r : R) (I : Ents k v → S → Prop)
  (h : ∀ d s kn, I (restE d) s → (∀ (e : Int × (k.den × v.den)) (rest : Ents k v) s', I rest s' → rest.length < (restE d).length → kn (s', ((1 : Int), e :: rest)) = some r) → g (s, d) kn = some r) :
  ∀ N d s, I (restE d) s → (restE d).length < N → loopD g N (s, d) = some r
 | 0, _, _, _, hl => absurd hl (Nat.not_lt_zero _)
 | N + 1, d, s, hi, hl => h d s _ hi fun e rest s' hi' hlt => range_loop2 r I h N ((1 : Int), e :: rest) s' hi' (by show rest.length < N; omega)
theorem mem_erase {α : Type} {l : List α} {i : Nat} {x y : α} (hx : l[i]? = some x) : y ∈ l ↔ y = x ∨ y ∈ l.eraseIdx i := by
 have := (erase_perm (fun a : α => a) hx).mem_iff (a := y)
 simp only [List.map_id', List.mem_cons] at this
 exact this.symm
theorem put_len1 (d : Bg) (k : Key) : (mpPut kS vS d k (1 : Int)).2.length ≤ d.2.length + 1 := put_len (k := kS) (v := vS) d k 1
theorem there_eq {N : Nat} {l : List Row} (hl : l.Pairwise rlt) {d : Bg} (p : l.Perm (d.2.map rowOf)) (hN : d.2.length < N) (hb : d.2.length < 4611686018427387904) : D_loop_there_h N d = some (d, cb (thr l)) := by
 simp only [D_loop_there_h, loop_there_h_3, joinD, loopE]
 refine range_loop2 (k := kS) (v := vS) (d, cb (thr l)) (fun rest s => OneM s ∧ (∀ k, (k ∈ kd s ∨ ∃ e ∈ rest, e.2.2 > 0 ∧ e.2.1 = k) ↔ k ∈ (thr l).map ky) ∧ s.2.length + rest.length ≤ d.2.length) (fun dd s kn hI hkn => ?_) N ((0 : Int), d.2) ((0 : Int), []) ?_ (by show d.2.length < N; omega)
 ·obtain ⟨h1, h2, h3⟩ := hI
  simp only [loop_there_h_2]
  refine nextE_run (k := kS) (v := vS) (fun hr => ?_) (fun i x hx => ?_)
  ·rw [hr] at h2
   simp only [loop_there_h_1]
   rw [canon_one h1 (thr_s hl) (by omega) fun k => by rw [← h2 k]; simp]
  ·have hlen := erase_len hx
   by_cases q : x.2.2 > 0
   ·obtain ⟨p1, p2⟩ := h1.put x.2.1
    rw [d_true q, cond_true, backE_eq]
    refine hkn x _ _ ⟨p1, fun k => ?_, ?_⟩ hlen
    ·rw [← h2 k]
     show (k ∈ kd (mpPut kS vS s x.2.1 (1 : Int)) ∨ _) ↔ _
     rw [p2 k]
     constructor
     ·rintro ((rfl | h) | ⟨e, he, h⟩)
      ·exact .inr ⟨x, (mem_erase hx).2 (.inl rfl), q, rfl⟩
      ·exact .inl h
      ·exact .inr ⟨e, (mem_erase hx).2 (.inr he), h⟩
     ·rintro (h | ⟨e, he, h⟩)
      ·exact .inl (.inr h)
      ·rcases (mem_erase hx).1 he with rfl | he
       ·exact .inl (.inl h.2.symm)
       ·exact .inr ⟨e, he, h⟩
    ·have := put_len1 s x.2.1
     show (mpPut kS vS s x.2.1 (1 : Int)).2.length + _ ≤ _
     omega
   ·rw [d_false q, cond_false, backE_eq]
    refine hkn x _ _ ⟨h1, fun k => ?_, by omega⟩ hlen
    rw [← h2 k]
    constructor
    ·rintro (h | ⟨e, he, h⟩)
     ·exact .inl h
     ·exact .inr ⟨e, (mem_erase hx).2 (.inr he), h⟩
    ·rintro (h | ⟨e, he, h⟩)
     ·exact .inl h
     ·rcases (mem_erase hx).1 he with rfl | he
      ·exact absurd h.1 q
      ·exact .inr ⟨e, he, h⟩
 ·refine ⟨OneM.empty, fun k => ?_, by simp [restE]⟩
  rw [thr_mem]
  simp only [kd, List.map_nil, List.not_mem_nil, false_or]
  constructor
  ·rintro ⟨e, he, h1, h2⟩
   exact ⟨rowOf e, p.symm.subset (List.mem_map.2 ⟨e, he, rfl⟩), h1, h2⟩
  ·rintro ⟨r, hr, h1, h2⟩
   obtain ⟨e, he, rfl⟩ := List.mem_map.1 (p.subset hr)
   exact ⟨e, he, h1, h2⟩
def gen (E : List Row) (a k : Key) : Prop := ∃ r ∈ E, r.1 = a.1 ∧ k = (r.2.1, a.2)
theorem step_run {N : Nat} {E X L : List Row} (hE : S1 E) (hX : S1 X) (hL : S1 L) (hm : ∀ k, k ∈ L.map ky ↔ k ∈ X.map ky ∨ ∃ a ∈ X.map ky, gen E a k)
  (hN1 : E.length < N) (hN2 : X.length < N) (hb : X.length + X.length * E.length < 4611686018427387904) : D_loop_step_h N (cb E, cb X) = some (cb E, cb X, cb L) := by
 simp only [D_loop_step_h, loop_step_h_4]
 refine anyU_run (k := kS) (v := vS) fun y1 hy1 => anyU_run (k := kS) (v := vS) fun y2 hy2 => ?_
 have pE := un_perm hy1
 have pX := un_perm hy2
 have lE : y1.2.length = E.length := by have := pE.length_eq; rw [List.length_map] at this; exact this.symm
 have lX : y2.2.length = X.length := by have := pX.length_eq; rw [List.length_map] at this; exact this.symm
 have mE : ∀ {r : Row}, r ∈ E ↔ ∃ e ∈ y1.2, rowOf e = r := fun {r} => by rw [pE.mem_iff, List.mem_map]
 have kX : ∀ {k : Key}, k ∈ X.map ky ↔ k ∈ kd y2 := fun {k} => by rw [(pX.map ky).mem_iff, List.map_map]; exact Iff.rfl
 have hy2m : OneM y2 := ⟨by
  have := ((pX.map ky).nodup_iff).1 (rise_nodup hX.1)
  rw [List.map_map] at this
  exact this, fun e he => hX.2 _ (pX.symm.subset (List.mem_map.2 ⟨e, he, rfl⟩))⟩
 simp only [Option.bind_some, joinD, loopE]
 refine range_loop2 (k := kS) (v := vS) (cb E, cb X, cb L) (fun rest s => OneM s ∧ (∀ k ∈ kd s, k ∈ L.map ky) ∧ (∀ k ∈ L.map ky, k ∈ kd s ∨ ∃ e ∈ rest, gen E e.2.1 k) ∧ (∀ e ∈ rest, e ∈ y2.2) ∧ s.2.length + rest.length * E.length ≤ X.length + X.length * E.length) (fun dd s kn hI hkn => ?_) N ((0 : Int), y2.2) y2 ?_ (by show y2.2.length < N; omega)
 ·obtain ⟨h1, h2, h3, h4, h5⟩ := hI
  simp only [loop_step_h_3]
  refine nextE_run (k := kS) (v := vS) (fun hr => ?_) (fun i x hx => ?_)
  ·rw [hr] at h3
   simp only [loop_step_h_1]
   have c1 : canonE kS vS y1 = cb E := canon_eq hE.1 pE
   have c2 : canonE kS vS y2 = cb X := canon_eq hX.1 pX
   rw [c1, c2, canon_one h1 hL (by omega) fun k => ⟨h2 k, fun h => (h3 k h).resolve_right (by simp)⟩]
  ·have hlen := erase_len hx
   have hxin : x ∈ y2.2 := h4 x ((mem_erase hx).2 (.inl rfl))
   have hxk : x.2.1 ∈ X.map ky := kX.2 (List.mem_map.2 ⟨x, hxin, rfl⟩)
   simp only [loopE]
   refine range_loop2 (k := kS) (v := vS) (cb E, cb X, cb L) (fun rest t => OneM t ∧ (∀ k ∈ kd t, k ∈ L.map ky) ∧ (∀ k, (k ∈ kd s ∨ gen E x.2.1 k) → k ∈ kd t ∨ ∃ e ∈ rest, e.2.1.1 = x.2.1.1 ∧ k = (e.2.1.2, x.2.1.2)) ∧ (∀ e ∈ rest, e ∈ y1.2) ∧ t.2.length + rest.length ≤ s.2.length + E.length) (fun d2 t kn2 hJ hkn2 => ?_) N ((0 : Int), y1.2) s ?_ (by show y1.2.length < N; omega)
   ·obtain ⟨j1, j2, j3, j4, j5⟩ := hJ
    simp only [loop_step_h_2]
    refine nextE_run (k := kS) (v := vS) (fun hr => ?_) (fun i2 z hz => ?_)
    ·rw [hr] at j3 j5
     rw [backE_eq]
     refine hkn x _ t ⟨j1, j2, fun k hk => ?_, fun e he => h4 e ((mem_erase hx).2 (.inr he)), ?_⟩ hlen
     ·rcases h3 k hk with h | ⟨e, he, h⟩
      ·exact .inl ((j3 k (.inl h)).resolve_right (by simp))
      ·rcases (mem_erase hx).1 he with rfl | he
       ·exact .inl ((j3 k (.inr h)).resolve_right (by simp))
       ·exact .inr ⟨e, he, h⟩
     ·have e1 : (restE (k := kS) (v := vS) dd).length = ((restE (k := kS) (v := vS) dd).eraseIdx i).length + 1 := by
       rw [List.length_eraseIdx, if_pos (List.getElem?_eq_some_iff.1 hx).1]
       have := (List.getElem?_eq_some_iff.1 hx).1
       omega
      rw [e1, Nat.succ_mul] at h5
      simp only [List.length_nil] at j5
      omega
    ·have hlen2 := erase_len hz
     have hzin : z ∈ y1.2 := j4 z ((mem_erase hz).2 (.inl rfl))
     by_cases q : z.2.1.1 = x.2.1.1
     ·obtain ⟨p1, p2⟩ := j1.put (z.2.1.2, x.2.1.2)
      rw [beq_iff_eq.2 q, cond_true, backE_eq]
      refine hkn2 z _ _ ⟨p1, fun k hk => ?_, fun k hk => ?_, fun e he => j4 e ((mem_erase hz).2 (.inr he)), ?_⟩ hlen2
      ·rcases (p2 k).1 hk with rfl | hk
       ·exact (hm _).2 (.inr ⟨x.2.1, hxk, rowOf z, mE.2 ⟨z, hzin, rfl⟩, q, rfl⟩)
       ·exact j2 k hk
      ·rcases j3 k hk with h | ⟨e, he, h⟩
       ·exact .inl ((p2 k).2 (.inr h))
       ·rcases (mem_erase hz).1 he with rfl | he
        ·exact .inl ((p2 k).2 (.inl h.2))
        ·exact .inr ⟨e, he, h⟩
      ·have := put_len1 t (z.2.1.2, x.2.1.2)
       show (mpPut kS vS t (z.2.1.2, x.2.1.2) (1 : Int)).2.length + _ ≤ _
       omega
     ·rw [beq_false_of_ne q, cond_false, backE_eq]
      refine hkn2 z _ _ ⟨j1, j2, fun k hk => ?_, fun e he => j4 e ((mem_erase hz).2 (.inr he)), by omega⟩ hlen2
      rcases j3 k hk with h | ⟨e, he, h⟩
      ·exact .inl h
      ·rcases (mem_erase hz).1 he with rfl | he
       ·exact absurd h.1 q
       ·exact .inr ⟨e, he, h⟩
   ·refine ⟨h1, h2, fun k hk => ?_, fun e he => he, by show s.2.length + y1.2.length ≤ _; omega⟩
    rcases hk with h | ⟨r, hr, g1, g2⟩
    ·exact .inl h
    ·obtain ⟨e, he, rfl⟩ := mE.1 hr
     exact .inr ⟨e, he, g1, g2⟩
 ·refine ⟨hy2m, fun k hk => (hm k).2 (.inl (kX.2 hk)), fun k hk => ?_, fun e he => he, by show y2.2.length + y2.2.length * _ ≤ _; rw [lX]; omega⟩
  rcases (hm k).1 hk with h | ⟨a, ha, g⟩
  ·exact .inl (kX.1 h)
  ·obtain ⟨e, he, rfl⟩ := List.mem_map.1 (kX.1 ha)
   exact .inr ⟨e, he, g⟩
end Go.Proofs.YtnieamciihdfpaaGreat
