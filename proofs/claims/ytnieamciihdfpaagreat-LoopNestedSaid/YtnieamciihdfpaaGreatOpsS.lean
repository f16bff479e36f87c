import Derived.Test.YtnieamciihdfpaaGreatOpsA
import Derived.Test.YtnieamciihdfpaaGreatBgR
import Derived.Test.YtnieamciihdfpaaGreatOpsP
namespace Go.Proofs.YtnieamciihdfpaaGreat
open Go.Abs Go.Bag
theorem lin_loop {R C : Type} {N : Nat} (g : C → Int × Bg → (C × (Int × Bg) → Option R) → Option R) (c : C) (rows : List Row) (f : Row → Option Row) (k : Bg → Option R) {F0 : Key → Int} {d0 : Bg} (h0 : BOk F0 d0)
  (step : ∀ (i : Nat) (b : Bg) (F : Key → Int), i < rows.length → BOk F b → ∃ b', (∀ kn, g c ((i : Int), b) kn = kn (c, ((i : Int) + 1, b'))) ∧ BOk (fun e => F e + amtO (f (nth (0, 0, 0) rows i)) e) b' ∧ b'.2.length ≤ b.2.length + 1)
  (stop : ∀ b kn, g c ((rows.length : Int), b) kn = k b) (hN : rows.length < N) :
  ∃ d', loopE g N c ((0 : Int), d0) = k d' ∧ BOk (fun e => F0 e + amt (rows.filterMap f) e) d' ∧ d'.2.length ≤ d0.2.length + rows.length := by
 unfold loopE
 obtain ⟨s', ⟨h1, h2, h3⟩, e⟩ := loopD_inv (g := fun (s : Int × Bg) kn => g c s (backE c kn)) (k := fun s : Int × Bg => k s.2) rows.length
  (fun i s => s.1 = (i : Int) ∧ BOk (fun z => F0 z + amt ((rows.take i).filterMap f) z) s.2 ∧ s.2.2.length ≤ d0.2.length + i) (N := N) (s := ((0 : Int), d0))
  (by
   rintro i ⟨_, b⟩ hi ⟨rfl, hb, hlen⟩
   simp only at hb hlen
   obtain ⟨b', e1, e2, e3⟩ := step i b _ hi hb
   refine ⟨((i : Int) + 1, b'), ⟨by simp, e2.cg fun z => ?_, by simp only; omega⟩, fun kn => by rw [e1, backE_eq]⟩
   rw [take_nth (z := ((0 : Int), (0 : Int), (0 : Int))) hi, List.filterMap_append, amt_append, amt_filterMap]
   simp only [List.filterMap_nil, amt, Int.add_zero]
   exact .of_eq (by omega))
  (by
   rintro ⟨_, b⟩ ⟨rfl, hb, hlen⟩ kn
   exact stop b _)
  hN ⟨rfl, h0.cg fun z => by simp only [List.take_zero, List.filterMap_nil, amt, Int.add_zero]; exact Cg.rfl, Nat.le_refl _⟩
 exact ⟨s'.2, e, by simpa only [List.take_length] using h2, h3⟩
theorem amtO_some (r : Row) (e : Key) : amtO (some r) e = if e = ky r then r.2.2 else 0 := by
 unfold amtO
 by_cases h : ky r = e
 ·simp only [if_pos h, if_pos h.symm]
 ·simp only [if_neg h]
  rw [if_neg (fun q : e = ky r => h q.symm)]
theorem Of_eq {N : Nat} (l : List Row) (hN : l.length < N) (hl : l.length ≤ 4611686018427387904) : ∃ d', D_bags_Of_h N l = some d' ∧ BOk (amt l) d' ∧ d'.2.length ≤ l.length := by
 simp only [D_bags_Of_h, bags_Of_h_3, joinD]
 obtain ⟨d', e1, e2, e3⟩ := lin_loop (N := N) (fun (c : List Row × Int) (s : Int × Bg) kn => bags_Of_h_2 N (fun s => bags_Of_h_1 N s) c.1 c.2 s.1 s.2 kn) (l, (l.length : Int)) l some (fun b => some b) BOk.empty (fun i b F hi hb => by
   obtain ⟨b', p1, p2, p3⟩ := Add_eq (N := N) hb (ky (nth (0, 0, 0) l i)) (nth ((0 : Int), (0 : Int), (0 : Int)) l i).2.2
   refine ⟨b', fun kn => ?_, p2.cg fun e => .of_eq (by rw [amtO_some]), p3⟩
   have p1' : D_bags_Bag_Add_h N (((nth ((0 : Int), (0 : Int), (0 : Int)) l i).1, (nth ((0 : Int), (0 : Int), (0 : Int)) l i).2.1), (nth ((0 : Int), (0 : Int), (0 : Int)) l i).2.2, b) = some b' := p1
   simp only [bags_Of_h_2, lt_d hi, ge0_d, Int.toNat_natCast, Bool.and_self, cond_true, p1', Option.bind_some, ix1 hi hl])
  (fun b kn => by simp only [bags_Of_h_2, lt_self, cond_false, bags_Of_h_1]) hN
 refine ⟨d', e1, e2.cg fun e => .of_eq ?_, by simpa using e3⟩
 rw [List.filterMap_some, Int.zero_add]
theorem Ports_one {N : Nat} {k A B : Int} (h : 1 ≤ k) (h8 : k ≤ 8) : D_ops_Ports N ((k, A, B), ()) = some (1, ()) := by
 simp only [D_ops_Ports, ops_Ports_1, d_true (show k ≥ 1 from h), d_true h8, cond_true]
theorem check_one {N : Nat} (hN : 10 ≤ N) {k A B : Int} (h : 1 ≤ k) (h8 : k ≤ 8) (a : List Row) : D_ops_check N ((k, A, B), 1, [a], ()) = some (if 128 < a.length then 1 else 0, ()) := by
 have hL := Large_eq (N := N) (ls := [a]) (by simp; omega) (by simp)
 simp only [D_ops_check, ops_check_1, Ports_one (N := N) (A := A) (B := B) h h8, Option.bind_some, bne_self_eq_false, cond_false, hL]
 by_cases q : 128 < a.length
 ·rw [if_pos q, d_true ⟨a, by simp, q⟩]; rfl
 ·rw [if_neg q, d_false (fun ⟨l, hl, h⟩ => q (by simp at hl; rw [← hl]; exact h))]; rfl
end Go.Proofs.YtnieamciihdfpaaGreat
