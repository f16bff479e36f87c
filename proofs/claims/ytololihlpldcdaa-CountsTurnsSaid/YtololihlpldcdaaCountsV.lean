/- What Add and Sum of counts come to, and their comparison. -/
import Derived.Test.YtololihlpldcdaaCountsT
import Derived.Test.YtololihlpldcdaaCountsU
namespace Go.Proofs.Ytololihlpldcdaa
open Go.Abs
theorem bindR (o : Option (List Cn × Int × Unit)) : (o.bind fun y => some (y.1, y.2.1, ())) = o := by cases o <;> rfl
theorem Counts_self {N : Nat} (hN : 1000 ≤ N) {c : List Cn} (hl : c.length ≤ 64) (h4 : ∀ x ∈ c, x.1.length ≤ 4) : D_ref_Counts N (c, c, ()) = some (true, ()) := by
  simp only [D_ref_Counts, ref_Counts_3, bne_self_eq_false, cond_false, joinD, loopE]
  refine loopD_pass (n := c.length) (by omega) (fun i hi kn => ?_) (fun kn => ?_) (by omega)
  · have hm := h4 _ (nth_mem (z := (([], 0) : Cn)) hi)
    simp only [ref_Counts_2, lt_d hi, ge0_d, Bool.and_self, cond_true, cond_false, Int.toNat_natCast, bne_self_eq_false]
    rw [Same_self hN (by omega), Option.bind_some]
    simp only [Bool.not_true, cond_false, backE_eq, ix1 hi (by omega)]
  · simp only [ref_Counts_2, lt_self, cond_false, ref_Counts_1]
theorem sml_one {t : List Int} {n : Int} (ht : tok t = true) (hn : ov n = false) : Sml [(t, n)] where
  len := by simp
  t4 := fun x hx => by obtain rfl := List.mem_singleton.1 hx; exact (tok_len ht).2
  n := fun x hx => by obtain rfl := List.mem_singleton.1 hx; exact ov_false.1 hn
theorem CAdd_ok {N : Nat} (hN : 1000 ≤ N) {c : List Cn} {t : List Int} {n : Int} (hc : CK c) (ht : tok t = true) (hl : ∀ x ∈ c, x.1.length = t.length) (hn : ov n = false) :
    D_counts_Add N (c, t, n, ()) = mgR [] (mg (c.length + 1) c [(t, n)]) := by
  have h64 := hc.len
  obtain ⟨e, e1, e2⟩ := CCheck_eq hN (c := c) (by omega) (by omega)
  obtain ⟨e', f1, f2⟩ := Check_eq hN t
  obtain ⟨b, b1, b2⟩ := Apart_eq (N := N) c [(t, n)]
  obtain rfl := e2.2 hc
  obtain rfl := f2.2 ht
  obtain rfl := b2.2 fun h1 _ => by rw [hl _ (nth_mem (z := (([], 0) : Cn)) h1)]; rfl
  simp only [D_counts_Add, counts_Add_1, e1, f1, b1, Over_eq N n, hn, Option.bind_some, bne_self_eq_false, cond_false]
  rw [Merge_eq hN hc.sml (sml_one ht hn), bindR]; rfl
theorem CAdd_or {N : Nat} (hN : 1000 ≤ N) {c : List Cn} {t : List Int} {n : Int} (hc : c.length < N) (hb : c.length * 24 ≤ 140737488355328) :
    (∃ e, e ≠ 0 ∧ D_counts_Add N (c, t, n, ()) = some ([], e, ())) ∨ (CK c ∧ tok t = true ∧ (∀ x ∈ c, x.1.length = t.length) ∧ ov n = false) := by
  obtain ⟨e, e1, e2⟩ := CCheck_eq hN hc hb
  obtain ⟨e', f1, f2⟩ := Check_eq hN t
  obtain ⟨b, b1, b2⟩ := Apart_eq (N := N) c [(t, n)]
  simp only [D_counts_Add, counts_Add_1, e1, f1, b1, Over_eq N n, Option.bind_some]
  by_cases h1 : CK c
  case neg =>
    have he : e ≠ 0 := fun h' => h1 (e2.1 h')
    exact .inl ⟨e, he, by rw [show (e != 0) = true from bne_iff_ne.2 he, cond_true]⟩
  obtain rfl := e2.2 h1
  by_cases h2 : tok t = true
  case neg =>
    have he : e' ≠ 0 := fun h' => h2 (f2.1 h')
    exact .inl ⟨e', he, by rw [bne_self_eq_false, cond_false, show (e' != 0) = true from bne_iff_ne.2 he, cond_true]⟩
  obtain rfl := f2.2 h2
  simp only [bne_self_eq_false, cond_false]
  cases b with
  | true => exact .inl ⟨3, by decide, rfl⟩
  | false =>
    have h3 := b2.1 rfl
    cases hn : ov n with
    | true => exact .inl ⟨2, by decide, rfl⟩
    | false => exact .inr ⟨h1, h2, fun x hx => by rw [h1.eqL hx (nth_mem (z := (([], 0) : Cn)) (List.length_pos_of_mem hx))]; exact h3 (List.length_pos_of_mem hx) (by simp), rfl⟩
theorem mgR_some {l : List Cn} : mgR [] (some l) = if 64 < l.length then some ([], 1, ()) else some (l, 0, ()) := rfl
/-- What two tallies that may be are for a sum. -/
def CP (c d : List Cn) : Prop := CK c ∧ CK d ∧ apt c d
theorem pair_eq {N : Nat} (hN : 1000 ≤ N) {c d : List Cn} (hc : c.length < N) (hb : c.length * 24 ≤ 140737488355328) (hd : d.length < N) (hb' : d.length * 24 ≤ 140737488355328) : ∃ e, D_counts_pair N (c, d, ()) = some (e, ()) ∧ (e = 0 ↔ CP c d) := by
  obtain ⟨e, e1, e2⟩ := CCheck_eq hN hc hb
  obtain ⟨x, x1, x2⟩ := CCheck_eq hN hd hb'
  obtain ⟨b, b1, b2⟩ := Apart_eq (N := N) c d
  obtain ⟨M, rfl⟩ : ∃ M, N = M + 3 := ⟨N - 3, by omega⟩
  simp only [D_counts_pair, counts_pair_3, joinD, loopE]
  rw [loopD]
  simp only [counts_pair_2, show decide ((0 : Int) < 2) = true from rfl, show ((0 : Int) == ((0 : Nat) : Int)) = true from rfl, cond_true, e1, Option.bind_some]
  by_cases h1 : CK c
  case neg =>
    have he : e ≠ 0 := fun h' => h1 (e2.1 h')
    exact ⟨e, by rw [show (e != 0) = true from bne_iff_ne.2 he, cond_true], fun h => absurd h he, fun h => absurd h.1 h1⟩
  obtain rfl := e2.2 h1
  simp only [bne_self_eq_false, cond_false, backE_eq, show IntKind.i64.wrap ((0 : Int) + 1) = 1 from by decide]
  rw [loopD]
  simp only [show decide ((1 : Int) < 2) = true from rfl, show ((1 : Int) == ((0 : Nat) : Int)) = false from rfl, show ((1 : Int) == ((1 : Nat) : Int)) = true from rfl, cond_true, cond_false, x1, Option.bind_some]
  by_cases h2 : CK d
  case neg =>
    have he : x ≠ 0 := fun h' => h2 (x2.1 h')
    exact ⟨x, by rw [show (x != 0) = true from bne_iff_ne.2 he, cond_true], fun h => absurd h he, fun h => absurd h.2.1 h2⟩
  obtain rfl := x2.2 h2
  simp only [bne_self_eq_false, cond_false, backE_eq, show IntKind.i64.wrap ((1 : Int) + 1) = 2 from by decide]
  rw [loopD]
  simp only [show decide ((2 : Int) < 2) = false from rfl, cond_false, counts_pair_1, b1, Option.bind_some]
  cases b with
  | true => exact ⟨3, rfl, fun h => absurd h (by decide), fun h => by have := b2.2 h.2.2; cases this⟩
  | false => exact ⟨0, rfl, fun _ => ⟨h1, h2, b2.1 rfl⟩, fun _ => rfl⟩
theorem CSum_or {N : Nat} (hN : 1000 ≤ N) {c d : List Cn} (hc : c.length < N) (hb : c.length * 24 ≤ 140737488355328) (hd : d.length < N) (hb' : d.length * 24 ≤ 140737488355328) :
    (¬ CP c d ∧ ∃ e, e ≠ 0 ∧ D_counts_Sum N (c, d, ()) = some ([], e, ())) ∨ (CP c d ∧ D_counts_Sum N (c, d, ()) = mgR [] (mg (c.length + d.length) c d)) := by
  obtain ⟨e, e1, e2⟩ := pair_eq hN hc hb hd hb'
  simp only [D_counts_Sum, counts_Sum_1, e1, Option.bind_some]
  by_cases h1 : CP c d
  case neg =>
    have he : e ≠ 0 := fun h' => h1 (e2.1 h')
    exact .inl ⟨h1, e, he, by rw [show (e != 0) = true from bne_iff_ne.2 he, cond_true]⟩
  obtain rfl := e2.2 h1
  exact .inr ⟨h1, by rw [bne_self_eq_false, cond_false, Merge_eq hN h1.1.sml h1.2.1.sml, bindR]⟩
theorem CSum_ok {N : Nat} (hN : 1000 ≤ N) {c d : List Cn} (h : CP c d) : D_counts_Sum N (c, d, ()) = mgR [] (mg (c.length + d.length) c d) := by
  have h1 := h.1.len
  have h2 := h.2.1.len
  rcases CSum_or hN (c := c) (d := d) (by omega) (by omega) (by omega) (by omega) with h' | h'
  · exact absurd h h'.1
  · exact h'.2
end Go.Proofs.Ytololihlpldcdaa
