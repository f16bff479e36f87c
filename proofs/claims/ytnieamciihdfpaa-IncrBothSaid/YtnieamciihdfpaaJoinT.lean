import Derived.Test.YtnieamciihdfpaaJoinS
namespace Go.Proofs.Ytnieamciihdfpaa
open Go.Abs Go.Bag
def twoF (k A B : Int) (a b : List Row) : List Row := if k = 9 then a ++ b else JL A B a b
theorem twoF_cg (k A B : Int) {a b a' b' : List Row} (ha : ∀ e, Cg (amt a e) (amt a' e)) (hb : ∀ e, Cg (amt b e) (amt b' e)) (e : Key) : Cg (amt (twoF k A B a b) e) (amt (twoF k A B a' b') e) := by
  unfold twoF
  by_cases h : k = 9
  · rw [if_pos h, if_pos h, amt_append, amt_append]; exact (ha e).add (hb e)
  · rw [if_neg h, if_neg h]; exact JL_cg A B ha hb e
theorem Ports_eq (N : Nat) (k A B : Int) : D_ops_Ports N ((k, A, B), ()) = some (if 1 ≤ k ∧ k ≤ 8 then 1 else if k = 9 ∨ k = 10 then 2 else 0, ()) := by
  simp only [D_ops_Ports, ops_Ports_1]
  by_cases h1 : k ≥ 1
  · rw [d_true h1, cond_true]
    by_cases h2 : k ≤ 8
    · rw [d_true h2, cond_true, if_pos ⟨h1, h2⟩]
    · rw [d_false h2, cond_false, if_neg (fun h => h2 h.2)]
      by_cases h3 : k = 9
      · rw [show (k == 9) = true from beq_iff_eq.2 h3, cond_true, if_pos (.inl h3)]
      · rw [show (k == 9) = false from beq_false_of_ne h3, cond_false]
        by_cases h4 : k = 10
        · rw [show (k == 10) = true from beq_iff_eq.2 h4, cond_true, if_pos (.inr h4)]
        · rw [show (k == 10) = false from beq_false_of_ne h4, cond_false, if_neg (by omega)]
  · rw [d_false h1, cond_false, if_neg (fun h => h1 h.1), show (k == 9) = false from beq_false_of_ne (by omega), cond_false, show (k == 10) = false from beq_false_of_ne (by omega), cond_false, if_neg (by omega)]
theorem check_two {N : Nat} (hN : 10 ≤ N) (k A B : Int) (a b : List Row) : D_ops_check N ((k, A, B), 2, [a, b], ()) = some (if k = 9 ∨ k = 10 then (if 128 < a.length ∨ 128 < b.length then 1 else 0) else 17, ()) := by
  have hL := Large_eq (N := N) (ls := [a, b]) (by simp; omega) (by simp)
  simp only [D_ops_check, ops_check_1, Ports_eq N k A B, Option.bind_some, hL]
  by_cases h : k = 9 ∨ k = 10
  · rw [if_neg (by omega), if_pos h, if_pos h, bne_self_eq_false, cond_false]
    by_cases q : 128 < a.length ∨ 128 < b.length
    · rw [if_pos q, d_true (q.elim (fun q => ⟨a, by simp, q⟩) (fun q => ⟨b, by simp, q⟩))]; rfl
    · rw [if_neg q, d_false (fun ⟨l, hl, h⟩ => q (by simp at hl; exact hl.elim (fun e => .inl (e ▸ h)) (fun e => .inr (e ▸ h))))]; rfl
  · rw [if_neg h, if_neg h]
    have : ((if 1 ≤ k ∧ k ≤ 8 then 1 else 0 : Int) != 2) = true := by
      split <;> rfl
    rw [this, cond_true]
theorem Pair_concat {N : Nat} {F G : Key → Int} {da db : Bg} (hF : BOk F da) (hG : BOk G db) (A B : Int) (h1 : da.2.length + 10 < N) (h2 : db.2.length + 10 < N) (h3 : da.2.length ≤ 1000000) (h4 : db.2.length ≤ 1000000) :
    ∃ (ra rb : List Row) (out : Bg), D_ops_Pair_h N ((9, A, B), da, db) = some (da, db, 9, A, B, out) ∧ IsBag F ra ∧ IsBag G rb ∧ BOk (amt (ra ++ rb)) out ∧ ra.length = da.2.length ∧ rb.length = db.2.length ∧ out.2.length ≤ ra.length + rb.length := by
  obtain ⟨ra, a1, a2, a3⟩ := RowsR_eq hF h1 (by omega)
  obtain ⟨rb, b1, b2, b3⟩ := RowsR_eq hG h2 (by omega)
  obtain ⟨d1, p1, p2, p3⟩ := Pour_eq (N := N) BOk.empty ra 1 (by omega) (by omega)
  obtain ⟨d2, q1, q2, q3⟩ := Pour_eq (N := N) p2 rb 1 (by omega) (by omega)
  refine ⟨ra, rb, d2, ?_, a2, b2, q2.cg fun e => .of_eq (by rw [amt_append]; omega), a3, b3, by simp at p3; omega⟩
  simp only [D_ops_Pair_h, ops_Pair_h_7, beq_self_eq_true, cond_true, a1, b1, p1, q1, Option.bind_some]
theorem Two_eq {N : Nat} (hN : 20000 ≤ N) (k A B : Int) (hk : k = 9 ∨ k = 10) (a b : List Row) : ∃ (out : List Row) (c : Int), D_ops_Two N ((k, A, B), a, b, ()) = some (out, c, ()) ∧ Tld (amt (twoF k A B a b)) (128 < a.length ∨ 128 < b.length) out c := by
  simp only [D_ops_Two, ops_Two_1, check_two (N := N) (by omega) k A B a b, Option.bind_some, if_pos hk]
  by_cases q : 128 < a.length ∨ 128 < b.length
  · exact ⟨[], 1, by rw [if_pos q]; rfl, .inr ⟨rfl, rfl, .inl q⟩⟩
  · rw [if_neg q, bne_self_eq_false, cond_false]
    obtain ⟨da, o1, o2, o3⟩ := Of_eq (N := N) a (by omega) (by omega)
    obtain ⟨db, u1, u2, u3⟩ := Of_eq (N := N) b (by omega) (by omega)
    rw [o1, Option.bind_some, u1, Option.bind_some]
    have key : ∃ (ra rb : List Row) (out : Bg), D_ops_Pair_h N ((k, A, B), da, db) = some (da, db, k, A, B, out) ∧ IsBag (amt a) ra ∧ IsBag (amt b) rb ∧ BOk (amt (twoF k A B ra rb)) out ∧ out.2.length ≤ 16384 := by
      rcases hk with rfl | rfl
      · obtain ⟨ra, rb, out, m1, m2, m3, m4, m5, m6, m7⟩ := Pair_concat (N := N) o2 u2 A B (by omega) (by omega) (by omega) (by omega)
        exact ⟨ra, rb, out, m1, m2, m3, m4, by omega⟩
      · obtain ⟨ra, rb, out, m1, m2, m3, m4, m5, m6, m7⟩ := Pair_join (N := N) o2 u2 A B (by omega) (by omega) (by omega) (by omega)
        refine ⟨ra, rb, out, m1, m2, m3, m4, ?_⟩
        have : ra.length * rb.length ≤ 128 * 128 := Nat.mul_le_mul (by omega) (by omega)
        omega
    obtain ⟨ra, rb, out, m1, m2, m3, m4, m5⟩ := key
    have hcg : ∀ e, Cg (amt (twoF k A B ra rb) e) (amt (twoF k A B a b) e) := twoF_cg k A B (fun e => m2.amt_cg e) (fun e => m3.amt_cg e)
    obtain ⟨res, c, t1, t2⟩ := Tells_eq (N := N) m4 (by omega) (by omega)
    rw [m1, Option.bind_some, t1, Option.bind_some]
    refine ⟨res, c, rfl, ?_⟩
    rcases t2 with ⟨c0, p1, p2⟩ | ⟨c1, p1, l, p2, p3⟩
    · exact .inl ⟨c0, p1, q, p2.cg hcg⟩
    · exact .inr ⟨c1, p1, .inr ⟨l, p2.cg hcg, p3⟩⟩
end Go.Proofs.Ytnieamciihdfpaa
