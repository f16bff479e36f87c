/- Operators over histories: One. -/
import Derived.Test.YtnieamciihdfpaaGreatIncS
import Derived.Test.YtnieamciihdfpaaGreatHisV
namespace Go.Proofs.YtnieamciihdfpaaGreat
open Go.Abs Go.Bag Go.His
theorem Ports_not {N : Nat} {k A B : Int} (h : ¬ (1 ≤ k ∧ k ≤ 8)) : ∃ p, D_ops_Ports N ((k, A, B), ()) = some (p, ()) ∧ p ≠ 1 := by
  simp only [D_ops_Ports, ops_Ports_1]
  by_cases h1 : k ≥ 1
  · rw [d_true h1, cond_true, d_false (show ¬ k ≤ 8 by omega), cond_false]
    by_cases q : k = 9
    · exact ⟨2, by subst q; rfl, by decide⟩
    · by_cases q' : k = 10
      · exact ⟨2, by subst q'; rfl, by decide⟩
      · exact ⟨0, by rw [show (k == 9) = false from beq_false_of_ne q, show (k == 10) = false from beq_false_of_ne q']; rfl, by decide⟩
  · rw [d_false h1, cond_false, show (k == 9) = false from beq_false_of_ne (by omega), show (k == 10) = false from beq_false_of_ne (by omega)]
    exact ⟨0, rfl, by decide⟩
/-- Operators of rows as they are told. -/
theorem opsOne_eq {N : Nat} (hN : 1000 ≤ N) (k A B : Int) (hk : 1 ≤ k) (hk8 : k ≤ 8) {F : Key → Int} {a : List Row} (h : IsBag F a) (hl : a.length ≤ 128) :
    ∃ out, D_ops_One N ((k, A, B), a, ()) = some (out, 0, ()) ∧ IsBag (amt (opF k A B a)) out ∧ out.length ≤ a.length := by
  have hs := isbag_self h
  by_cases q : k ≤ 4
  · obtain ⟨out, c, o1, o2⟩ := One_lin (N := N) hN k A B hk q a
    rcases o2 with ⟨-, rfl, o3, o4⟩ | ⟨o3, -⟩
    case inr => omega
    have he : opF k A B a = a.filterMap (rowF k A B) := by unfold opF; rw [if_pos q]
    refine ⟨out, o1, by rw [he]; exact o4, ?_⟩
    refine Nat.le_trans (o4.len_le fun e => Cg.rfl) (List.length_filterMap_le _ _)
  · rcases One_agg (N := N) hN k A B (by omega) hk8 a with ⟨-, t, t1, t2, t3⟩ | ⟨t1, -⟩
    case inr => omega
    obtain rfl := t1.uniq hs
    refine ⟨outG k t, t3, ?_, outG_len t1.rise⟩
    unfold opF
    rw [if_neg q]
    exact outG_bag t1.rise
/-- What incr.One makes. -/
structure IncOk (k A B : Int) (h l : List Df) : Prop where
  kind : 1 ≤ k ∧ k ≤ 8
  his : HOkk h
  out : HOkk l
  one : ∀ d ∈ l, ∀ x ∈ h, d.1.length = x.1.length
  nil : h = [] → l = []
  told : ∃ G, IsHis G l
  st : ∀ t, tok t = true → (∀ d ∈ h, d.1.length = t.length) → ∃ a, IsBag (amt (stL h t)) a ∧ a.length ≤ 128 ∧ ∀ z, Cg (amt (stL l t) z) (amt (opF k A B a) z)
theorem incOne_eq {N : Nat} (hN : 600000 ≤ N) (k A B : Int) {h : List Df} (hl : h.length < N) (hl2 : h.length ≤ 4611686018427387904) :
    ∃ l e, D_incr_One N ((k, A, B), h, ()) = some (l, e, ()) ∧ ((e = 0 ∧ IncOk k A B h l) ∨ (e ≠ 0 ∧ l = [])) := by
  simp only [D_incr_One, incr_One_1]
  by_cases hk : 1 ≤ k ∧ k ≤ 8
  case neg =>
    obtain ⟨p, p1, p2⟩ := Ports_not (N := N) (A := A) (B := B) hk
    exact ⟨[], 17, by rw [p1, Option.bind_some, bne_iff_ne.2 p2, cond_true], .inr ⟨by decide, rfl⟩⟩
  rw [Ports_one hk.1 hk.2, Option.bind_some, bne_self_eq_false, cond_false]
  obtain ⟨h', e, h1, h2⟩ := dTidy_eq (N := N) (by omega) hl hl2
  rw [h1, Option.bind_some]
  rcases h2 with ⟨rfl, H, i1, O1⟩ | ⟨he, -, rfl⟩
  case inr => exact ⟨[], e, by rw [bne_iff_ne.2 he, cond_true], .inr ⟨he, rfl⟩⟩
  rw [bne_self_eq_false, cond_false]
  have h64 := O1.len
  rw [dTimes_eq (N := N) (by omega) h64, Option.bind_some]
  obtain ⟨n, hn4, hn, hnh⟩ : ∃ n, n ≤ 4 ∧ (∀ d ∈ h', d.1.length = n) ∧ (∀ d ∈ h', ∀ x ∈ h, x.1.length = n) := by
    cases h' with
    | nil => exact ⟨1, by omega, fun d hd => (by cases hd), fun d hd => (by cases hd)⟩
    | cons d0 g =>
      obtain ⟨y, hy, ey⟩ := i1.times d0 (by simp)
      refine ⟨d0.1.length, tok4 (O1.tok (by simp)), fun d hd => O1.one hd (by simp), fun d hd x hx => ?_⟩
      rw [← ey]; exact H.one hx hy
  obtain ⟨l, e, m1, m2⟩ := makes_eq (N := N) hN O1 hn hn4 k A B hk.1
  refine ⟨l, e, by rw [m1, Option.bind_some], ?_⟩
  rcases m2 with ⟨rfl, m3, m4, m5, m6, m7, m8⟩ | m2
  case inr => exact .inr m2
  refine .inl ⟨rfl, hk, H, ⟨m3, m4, ⟨by simpa using m3, fun t ht => ?_, fun t ht => ?_⟩⟩, fun d hd x hx => ?_, fun hh => ?_, m7, fun t ht hone => ?_⟩
  · obtain ⟨d, hd, rfl⟩ := List.mem_map.1 ht
    exact (m5 d hd).1
  · obtain ⟨d, hd, rfl⟩ := List.mem_map.1 ht
    have h0 : 0 < l.length := List.length_pos_of_mem hd
    have hm := nth_mem (z := ([] : List Int)) (xs := l.map Prod.fst) (i := 0) (by simpa using h0)
    obtain ⟨d0, hd0, e0⟩ := List.mem_map.1 hm
    rw [← e0, (m5 d hd).2, (m5 d0 hd0).2]
  · rw [(m5 d hd).2]
    cases h' with
    | nil => rw [m6 rfl] at hd; cases hd
    | cons d0 g => exact (hnh d0 (by simp) x hx).symm
  · refine m6 ?_
    subst hh
    cases h' with
    | nil => rfl
    | cons d0 g => obtain ⟨y, hy, -⟩ := i1.times d0 (by simp); cases hy
  · have hst : ∀ z, Cg (amt (stL h' t) z) (amt (stL h t) z) := fun z => His.HEq.sel (fun t z => i1.rows t z) (fun u => undr u t) z
    by_cases q : h' = []
    · subst q
      have hln := m6 rfl
      subst hln
      refine ⟨[], ⟨List.Pairwise.nil, fun r hr => (by cases hr), fun e => ?_⟩, by simp, fun z => by rw [opF_nil]; exact Cg.rfl⟩
      exact (hst e)
    · obtain ⟨d0, hd0⟩ := List.exists_mem_of_ne_nil h' q
      have htn : t.length = n := by
        obtain ⟨y, hy, ey⟩ := i1.times d0 hd0
        rw [← hone y hy, ey]; exact hn d0 hd0
      obtain ⟨a, a1, a2, a3⟩ := m8 t ht htn
      exact ⟨a, a1.cg hst, a2, a3⟩
end Go.Proofs.YtnieamciihdfpaaGreat
