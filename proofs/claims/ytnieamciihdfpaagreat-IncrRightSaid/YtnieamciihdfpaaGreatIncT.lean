/- Operators over histories: One. -/
import Derived.Test.YtnieamciihdfpaaGreatIncS
namespace Go.Proofs.YtnieamciihdfpaaGreat
open Go.Abs Go.Bag Go.His
theorem Ports_not {N : Nat} {k A B : Int} (h : ¬ (1 ≤ k ∧ k ≤ 8)) : ∃ p, D_ops_Ports N ((k, A, B), ()) = some (p, ()) ∧ p ≠ 1 := by
  simp only [D_ops_Ports, ops_Ports_1]
  by_cases h1 : k ≥ 1
  · rw [d_true h1, cond_true, d_false (show ¬ k ≤ 8 by omega), cond_false]
    by_cases q : k = 9
    · exact ⟨2, by subst q; rfl, by decide⟩
    · by_cases q' : k = 10
      · exact ⟨2, by subst q'; rfl, by decide⟩
      · exact ⟨0, by rw [show (k == 9) = false from beq_false_of_ne q, show (k == 10) = false from beq_false_of_ne q']; rfl, by decide⟩
  · rw [d_false h1, cond_false, show (k == 9) = false from beq_false_of_ne (by omega), show (k == 10) = false from beq_false_of_ne (by omega)]
    exact ⟨0, rfl, by decide⟩
theorem isbag_self {F : Key → Int} {a : List Row} (h : IsBag F a) : IsBag (amt a) a := ⟨h.rise, h.nz, fun e => by rw [h.val, w_idem]⟩
/-- Operators of rows as they are told. -/
theorem opsOne_eq {N : Nat} (hN : 1000 ≤ N) (k A B : Int) (hk : 1 ≤ k) (hk8 : k ≤ 8) {F : Key → Int} {a : List Row} (h : IsBag F a) (hl : a.length ≤ 128) :
    ∃ out, D_ops_One N ((k, A, B), a, ()) = some (out, 0, ()) ∧ IsBag (amt (opF k A B a)) out ∧ out.length ≤ a.length := by
  have hs := isbag_self h
  by_cases q : k ≤ 4
  · obtain ⟨out, c, o1, o2⟩ := One_lin (N := N) hN k A B hk q a
    rcases o2 with ⟨-, rfl, o3, o4⟩ | ⟨o3, -⟩
    case inr => omega
    have he : opF k A B a = a.filterMap (rowF k A B) := by unfold opF; rw [if_pos q]
    refine ⟨out, o1, by rw [he]; exact o4, ?_⟩
    refine Nat.le_trans (o4.len_le fun e => Cg.rfl) (List.length_filterMap_le _ _)
  · rcases One_agg (N := N) hN k A B (by omega) hk8 a with ⟨-, t, t1, t2, t3⟩ | ⟨t1, -⟩
    case inr => omega
    obtain rfl := t1.uniq hs
    refine ⟨outG k t, t3, ?_, outG_len t1.rise⟩
    unfold opF
    rw [if_neg q]
    exact outG_bag t1.rise
/-- What incr.One makes. -/
structure IncOk (k A B : Int) (h l : List Df) : Prop where
  kind : 1 ≤ k ∧ k ≤ 8
  his : HOkk h
  out : HOkk l
  one : ∀ d ∈ l, ∀ x ∈ h, d.1.length = x.1.length
  nil : h = [] → l = []
  told : ∃ G, IsHis G l
  st : ∀ t, tok t = true → (∀ d ∈ h, d.1.length = t.length) → ∃ a, IsBag (amt (stL h t)) a ∧ a.length ≤ 128 ∧ ∀ z, Cg (amt (stL l t) z) (amt (opF k A B a) z)
theorem incOne_eq {N : Nat} (hN : 600000 ≤ N) (k A B : Int) {h : List Df} (hl : h.length < N) (hl2 : h.length ≤ 4611686018427387904) :
    ∃ l e, D_incr_One N ((k, A, B), h, ()) = some (l, e, ()) ∧ ((e = 0 ∧ IncOk k A B h l) ∨ (e ≠ 0 ∧ l = [])) := by
  simp only [D_incr_One, incr_One_1]
  by_cases hk : 1 ≤ k ∧ k ≤ 8
  case neg =>
    obtain ⟨p, p1, p2⟩ := Ports_not (N := N) (A := A) (B := B) hk
    exact ⟨[], 17, by rw [p1, Option.bind_some, bne_iff_ne.2 p2, cond_true], .inr ⟨by decide, rfl⟩⟩
  rw [Ports_one hk.1 hk.2, Option.bind_some, bne_self_eq_false, cond_false]
  obtain ⟨h', e, h1, h2⟩ := dTidy_eq (N := N) (by omega) hl hl2
  rw [h1, Option.bind_some]
  rcases h2 with ⟨rfl, H, i1, O1⟩ | ⟨he, -, rfl⟩
  case inr => exact ⟨[], e, by rw [bne_iff_ne.2 he, cond_true], .inr ⟨he, rfl⟩⟩
  rw [bne_self_eq_false, cond_false]
  have h64 := O1.len
  rw [dTimes_eq (N := N) (by omega) h64, Option.bind_some]
  obtain ⟨n, hn4, hn, hnh⟩ : ∃ n, n ≤ 4 ∧ (∀ d ∈ h', d.1.length = n) ∧ (∀ d ∈ h', ∀ x ∈ h, x.1.length = n) := by
    cases h' with
    | nil => exact ⟨1, by omega, fun d hd => (by cases hd), fun d hd => (by cases hd)⟩
    | cons d0 g =>
      obtain ⟨y, hy, ey⟩ := i1.times d0 (by simp)
      refine ⟨d0.1.length, tok4 (O1.tok (by simp)), fun d hd => O1.one hd (by simp), fun d hd x hx => ?_⟩
      rw [← ey]; exact H.one hx hy
  obtain ⟨l, e, m1, m2⟩ := makes_eq (N := N) hN O1 hn hn4 k A B hk.1
  refine ⟨l, e, by rw [m1, Option.bind_some], ?_⟩
  rcases m2 with ⟨rfl, m3, m4, m5, m6, m7, m8⟩ | m2
  case inr => exact .inr m2
  refine .inl ⟨rfl, hk, H, ⟨m3, m4, ⟨by simpa using m3, fun t ht => ?_, fun t ht => ?_⟩⟩, fun d hd x hx => ?_, fun hh => ?_, m7, fun t ht hone => ?_⟩
  · obtain ⟨d, hd, rfl⟩ := List.mem_map.1 ht
    exact (m5 d hd).1
  · obtain ⟨d, hd, rfl⟩ := List.mem_map.1 ht
    have h0 : 0 < l.length := List.length_pos_of_mem hd
    have hm := nth_mem (z := ([] : List Int)) (xs := l.map Prod.fst) (i := 0) (by simpa using h0)
    obtain ⟨d0, hd0, e0⟩ := List.mem_map.1 hm
    rw [← e0, (m5 d hd).2, (m5 d0 hd0).2]
  · rw [(m5 d hd).2]
    cases h' with
    | nil => rw [m6 rfl] at hd; cases hd
    | cons d0 g => exact (hnh d0 (by simp) x hx).symm
  · refine m6 ?_
    subst hh
    cases h' with
    | nil => rfl
    | cons d0 g => obtain ⟨y, hy, -⟩ := i1.times d0 (by simp); cases hy
  · have hst : ∀ z, Cg (amt (stL h' t) z) (amt (stL h t) z) := fun z => His.HEq.sel (fun t z => i1.rows t z) (fun u => undr u t) z
    by_cases q : h' = []
    · subst q
      have hln := m6 rfl
      subst hln
      refine ⟨[], ⟨List.Pairwise.nil, fun r hr => (by cases hr), fun e => ?_⟩, by simp, fun z => by rw [opF_nil]; exact Cg.rfl⟩
      exact (hst e)
    · obtain ⟨d0, hd0⟩ := List.exists_mem_of_ne_nil h' q
      have htn : t.length = n := by
        obtain ⟨y, hy, ey⟩ := i1.times d0 hd0
        rw [← hone y hy, ey]; exact hn d0 hd0
      obtain ⟨a, a1, a2, a3⟩ := m8 t ht htn
      exact ⟨a, a1.cg hst, a2, a3⟩
theorem totalAt_eq {N : Nat} (hN : 1000 ≤ N) {h : List Df} {t : List Int} (hl : h.length < N) (hr : ∀ d ∈ h, d.2.length < N) (hM : N ≤ 4611686018427387903) : D_keep_totalAt N (h, t, ()) = some (w (tot (sel (fun u => leqT u t) h)), ()) := by
  simp only [D_keep_totalAt, keep_totalAt_3, joinD, loopE]
  obtain ⟨s', hI, e⟩ := loopD_inv (g := fun (s : Int × Int) kn => keep_totalAt_2 N (fun s => keep_totalAt_1 N s) t h (h.length : Int) s.1 s.2 (backE (t, h, (h.length : Int)) kn)) (k := fun s : Int × Int => some (s.1, ())) h.length
    (fun i s => s.2 = (i : Int) ∧ s.1 = w (tot (His.sel (fun u => leqT u t) (h.take i)))) (N := N) (s := ((0 : Int), (0 : Int)))
    (by
      rintro i ⟨_, _⟩ hi ⟨rfl, rfl⟩
      have hd := hr _ (nth_mem (z := zd) hi)
      refine ⟨(w (tot (His.sel (fun u => leqT u t) (h.take (i + 1)))), (i : Int) + 1), ⟨by simp, rfl⟩, fun kn => ?_⟩
      rw [take_nd hi, sel_snoc, tot_append]
      simp only [keep_totalAt_2, lt_d hi, ge0_d, Int.toNat_natCast, Bool.and_self, cond_true, RLeq_eq hN, Option.bind_some, ix1 hi (show h.length ≤ 4611686018427387904 by omega)]
      cases q : leqT (nth zd h i).1 t with
      | true =>
        have h1 : IntKind.i64.wrap (w (tot (His.sel (fun u => leqT u t) (h.take i))) + w (tot (nth zd h i).2)) = w (tot (His.sel (fun u => leqT u t) (h.take i)) + tot (nth zd h i).2) := (cg_w _).add (cg_w _)
        rw [cond_true, total_eq hd (by omega), Option.bind_some, backE_eq, if_pos rfl]
        simp only
        rw [h1]
      | false =>
        rw [cond_false, backE_eq, if_neg (by simp)]
        simp only [tot, Int.add_zero])
    (by
      rintro ⟨_, _⟩ ⟨rfl, rfl⟩ kn
      simp only [keep_totalAt_2, lt_self, cond_false, keep_totalAt_1])
    hl ⟨rfl, by simp only [List.take_zero]; rfl⟩
  rw [e, hI.2, List.take_length]
theorem sel_leq {h : List Df} {t : List Int} (H : HOk h t) : His.sel (fun u => leqT u t) h = stL h t := by
  have key : ∀ g : List Df, (∀ d ∈ g, d ∈ h) → His.sel (fun u => leqT u t) g = stL g t := fun g => by
    induction g with
    | nil => intro _; rfl
    | cons d g ih =>
      intro hg
      have hd := hg d (by simp)
      have hle : leqT d.1 t = undr d.1 t := by simp [leqT, alk, H.one d hd, H.tok d hd, H.tt]
      rw [sel_cons, ih fun x hx => hg x (by simp [hx]), hle]
      unfold stL
      rw [List.flatMap_cons]
  exact key h fun d hd => hd
end Go.Proofs.YtnieamciihdfpaaGreat
