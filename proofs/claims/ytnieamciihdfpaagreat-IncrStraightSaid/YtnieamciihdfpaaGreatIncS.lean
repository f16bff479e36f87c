/- Operators over histories: what the functions come to. -/
import Derived.Test.YtnieamciihdfpaaGreatHisE
namespace Go.Proofs.YtnieamciihdfpaaGreat
open Go.Abs Go.Bag Go.His
theorem sortR_congr {α : Type} {D D' : α → α → Option Int} {xs ys : List α} (h : ∀ a ∈ xs, ∀ b ∈ xs, D a b = D' a b) (hs : sortR D' xs = some ys) : sortR D xs = some ys := by
  obtain ⟨h1, h2, h3⟩ := sortR_some hs
  have hl : ∀ a ∈ xs, ∀ b ∈ xs, ltB D a b = ltB D' a b := fun a ha b hb => by unfold ltB; rw [h a ha b hb]
  refine sortR_eq ⟨h1.lt, fun a ha b hb => by rw [h a ha b hb]; exact h1.tot a ha b hb, fun a ha => by rw [hl a ha a ha]; exact h1.irrefl a ha,
    fun a ha b hb c hc p q => by rw [hl a ha c hc]; rw [hl a ha b hb] at p; rw [hl b hb c hc] at q; exact h1.trans a ha b hb c hc p q,
    fun a ha b hb p q => by rw [hl a ha b hb] at p; rw [hl b hb a ha] at q; exact h1.anti a ha b hb p q⟩ ⟨h2, h3.imp_of_mem fun {a b} ha hb p => by rw [hl b (h2.subset hb) a (h2.subset ha)]; exact p⟩
theorem ovr_comm : ∀ a b : List Int, ovr a b = ovr b a
  | [], [] => rfl
  | [], _ :: _ => rfl
  | _ :: _, [] => rfl
  | x :: a, y :: b => by
    have := ovr_comm a b
    unfold ovr at *
    rw [List.zipWith_cons_cons, List.zipWith_cons_cons, this]
    congr 1
    split <;> split <;> omega
theorem ovr_assoc : ∀ a b c : List Int, ovr (ovr a b) c = ovr a (ovr b c)
  | [], _, _ => by simp [ovr]
  | _ :: _, [], _ => by simp [ovr]
  | _ :: _, _ :: _, [] => by simp [ovr]
  | x :: a, y :: b, z :: c => by
    have := ovr_assoc a b c
    unfold ovr at *
    simp only [List.zipWith_cons_cons, this]
    congr 1
    (repeat' split) <;> omega
theorem ovr_self : ∀ a : List Int, ovr a a = a
  | [] => rfl
  | x :: a => by
    have := ovr_self a
    unfold ovr at *
    rw [List.zipWith_cons_cons, this]
    congr 1
    split <;> omega
/-- All joins of times. -/
structure Clo (k : Nat) (ts C : List (List Int)) : Prop where
  sub : ∀ t ∈ ts, t ∈ C
  cl : ∀ a ∈ C, ∀ b ∈ C, ovr a b ∈ C
  some : ∀ u ∈ C, ∃ t ∈ ts, undr t u = true
  gen : ∀ u ∈ C, ∀ c : List Int, c.length = k → (∀ t ∈ ts, undr t u = true → undr t c = true) → undr u c = true
  tk : ∀ u ∈ C, tok u = true ∧ u.length = k
/-- What of a time the times say. -/
theorem Clo.best {k : Nat} {ts C : List (List Int)} (h : Clo k ts C) {t : List Int} (ht : t.length = k) (hs : ∃ u ∈ ts, undr u t = true) : ∃ c ∈ C, undr c t = true ∧ ∀ u ∈ ts, undr u t = true → undr u c = true := by
  have key : ∀ qs : List (List Int), (∀ q ∈ qs, q ∈ ts) → (∀ q ∈ qs, ¬ undr q t = true) ∨ ∃ c ∈ C, undr c t = true ∧ ∀ u ∈ qs, undr u t = true → undr u c = true := by
    intro qs
    induction qs with
    | nil => intro _; exact .inl fun q hq => by cases hq
    | cons q qs ih =>
      intro hq
      have hqC := h.sub q (hq q (by simp))
      have hqk := (h.tk q hqC).2
      by_cases hqt : undr q t = true
      · refine .inr ?_
        rcases ih fun x hx => hq x (by simp [hx]) with hn | ⟨c, hc, c1, c2⟩
        · refine ⟨q, hqC, hqt, fun u hu hut => ?_⟩
          rcases List.mem_cons.1 hu with rfl | hu
          · exact undr_refl _
          · exact absurd hut (hn u hu)
        · have hck := (h.tk c hc).2
          obtain ⟨l1, l2⟩ := le_ovr (a := q) (b := c) (by omega)
          refine ⟨ovr q c, h.cl q hqC c hc, (undr_ovr (by omega) (by omega)).2 ⟨hqt, c1⟩, fun u hu hut => ?_⟩
          rcases List.mem_cons.1 hu with rfl | hu
          · exact l1
          · exact undr_trans (c2 u hu hut) l2
      · rcases ih fun x hx => hq x (by simp [hx]) with hn | ⟨c, hc, c1, c2⟩
        · refine .inl fun x hx => ?_
          rcases List.mem_cons.1 hx with rfl | hx
          · exact hqt
          · exact hn x hx
        · refine .inr ⟨c, hc, c1, fun u hu hut => ?_⟩
          rcases List.mem_cons.1 hu with rfl | hu
          · exact absurd hut hqt
          · exact c2 u hu hut
  rcases key ts fun q hq => hq with hn | hc
  · obtain ⟨u, hu, hut⟩ := hs
    exact absurd hut (hn u hu)
  · exact hc
/-- Another time, and its joins. -/
theorem Clo.more {k : Nat} {ts C D : List (List Int)} (h : Clo k ts C) {t : List Int} (htk : tok t = true ∧ t.length = k) (hC : ∀ u ∈ C, u ∈ D) (ht : t ∈ D) (hj : ∀ x ∈ D, ovr t x ∈ D) (hn : ∀ u ∈ D, u ∈ C ∨ u = t ∨ ∃ x ∈ C, u = ovr t x) : Clo k (ts ++ [t]) D := by
  have tkD : ∀ u ∈ D, tok u = true ∧ u.length = k := fun u hu => by
    rcases hn u hu with h1 | rfl | ⟨x, hx, rfl⟩
    · exact h.tk u h1
    · exact htk
    · obtain ⟨x1, x2⟩ := h.tk x hx
      exact ⟨tok_ovr (by omega) htk.1 x1, by rw [ovr_len (by omega)]; exact htk.2⟩
  refine ⟨fun u hu => ?_, fun a ha b hb => ?_, fun u hu => ?_, fun u hu c hc hall => ?_, tkD⟩
  · rcases List.mem_append.1 hu with hu | hu
    · exact hC u (h.sub u hu)
    · rw [List.mem_singleton] at hu; rw [hu]; exact ht
  · rcases hn a ha with h1 | rfl | ⟨x, hx, rfl⟩
    · rcases hn b hb with g1 | rfl | ⟨y, hy, rfl⟩
      · exact hC _ (h.cl a h1 b g1)
      · rw [ovr_comm]; exact hj a ha
      · rw [← ovr_assoc, ovr_comm a t, ovr_assoc]
        exact hj _ (hC _ (h.cl a h1 y hy))
    · exact hj b hb
    · rw [ovr_assoc]
      refine hj _ ?_
      rcases hn b hb with g1 | rfl | ⟨y, hy, rfl⟩
      · exact hC _ (h.cl x hx b g1)
      · rw [ovr_comm]; exact hj x (hC x hx)
      · rw [← ovr_assoc, ovr_comm x t, ovr_assoc]
        exact hj _ (hC _ (h.cl x hx y hy))
  · rcases hn u hu with h1 | rfl | ⟨x, hx, rfl⟩
    · obtain ⟨q, hq, hqu⟩ := h.some u h1
      exact ⟨q, by simp [hq], hqu⟩
    · exact ⟨u, by simp, undr_refl _⟩
    · have := (h.tk x hx).2
      exact ⟨t, by simp, (le_ovr (by omega)).1⟩
  · rcases hn u hu with h1 | rfl | ⟨x, hx, rfl⟩
    · exact h.gen u h1 c hc fun q hq hqu => hall q (by simp [hq]) hqu
    · exact hall u (by simp) (undr_refl _)
    · have hxk := (h.tk x hx).2
      obtain ⟨l1, l2⟩ := le_ovr (a := t) (b := x) (by omega)
      exact (undr_ovr (by omega) (by omega)).2 ⟨hall t (by simp) l1, h.gen x hx c hc fun q hq hqu => hall q (by simp [hq]) (undr_trans hqu l2)⟩
abbrev Sn : Type := Int × List (Int × KT × Int)
/-- Which times have been seen. -/
def Seen (m : Sn) (l : List (List Int)) : Prop := ∀ x : List Int, x.length ≤ 4 → (mpHas kT (.int .i64) m (tkey x) = true ↔ x ∈ l)
theorem Seen.put {m : Sn} {l : List (List Int)} (h : Seen m l) {u : List Int} (hu : u.length ≤ 4) (y : Int) : Seen (mpPut kT (.int .i64) m (tkey u) y) (l ++ [u]) := fun x hx => by
  rw [List.mem_append, List.mem_singleton]
  by_cases q : x = u
  · subst q
    exact ⟨fun _ => .inr rfl, fun _ => mput_has (k := kT) (v := .int .i64) kTn m _ y⟩
  · rw [mput_has_ne (k := kT) (v := .int .i64) kTn m (fun e => q (by rw [← ktime_tkey hx, e, ktime_tkey hu])) y]
    exact (h x hx).trans ⟨.inl, fun h => h.resolve_right q⟩
/-- What a closure may be. -/
def CloR (k : Nat) (ts : List (List Int)) (r : Option (Dens Rk_incr_closed)) : Prop := ∃ l ok, r = some (l, ok, ()) ∧ (ok = true → Clo k ts l ∧ l.Nodup ∧ l.length ≤ 64) ∧ (ok = false → l = [])
theorem closed_eq {N : Nat} (hN : 1000 ≤ N) {k : Nat} {ts : List (List Int)} (hl : ts.length ≤ 64) (htk : ∀ t ∈ ts, tok t = true ∧ t.length = k) (hk4 : k ≤ 4) : CloR k ts (D_incr_closed N (ts, ())) := by
  simp only [D_incr_closed, incr_closed_6, joinD, loopE]
  refine loopD_post (fun s => ∃ (i : Nat) (m : Sn) (l : List (List Int)), s = ((i : Int), m, l) ∧ i ≤ ts.length ∧ Seen m l ∧ l.Nodup ∧ l.length ≤ 64 ∧ Clo k (ts.take i) l) (fun s => ts.length - s.1.toNat) (CloR k ts) ?_ N _
    ⟨0, ((0 : Int), []), [], rfl, Nat.zero_le _, fun x _ => ⟨fun h => (by cases h), fun h => (by cases h)⟩, List.nodup_nil, by simp, ⟨fun t h => (by simp at h), fun a h => (by cases h), fun a h => (by cases h), fun a h => (by cases h), fun a h => (by cases h)⟩⟩ (by simp; omega)
  rintro s ⟨i, m, l, rfl, hi, hS, hnd, hlen, hC⟩ kn hkn
  by_cases q : i < ts.length
  case neg =>
    have hie : i = ts.length := by omega
    subst hie
    rw [List.take_length] at hC
    simp only [incr_closed_5, lt_self, cond_false, incr_closed_1]
    obtain ⟨ys, y1, y2⟩ := sortR_ok (lex_ok l (by omega))
    have hso : sortR (fun p q => (D_slices_Compare_Lint_int N (p, q, ())).map (·.1)) l = some ys := sortR_congr (fun a ha b hb => by rw [lexC_eq (tok4 (hC.tk a ha).1) hN]; rfl) y1
    rw [hso, Option.bind_some]
    refine ⟨ys, true, rfl, fun _ => ⟨⟨fun t ht => y2.1.symm.subset (hC.sub t ht), fun a ha b hb => y2.1.symm.subset (hC.cl a (y2.1.subset ha) b (y2.1.subset hb)), fun u hu => hC.some u (y2.1.subset hu), fun u hu => hC.gen u (y2.1.subset hu), fun u hu => hC.tk u (y2.1.subset hu)⟩, y2.1.nodup_iff.2 hnd, by rw [y2.1.length_eq]; exact hlen⟩, fun h => by cases h⟩
  obtain ⟨t, ht⟩ : ∃ t, t = nth [] ts i := ⟨_, rfl⟩
  have htm : t ∈ ts := by rw [ht]; exact nth_mem q
  obtain ⟨ht1, ht2⟩ := htk t htm
  have ht4 := tok4 ht1
  simp only [incr_closed_5, lt_d q, ge0_d, Bool.and_self, cond_true, Int.toNat_natCast, joinD, ← ht, loopE]
  refine loopD_post (fun s => ∃ (j : Nat) (m' : Sn) (l' : List (List Int)), s = ((j : Int) - 1, m', l') ∧ j ≤ l'.length + 1 ∧ Seen m' l' ∧ l'.Nodup ∧ l'.length ≤ 64 ∧ (∀ u ∈ l, u ∈ l') ∧ (∀ u ∈ l', u ∈ l ∨ u = t ∨ ∃ x ∈ l, u = ovr t x) ∧ (1 ≤ j → t ∈ l') ∧ ∀ p, p + 1 < j → ovr t (nth [] l' p) ∈ l') (fun s => 66 - (s.1 + 1).toNat) (CloR k ts) ?_ N _
    ⟨0, m, l, rfl, by omega, hS, hnd, hlen, fun u hu => hu, fun u hu => .inl hu, fun h => by omega, fun p hp => by omega⟩ (by simp; omega)
  rintro s ⟨j, m', l', rfl, hj, hS', hnd', hlen', hsub, hnew, hone, hdone⟩ kn' hkn'
  have htk' : ∀ u ∈ l', tok u = true ∧ u.length = k := fun u hu => by
    rcases hnew u hu with h1 | rfl | ⟨x, hx, rfl⟩
    · exact hC.tk u h1
    · exact ⟨ht1, ht2⟩
    · obtain ⟨x1, x2⟩ := hC.tk x hx
      exact ⟨tok_ovr (by omega) ht1 x1, by rw [ovr_len (by omega)]; exact ht2⟩
  by_cases qj : j ≤ l'.length
  case neg =>
    have hje : j = l'.length + 1 := by omega
    subst hje
    simp only [incr_closed_4]
    rw [d_false (show ¬ ((l'.length + 1 : Nat) : Int) - 1 < (l'.length : Int) by omega), cond_false]
    simp only [incr_closed_2, backE_eq, ix1 q (show ts.length ≤ 4611686018427387904 by omega)]
    refine hkn _ ⟨i + 1, m', l', rfl, by omega, hS', hnd', hlen', ?_⟩ (by simp; omega)
    rw [List.take_succ_eq_append_getElem q, ← nth_lt (z := ([] : List Int)) q, ← ht]
    refine hC.more ⟨ht1, ht2⟩ hsub (hone (by omega)) (fun x hx => ?_) hnew
    obtain ⟨p, hp, rfl⟩ := mem_nth (z := ([] : List Int)) hx
    exact hdone p (by omega)
  -- another time
  have hstep : ∀ u : List Int, tok u = true → u.length = k → (u = t ∨ ∃ x ∈ l', u = ovr t x) → (j = 0 → u = t) → (1 ≤ j → u = ovr t (nth [] l' (j - 1))) →
      CloR k ts ((D_diffs_KeyOf N (u, ())).bind fun _y79 => (bif (mpHas kT (.int .i64) m' (_y79.1.1, (_y79.1.2.1, (_y79.1.2.2.1, (_y79.1.2.2.2.1, _y79.1.2.2.2.2))))) then incr_closed_3 N (backE (t, ts, (ts.length : Int), (i : Int)) kn') t ((j : Int) - 1) ts (ts.length : Int) (i : Int) m' l' else ((D_diffs_KeyOf N (u, ())).bind fun _y80 => ((D_slices_Clone_Lint_int N (u, ())).bind fun _y81 => (bif (decide ((l'.length + ([_y81]).length) * 24 ≤ 140737488355328) && Nat.ble 1 24) then (bif (decide (((l' ++ [_y81]).length : Int) > (64 : Int))) then (some ([], false, ())) else incr_closed_3 N (backE (t, ts, (ts.length : Int), (i : Int)) kn') t ((j : Int) - 1) ts (ts.length : Int) (i : Int) (mpPut kT (.int .i64) m' (_y80.1.1, (_y80.1.2.1, (_y80.1.2.2.1, (_y80.1.2.2.2.1, _y80.1.2.2.2.2)))) (l'.length : Int)) (l' ++ [_y81])) else none))))) := fun u hu1 hu2 hu3 hu4 hu5 => by
    have heta : ∀ x : KT, (x.1, (x.2.1, (x.2.2.1, (x.2.2.2.1, x.2.2.2.2)))) = x := fun _ => rfl
    have hu44 := tok4 hu1
    simp only [heta]
    rw [KeyOf_eq, Option.bind_some]
    simp only
    have hnew' : ∀ v ∈ l' ++ [u], v ∈ l ∨ v = t ∨ ∃ x ∈ l, v = ovr t x := fun v hv => by
      rcases List.mem_append.1 hv with hv | hv
      · exact hnew v hv
      · rw [List.mem_singleton] at hv
        subst hv
        rcases hu3 with rfl | ⟨x, hx, rfl⟩
        · exact .inr (.inl rfl)
        · rcases hnew x hx with h1 | rfl | ⟨y, hy, rfl⟩
          · exact .inr (.inr ⟨x, h1, rfl⟩)
          · exact .inr (.inl (ovr_self _))
          · exact .inr (.inr ⟨y, hy, by rw [← ovr_assoc, ovr_self]⟩)
    have hw : IntKind.i64.wrap ((j : Int) - 1 + 1) = ((j + 1 : Nat) : Int) - 1 := by rw [w64 (by omega) (by omega)]; omega
    cases hq : mpHas kT (.int .i64) m' (tkey u) with
    | true =>
      have hmem : u ∈ l' := (hS' u hu44).1 hq
      rw [cond_true]
      simp only [incr_closed_3, backE_eq, hw]
      refine hkn' _ ⟨j + 1, m', l', rfl, by omega, hS', hnd', hlen', hsub, hnew, fun _ => ?_, fun p hp => ?_⟩ (by simp; omega)
      · by_cases h0 : j = 0
        · rw [← hu4 h0]; exact hmem
        · exact hone (by omega)
      · by_cases hpj : p + 1 < j
        · exact hdone p hpj
        · have : p = j - 1 := by omega
          subst this
          rw [← hu5 (by omega)]; exact hmem
    | false =>
      have hno : u ∉ l' := fun h => by rw [(hS' u hu44).2 h] at hq; cases hq
      rw [cond_false, Option.bind_some, clone_eq (by omega), Option.bind_some, d_true (show (l'.length + ([u] : List (List Int)).length) * 24 ≤ 140737488355328 by simp only [List.length_singleton]; omega), show Nat.ble 1 24 = true from rfl, Bool.and_self, cond_true]
      by_cases h64 : ((l' ++ [u]).length : Int) > 64
      · rw [d_true h64, cond_true]
        exact ⟨[], false, rfl, fun h => (by cases h), fun _ => rfl⟩
      · rw [d_false h64, cond_false]
        simp only [incr_closed_3, backE_eq, hw]
        rw [List.length_append, List.length_singleton] at h64
        have hnth : ∀ p, p < l'.length → nth ([] : List Int) (l' ++ [u]) p = nth [] l' p := fun p hp => by
          rw [nth_lt (by simp; omega), nth_lt hp, List.getElem_append_left hp]
        refine hkn' _ ⟨j + 1, mpPut kT (.int .i64) m' (tkey u) (l'.length : Int), l' ++ [u], rfl, by simp; omega, hS'.put hu44 _, ?_, by simp; omega, fun v hv => List.mem_append_left _ (hsub v hv), hnew', fun _ => ?_, fun p hp => ?_⟩ (by simp; omega)
        · rw [List.nodup_append]
          exact ⟨hnd', List.nodup_cons.2 ⟨by simp, List.nodup_nil⟩, fun a ha b hb e => hno (by rw [List.mem_singleton] at hb; rw [← hb, ← e]; exact ha)⟩
        · by_cases h0 : j = 0
          · rw [← hu4 h0]; simp
          · exact List.mem_append_left _ (hone (by omega))
        · rw [hnth p (by omega)]
          by_cases hpj : p + 1 < j
          · exact List.mem_append_left _ (hdone p hpj)
          · have : p = j - 1 := by omega
            subst this
            rw [← hu5 (by omega)]; simp
  simp only [incr_closed_4]
  rw [d_true (show (j : Int) - 1 < (l'.length : Int) by omega), cond_true]
  by_cases h0 : 1 ≤ j
  · have hjn : ((j : Int) - 1).toNat = j - 1 := by omega
    have hx := nth_mem (z := ([] : List Int)) (xs := l') (i := j - 1) (by omega)
    obtain ⟨x1, x2⟩ := htk' _ hx
    simp only [joinD]
    have g1 : decide ((j : Int) - 1 ≥ 0) = true := d_true (by omega)
    have g2 : decide ((0 : Int) ≤ (j : Int) - 1) = true := d_true (by omega)
    simp only [g1, g2, Bool.and_self, cond_true, hjn]
    rw [Ovr_eq hN (by omega) (by omega), Option.bind_some]
    exact hstep (ovr t (nth [] l' (j - 1))) (tok_ovr (by omega) ht1 x1) (by rw [ovr_len (by omega)]; exact ht2) (.inr ⟨_, hx, rfl⟩) (fun h => by omega) fun _ => rfl
  · simp only [joinD]
    rw [d_false (show ¬ (j : Int) - 1 ≥ 0 by omega), cond_false]
    exact hstep t ht1 ht2 (.inl rfl) (fun _ => rfl) fun h => absurd h h0
/-! ### What an operator makes -/
/-- What it makes of rows as they are told. -/
def opF (k A B : Int) (t : List Row) : List Row := if k ≤ 4 then t.filterMap (rowF k A B) else outG k t
theorem opF_nil (k A B : Int) : opF k A B [] = [] := by
  unfold opF outG
  split
  · rfl
  · split <;> rfl
theorem Make_eq {N : Nat} {F : Key → Int} {d : Bg} (h : BOk F d) (k A B : Int) (hk : 1 ≤ k) (hN : d.2.length + 10 < N) (hb : d.2.length * 24 ≤ 140737488355328) :
    ∃ (rows : List Row) (out : Bg), IsBag F rows ∧ BOk (amt (opF k A B rows)) out ∧ rows.length = d.2.length ∧ out.2.length ≤ rows.length ∧
      (D_ops_Make_h N ((k, A, B), d) = some (.inl (d, k, A, B, out)) ∨ ∃ y, D_ops_Make_h N ((k, A, B), d) = some (.inr (d, k, A, B, k, y, out))) := by
  by_cases q : k ≤ 4
  · obtain ⟨rows, out, h1, h2, h3, h4, h5⟩ := Make_lin h k A B hk q hN hb
    refine ⟨rows, out, h2, ?_, h4, h5, .inl h1⟩
    unfold opF
    rw [if_pos q]; exact h3
  · obtain ⟨rows, out, h1, h2, h3, h4, h5⟩ := Make_agg h k A B (by omega) hN hb
    refine ⟨rows, out, h2, ?_, h4, h5, .inr ⟨_, h1⟩⟩
    unfold opF
    rw [if_neg q]; exact h3
theorem make_one {N : Nat} (hN : 1000 ≤ N) {h : List Df} {c : List Int} (H : HOk h c) (k A B : Int) (hk : 1 ≤ k) :
    ∃ (a : List Row) (out : Bg), IsBag (amt (stL h c)) a ∧ a.length ≤ 128 ∧ BOk (amt (opF k A B a)) out ∧ out.2.length ≤ 128 ∧
      (D_incr_One_c1_h N (c, k, A, B, h) = some (.inl (true, k, A, B, h, out)) ∨ D_incr_One_c1_h N (c, k, A, B, h) = some (.inr (true, k, A, B, h, out))) := by
  obtain ⟨d, d1, d2, d3⟩ := Stands_eq hN H
  obtain ⟨rows, out, m1, m2, m3, m4, m5⟩ := Make_eq (N := N) d2 k A B hk (by omega) (by omega)
  refine ⟨rows, out, m1, by omega, m2, by omega, ?_⟩
  simp only [D_incr_One_c1_h, incr_One_c1_h_1, d1, Option.bind_some]
  rcases m5 with m5 | ⟨y, m5⟩
  · rw [m5]; exact .inl rfl
  · rw [m5]; exact .inr rfl
theorem hokk_at {h : List Df} (H : HOkk h) {t : List Int} (ht : tok t = true) (h1 : ∀ d ∈ h, d.1.length = t.length) : HOk h t := ⟨H.len, H.rows, ht, fun d hd => H.tok hd, h1⟩
/-- The states of what is made. -/
theorem makes_eq {N : Nat} (hN : 600000 ≤ N) {h : List Df} (H : HOkk h) {n : Nat} (hn : ∀ d ∈ h, d.1.length = n) (hn4 : n ≤ 4) (k A B : Int) (hk : 1 ≤ k) :
    ∃ l e, D_incr_makes_h N (h.map Prod.fst, k, A, B, h) = some (l, e, h.map Prod.fst, k, A, B, h) ∧ ((e = 0 ∧ l.length ≤ 64 ∧ cntR l ≤ 128 ∧ (∀ d ∈ l, tok d.1 = true ∧ d.1.length = n) ∧ (h = [] → l = []) ∧ (∃ G, IsHis G l) ∧
      ∀ t, tok t = true → t.length = n → ∃ a, IsBag (amt (stL h t)) a ∧ a.length ≤ 128 ∧ ∀ z, Cg (amt (stL l t) z) (amt (opF k A B a) z)) ∨ (e ≠ 0 ∧ l = [])) := by
  have h64 := H.len
  have hts : ∀ t ∈ h.map Prod.fst, tok t = true ∧ t.length = n := fun t ht => by
    obtain ⟨d, hd, rfl⟩ := List.mem_map.1 ht
    exact ⟨H.tok hd, hn d hd⟩
  obtain ⟨C, ok, c1, c2, c3⟩ := closed_eq (N := N) (by omega) (k := n) (ts := h.map Prod.fst) (by simpa using h64) hts hn4
  simp only [D_incr_makes_h, incr_makes_h_3, c1, Option.bind_some]
  cases ok with
  | false => exact ⟨[], 1, by simp only [Bool.not_false, cond_true], .inr ⟨by decide, rfl⟩⟩
  | true =>
    obtain ⟨hC, hCn, hCl⟩ := c2 rfl
    simp only [Bool.not_true, cond_false, joinD, loopE]
    have hHO : ∀ {c : List Int}, tok c = true → c.length = n → HOk h c := fun {c} hc hcn => hokk_at H hc fun d hd => by rw [hn d hd, hcn]
    obtain ⟨st, ⟨S, rfl, g1, g2⟩, hs⟩ := loopD_inv (N := N) (g := fun (s : Int × Int × Int × Int × List Df × List Df) kn => incr_makes_h_2 N (fun s => incr_makes_h_1 N s.1 s.2.1 s.2.2.1 s.2.2.2.1 s.2.2.2.2.1 s.2.2.2.2.2) C (C.length : Int) (h.map Prod.fst) s.1 s.2.1 s.2.2.1 s.2.2.2.1 s.2.2.2.2.1 s.2.2.2.2.2 (backE (C, (C.length : Int), h.map Prod.fst) kn))
      (k := fun s => incr_makes_h_1 N (h.map Prod.fst) k A B h s.2.2.2.2.2) C.length
      (fun i s => ∃ S : List Df, s = ((i : Int), k, A, B, h, S) ∧ S.map Prod.fst = C.take i ∧ ∀ e ∈ S, e.2.length ≤ 128 ∧ ∃ a, IsBag (amt (stL h e.1)) a ∧ a.length ≤ 128 ∧ IsBag (amt (opF k A B a)) e.2)
      (fun i s hi hI => by
        obtain ⟨S, rfl, g1, g2⟩ := hI
        have hc := nth_mem (z := ([] : List Int)) hi
        obtain ⟨k1, k2⟩ := hC.tk _ hc
        obtain ⟨a, out, a1, a2, a3, a4, a5⟩ := make_one (N := N) (by omega) (hHO k1 k2) k A B hk
        obtain ⟨rows, r1, r2, r3⟩ := RowsR_eq (N := N) a3 (by omega) (by omega)
        have hSl : S.length = i := by
          have := congrArg List.length g1
          simp only [List.length_map, List.length_take] at this
          omega
        refine ⟨_, ⟨S ++ [(nth [] C i, rows)], rfl, ?_, fun e he => ?_⟩, fun kn => ?_⟩
        · rw [List.take_succ_eq_append_getElem hi, ← nth_lt (z := ([] : List Int)) hi, List.map_append, g1]; rfl
        · rcases List.mem_append.1 he with he | he
          · exact g2 e he
          · rw [List.mem_singleton] at he
            subst he
            exact ⟨by show rows.length ≤ 128; omega, a, a1, a2, r2⟩
        · have hd : decide ((S.length + ([(nth [] C i, rows)] : List Df).length) * 48 ≤ 140737488355328) = true := d_true (by simp only [List.length_singleton]; omega)
          simp only [incr_makes_h_2, lt_d hi, ge0_d, Bool.and_self, cond_true, Int.toNat_natCast]
          rcases a5 with a5 | a5
          · rw [a5, Option.bind_some, caseD_inl]
            simp only [Bool.not_true, cond_false]
            rw [r1, Option.bind_some, hd, show Nat.ble 1 48 = true from rfl, Bool.and_self, cond_true, backE_eq, ix1 hi (show C.length ≤ 4611686018427387904 by omega)]
            rfl
          · rw [a5, Option.bind_some, caseD_inr]
            simp only [Bool.not_true, cond_false]
            rw [r1, Option.bind_some, hd, show Nat.ble 1 48 = true from rfl, Bool.and_self, cond_true, backE_eq, ix1 hi (show C.length ≤ 4611686018427387904 by omega)]
            rfl)
      (fun s hI kn => by
        obtain ⟨S, rfl, _⟩ := hI
        simp only [incr_makes_h_2, lt_self, cond_false])
      (by omega) (s := (0, k, A, B, h, [])) ⟨[], rfl, rfl, fun e he => by cases he⟩
    rw [List.take_length] at g1
    have hSl : S.length ≤ 64 := by
      have := congrArg List.length g1
      simp only [List.length_map] at this
      omega
    have hSC : ∀ {e : Df}, e ∈ S → e.1 ∈ C := fun {e} he => by rw [← g1]; exact List.mem_map.2 ⟨e, he, rfl⟩
    have hK : (S.flatMap Prod.snd).length ≤ 8192 := by
      have key : ∀ T : List Df, (∀ e ∈ T, e.2.length ≤ 128) → (T.flatMap Prod.snd).length ≤ 128 * T.length := fun T => by
        induction T with
        | nil => intro _; simp
        | cons e T ih =>
          intro hT
          have h1 := ih fun x hx => hT x (by simp [hx])
          have h2 := hT e (by simp)
          rw [List.flatMap_cons, List.length_append, List.length_cons, Nat.mul_add]
          omega
      have := key S fun e he => (g2 e he).1
      omega
    obtain ⟨d, hF, d1, d2, d3, d4, d5, d6⟩ := MovesR_eq (N := N) (by omega) (s := S) hSl (fun e he => (hC.tk _ (hSC he)).1) (fun e he f hf => by rw [(hC.tk _ (hSC he)).2, (hC.tk _ (hSC hf)).2]) hK (by rw [g1]; exact hCn)
    obtain ⟨l, l1, l2, l3, l4⟩ := hTells_eq (N := N) (by omega) d2 (by omega) (by omega) (by omega) (by omega)
    refine ⟨if 64 < l.length ∨ 128 < cntR l then [] else l, if 64 < l.length ∨ 128 < cntR l then 1 else 0, ?_, ?_⟩
    · refine hs.trans ?_
      simp only [incr_makes_h_1, d1, l4, Option.bind_some]
      split <;> rfl
    by_cases q : 64 < l.length ∨ 128 < cntR l
    · rw [if_pos q, if_pos q]; exact .inr ⟨by decide, rfl⟩
    rw [if_neg q, if_neg q]
    have hFC : ∀ {e : Df}, e ∈ hF → e.1 ∈ C := fun {e} he => by
      obtain ⟨f, hf, e1⟩ := (d3 e.1).1 ⟨e, he, rfl⟩
      rw [← e1]; exact hSC hf
    have hlC : ∀ {e : Df}, e ∈ l → e.1 ∈ C := fun {e} he => by
      obtain ⟨f, hf, e1⟩ := l1.times e he
      rw [← e1]; exact hFC hf
    refine .inl ⟨rfl, by omega, by omega, fun e he => hC.tk _ (hlC he), fun hh => ?_, ⟨_, l1⟩, fun t ht htn => ?_⟩
    · cases l with
      | nil => rfl
      | cons e l =>
        obtain ⟨u, hu, -⟩ := hC.some e.1 (hlC (by simp))
        rw [hh] at hu
        cases hu
    · have hst : ∀ z, Cg (amt (stL l t) z) (amt (stL hF t) z) := fun z => His.HEq.sel (fun t z => l1.rows t z) (fun u => undr u t) z
      obtain ⟨b, b1, b2, b3⟩ := Stands_eq (N := N) (by omega) (hHO ht htn)
      obtain ⟨a, -, a2, a3⟩ := Rows_eq (N := N) b2 (by omega) (by omega)
      refine ⟨a, a2, by omega, fun z => (hst z).trans ?_⟩
      have hsel : ∀ (g : List Df) (c : List Int), (∀ d ∈ g, undr d.1 t = undr d.1 c) → stL g t = stL g c := fun g c hg => by
        unfold stL
        induction g with
        | nil => rfl
        | cons d g ih => rw [List.flatMap_cons, List.flatMap_cons, ih fun x hx => hg x (by simp [hx]), hg d (by simp)]
      by_cases q : ∃ u ∈ h.map Prod.fst, undr u t = true
      · obtain ⟨c, hc, hct, hall⟩ := hC.best htn q
        obtain ⟨k1, k2⟩ := hC.tk c hc
        have e1 : stL h t = stL h c := hsel h c fun d hd => by
          rw [Bool.eq_iff_iff]
          exact ⟨fun hu => hall _ (List.mem_map.2 ⟨d, hd, rfl⟩) hu, fun hu => undr_trans hu hct⟩
        have e2 : stL hF t = stL hF c := hsel hF c fun d hd => by
          rw [Bool.eq_iff_iff]
          exact ⟨fun hu => hC.gen _ (hFC hd) c k2 fun x hx hxd => hall x hx (undr_trans hxd hu), fun hu => undr_trans hu hct⟩
        have hcS : c ∈ S.map Prod.fst := by rw [g1]; exact hc
        obtain ⟨e, he, rfl⟩ := List.mem_map.1 hcS
        obtain ⟨-, a', a4, a5, a6⟩ := g2 e he
        rw [e1] at a2
        obtain rfl := a2.uniq a4
        rw [e2]
        exact (d4 e he z).trans (a6.amt_cg z)
      · have hnone : ∀ (g : List Df), (∀ d ∈ g, ¬ undr d.1 t = true) → stL g t = [] := fun g hg => by
          unfold stL
          induction g with
          | nil => rfl
          | cons d g ih => rw [List.flatMap_cons, ih fun x hx => hg x (by simp [hx]), if_neg (hg d (by simp))]; rfl
        have e1 : stL h t = [] := hnone h fun d hd hu => q ⟨d.1, List.mem_map.2 ⟨d, hd, rfl⟩, hu⟩
        have e2 : stL hF t = [] := hnone hF fun d hd hu => by
          obtain ⟨x, hx, hxd⟩ := hC.some d.1 (hFC hd)
          exact q ⟨x, hx, undr_trans hxd hu⟩
        rw [e1] at a2
        obtain rfl : a = [] := a2.nil_iff fun z => Cg.rfl
        rw [e2, opF_nil]
        exact Cg.rfl
end Go.Proofs.YtnieamciihdfpaaGreat
