import Derived.Test.YtnieamciihdfpaaHisE
namespace Go.Proofs.Ytnieamciihdfpaa
open Go.Abs Go.Bag Go.His
theorem sortR_congr {α : Type} {D D' : α → α → Option Int} {xs ys : List α} (h : ∀ a ∈ xs, ∀ b ∈ xs, D a b = D' a b) (hs : sortR D' xs = some ys) : sortR D xs = some ys := by
  obtain ⟨h1, h2, h3⟩ := sortR_some hs
  have hl : ∀ a ∈ xs, ∀ b ∈ xs, ltB D a b = ltB D' a b := fun a ha b hb => by unfold ltB; rw [h a ha b hb]
  refine sortR_eq ⟨h1.lt, fun a ha b hb => by rw [h a ha b hb]; exact h1.tot a ha b hb, fun a ha => by rw [hl a ha a ha]; exact h1.irrefl a ha,
    fun a ha b hb c hc p q => by rw [hl a ha c hc]; rw [hl a ha b hb] at p; rw [hl b hb c hc] at q; exact h1.trans a ha b hb c hc p q,
    fun a ha b hb p q => by rw [hl a ha b hb] at p; rw [hl b hb a ha] at q; exact h1.anti a ha b hb p q⟩ ⟨h2, h3.imp_of_mem fun {a b} ha hb p => by rw [hl b (h2.subset hb) a (h2.subset ha)]; exact p⟩
theorem ovr_comm : ∀ a b : List Int, ovr a b = ovr b a
  | [], [] => rfl
  | [], _ :: _ => rfl
  | _ :: _, [] => rfl
  | x :: a, y :: b => by
    have := ovr_comm a b
    unfold ovr at *
    rw [List.zipWith_cons_cons, List.zipWith_cons_cons, this]
    congr 1
    split <;> split <;> omega
theorem ovr_assoc : ∀ a b c : List Int, ovr (ovr a b) c = ovr a (ovr b c)
  | [], _, _ => by simp [ovr]
  | _ :: _, [], _ => by simp [ovr]
  | _ :: _, _ :: _, [] => by simp [ovr]
  | x :: a, y :: b, z :: c => by
    have := ovr_assoc a b c
    unfold ovr at *
    simp only [List.zipWith_cons_cons, this]
    congr 1
    (repeat' split) <;> omega
theorem ovr_self : ∀ a : List Int, ovr a a = a
  | [] => rfl
  | x :: a => by
    have := ovr_self a
    unfold ovr at *
    rw [List.zipWith_cons_cons, this]
    congr 1
    split <;> omega
structure Clo (k : Nat) (ts C : List (List Int)) : Prop where
  sub : ∀ t ∈ ts, t ∈ C
  cl : ∀ a ∈ C, ∀ b ∈ C, ovr a b ∈ C
  some : ∀ u ∈ C, ∃ t ∈ ts, undr t u = true
  gen : ∀ u ∈ C, ∀ c : List Int, c.length = k → (∀ t ∈ ts, undr t u = true → undr t c = true) → undr u c = true
  tk : ∀ u ∈ C, tok u = true ∧ u.length = k
theorem Clo.best {k : Nat} {ts C : List (List Int)} (h : Clo k ts C) {t : List Int} (ht : t.length = k) (hs : ∃ u ∈ ts, undr u t = true) : ∃ c ∈ C, undr c t = true ∧ ∀ u ∈ ts, undr u t = true → undr u c = true := by
  have key : ∀ qs : List (List Int), (∀ q ∈ qs, q ∈ ts) → (∀ q ∈ qs, ¬ undr q t = true) ∨ ∃ c ∈ C, undr c t = true ∧ ∀ u ∈ qs, undr u t = true → undr u c = true := by
    intro qs
    induction qs with
    | nil => intro _; exact .inl fun q hq => by cases hq
    | cons q qs ih =>
      intro hq
      have hqC := h.sub q (hq q (by simp))
      have hqk := (h.tk q hqC).2
      by_cases hqt : undr q t = true
      · refine .inr ?_
        rcases ih fun x hx => hq x (by simp [hx]) with hn | ⟨c, hc, c1, c2⟩
        · refine ⟨q, hqC, hqt, fun u hu hut => ?_⟩
          rcases List.mem_cons.1 hu with rfl | hu
          · exact undr_refl _
          · exact absurd hut (hn u hu)
        · have hck := (h.tk c hc).2
          obtain ⟨l1, l2⟩ := le_ovr (a := q) (b := c) (by omega)
          refine ⟨ovr q c, h.cl q hqC c hc, (undr_ovr (by omega) (by omega)).2 ⟨hqt, c1⟩, fun u hu hut => ?_⟩
          rcases List.mem_cons.1 hu with rfl | hu
          · exact l1
          · exact undr_trans (c2 u hu hut) l2
      · rcases ih fun x hx => hq x (by simp [hx]) with hn | ⟨c, hc, c1, c2⟩
        · refine .inl fun x hx => ?_
          rcases List.mem_cons.1 hx with rfl | hx
          · exact hqt
          · exact hn x hx
        · refine .inr ⟨c, hc, c1, fun u hu hut => ?_⟩
          rcases List.mem_cons.1 hu with rfl | hu
          · exact absurd hut hqt
          · exact c2 u hu hut
  rcases key ts fun q hq => hq with hn | hc
  · obtain ⟨u, hu, hut⟩ := hs
    exact absurd hut (hn u hu)
  · exact hc
theorem Clo.more {k : Nat} {ts C D : List (List Int)} (h : Clo k ts C) {t : List Int} (htk : tok t = true ∧ t.length = k) (hC : ∀ u ∈ C, u ∈ D) (ht : t ∈ D) (hj : ∀ x ∈ D, ovr t x ∈ D) (hn : ∀ u ∈ D, u ∈ C ∨ u = t ∨ ∃ x ∈ C, u = ovr t x) : Clo k (ts ++ [t]) D := by
  have tkD : ∀ u ∈ D, tok u = true ∧ u.length = k := fun u hu => by
    rcases hn u hu with h1 | rfl | ⟨x, hx, rfl⟩
    · exact h.tk u h1
    · exact htk
    · obtain ⟨x1, x2⟩ := h.tk x hx
      exact ⟨tok_ovr (by omega) htk.1 x1, by rw [ovr_len (by omega)]; exact htk.2⟩
  refine ⟨fun u hu => ?_, fun a ha b hb => ?_, fun u hu => ?_, fun u hu c hc hall => ?_, tkD⟩
  · rcases List.mem_append.1 hu with hu | hu
    · exact hC u (h.sub u hu)
    · rw [List.mem_singleton] at hu; rw [hu]; exact ht
  · rcases hn a ha with h1 | rfl | ⟨x, hx, rfl⟩
    · rcases hn b hb with g1 | rfl | ⟨y, hy, rfl⟩
      · exact hC _ (h.cl a h1 b g1)
      · rw [ovr_comm]; exact hj a ha
      · rw [← ovr_assoc, ovr_comm a t, ovr_assoc]
        exact hj _ (hC _ (h.cl a h1 y hy))
    · exact hj b hb
    · rw [ovr_assoc]
      refine hj _ ?_
      rcases hn b hb with g1 | rfl | ⟨y, hy, rfl⟩
      · exact hC _ (h.cl x hx b g1)
      · rw [ovr_comm]; exact hj x (hC x hx)
      · rw [← ovr_assoc, ovr_comm x t, ovr_assoc]
        exact hj _ (hC _ (h.cl x hx y hy))
  · rcases hn u hu with h1 | rfl | ⟨x, hx, rfl⟩
    · obtain ⟨q, hq, hqu⟩ := h.some u h1
      exact ⟨q, by simp [hq], hqu⟩
    · exact ⟨u, by simp, undr_refl _⟩
    · have := (h.tk x hx).2
      exact ⟨t, by simp, (le_ovr (by omega)).1⟩
  · rcases hn u hu with h1 | rfl | ⟨x, hx, rfl⟩
    · exact h.gen u h1 c hc fun q hq hqu => hall q (by simp [hq]) hqu
    · exact hall u (by simp) (undr_refl _)
    · have hxk := (h.tk x hx).2
      obtain ⟨l1, l2⟩ := le_ovr (a := t) (b := x) (by omega)
      exact (undr_ovr (by omega) (by omega)).2 ⟨hall t (by simp) l1, h.gen x hx c hc fun q hq hqu => hall q (by simp [hq]) (undr_trans hqu l2)⟩
abbrev Sn : Type := Int × List (Int × KT × Int)
def Seen (m : Sn) (l : List (List Int)) : Prop := ∀ x : List Int, x.length ≤ 4 → (mpHas kT (.int .i64) m (tkey x) = true ↔ x ∈ l)
theorem Seen.put {m : Sn} {l : List (List Int)} (h : Seen m l) {u : List Int} (hu : u.length ≤ 4) (y : Int) : Seen (mpPut kT (.int .i64) m (tkey u) y) (l ++ [u]) := fun x hx => by
  rw [List.mem_append, List.mem_singleton]
  by_cases q : x = u
  · subst q
    exact ⟨fun _ => .inr rfl, fun _ => mput_has (k := kT) (v := .int .i64) kTn m _ y⟩
  · rw [mput_has_ne (k := kT) (v := .int .i64) kTn m (fun e => q (by rw [← ktime_tkey hx, e, ktime_tkey hu])) y]
    exact (h x hx).trans ⟨.inl, fun h => h.resolve_right q⟩
def CloR (k : Nat) (ts : List (List Int)) (r : Option (Dens Rk_incr_closed)) : Prop := ∃ l ok, r = some (l, ok, ()) ∧ (ok = true → Clo k ts l ∧ l.Nodup ∧ l.length ≤ 64) ∧ (ok = false → l = [])
theorem closed_eq {N : Nat} (hN : 1000 ≤ N) {k : Nat} {ts : List (List Int)} (hl : ts.length ≤ 128) (htk : ∀ t ∈ ts, tok t = true ∧ t.length = k) (hk4 : k ≤ 4) : CloR k ts (D_incr_closed N (ts, ())) := by
  simp only [D_incr_closed, incr_closed_6, joinD, loopE]
  refine loopD_post (fun s => ∃ (i : Nat) (m : Sn) (l : List (List Int)), s = ((i : Int), m, l) ∧ i ≤ ts.length ∧ Seen m l ∧ l.Nodup ∧ l.length ≤ 64 ∧ Clo k (ts.take i) l) (fun s => ts.length - s.1.toNat) (CloR k ts) ?_ N _
    ⟨0, ((0 : Int), []), [], rfl, Nat.zero_le _, fun x _ => ⟨fun h => (by cases h), fun h => (by cases h)⟩, List.nodup_nil, by simp, ⟨fun t h => (by simp at h), fun a h => (by cases h), fun a h => (by cases h), fun a h => (by cases h), fun a h => (by cases h)⟩⟩ (by simp; omega)
  rintro s ⟨i, m, l, rfl, hi, hS, hnd, hlen, hC⟩ kn hkn
  by_cases q : i < ts.length
  case neg =>
    have hie : i = ts.length := by omega
    subst hie
    rw [List.take_length] at hC
    simp only [incr_closed_5, lt_self, cond_false, incr_closed_1]
    obtain ⟨ys, y1, y2⟩ := sortR_ok (lex_ok l (by omega))
    have hso : sortR (fun p q => (D_slices_Compare_Lint_int N (p, q, ())).map (·.1)) l = some ys := sortR_congr (fun a ha b hb => by rw [lexC_eq (tok4 (hC.tk a ha).1) hN]; rfl) y1
    rw [hso, Option.bind_some]
    refine ⟨ys, true, rfl, fun _ => ⟨⟨fun t ht => y2.1.symm.subset (hC.sub t ht), fun a ha b hb => y2.1.symm.subset (hC.cl a (y2.1.subset ha) b (y2.1.subset hb)), fun u hu => hC.some u (y2.1.subset hu), fun u hu => hC.gen u (y2.1.subset hu), fun u hu => hC.tk u (y2.1.subset hu)⟩, y2.1.nodup_iff.2 hnd, by rw [y2.1.length_eq]; exact hlen⟩, fun h => by cases h⟩
  obtain ⟨t, ht⟩ : ∃ t, t = nth [] ts i := ⟨_, rfl⟩
  have htm : t ∈ ts := by rw [ht]; exact nth_mem q
  obtain ⟨ht1, ht2⟩ := htk t htm
  have ht4 := tok4 ht1
  simp only [incr_closed_5, lt_d q, ge0_d, Bool.and_self, cond_true, Int.toNat_natCast, joinD, ← ht, loopE]
  refine loopD_post (fun s => ∃ (j : Nat) (m' : Sn) (l' : List (List Int)), s = ((j : Int) - 1, m', l') ∧ j ≤ l'.length + 1 ∧ Seen m' l' ∧ l'.Nodup ∧ l'.length ≤ 64 ∧ (∀ u ∈ l, u ∈ l') ∧ (∀ u ∈ l', u ∈ l ∨ u = t ∨ ∃ x ∈ l, u = ovr t x) ∧ (1 ≤ j → t ∈ l') ∧ ∀ p, p + 1 < j → ovr t (nth [] l' p) ∈ l') (fun s => 66 - (s.1 + 1).toNat) (CloR k ts) ?_ N _
    ⟨0, m, l, rfl, by omega, hS, hnd, hlen, fun u hu => hu, fun u hu => .inl hu, fun h => by omega, fun p hp => by omega⟩ (by simp; omega)
  rintro s ⟨j, m', l', rfl, hj, hS', hnd', hlen', hsub, hnew, hone, hdone⟩ kn' hkn'
  have htk' : ∀ u ∈ l', tok u = true ∧ u.length = k := fun u hu => by
    rcases hnew u hu with h1 | rfl | ⟨x, hx, rfl⟩
    · exact hC.tk u h1
    · exact ⟨ht1, ht2⟩
    · obtain ⟨x1, x2⟩ := hC.tk x hx
      exact ⟨tok_ovr (by omega) ht1 x1, by rw [ovr_len (by omega)]; exact ht2⟩
  by_cases qj : j ≤ l'.length
  case neg =>
    have hje : j = l'.length + 1 := by omega
    subst hje
    simp only [incr_closed_4]
    rw [d_false (show ¬ ((l'.length + 1 : Nat) : Int) - 1 < (l'.length : Int) by omega), cond_false]
    simp only [incr_closed_2, backE_eq, ix1 q (show ts.length ≤ 4611686018427387904 by omega)]
    refine hkn _ ⟨i + 1, m', l', rfl, by omega, hS', hnd', hlen', ?_⟩ (by simp; omega)
    rw [List.take_succ_eq_append_getElem q, ← nth_lt (z := ([] : List Int)) q, ← ht]
    refine hC.more ⟨ht1, ht2⟩ hsub (hone (by omega)) (fun x hx => ?_) hnew
    obtain ⟨p, hp, rfl⟩ := mem_nth (z := ([] : List Int)) hx
    exact hdone p (by omega)
  have hstep : ∀ u : List Int, tok u = true → u.length = k → (u = t ∨ ∃ x ∈ l', u = ovr t x) → (j = 0 → u = t) → (1 ≤ j → u = ovr t (nth [] l' (j - 1))) →
      CloR k ts ((D_diffs_KeyOf N (u, ())).bind fun _y79 => (bif (mpHas kT (.int .i64) m' (_y79.1.1, (_y79.1.2.1, (_y79.1.2.2.1, (_y79.1.2.2.2.1, _y79.1.2.2.2.2))))) then incr_closed_3 N (backE (t, ts, (ts.length : Int), (i : Int)) kn') t ((j : Int) - 1) ts (ts.length : Int) (i : Int) m' l' else ((D_diffs_KeyOf N (u, ())).bind fun _y80 => ((D_slices_Clone_Lint_int N (u, ())).bind fun _y81 => (bif (decide ((l'.length + ([_y81]).length) * 24 ≤ 140737488355328) && Nat.ble 1 24) then (bif (decide (((l' ++ [_y81]).length : Int) > (64 : Int))) then (some ([], false, ())) else incr_closed_3 N (backE (t, ts, (ts.length : Int), (i : Int)) kn') t ((j : Int) - 1) ts (ts.length : Int) (i : Int) (mpPut kT (.int .i64) m' (_y80.1.1, (_y80.1.2.1, (_y80.1.2.2.1, (_y80.1.2.2.2.1, _y80.1.2.2.2.2)))) (l'.length : Int)) (l' ++ [_y81])) else none))))) := fun u hu1 hu2 hu3 hu4 hu5 => by
    have heta : ∀ x : KT, (x.1, (x.2.1, (x.2.2.1, (x.2.2.2.1, x.2.2.2.2)))) = x := fun _ => rfl
    have hu44 := tok4 hu1
    simp only [heta]
    rw [KeyOf_eq, Option.bind_some]
    simp only
    have hnew' : ∀ v ∈ l' ++ [u], v ∈ l ∨ v = t ∨ ∃ x ∈ l, v = ovr t x := fun v hv => by
      rcases List.mem_append.1 hv with hv | hv
      · exact hnew v hv
      · rw [List.mem_singleton] at hv
        subst hv
        rcases hu3 with rfl | ⟨x, hx, rfl⟩
        · exact .inr (.inl rfl)
        · rcases hnew x hx with h1 | rfl | ⟨y, hy, rfl⟩
          · exact .inr (.inr ⟨x, h1, rfl⟩)
          · exact .inr (.inl (ovr_self _))
          · exact .inr (.inr ⟨y, hy, by rw [← ovr_assoc, ovr_self]⟩)
    have hw : IntKind.i64.wrap ((j : Int) - 1 + 1) = ((j + 1 : Nat) : Int) - 1 := by rw [w64 (by omega) (by omega)]; omega
    cases hq : mpHas kT (.int .i64) m' (tkey u) with
    | true =>
      have hmem : u ∈ l' := (hS' u hu44).1 hq
      rw [cond_true]
      simp only [incr_closed_3, backE_eq, hw]
      refine hkn' _ ⟨j + 1, m', l', rfl, by omega, hS', hnd', hlen', hsub, hnew, fun _ => ?_, fun p hp => ?_⟩ (by simp; omega)
      · by_cases h0 : j = 0
        · rw [← hu4 h0]; exact hmem
        · exact hone (by omega)
      · by_cases hpj : p + 1 < j
        · exact hdone p hpj
        · have : p = j - 1 := by omega
          subst this
          rw [← hu5 (by omega)]; exact hmem
    | false =>
      have hno : u ∉ l' := fun h => by rw [(hS' u hu44).2 h] at hq; cases hq
      rw [cond_false, Option.bind_some, clone_eq (by omega), Option.bind_some, d_true (show (l'.length + ([u] : List (List Int)).length) * 24 ≤ 140737488355328 by simp only [List.length_singleton]; omega), show Nat.ble 1 24 = true from rfl, Bool.and_self, cond_true]
      by_cases h64 : ((l' ++ [u]).length : Int) > 64
      · rw [d_true h64, cond_true]
        exact ⟨[], false, rfl, fun h => (by cases h), fun _ => rfl⟩
      · rw [d_false h64, cond_false]
        simp only [incr_closed_3, backE_eq, hw]
        rw [List.length_append, List.length_singleton] at h64
        have hnth : ∀ p, p < l'.length → nth ([] : List Int) (l' ++ [u]) p = nth [] l' p := fun p hp => by
          rw [nth_lt (by simp; omega), nth_lt hp, List.getElem_append_left hp]
        refine hkn' _ ⟨j + 1, mpPut kT (.int .i64) m' (tkey u) (l'.length : Int), l' ++ [u], rfl, by simp; omega, hS'.put hu44 _, ?_, by simp; omega, fun v hv => List.mem_append_left _ (hsub v hv), hnew', fun _ => ?_, fun p hp => ?_⟩ (by simp; omega)
        · rw [List.nodup_append]
          exact ⟨hnd', List.nodup_cons.2 ⟨by simp, List.nodup_nil⟩, fun a ha b hb e => hno (by rw [List.mem_singleton] at hb; rw [← hb, ← e]; exact ha)⟩
        · by_cases h0 : j = 0
          · rw [← hu4 h0]; simp
          · exact List.mem_append_left _ (hone (by omega))
        · rw [hnth p (by omega)]
          by_cases hpj : p + 1 < j
          · exact List.mem_append_left _ (hdone p hpj)
          · have : p = j - 1 := by omega
            subst this
            rw [← hu5 (by omega)]; simp
  simp only [incr_closed_4]
  rw [d_true (show (j : Int) - 1 < (l'.length : Int) by omega), cond_true]
  by_cases h0 : 1 ≤ j
  · have hjn : ((j : Int) - 1).toNat = j - 1 := by omega
    have hx := nth_mem (z := ([] : List Int)) (xs := l') (i := j - 1) (by omega)
    obtain ⟨x1, x2⟩ := htk' _ hx
    simp only [joinD]
    have g1 : decide ((j : Int) - 1 ≥ 0) = true := d_true (by omega)
    have g2 : decide ((0 : Int) ≤ (j : Int) - 1) = true := d_true (by omega)
    simp only [g1, g2, Bool.and_self, cond_true, hjn]
    rw [Ovr_eq hN (by omega) (by omega), Option.bind_some]
    exact hstep (ovr t (nth [] l' (j - 1))) (tok_ovr (by omega) ht1 x1) (by rw [ovr_len (by omega)]; exact ht2) (.inr ⟨_, hx, rfl⟩) (fun h => by omega) fun _ => rfl
  · simp only [joinD]
    rw [d_false (show ¬ (j : Int) - 1 ≥ 0 by omega), cond_false]
    exact hstep t ht1 ht2 (.inl rfl) (fun _ => rfl) fun h => absurd h h0
theorem hokk_at {h : List Df} (H : HOkk h) {t : List Int} (ht : tok t = true) (h1 : ∀ d ∈ h, d.1.length = t.length) : HOk h t := ⟨H.len, H.rows, ht, fun d hd => H.tok hd, h1⟩
end Go.Proofs.Ytnieamciihdfpaa
