import Derived.Test.YtnieamciihdfpaaGreatLoop
import Derived.Test.YtnieamciihdfpaaGreatHisV
import Derived.Test.YtnieamciihdfpaaGreatLopK
import Derived.Test.YtnieamciihdfpaaGreatFrame0
namespace Go.Proofs.YtnieamciihdfpaaGreat
section
open Go.Abs Go.Bag Go.His
theorem MovesR_eq {N : Nat} (hN : 1000000 ≤ N) {s : List Df} (hs64 : s.length ≤ 1200) (htok : ∀ d ∈ s, tok d.1 = true) (hone : ∀ d ∈ s, ∀ e ∈ s, d.1.length = e.1.length) (hK8 : (s.flatMap Prod.snd).length ≤ 160000) (hn : (s.map Prod.fst).Nodup) :
  ∃ d hF, D_diffs_Moves_h N s = some (s, d) ∧ HyOk (fun t => amt (rowsAt hF t)) d ∧ (∀ t, (∃ e ∈ hF, e.1 = t) ↔ ∃ e ∈ s, e.1 = t) ∧ (∀ e ∈ s, ∀ z, Cg (amt (stL hF e.1) z) (amt e.2 z)) ∧ d.2.length ≤ 1200 ∧ cntH d ≤ (s.flatMap Prod.snd).length * 1200 := by
 have hN1 : 1000 ≤ N := by omega
 obtain ⟨ys, s1, s2, s3⟩ := sort_difs (N := N) hN1 (D := fun p q => (D_diffs_Moves_c1 N (p, q, ())).map (·.1)) (fun p q hp => by rw [mov_cmp hN1 hp]; rfl) (xs := s) (by omega) (fun d hd => tok4 (htok d hd)) hn
 have hy64 : ys.length ≤ 1200 := by rw [s2.length_eq]; exact hs64
 have hmem : ∀ {e : Df}, e ∈ ys ↔ e ∈ s := fun {e} => s2.mem_iff
 let K : List Row := s.flatMap Prod.snd
 have hKl : K.length ≤ 160000 := hK8
 have hKm : ∀ {e : Df}, e ∈ s → ∀ r ∈ e.2, r ∈ K := fun {e} he r hr => List.mem_flatMap.2 ⟨e, he, hr⟩
 have hlex : ∀ j i, j < i → i < ys.length → lexc (nth zd ys j).1 (nth zd ys i).1 < 0 := fun j i hji hi => by
  rw [nth_lt (show j < ys.length by omega), nth_lt hi]
  exact List.pairwise_iff_getElem.1 s3 j i (by omega) hi hji
 have hynd : (ys.map Prod.fst).Nodup := (s2.map Prod.fst).nodup_iff.2 hn
 have htk : ∀ {e : Df}, e ∈ ys → tok e.1 = true := fun {e} he => htok _ (hmem.1 he)
 simp only [D_diffs_Moves_h, diffs_Moves_h_5, cloneD_eq (N := N) (show s.length ≤ 1000000 by omega), Option.bind_some]
 rw [show sortR (fun p q => (D_diffs_Moves_c1 N (p, q, ())).map (·.1)) s = some ys from s1]
 simp only [Option.bind_some, joinD, loopE]
 obtain ⟨st, ⟨out, hF, rfl, I⟩, hs⟩ := loopD_inv (N := N) (g := fun (st : Int × Hy) kn => diffs_Moves_h_4 N (fun s => diffs_Moves_h_1 N s.1 s.2) ys (ys.length : Int) s ys st.1 st.2 (backE (ys, (ys.length : Int), s, ys) kn)) (k := fun st => some (s, st.2)) ys.length
  (fun i st => ∃ out hF, st = ((i : Int), out) ∧ MInv K ys i out hF)
  (fun i st hi hI => by
   obtain ⟨out, hF, rfl, I⟩ := hI
   obtain ⟨e, hee⟩ : ∃ e, e = nth zd ys i := ⟨_, rfl⟩
   have he : e ∈ ys := by rw [hee]; exact nth_mem (z := zd) hi
   have hes := hmem.1 he
   have he4 := tok4 (htk he)
   have hrow : e.2.length ≤ 160000 := Nat.le_trans (row_le hes) hK8
   have htkm : ∀ {p : Df}, p ∈ ys.take i → p ∈ ys ∧ lexc p.1 e.1 < 0 := fun {p} hp => by
    obtain ⟨j, hj, rfl⟩ := mem_nth (z := zd) hp
    have hj' : j < i := by rw [List.length_take] at hj; omega
    have e1 : nth zd (ys.take i) j = nth zd ys j := by
     rw [nth_lt hj, nth_lt (show j < ys.length by omega)]; exact List.getElem_take
    rw [e1, hee]
    exact ⟨nth_mem (by omega), hlex j i hj' hi⟩
   have hne : ∀ {p : Df}, p ∈ ys.take i → p.1 ≠ e.1 := fun {p} hp e1 => by
    have := (htkm hp).2; rw [e1] at this; exact lexc_irrefl _ this
   obtain ⟨o1, a1, a2, a3, a4, a5, a6, a7⟩ := hPour_eq2 (N := N) I.ok (t := e.1) he4 e.2 1 (by omega) (by omega)
   have hlenF : hF.length = i := by
    have := congrArg List.length I.tm
    simp only [List.length_map, List.length_take] at this
    omega
   have hFnd : (hF.map Prod.fst).Nodup := by
    rw [I.tm]
    exact hynd.sublist ((List.take_sublist i ys).map _)
   have hpl : (ys.take i).length = i := by rw [List.length_take]; omega
   have hFt : ∀ j, j < i → (nth zd hF j).1 = (nth zd (ys.take i) j).1 := fun j hj => by
    have h1 : (hF.map Prod.fst)[j]? = ((ys.take i).map Prod.fst)[j]? := by rw [I.tm]
    rw [List.getElem?_map, List.getElem?_map, List.getElem?_eq_getElem (by omega), List.getElem?_eq_getElem (by omega)] at h1
    rw [nth_lt (by omega), nth_lt (by omega)]
    simpa using h1
   obtain ⟨st, ⟨out9, rfl, G9⟩, hs9⟩ := loopD_invk (N := N) (fun (K9 : List Df × Int × Int × List Df × List Df × Hy → Option (List Df × Hy)) (st : Int × Hy) kn => diffs_Moves_h_3 N K9 ys (ys.length : Int) (i : Int) (ys.take i) (i : Int) s ys e.1 e.2 st.1 st.2 (backE (ys, (ys.length : Int), (i : Int), ys.take i, (i : Int), s, ys, e.1, e.2) kn)) (fun K9 st => K9 (ys, (ys.length : Int), (i : Int), s, ys, st.2)) i
     (fun j st => ∃ out', st = ((j : Int), out') ∧ HyOk (fun u z => amt (rowsAt hF u) z + if u = e.1 then amt e.2 z - amt (stL (hF.take j) e.1) z else 0) out' ∧ out'.2.length ≤ i + 1 ∧ (∀ x, mpHas kT vT o1 x = true → mpHas kT vT out' x = true))
     (fun j st hj hJ => by
      obtain ⟨out', rfl, g1, g2, g3⟩ := hJ
      have hp := nth_mem (z := zd) (xs := ys.take i) (i := j) (by omega)
      obtain ⟨p, hpp⟩ : ∃ p, p = nth zd (ys.take i) j := ⟨_, rfl⟩
      rw [← hpp] at hp
      have hpy := (htkm hp).1
      have hp4 := tok4 (htk hpy)
      have hpe : p.1.length = e.1.length := hone _ (hmem.1 hpy) _ hes
      have hu := Under_eq (N := N) hpe hp4 hN1
      have hjF := nth_mem (z := zd) (xs := hF) (i := j) (by omega)
      have hF1 : (nth zd hF j).1 = p.1 := by rw [hpp]; exact hFt j hj
      have hjl : decide ((j : Int) < (i : Int)) = true := lt_d hj
      have hjl2 : decide ((j : Int) < ((ys.take i).length : Int)) = true := lt_d (by omega)
      have htake : hF.take (j + 1) = hF.take j ++ [nth zd hF j] := take_nd (by omega)
      cases q : undr p.1 e.1 with
      | false =>
       refine ⟨_, ⟨out', rfl, ?_, g2, g3⟩, fun K9 kn => ?_⟩
       ·refine g1.cg fun u z => Cg.of_eq ?_
        rw [htake, stL_snoc, hF1, if_neg (show ¬ undr p.1 e.1 = true by rw [q]; simp), List.append_nil]
       ·simp only [diffs_Moves_h_3, hjl, hjl2, ge0_d, Bool.and_self, cond_true, Int.toNat_natCast, ← hpp, hu, q, Option.bind_some, cond_false, backE_eq, ix1 hj (show i ≤ 4611686018427387904 by omega)]
        rfl
      | true =>
       have hhas : mpHas kT vT out' (tkey p.1) = true := g3 _ (a5 _ (I.has p hp))
       have hb := g1.get hp4 hhas
       have hbl : (mpGet kT vT out' (tkey p.1)).2.length ≤ 160000 := by
        refine Nat.le_trans (hb.len_le K fun z hz => ?_) hKl
        rw [if_neg (hne hp), Int.add_zero]
        exact I.sup _ _ hz
       obtain ⟨r1, r2, r3⟩ := rws_eq (N := N) hb (by omega) (by omega)
       obtain ⟨o2, b1, b2, b3, b4, b5, b6, b7⟩ := hPour_eq2 (N := N) g1 (t := e.1) he4 (rws N (mpGet kT vT out' (tkey p.1))) (-1) (by omega) (by omega)
       refine ⟨_, ⟨o2, rfl, ?_, by rw [b7 (g3 _ a6)]; exact g2, fun x hx => b5 _ (g3 _ hx)⟩, fun K9 kn => ?_⟩
       ·refine b2.cg fun u z => ?_
        by_cases hue : u = e.1
        ·rw [if_pos hue, if_pos hue, if_pos hue, htake, stL_snoc, hF1, if_pos q, amt_append]
         have h1 : Cg (amt (rws N (mpGet kT vT out' (tkey p.1))) z) (amt (nth zd hF j).2 z) := by
          refine (r2.amt_cg z).trans ?_
          rw [if_neg (hne hp), Int.add_zero, ← hF1, rowsAt_mem hFnd hjF]
          exact Cg.rfl
         have h2 := (Cg.rfl (a := amt (rowsAt hF u) z + (amt e.2 z - amt (stL (hF.take j) e.1) z))).add ((Cg.rfl (a := -1)).mul h1)
         exact h2.trans (Cg.of_eq (by omega))
        ·rw [if_neg hue, if_neg hue, if_neg hue, Int.add_zero]; exact Cg.rfl
       ·have heta : ∀ x : KT, (x.1, (x.2.1, (x.2.2.1, (x.2.2.2.1, x.2.2.2.2)))) = x := fun _ => rfl
        simp only [diffs_Moves_h_3, hjl, hjl2, ge0_d, Bool.and_self, cond_true, Int.toNat_natCast, ← hpp, hu, q, Option.bind_some, heta]
        rw [KeyOf_eq, Option.bind_some]
        simp only
        rw [show mpHas kT vT out' (tkey p.1) = true from hhas, cond_true]
        have hkid : kidL kT vT out'.2 (ixL kT vT (tkey p.1) out'.2) = mpGet kT vT out' (tkey p.1) := mp_kid (k := kT) (v := vT) hhas
        rw [show roR (q := Q_bags_Rows) (s := .sl (.pair (.int .i64) (.pair (.int .i64) (.int .i64)))) (D_bags_Bag_Rows_h N) (kidL kT vT out'.2 (ixL kT vT (tkey p.1) out'.2)) = some (rws N (mpGet kT vT out' (tkey p.1))) from by
         rw [hkid]; exact roR_of (q := Q_bags_Rows) (s := .sl (.pair (.int .i64) (.pair (.int .i64) (.int .i64)))) r1]
        rw [Option.bind_some, b1, Option.bind_some, backE_eq, ix1 hj (show i ≤ 4611686018427387904 by omega)]
        rfl)
     (fun st hJ K9 kn => by
      obtain ⟨out', rfl, _⟩ := hJ
      have : decide ((i : Int) < (i : Int)) = false := lt_self i
      simp only [diffs_Moves_h_3, this, cond_false])
     (by omega) (s := (0, o1)) ⟨o1, rfl, a2.cg fun u z => Cg.of_eq (by rw [List.take_zero]; show _ = _ + if u = e.1 then amt e.2 z - 0 else 0; split <;> omega), by have := I.len; omega, fun x hx => hx⟩
   rw [List.take_of_length_le (show hF.length ≤ i by omega)] at G9
   let R : List Row := e.2 ++ negR (stL hF e.1)
   have hR : ∀ z, amt R z = amt e.2 z - amt (stL hF e.1) z := fun z => by
    show amt (e.2 ++ negR (stL hF e.1)) z = _
    rw [amt_append, amt_neg]; omega
   have htk1 : ys.take (i + 1) = ys.take i ++ [e] := by rw [hee]; exact take_nd hi
   have hnew : ∀ o9, (HyOk (fun u z => amt (rowsAt hF u) z + if u = e.1 then amt e.2 z - amt (stL hF e.1) z else 0) o9 ∧ o9.2.length ≤ i + 1 ∧ (∀ x, mpHas kT vT o1 x = true → mpHas kT vT o9 x = true)) → MInv K ys (i + 1) o9 (hF ++ [(e.1, R)]) := fun o9 ⟨g1, g2, g3⟩ => by
    refine ⟨?_, ?_, ?_, ?_, g2, ?_⟩
    ·rw [htk1, List.map_append, List.map_append, I.tm]; rfl
    ·refine g1.cg fun u z => Cg.of_eq ?_
     rw [rowsAt_snoc, amt_append]
     by_cases hue : u = e.1
     ·rw [if_pos hue, if_pos hue.symm, hR]
     ·rw [if_neg hue, if_neg fun h => hue h.symm]; rfl
    ·intro x hx z
     rw [htk1] at hx
     rcases List.mem_append.1 hx with hx | hx
     ·obtain ⟨hx1, hx2⟩ := htkm hx
      have hno : ¬ undr e.1 x.1 = true := fun h => by
       have h1 := undr_lex (hone _ hes _ (hmem.1 hx1)) h
       have h2 := lexc_neg x.1 e.1
       omega
      rw [stL_snoc, if_neg hno, List.append_nil]
      exact I.st x hx z
     ·rw [List.mem_singleton] at hx
      subst hx
      rw [stL_snoc, if_pos (undr_refl _), amt_append]
      exact Cg.of_eq (by rw [hR]; omega)
    ·intro t z hz
     rw [rowsAt_snoc, amt_append]
     refine ((I.sup t z hz).add (?_ : Cg _ 0)).trans (Cg.of_eq (by omega))
     split
     ·rw [hR, amt_notin fun r hr => hz r (hKm hes r hr)]
      have : Cg (amt (stL hF e.1) z) 0 := sel_none hF (fun u => undr u e.1) z fun t => I.sup t z hz
      exact (Cg.of_eq (by omega)).trans ((Cg.rfl (a := -1)).mul this)
     ·exact Cg.rfl
    ·intro x hx
     rw [htk1] at hx
     rcases List.mem_append.1 hx with hx | hx
     ·exact g3 _ (a5 _ (I.has x hx))
     ·rw [List.mem_singleton] at hx
      subst hx
      exact g3 _ a6
   refine ⟨_, ⟨out9, _, rfl, hnew out9 G9⟩, fun kn => ?_⟩
   have hsl : ((ys.take (i : Int).toNat).drop (0 : Int).toNat) = ys.take i := by simp
   simp only [Int.toNat_natCast] at hsl
   simp only [diffs_Moves_h_4, lt_d hi, ge0_d, Bool.and_self, cond_true, Int.toNat_natCast, joinD, ← hee, a1, Option.bind_some, show decide ((0 : Int) ≤ 0) = true from rfl, d_true (show (i : Int) ≤ (ys.length : Int) by omega), hsl, hpl, loopE]
   refine (hs9 _).trans ?_
   simp only [diffs_Moves_h_2, backE_eq, ix1 hi (show ys.length ≤ 4611686018427387904 by omega)]
   rfl)
  (fun st hI kn => by
   obtain ⟨out, hF, rfl, _⟩ := hI
   simp only [diffs_Moves_h_4, lt_self, cond_false, diffs_Moves_h_1])
  (by omega) (s := (0, ((0 : Int), []))) ⟨_, [], rfl, rfl, HyOk.empty.cg fun t z => Cg.rfl, fun e he => by simp at he, fun t z _ => Cg.rfl, Nat.le_refl _, fun e he => by simp at he⟩
 have htm := I.tm
 rw [List.take_length] at htm
 have hiff : ∀ t, (∃ e ∈ hF, e.1 = t) ↔ ∃ e ∈ s, e.1 = t := fun t => by
  have h1 : t ∈ hF.map Prod.fst ↔ t ∈ ys.map Prod.fst := by rw [htm]
  rw [List.mem_map, List.mem_map] at h1
  refine h1.trans ⟨fun ⟨e, he, h⟩ => ⟨e, hmem.1 he, h⟩, fun ⟨e, he, h⟩ => ⟨e, hmem.2 he, h⟩⟩
 have hlen := I.len
 refine ⟨out, hF, hs, I.ok, hiff, fun e he z => I.st e (by rw [List.take_length]; exact hmem.2 he) z, by omega, ?_⟩
 have hall : ∀ e ∈ out.2, (fun b : Bg => b.2.length) e.2.2 ≤ K.length := fun e he => (I.ok.bag e he).len_le K fun z hz => I.sup _ _ hz
 exact Nat.le_trans (sumE_le (k := kT) (v := vT) (fun b : Bg => b.2.length) K.length hall) (Nat.mul_le_mul_left _ (by omega))
theorem loopD_Q {R S : Type} {g : S → (S → Option R) → Option R} (Q : Option R → Prop) (n : Nat) (I : Nat → S → Prop) (h2 : ∀ i s, i < n → I i s → ∀ kn, (∀ s', I (i + 1) s' → Q (kn s')) → Q (g s kn))
  (h3 : ∀ s, I n s → ∀ kn, Q (g s kn)) {N : Nat} (hN : n < N) {s : S} (h0 : I 0 s) : Q (loopD g N s) := by
 have key : ∀ j i s M, i + j = n → I i s → j < M → Q (loopD g M s) := by
  intro j
  induction j with
  | zero =>
   rintro i s (_ | M) hi hI hM
   ·omega
   ·rw [loopD_s]; exact h3 s (by rw [← hi]; exact hI) _
  | succ j ih =>
   rintro i s (_ | M) hi hI hM
   ·omega
   ·rw [loopD_s]
    exact h2 i s (by omega) hI _ fun s' hs' => ih (i + 1) s' M (by omega) hs' (by omega)
 exact key n 0 s N (by omega) h0 hN
theorem sortR_congr {α : Type} {D D' : α → α → Option Int} {xs ys : List α} (h : ∀ a ∈ xs, ∀ b ∈ xs, D a b = D' a b) (hs : sortR D' xs = some ys) : sortR D xs = some ys := by
 obtain ⟨h1, h2, h3⟩ := sortR_some hs
 have hl : ∀ a ∈ xs, ∀ b ∈ xs, ltB D a b = ltB D' a b := fun a ha b hb => by unfold ltB; rw [h a ha b hb]
 refine sortR_eq ⟨h1.lt, fun a ha b hb => by rw [h a ha b hb]; exact h1.tot a ha b hb, fun a ha => by rw [hl a ha a ha]; exact h1.irrefl a ha,
  fun a ha b hb c hc p q => by rw [hl a ha c hc]; rw [hl a ha b hb] at p; rw [hl b hb c hc] at q; exact h1.trans a ha b hb c hc p q,
  fun a ha b hb p q => by rw [hl a ha b hb] at p; rw [hl b hb a ha] at q; exact h1.anti a ha b hb p q⟩ ⟨h2, h3.imp_of_mem fun {a b} ha hb p => by rw [hl b (h2.subset hb) a (h2.subset ha)]; exact p⟩
noncomputable def cpt (xs : List (List Int)) : Nat → List (List Int)
 | 0 => []
 | n + 1 => if 0 < n ∧ nth ([] : List Int) xs n = nth ([] : List Int) xs (n - 1) then cpt xs n else cpt xs n ++ [nth ([] : List Int) xs n]
theorem cpt_len (xs : List (List Int)) : ∀ n, (cpt xs n).length ≤ n
 | 0 => Nat.le_refl _
 | n + 1 => by
  have := cpt_len xs n
  rw [cpt]
  split
  ·omega
  ·rw [List.length_append, List.length_singleton]; omega
theorem cpt_mem {xs : List (List Int)} : ∀ n, ∀ x, x ∈ cpt xs n ↔ ∃ i, i < n ∧ nth ([] : List Int) xs i = x
 | 0, x => ⟨fun h => (by cases h), fun ⟨i, h, _⟩ => (by omega)⟩
 | n + 1, x => by
  rw [cpt]
  split
  ·rename_i q
   rw [cpt_mem n x]
   refine ⟨fun ⟨i, h1, h2⟩ => ⟨i, by omega, h2⟩, fun ⟨i, h1, h2⟩ => ?_⟩
   by_cases e : i = n
   ·subst e; exact ⟨i - 1, by omega, by rw [← q.2]; exact h2⟩
   ·exact ⟨i, by omega, h2⟩
  ·rw [List.mem_append, List.mem_singleton, cpt_mem n x]
   refine ⟨fun h => ?_, fun ⟨i, h1, h2⟩ => ?_⟩
   ·rcases h with ⟨i, h1, h2⟩ | h
    ·exact ⟨i, by omega, h2⟩
    ·exact ⟨n, by omega, h.symm⟩
   ·by_cases e : i = n
    ·subst e; exact Or.inr h2.symm
    ·exact Or.inl ⟨i, by omega, h2⟩
theorem cpt_rise {xs : List (List Int)} (hs : xs.Pairwise fun a b => ¬ lexc b a < 0) : ∀ n, n ≤ xs.length → (cpt xs n).Pairwise fun a b => lexc a b < 0
 | 0, _ => List.Pairwise.nil
 | n + 1, hn => by
  have hr := cpt_rise hs n (by omega)
  rw [cpt]
  split
  ·exact hr
  ·rename_i q
   refine List.pairwise_append.2 ⟨hr, by simp, fun a ha b hb => ?_⟩
   rw [List.mem_singleton] at hb
   subst hb
   obtain ⟨i, hi, rfl⟩ := (cpt_mem n a).1 ha
   have hle : ∀ i j, i < j → j < xs.length → lexc (nth ([] : List Int) xs i) (nth ([] : List Int) xs j) ≤ 0 := fun i j hij hj => by
    have := List.pairwise_iff_getElem.1 hs i j (by omega) hj hij
    rw [nth_lt (by omega), nth_lt hj]
    have h2 := lexc_neg xs[j] xs[i]
    omega
   have h1 := hle i n hi (by omega)
   show lexc (nth ([] : List Int) xs i) (nth ([] : List Int) xs n) < 0
   rcases Int.lt_or_eq_of_le h1 with h | h
   ·exact h
   ·exfalso
    have e : nth ([] : List Int) xs i = nth ([] : List Int) xs n := lexc_eq h
    apply q
    refine ⟨by omega, ?_⟩
    by_cases e2 : i = n - 1
    ·rw [← e2]; exact e.symm
    ·have h2 := hle i (n - 1) (by omega) (by omega)
     have h3 := hle (n - 1) n (by omega) (by omega)
     rw [e] at h2
     have h4 := lexc_neg (nth ([] : List Int) xs (n - 1)) (nth ([] : List Int) xs n)
     exact lexc_eq (by omega)
theorem Eq_eq {N : Nat} (hN : 1000 ≤ N) {s : List Int} (h : s.length ≤ 4) (r : List Int) : ∃ b, D_slices_Equal_Lint_int N (s, r, ()) = some (b, ()) ∧ (b = true ↔ s = r) := by
 simp only [D_slices_Equal_Lint_int, slices_Equal_Lint_int_3]
 by_cases hl : s.length = r.length
 case neg => exact ⟨false, by rw [bne_iff_ne.2 (fun e => hl (by omega)), cond_true], by simp; exact fun e => hl (by rw [e])⟩
 rw [show ((s.length : Int) != (r.length : Int)) = false by rw [hl]; exact bne_self_eq_false _, cond_false]
 simp only [joinD, loopE]
 have body : ∀ (K : Unit → Option Rt_slices_Equal_Lint_int) (i : Nat), i < s.length → ∀ kn, slices_Equal_Lint_int_2 N K s r (s.length : Int) (i : Int) (backE (s, r, (s.length : Int)) kn) = if nth (0 : Int) s i = nth (0 : Int) r i then kn ((i : Int) + 1) else some (false, ()) := fun K i hi kn => by
  simp only [slices_Equal_Lint_int_2, lt_d hi, lt_d (show i < r.length by omega), ge0_d, Int.toNat_natCast, Bool.and_self, cond_true, backE_eq, ix1 hi (show s.length ≤ 4611686018427387904 by omega)]
  by_cases q : nth (0 : Int) s i = nth (0 : Int) r i
  ·rw [if_pos q, q, bne_self_eq_false, cond_false]
  ·rw [if_neg q, bne_iff_ne.2 q, cond_true]
 by_cases hall : ∀ i, i < s.length → nth (0 : Int) s i = nth (0 : Int) r i
 ·refine ⟨true, loopD_pass (n := s.length) (by omega) (fun i hi kn => by rw [body _ i hi, if_pos (hall i hi)]) (fun kn => ?_) (by omega), ?_⟩
  ·simp only [slices_Equal_Lint_int_2, lt_self, cond_false, slices_Equal_Lint_int_1]
  ·simp only [true_iff]
   exact List.ext_getElem hl fun i h1 h2 => by
    rw [← nth_lt (z := (0 : Int)) h1, ← nth_lt (z := (0 : Int)) h2]; exact hall i h1
 ·obtain ⟨i0, hi0⟩ := Classical.not_forall.1 hall
  obtain ⟨i1, ⟨a1, a2⟩, a3⟩ := least (p := fun i => i < s.length ∧ ¬ nth (0 : Int) s i = nth (0 : Int) r i) ⟨i0, by
   exact ⟨Classical.byContradiction fun h => hi0 fun h' => absurd h' h, fun h => hi0 fun _ => h⟩⟩
  refine ⟨false, loopD_path i1 (fun i => (i : Int)) (fun i hi kn => ?_) (fun kn => ?_) (by omega), ?_⟩
  ·rw [body _ i (by omega), if_pos (Classical.byContradiction fun h => by have := a3 i ⟨by omega, h⟩; omega)]; rfl
  ·rw [body _ i1 a1, if_neg a2]
  ·simp only [Bool.false_eq_true, false_iff]
   exact fun e => a2 (by rw [e])
theorem Compact_eq {N : Nat} (hN : 1000 ≤ N) {xs : List (List Int)} (hl : xs.length ≤ 128) (h4 : ∀ s ∈ xs, s.length ≤ 4) : ∃ ys, D_slices_CompactFunc_LLint_Lint_h N xs = some (cpt xs xs.length, ys) := by
 have hx4 : ∀ i, i < xs.length → (nth ([] : List Int) xs i).length ≤ 4 := fun i hi => h4 _ (nth_mem hi)
 simp only [D_slices_CompactFunc_LLint_Lint_h, slices_CompactFunc_LLint_Lint_h_6]
 have hall : ∀ n, n ≤ xs.length → (∀ i, 0 < i → i < n → nth ([] : List Int) xs i ≠ nth ([] : List Int) xs (i - 1)) → cpt xs n = xs.take n := by
  intro n
  induction n with
  | zero => intro _ _; rfl
  | succ n ih =>
   intro hn hne
   rw [cpt, if_neg (fun q => hne n q.1 (by omega) q.2), ih (by omega) fun i h0 hi => hne i h0 (by omega), List.take_succ_eq_append_getElem (by omega), nth_lt (by omega)]
 by_cases h2 : xs.length < 2
 ·rw [d_true (by omega), cond_true, hall _ (Nat.le_refl _) fun i h0 hi => by omega, List.take_length]
  exact ⟨_, rfl⟩
 rw [d_false (by omega), cond_false]
 simp only [joinD, loopE]
 refine loopD_Q (fun r => ∃ ys, r = some (cpt xs xs.length, ys)) xs.length (fun t s => s = ((t + 1 : Nat) : Int) ∧ t + 1 ≤ xs.length ∧ ∀ i, 0 < i → i < t + 1 → nth ([] : List Int) xs i ≠ nth ([] : List Int) xs (i - 1)) ?_ ?_ (by omega) ⟨rfl, by omega, fun i _ _ => by omega⟩
 ·rintro t s ht ⟨rfl, hts, hne⟩ kn hk
  simp only [slices_CompactFunc_LLint_Lint_h_5]
  by_cases hlt : t + 1 < xs.length
  case neg =>
   rw [d_false (show ¬ ((t + 1 : Nat) : Int) < (xs.length : Int) by omega), cond_false, slices_CompactFunc_LLint_Lint_h_1]
   have : t + 1 = xs.length := by omega
   rw [hall _ (Nat.le_refl _) fun i h0 hi => hne i h0 (by omega), List.take_length]
   exact ⟨_, rfl⟩
  have e1 : IntKind.i64.wrap (((t + 1 : Nat) : Int) - 1) = ((t : Nat) : Int) := by rw [w64 (by omega) (by omega)]; omega
  have e2 : IntKind.i64.wrap (((t + 1 : Nat) : Int) + 1) = ((t + 1 + 1 : Nat) : Int) := by rw [w64 (by omega) (by omega)]; omega
  obtain ⟨b, hb, hb2⟩ := Eq_eq hN (hx4 (t + 1) hlt) (nth ([] : List Int) xs t)
  simp only [lt_d hlt, cond_true, joinD, e1, ge0_d, lt_d (show t < xs.length by omega), Bool.and_self, Int.toNat_natCast, hb, Option.bind_some]
  cases b with
  | false =>
   simp only [cond_false, slices_CompactFunc_LLint_Lint_h_2, e2, backE_eq]
   exact hk _ ⟨rfl, by omega, fun i h0 hi => by
    by_cases e : i = t + 1
    ·subst e
     intro q
     exact absurd (hb2.2 q) (by simp)
    ·exact hne i h0 (by omega)⟩
  | true =>
   have heq := hb2.1 rfl
   rw [cond_true, d_true (show ((t + 1 : Nat) : Int) ≤ (xs.length : Int) by omega), Bool.and_self, cond_true]
   simp only [loopE]
   obtain ⟨s, ⟨k, row, rfl, hk1, hrl, hpre, -⟩, hs⟩ := loopD_inv (N := N) (g := fun (s : Int × Int × List (List Int)) kn => slices_CompactFunc_LLint_Lint_h_4 N (fun s => slices_CompactFunc_LLint_Lint_h_3 N s.1 s.2) (t + 1) s.1 s.2.1 s.2.2 (backE (t + 1) kn)) (k := fun s => slices_CompactFunc_LLint_Lint_h_3 N s.1 s.2.2) (xs.length - (t + 1) - 1)
    (fun u s => ∃ (k : Nat) (row : List (List Int)), s = ((k : Int), ((u + 1 : Nat) : Int), row) ∧ k ≤ t + 1 + u ∧ row.length = xs.length ∧ row.take k = cpt xs (t + 1 + (u + 1)) ∧ ∀ i, t + 1 + u ≤ i → i < xs.length → nth ([] : List Int) row i = nth ([] : List Int) xs i)
    (fun u s hu h => by
     obtain ⟨k, row, rfl, h1, h2, h3, h5⟩ := h
     have f1 : IntKind.i64.wrap (((u + 1 : Nat) : Int) - 1) = ((u : Nat) : Int) := by rw [w64 (by omega) (by omega)]; omega
     have f2 : IntKind.i64.wrap (((u + 1 : Nat) : Int) + 1) = ((u + 1 + 1 : Nat) : Int) := by rw [w64 (by omega) (by omega)]; omega
     have g1 := h5 (t + 1 + (u + 1)) (by omega) (by omega)
     have g2 := h5 (t + 1 + u) (by omega) (by omega)
     obtain ⟨b, hb, hb2⟩ := Eq_eq hN (hx4 (t + 1 + (u + 1)) (by omega)) (nth ([] : List Int) xs (t + 1 + u))
     have hc : cpt xs (t + 1 + (u + 1 + 1)) = if nth ([] : List Int) xs (t + 1 + (u + 1)) = nth ([] : List Int) xs (t + 1 + u) then cpt xs (t + 1 + (u + 1)) else cpt xs (t + 1 + (u + 1)) ++ [nth ([] : List Int) xs (t + 1 + (u + 1))] := by
      show cpt xs (t + 1 + (u + 1) + 1) = _
      rw [cpt]
      by_cases q : nth ([] : List Int) xs (t + 1 + (u + 1)) = nth ([] : List Int) xs (t + 1 + u)
      ·rw [if_pos q, if_pos ⟨by omega, q⟩]
      ·rw [if_neg q, if_neg fun h => q h.2]
     have hrun : ∀ kn : Int × Int × List (List Int) → Option Rt_slices_CompactFunc_LLint_Lint_h, slices_CompactFunc_LLint_Lint_h_4 N (fun s => slices_CompactFunc_LLint_Lint_h_3 N s.1 s.2) (t + 1) (k : Int) ((u + 1 : Nat) : Int) row (backE (t + 1) kn) = bif !b then kn (((k + 1 : Nat) : Int), ((u + 1 + 1 : Nat) : Int), row.set k (nth ([] : List Int) xs (t + 1 + (u + 1)))) else kn ((k : Int), ((u + 1 + 1 : Nat) : Int), row) := fun kn => by
      simp only [slices_CompactFunc_LLint_Lint_h_4, f1, f2, ge0_d, Int.toNat_natCast, lt_d (show u + 1 < row.length - (t + 1) by omega), lt_d (show u < row.length - (t + 1) by omega), lt_d (show k < row.length by omega), Bool.and_self, cond_true, g1, g2, hb, Option.bind_some, backE_eq, ix1 (show k < 128 by omega) (by omega)]
      rfl
     cases b with
     | true =>
      refine ⟨_, ⟨k, row, rfl, by omega, h2, ?_, fun i hi hil => h5 i (by omega) hil⟩, fun kn => (hrun kn).trans rfl⟩
      rw [hc, if_pos (hb2.1 rfl), h3]
     | false =>
      have hne' : ¬ nth ([] : List Int) xs (t + 1 + (u + 1)) = nth ([] : List Int) xs (t + 1 + u) := fun q => by have := hb2.2 q; cases this
      refine ⟨_, ⟨k + 1, row.set k (nth ([] : List Int) xs (t + 1 + (u + 1))), rfl, by omega, by simpa using h2, ?_, fun i hi hil => ?_⟩, fun kn => (hrun kn).trans rfl⟩
      ·rw [hc, if_neg hne', ← h3, List.take_succ_eq_append_getElem (by simp; omega), List.getElem_set_self, List.take_set_of_le (Nat.le_refl _)]
      ·rw [nth_set (by omega), if_neg (by omega)]
       exact h5 i (by omega) hil)
    (fun s h kn => by
     obtain ⟨k, row, rfl, h1, h2, h3, h5⟩ := h
     simp only [slices_CompactFunc_LLint_Lint_h_4]
     rw [d_false (show ¬ ((xs.length - (t + 1) - 1 + 1 : Nat) : Int) < ((row.length - (t + 1) : Nat) : Int) by omega), cond_false])
    (by omega) (s := (((t + 1 : Nat) : Int), 1, xs)) ⟨t + 1, xs, rfl, by omega, rfl, by
     show xs.take (t + 1) = cpt xs (t + 1 + 1)
     rw [cpt, if_pos ⟨by omega, heq⟩, hall (t + 1) (by omega) hne], fun i _ _ => rfl⟩
   rw [hs]
   simp only [slices_CompactFunc_LLint_Lint_h_3]
   have hkl : k ≤ xs.length := by omega
   have hlen : (row.take k ++ List.replicate (row.length - k) ([] : List Int)).length = xs.length := by simp; omega
   rw [show ((k : Int)).toNat = k from rfl, d_true (show (0 : Int) ≤ (k : Int) by omega), d_true (show (k : Int) ≤ (row.length : Int) by omega), Bool.and_self, cond_true, d_true (show (k : Int) ≤ ((row.take k ++ List.replicate (row.length - k) ([] : List Int)).length : Int) by rw [show (row.take k ++ List.replicate (row.length - k) ([] : List Int)).length = xs.length from hlen]; omega)]
   refine ⟨row.take k ++ List.replicate (row.length - k) ([] : List Int), ?_⟩
   have hkey : ((row.take k ++ List.replicate (row.length - k) ([] : List Int)).take k).drop ((0 : Int)).toNat = cpt xs xs.length := by
    rw [show ((0 : Int)).toNat = 0 from rfl, List.drop_zero, List.take_append_of_le_length (by simp; omega), List.take_of_length_le (by rw [List.length_take]; exact Nat.min_le_left _ _), hpre]
    congr 1
    omega
   simp only [show decide ((0 : Int) ≤ 0) = true from rfl, Bool.and_self, cond_true]
   exact congrArg (fun z => some (z, row.take k ++ List.replicate (row.length - k) ([] : List Int))) hkey
 ·rintro s ⟨rfl, hts, hne⟩ kn
  omega
theorem single_eq {N : Nat} {xs : List Df} (hl : xs.length < N) (hl2 : xs.length ≤ 4611686018427387903) : D_loop_single N (xs, ()) = some (decide (∀ d ∈ xs, d.1.length = 1), ()) := by
 have hix : ∃ i : Int, D_slices_IndexFunc_Lapi_Diff_api_Diff_loop_single_c1 N (xs, (), ()) = some (i, ()) ∧ (0 ≤ i ↔ ∃ d ∈ xs, d.1.length ≠ 1) := by
  simp only [D_slices_IndexFunc_Lapi_Diff_api_Diff_loop_single_c1, slices_IndexFunc_Lapi_Diff_api_Diff_loop_single_c1_3, joinD, loopE]
  have hb : ∀ (K : Unit → _) (i : Nat), i < xs.length → ∀ kn, slices_IndexFunc_Lapi_Diff_api_Diff_loop_single_c1_2 N K xs (xs.length : Int) (i : Int) (backE (xs, (xs.length : Int)) kn) = if (nth zd xs i).1.length ≠ 1 then some ((i : Int), ()) else kn ((i : Int) + 1) := fun K i hi kn => by
   simp only [slices_IndexFunc_Lapi_Diff_api_Diff_loop_single_c1_2, lt_d hi, ge0_d, Int.toNat_natCast, Bool.and_self, cond_true, D_loop_single_c1, loop_single_c1_1, Option.bind_some, ix1 hi (by omega), backE_eq]
   by_cases q : (nth zd xs i).1.length = 1
   ·rw [if_neg (fun h => h q)]
    refine (congrArg (fun b => cond b _ _) (show (((nth zd xs i).1.length : Int) != 1) = false by rw [q]; rfl)).trans rfl
   ·rw [if_pos q]
    refine (congrArg (fun b => cond b _ _) (show (((nth zd xs i).1.length : Int) != 1) = true from bne_iff_ne.2 fun e => q (by omega))).trans rfl
  by_cases hex : ∃ i, i < xs.length ∧ (nth zd xs i).1.length ≠ 1
  ·obtain ⟨i0, ⟨a1, a2⟩, a3⟩ := least hex
   refine ⟨i0, loopD_path i0 (fun i => (i : Int)) (fun i hi kn => ?_) (fun kn => ?_) (by omega), ⟨fun _ => ⟨_, nth_mem a1, a2⟩, fun _ => by omega⟩⟩
   ·rw [hb _ i (by omega), if_neg (fun h => by have := a3 i ⟨by omega, h⟩; omega)]; rfl
   ·rw [hb _ i0 a1, if_pos a2]
  ·refine ⟨-1, loopD_pass (n := xs.length) (by omega) (fun i hi kn => ?_) (fun kn => ?_) (by omega), ⟨fun h => by omega, fun ⟨l, hl, h⟩ => ?_⟩⟩
   ·rw [hb _ i hi, if_neg (fun h => hex ⟨i, hi, h⟩)]
   ·simp only [slices_IndexFunc_Lapi_Diff_api_Diff_loop_single_c1_2, lt_self, cond_false, slices_IndexFunc_Lapi_Diff_api_Diff_loop_single_c1_1]
   ·obtain ⟨i, hi, rfl⟩ := mem_nth (z := zd) hl
    exact absurd ⟨i, hi, h⟩ hex
 obtain ⟨i, h1, h2⟩ := hix
 simp only [D_loop_single, loop_single_1, D_slices_ContainsFunc_Lapi_Diff_api_Diff_loop_single_c1, slices_ContainsFunc_Lapi_Diff_api_Diff_loop_single_c1_1, h1, Option.bind_some]
 refine congrArg (fun x => some (x, ())) (bool_eq ?_)
 rw [Bool.not_eq_true', decide_eq_false_iff_not, decide_eq_true_eq]
 constructor
 ·intro h d hd
  exact Classical.byContradiction fun q => h (h2.2 ⟨d, hd, q⟩)
 ·intro h q
  obtain ⟨d, hd, e⟩ := h2.1 q
  exact e (h d hd)
noncomputable def rnd (E X : List Row) (t0 : Int) (m : Nat) : List Df := (List.range m).map fun (i : Nat) => ([t0, (i : Int)], itr E X i)
theorem rnd_s (E X : List Row) (t0 : Int) (m : Nat) : rnd E X t0 (m + 1) = rnd E X t0 m ++ [([t0, (m : Int)], itr E X m)] := by
 unfold rnd; rw [List.range_succ, List.map_append]; rfl
theorem rnd_len (E X : List Row) (t0 : Int) (m : Nat) : (rnd E X t0 m).length = m := by unfold rnd; rw [List.length_map, List.length_range]
theorem round_in {N : Nat} (hN : 100000 ≤ N) {E X : List Row} (hE : S1 E) (hX : S1 X) (h1 : E.length ≤ 128) (h g : List Df) (n : Nat) (hn : n ≤ 8) (t : List Int) (ht : 0 < t.length) (ts : List (List Int)) (ti : Nat) (S : List Df) (hS : S.length ≤ 2000) :
  (∀ K, loopE (fun (c : (List Df) × (List Df) × Int × List Int × List (List Int) × Int × Int) (s : Int × (List Df) × Bg × Bg) kn => loop_Rounds_3 N K c.1 c.2.1 c.2.2.1 c.2.2.2.1 c.2.2.2.2.1 c.2.2.2.2.2.1 c.2.2.2.2.2.2 s.1 s.2.1 s.2.2.1 s.2.2.2 kn) N (h, g, (n : Int), t, ts, (ts.length : Int), (ti : Int)) ((0 : Int), S, cb E, cb X) = some ([], (1 : Int), ())) ∨
  ((∀ i, i ≤ n → (itr E X i).length ≤ 128) ∧ ∀ K, loopE (fun (c : (List Df) × (List Df) × Int × List Int × List (List Int) × Int × Int) (s : Int × (List Df) × Bg × Bg) kn => loop_Rounds_3 N K c.1 c.2.1 c.2.2.1 c.2.2.2.1 c.2.2.2.2.1 c.2.2.2.2.2.1 c.2.2.2.2.2.2 s.1 s.2.1 s.2.2.1 s.2.2.2 kn) N (h, g, (n : Int), t, ts, (ts.length : Int), (ti : Int)) ((0 : Int), S, cb E, cb X) = K (h, g, (n : Int), ts, (ts.length : Int), (ti : Int), S ++ rnd E X (nth 0 t 0) (n + 1))) := by
 have body : ∀ (K : _ → Option Rt_loop_Rounds) (i : Nat), i ≤ n → (itr E X i).length ≤ 128 → ∀ kn, loop_Rounds_3 N K h g (n : Int) t ts (ts.length : Int) (ti : Int) (i : Int) (S ++ rnd E X (nth 0 t 0) i) (cb E) (cb (itr E X i)) (backE (h, g, (n : Int), t, ts, (ts.length : Int), (ti : Int)) kn) = kn (((i + 1 : Nat) : Int), S ++ rnd E X (nth 0 t 0) (i + 1), cb E, cb (itr E X (i + 1))) := fun K i hi hl kn => by
  have sI := itr_s (E := E) hX i
  have e1 : D_bags_Bag_Rows_h3 N (cb (itr E X i)) = some (itr E X i, cb (itr E X i)) := rows_h2 sI.1 (by omega) (by omega)
  have e2 : D_loop_step_h3 N (cb E, cb (itr E X i)) = some (cb E, cb (itr E X i), cb (itr E X (i + 1))) := step_nxt hE sI h1 hl (by omega)
  have e3 : decide (((S ++ rnd E X (nth 0 t 0) i).length + ([([nth (0 : Int) t (0 : Int).toNat, (i : Int)], itr E X i)] : List Df).length) * 48 ≤ 140737488355328) = true := d_true (by rw [List.length_append, rnd_len, List.length_singleton]; omega)
  simp only [loop_Rounds_3]
  rw [d_true (show (i : Int) ≤ (n : Int) by omega), cond_true, cb_len, d_false (show ¬ ((itr E X i).length : Int) > 128 by omega), cond_false, show decide ((0 : Int) ≤ 0) = true from rfl, d_true (show (0 : Int) < (t.length : Int) by omega), Bool.and_self, cond_true, e1, Option.bind_some, e3, show Nat.ble 1 48 = true from rfl, Bool.and_self, cond_true, e2, Option.bind_some, backE_eq, rnd_s, ix1 (show i < 9 by omega) (by omega), List.append_assoc]
  rfl
 by_cases hex : ∃ i, i ≤ n ∧ 128 < (itr E X i).length
 ·obtain ⟨i0, ⟨a1, a2⟩, a3⟩ := least hex
  refine .inl fun K => ?_
  unfold loopE
  refine loopD_path (N := N) i0 (fun i => ((i : Int), S ++ rnd E X (nth 0 t 0) i, cb E, cb (itr E X i))) (fun i hi kn => body K i (by omega) (Nat.le_of_not_lt fun q => by have := a3 i ⟨by omega, q⟩; omega) kn) (fun kn => ?_) (by omega) |> fun e => by simpa [rnd, itr] using e
  simp only [loop_Rounds_3]
  rw [d_true (show (i0 : Int) ≤ (n : Int) by omega), cond_true, cb_len, d_true (show ((itr E X i0).length : Int) > 128 by omega), cond_true]
 ·have hle : ∀ i, i ≤ n → (itr E X i).length ≤ 128 := fun i hi => Nat.le_of_not_lt fun q => hex ⟨i, hi, q⟩
  refine .inr ⟨hle, fun K => ?_⟩
  unfold loopE
  refine loopD_path (N := N) (n + 1) (fun i => ((i : Int), S ++ rnd E X (nth 0 t 0) i, cb E, cb (itr E X i))) (fun i hi kn => body K i (by omega) (hle i (by omega)) kn) (fun kn => ?_) (by omega) |> fun e => by simpa [rnd, itr] using e
  simp only [loop_Rounds_3]
  rw [d_false (show ¬ ((n + 1 : Nat) : Int) ≤ (n : Int) by omega), cond_false]
  rfl
theorem there_ok {N : Nat} {F : Key → Int} {d : Bg} (h : BOk F d) (hl : d.2.length ≤ 128) (hN : 1000 ≤ N) : ∃ b, IsBag F b ∧ b.length ≤ 128 ∧ D_loop_there_h N d = some (d, cb (thr b)) := by
 have hn : ((d.2.map rowOf).map ky).Nodup := by rw [List.map_map]; exact h.ok.keys
 obtain ⟨ys, _, s2, s3⟩ := sort_rows (N := 10) (by omega) (xs := d.2.map rowOf) (by rw [List.length_map]; omega) hn
 have hb : IsBag F ys := by
  refine ⟨s3, fun r hr => ?_, fun e => ?_⟩
  ·obtain ⟨x, hx, rfl⟩ := List.mem_map.1 (s2.subset hr)
   exact h.nz x hx
  ·rw [amt_perm s2 e, ← h.val e]
   cases q : mpHas kS vS d e with
   | true =>
    obtain ⟨x, x1, x2, x3⟩ := has_mem (k := kS) (v := vS) q
    have := amt_mem hn (List.mem_map.2 ⟨x, x1, rfl⟩)
    have hk : ky (rowOf x) = e := x2
    rw [hk] at this
    rw [this]; exact x3
   | false =>
    rw [get_zero (k := kS) (v := vS) q]
    refine amt_notin fun r hr hk => ?_
    obtain ⟨x, hx, rfl⟩ := List.mem_map.1 hr
    have := (mem_get (k := kS) (v := vS) kSn h.ok hx).1
    have hk' : x.2.1 = e := hk
    rw [hk', q] at this
    cases this
 exact ⟨ys, hb, by have := s2.length_eq; rw [List.length_map] at this; omega, there_eq s3 s2 (by omega) (by omega)⟩
noncomputable def bagAt (h : List Df) (t : List Int) : List Row := open Classical in if q : ∃ b, IsBag (amt (stL h t)) b then q.choose else []
theorem bagAt_eq {h : List Df} {t : List Int} {b : List Row} (hb : IsBag (amt (stL h t)) b) : bagAt h t = b := by
 unfold bagAt
 rw [dif_pos ⟨b, hb⟩]
 exact (Classical.choose_spec (p := fun b => IsBag (amt (stL h t)) b) ⟨b, hb⟩).uniq hb
theorem at_there {N : Nat} (hN : 1000 ≤ N) {h : List Df} {t : List Int} (H : HOk h t) : ∃ d, D_diffs_Stands_h N (h, t) = some d ∧ D_loop_there_h N d = some (d, cb (thr (bagAt h t))) ∧ IsBag (amt (stL h t)) (bagAt h t) ∧ (bagAt h t).length ≤ 128 := by
 obtain ⟨d, d1, d2, d3⟩ := Stands_eq hN H
 obtain ⟨b, b1, b2, b3⟩ := there_ok d2 d3 hN
 rw [bagAt_eq b1]
 exact ⟨d, d1, b3, b1, b2⟩
noncomputable def itA (h g : List Df) (t : List Int) (i : Nat) : List Row := itr (thr (bagAt h t)) (thr (bagAt g t)) i
noncomputable def allS (h g : List Df) (n : Nat) (ts : List (List Int)) : List Df := ts.flatMap fun t => rnd (thr (bagAt h t)) (thr (bagAt g t)) (nth 0 t 0) (n + 1)
theorem allS_len (h g : List Df) (n : Nat) (ts : List (List Int)) : (allS h g n ts).length = ts.length * (n + 1) := by
 unfold allS
 induction ts with
 | nil => simp
 | cons t ts ih => rw [List.flatMap_cons, List.length_append, ih, rnd_len, List.length_cons, Nat.succ_mul]; omega
theorem rounds_loop {N : Nat} (hN : 100000 ≤ N) {h g : List Df} (n : Nat) (hn : n ≤ 8) {ts : List (List Int)} (hts : ∀ t ∈ ts, HOk h t ∧ HOk g t) (hl : ts.length ≤ 128) (K : List Df → Option Rt_loop_Rounds) :
  loopE (fun (c : (List Df) × (List Df) × Int × List (List Int) × Int) (s : Int × (List Df)) kn => loop_Rounds_4 N K c.1 c.2.1 c.2.2.1 c.2.2.2.1 c.2.2.2.2 s.1 s.2 kn) N (h, g, (n : Int), ts, (ts.length : Int)) ((0 : Int), []) = some ([], (1 : Int), ()) ∨
  ((∀ t ∈ ts, ∀ i, i ≤ n → (itA h g t i).length ≤ 128) ∧ loopE (fun (c : (List Df) × (List Df) × Int × List (List Int) × Int) (s : Int × (List Df)) kn => loop_Rounds_4 N K c.1 c.2.1 c.2.2.1 c.2.2.2.1 c.2.2.2.2 s.1 s.2 kn) N (h, g, (n : Int), ts, (ts.length : Int)) ((0 : Int), []) = K (allS h g n ts)) := by
 unfold loopE
 refine loopD_Q (fun r => r = some ([], (1 : Int), ()) ∨ ((∀ t ∈ ts, ∀ i, i ≤ n → (itA h g t i).length ≤ 128) ∧ r = K (allS h g n ts))) ts.length (fun i s => s = ((i : Int), allS h g n (ts.take i)) ∧ ∀ t ∈ ts.take i, ∀ j, j ≤ n → (itA h g t j).length ≤ 128) ?_ ?_ (by omega) ⟨rfl, fun t ht => by simp at ht⟩
 ·rintro i s hi ⟨rfl, hI⟩ kn hk
  have htm := nth_mem (z := ([] : List Int)) hi
  obtain ⟨H, G⟩ := hts _ htm
  obtain ⟨d, d1, d2, d3, d4⟩ := at_there (N := N) (by omega) H
  obtain ⟨f, f1, f2, f3, f4⟩ := at_there (N := N) (by omega) G
  have hSl : (allS h g n (ts.take i)).length ≤ 2000 := by
   rw [allS_len, List.length_take]
   have : min i ts.length * (n + 1) ≤ 128 * 9 := Nat.mul_le_mul (by omega) (by omega)
   omega
  simp only [loop_Rounds_4, lt_d hi, ge0_d, Int.toNat_natCast, Bool.and_self, cond_true, joinD, d1, d2, f1, f2, Option.bind_some]
  rcases round_in (N := N) hN (thr_bag d3) (thr_bag f3) (Nat.le_trans (thr_len _) d4) h g n hn (nth [] ts i) (tok_len H.tt).1 ts i (allS h g n (ts.take i)) hSl with hr | ⟨hr1, hr2⟩
  ·exact .inl (hr _)
  ·refine (hr2 _).symm ▸ ?_
   simp only [loop_Rounds_2, backE_eq, ix1 hi (show ts.length ≤ 4611686018427387904 by omega)]
   refine hk _ ⟨?_, fun t ht => ?_⟩
   ·have : ts.take (i + 1) = ts.take i ++ [nth [] ts i] := by rw [List.take_succ_eq_append_getElem hi, nth_lt hi]
    rw [this]
    unfold allS
    rw [List.flatMap_append, List.flatMap_cons, List.flatMap_nil, List.append_nil]
    simp
   ·have : ts.take (i + 1) = ts.take i ++ [nth [] ts i] := by rw [List.take_succ_eq_append_getElem hi, nth_lt hi]
    rw [this] at ht
    rcases List.mem_append.1 ht with ht | ht
    ·exact hI t ht
    ·rw [List.mem_singleton] at ht
     subst ht
     exact hr1
 ·rintro s ⟨rfl, hI⟩ kn
  rw [List.take_length] at hI
  refine .inr ⟨hI, ?_⟩
  simp only [loop_Rounds_4, lt_self, cond_false, List.take_length]
theorem Concat_eq {N : Nat} (hN : 1000 ≤ N) {f g : List (List Int)} (hl : f.length + g.length ≤ 128) : D_slices_Concat_LLint_Lint N ([f, g], ()) = some (f ++ g) := by
 obtain ⟨M, rfl⟩ : ∃ M, N = M + 3 := ⟨N - 3, by omega⟩
 have w0 : IntKind.i64.wrap ((0 : Int) + 1) = 1 := by decide
 have w1' : IntKind.i64.wrap ((1 : Int) + 1) = 2 := by decide
 have a1 : IntKind.i64.wrap ((0 : Int) + (f.length : Int)) = (f.length : Int) := by rw [w64 (by omega) (by omega)]; omega
 have a2 : IntKind.i64.wrap ((f.length : Int) + (g.length : Int)) = (f.length : Int) + (g.length : Int) := w64 (by omega) (by omega)
 have t0 : (0 : Int).toNat = 0 := rfl
 have t1 : (1 : Int).toNat = 1 := rfl
 have n0 : nth [] [f, g] 0 = f := rfl
 have n1 : nth [] [f, g] 1 = g := rfl
 have c0 : decide ((0 : Int) < (([f, g] : List (List (List Int))).length : Int)) = true := rfl
 have c1 : decide ((1 : Int) < (([f, g] : List (List (List Int))).length : Int)) = true := rfl
 have c2 : decide ((2 : Int) < (([f, g] : List (List (List Int))).length : Int)) = false := rfl
 have g0 : decide ((0 : Int) ≤ 0) = true := rfl
 have g1 : decide ((0 : Int) ≤ 1) = true := rfl
 simp only [D_slices_Concat_LLint_Lint, slices_Concat_LLint_Lint_5, joinD, loopE, loopD, slices_Concat_LLint_Lint_4, backE_eq, w0, w1', a1, a2, t0, t1, n0, n1, c0, c1, c2, g0, g1, Bool.and_self, cond_true, cond_false, d_false (show ¬ (f.length : Int) < 0 by omega), d_false (show ¬ (f.length : Int) + (g.length : Int) < 0 by omega), slices_Concat_LLint_Lint_3]
 rw [d_true (show (0 : Int) ≤ (f.length : Int) + (g.length : Int) by omega), d_true (show ((f.length : Int) + (g.length : Int)) * 24 ≤ 140737488355328 by omega), d_true (show (f.length : Int) + (g.length : Int) ≤ 4611686018427387904 by omega)]
 simp only [Bool.and_self, cond_true, Option.bind_some, loopD, slices_Concat_LLint_Lint_2, backE_eq, w0, w1', t0, t1, n0, n1, c0, c1, c2, g0, g1, List.nil_append, List.length_nil, cond_false]
 rw [d_true (show (0 + f.length) * 24 ≤ 140737488355328 by omega), d_true (show (f.length + g.length) * 24 ≤ 140737488355328 by omega)]
 rfl
theorem hokk_at {h : List Df} (H : HOkk h) {t : List Int} (ht : tok t = true) (h1 : ∀ d ∈ h, d.1.length = t.length) : HOk h t := ⟨H.len, H.rows, ht, fun d hd => H.tok hd, h1⟩
theorem epochs_eq {N : Nat} (hN : 1000 ≤ N) {h : List Df} (hl : h.length < N) (hl2 : h.length ≤ 4611686018427387904) : ∃ l e, D_loop_epochs N (h, ()) = some (l, e, ()) ∧ ((e = 0 ∧ HOkk h ∧ IsHis (fun t => amt (rowsAt h t)) l ∧ HOkk l) ∨ (e ≠ 0 ∧ l = [])) := by
 obtain ⟨e, h1, h2⟩ := dCheck_ok hN hl hl2
 simp only [D_loop_epochs, loop_epochs_1, h1, Option.bind_some]
 by_cases q : e = 0
 ·subst q
  obtain ⟨l, e, t1, t2⟩ := dTidy_eq hN hl hl2
  rw [bne_self_eq_false, cond_false, t1, Option.bind_some]
  exact ⟨l, e, rfl, t2.imp id fun h => ⟨h.1, h.2.2⟩⟩
 ·exact ⟨[], e, by rw [bne_iff_ne.2 q, cond_true], .inr ⟨q, rfl⟩⟩
theorem allS_mem {h g : List Df} {n : Nat} {ts : List (List Int)} {e : Df} : e ∈ allS h g n ts ↔ ∃ t ∈ ts, ∃ i : Nat, i ≤ n ∧ e = ([nth 0 t 0, (i : Int)], itA h g t i) := by
 unfold allS
 rw [List.mem_flatMap]
 constructor
 ·rintro ⟨t, ht, he⟩
  unfold rnd at he
  obtain ⟨i, hi, rfl⟩ := List.mem_map.1 he
  exact ⟨t, ht, i, by have := List.mem_range.1 hi; omega, rfl⟩
 ·rintro ⟨t, ht, i, hi, rfl⟩
  exact ⟨t, ht, List.mem_map.2 ⟨i, List.mem_range.2 (by omega), rfl⟩⟩
theorem allS_nd {h g : List Df} {n : Nat} : ∀ {ts : List (List Int)}, (ts.map fun t => nth 0 t 0).Nodup → ((allS h g n ts).map Prod.fst).Nodup
 | [], _ => List.nodup_nil
 | t :: ts, hn => by
  have ih := allS_nd (h := h) (g := g) (n := n) (List.nodup_cons.1 hn).2
  have e : allS h g n (t :: ts) = rnd (thr (bagAt h t)) (thr (bagAt g t)) (nth 0 t 0) (n + 1) ++ allS h g n ts := by unfold allS; rw [List.flatMap_cons]
  rw [e, List.map_append]
  refine List.nodup_append.2 ⟨?_, ih, fun a ha b hb e => ?_⟩
  ·unfold rnd
   rw [List.map_map]
   refine List.pairwise_map.2 (List.nodup_range.imp fun {i j} hij e => ?_)
   simp only [Function.comp, List.cons.injEq, and_true, true_and] at e
   omega
  ·obtain ⟨x, hx, rfl⟩ := List.mem_map.1 ha
   obtain ⟨y, hy, rfl⟩ := List.mem_map.1 hb
   unfold rnd at hx
   obtain ⟨i, hi, rfl⟩ := List.mem_map.1 hx
   obtain ⟨t', ht', j, hj, rfl⟩ := allS_mem.1 hy
   simp only [List.cons.injEq, and_true] at e
   exact (List.nodup_cons.1 hn).1 (List.mem_map.2 ⟨t', ht', e.1.symm⟩)
theorem best_le {P : List Int → Prop} (f : List Int → Int) : ∀ (l : List (List Int)), (∃ t ∈ l, P t) → ∃ t ∈ l, P t ∧ ∀ u ∈ l, P u → f u ≤ f t
 | [], h => by obtain ⟨t, ht, _⟩ := h; cases ht
 | a :: l, h => by
  by_cases q : ∃ t ∈ l, P t
  ·obtain ⟨t, h1, h2, h3⟩ := best_le f l q
   by_cases qa : P a ∧ f t < f a
   ·refine ⟨a, by simp, qa.1, fun u hu hp => ?_⟩
    rcases List.mem_cons.1 hu with rfl | hu
    ·exact Int.le_refl _
    ·have := h3 u hu hp; omega
   ·refine ⟨t, by simp [h1], h2, fun u hu hp => ?_⟩
    rcases List.mem_cons.1 hu with rfl | hu
    ·exact Int.not_lt.1 fun h => qa ⟨hp, h⟩
    ·exact h3 u hu hp
  ·obtain ⟨t, ht, hp⟩ := h
   have hta : t = a := by
    rcases List.mem_cons.1 ht with h | h
    ·exact h
    ·exact absurd ⟨t, h, hp⟩ q
   subst hta
   refine ⟨t, by simp, hp, fun u hu hu2 => ?_⟩
   rcases List.mem_cons.1 hu with rfl | hu
   ·exact Int.le_refl _
   ·exact absurd ⟨u, hu, hu2⟩ q
theorem itr_nil : ∀ j, itr [] [] j = []
 | 0 => rfl
 | j + 1 => by
  show nxt [] (itr [] [] j) = []
  rw [itr_nil j]
  refine (nxt_s [] []).uniq S1.nil fun k => ?_
  rw [nxt_mem]
  simp
theorem thr_nil : thr [] = [] := rfl
theorem one_time {t : List Int} (h : t.length = 1) : t = [nth 0 t 0] := by
 match t, h with
 | [x], _ => rfl
theorem undr1 {d : List Int} {a : Int} (h : d.length = 1) : undr d [a] = decide (nth 0 d 0 ≤ a) := by
 match d, h with
 | [x], _ => simp [undr, nth]
theorem hsel {g : List Df} {t c : List Int} (hg : ∀ d ∈ g, undr d.1 t = undr d.1 c) : stL g t = stL g c := by
 unfold stL
 induction g with
 | nil => rfl
 | cons d g ih => rw [List.flatMap_cons, List.flatMap_cons, ih fun x hx => hg x (by simp [hx]), hg d (by simp)]
theorem hnone {g : List Df} {t : List Int} (hg : ∀ d ∈ g, ¬ undr d.1 t = true) : stL g t = [] := by
 unfold stL
 induction g with
 | nil => rfl
 | cons d g ih => rw [List.flatMap_cons, ih fun x hx => hg x (by simp [hx]), if_neg (hg d (by simp))]; rfl
structure RndOk (h g : List Df) (n : Nat) (l : List Df) : Prop where
 n8 : n ≤ 8
 hisH : HOkk h
 hisG : HOkk g
 out : HOkk l
 st : ∀ a i, tok [a, i] = true → ∃ b c, IsBag (amt (stL h [a])) b ∧ b.length ≤ 128 ∧ IsBag (amt (stL g [a])) c ∧ c.length ≤ 128 ∧ (∀ j, j ≤ n → (itr (thr b) (thr c) j).length ≤ 128) ∧ ∀ z, Cg (amt (stL l [a, i]) z) (amt (itr (thr b) (thr c) (min i.toNat n)) z)
theorem rounds_end {N : Nat} (hN : 2000000000 ≤ N) {h g h' g' : List Df} (H : HOkk h) (G : HOkk g) (i1 : IsHis (fun t => amt (rowsAt h t)) h') (j1 : IsHis (fun t => amt (rowsAt g t)) g') (O1 : HOkk h') (P1 : HOkk g')
  (hone : ∀ d ∈ h', d.1.length = 1) (gone : ∀ d ∈ g', d.1.length = 1) (n : Nat) (hn : n ≤ 8) {ts : List (List Int)} (hts : ∀ t, t ∈ ts ↔ t ∈ h'.map Prod.fst ∨ t ∈ g'.map Prod.fst) (hnd : ts.Nodup) (hl : ts.length ≤ 128)
  (hit : ∀ t ∈ ts, ∀ i, i ≤ n → (itA h' g' t i).length ≤ 128) :
  ∃ l e, loop_Rounds_1 N (allS h' g' n ts) = some (l, e, ()) ∧ ((e = 0 ∧ RndOk h g n l) ∨ (e ≠ 0 ∧ l = [])) := by
 have tk : ∀ t ∈ ts, tok t = true ∧ t.length = 1 := fun t ht => by
  rcases (hts t).1 ht with ht | ht
  ·obtain ⟨d, hd, rfl⟩ := List.mem_map.1 ht; exact ⟨O1.tok hd, hone d hd⟩
  ·obtain ⟨d, hd, rfl⟩ := List.mem_map.1 ht; exact ⟨P1.tok hd, gone d hd⟩
 have HO : ∀ {t : List Int}, tok t = true → t.length = 1 → HOk h' t := fun {t} ht h1 => hokk_at O1 ht fun d hd => by rw [hone d hd, h1]
 have GO : ∀ {t : List Int}, tok t = true → t.length = 1 → HOk g' t := fun {t} ht h1 => hokk_at P1 ht fun d hd => by rw [gone d hd, h1]
 have hnd0 : (ts.map fun t => nth 0 t 0).Nodup := by
  refine List.pairwise_map.2 ((List.Pairwise.and_mem.1 hnd).imp fun {a b} hab e => ?_)
  obtain ⟨ha, hb, hne⟩ := hab
  exact hne (by rw [one_time (tk a ha).2, one_time (tk b hb).2, e])
 obtain ⟨S, hS⟩ : ∃ S, S = allS h' g' n ts := ⟨_, rfl⟩
 have hSl : S.length ≤ 1200 := by
  rw [hS, allS_len]
  have : ts.length * (n + 1) ≤ 128 * 9 := Nat.mul_le_mul hl (by omega)
  omega
 have hSm : ∀ e ∈ S, ∃ t ∈ ts, ∃ i : Nat, i ≤ n ∧ e = ([nth 0 t 0, (i : Int)], itA h' g' t i) := fun e he => allS_mem.1 (by rw [← hS]; exact he)
 have htok : ∀ e ∈ S, tok e.1 = true := fun e he => by
  obtain ⟨t, ht, i, hi, rfl⟩ := hSm e he
  have h1 := (tk t ht).1
  rw [one_time (tk t ht).2] at h1
  simp only [tok, List.length_singleton, List.all_cons, List.all_nil, Bool.and_true, Bool.and_eq_true, decide_eq_true_eq, List.length_cons, List.length_nil] at h1 ⊢
  omega
 have hlen2 : ∀ e ∈ S, e.1.length = 2 := fun e he => by obtain ⟨t, ht, i, hi, rfl⟩ := hSm e he; rfl
 have hK : (S.flatMap Prod.snd).length ≤ 160000 := by
  have key : ∀ T : List Df, (∀ e ∈ T, e.2.length ≤ 128) → (T.flatMap Prod.snd).length ≤ 128 * T.length := fun T => by
   induction T with
   | nil => intro _; simp
   | cons e T ih =>
    intro hT
    have h1 := ih fun x hx => hT x (by simp [hx])
    have h2 := hT e (by simp)
    rw [List.flatMap_cons, List.length_append, List.length_cons, Nat.mul_add]
    omega
  have := key S fun e he => by
   obtain ⟨t, ht, i, hi, rfl⟩ := hSm e he
   exact hit t ht i hi
  omega
 obtain ⟨d, hF, d1, d2, d3, d4, d5, d6⟩ := MovesR_eq (N := N) (by omega) (s := S) hSl htok (fun e he f hf => by rw [hlen2 e he, hlen2 f hf]) hK (by rw [hS]; exact allS_nd hnd0)
 have d6' : cntH d ≤ 160000 * 1200 := Nat.le_trans d6 (Nat.mul_le_mul_right _ hK)
 obtain ⟨l, l1, l2, l3, l4⟩ := hTells_eq (N := N) (by omega) d2 (by omega) (by omega) (by omega) (by omega)
 rw [← hS]
 refine ⟨if 64 < l.length ∨ 128 < cntR l then [] else l, if 64 < l.length ∨ 128 < cntR l then 1 else 0, ?_, ?_⟩
 ·simp only [loop_Rounds_1, d1, l4, Option.bind_some]
  split <;> rfl
 by_cases q : 64 < l.length ∨ 128 < cntR l
 ·rw [if_pos q, if_pos q]; exact .inr ⟨by decide, rfl⟩
 rw [if_neg q, if_neg q]
 have hFm : ∀ e ∈ hF, ∃ t ∈ ts, ∃ i : Nat, i ≤ n ∧ e.1 = [nth 0 t 0, (i : Int)] := fun e he => by
  obtain ⟨f, hf, e1⟩ := (d3 e.1).1 ⟨e, he, rfl⟩
  obtain ⟨t, ht, i, hi, rfl⟩ := hSm f hf
  exact ⟨t, ht, i, hi, e1.symm⟩
 have hlm : ∀ e ∈ l, tok e.1 = true ∧ e.1.length = 2 := fun e he => by
  obtain ⟨f, hf, e1⟩ := l1.times e he
  obtain ⟨x, hx, e2⟩ := (d3 f.1).1 ⟨f, hf, rfl⟩
  rw [← e1, ← e2]; exact ⟨htok x hx, hlen2 x hx⟩
 have hst : ∀ t z, Cg (amt (stL h' t) z) (amt (stL h t) z) := fun t z => His.HEq.sel (fun t z => i1.rows t z) (fun u => undr u t) z
 have gst : ∀ t z, Cg (amt (stL g' t) z) (amt (stL g t) z) := fun t z => His.HEq.sel (fun t z => j1.rows t z) (fun u => undr u t) z
 have lst : ∀ t z, Cg (amt (stL l t) z) (amt (stL hF t) z) := fun t z => His.HEq.sel (fun t z => l1.rows t z) (fun u => undr u t) z
 refine .inl ⟨rfl, hn, H, G, ⟨by omega, by omega, ⟨by rw [List.length_map]; omega, fun t ht => ?_, fun t ht => ?_⟩⟩, fun a i hai => ?_⟩
 ·obtain ⟨e, he, rfl⟩ := List.mem_map.1 ht; exact (hlm e he).1
 ·obtain ⟨e, he, rfl⟩ := List.mem_map.1 ht
  have h0 : 0 < l.length := List.length_pos_of_mem he
  have hm := nth_mem (z := ([] : List Int)) (xs := l.map Prod.fst) (i := 0) (by simpa using h0)
  obtain ⟨d0, hd0, e0⟩ := List.mem_map.1 hm
  rw [← e0, (hlm e he).2, (hlm d0 hd0).2]
 have hi0 : 0 ≤ i := by
  simp only [tok, List.all_cons, List.all_nil, Bool.and_true, Bool.and_eq_true, decide_eq_true_eq] at hai
  exact hai.2.2.1
 by_cases q : ∃ t ∈ ts, nth 0 t 0 ≤ a
 ·obtain ⟨t, ht, hta, hbest⟩ := best_le (P := fun t => nth 0 t 0 ≤ a) (fun t => nth 0 t 0) ts q
  obtain ⟨k1, k2⟩ := tk t ht
  have ht1 : t = [nth 0 t 0] := one_time k2
  have e1 : stL h' [a] = stL h' t := hsel fun d hd => by
   rw [ht1, undr1 (hone d hd), undr1 (hone d hd)]
   refine bool_eq ?_
   rw [decide_eq_true_eq, decide_eq_true_eq]
   exact ⟨fun hx => hbest _ ((hts _).2 (.inl (List.mem_map.2 ⟨d, hd, rfl⟩))) hx, fun hx => Int.le_trans hx hta⟩
  have e2 : stL g' [a] = stL g' t := hsel fun d hd => by
   rw [ht1, undr1 (gone d hd), undr1 (gone d hd)]
   refine bool_eq ?_
   rw [decide_eq_true_eq, decide_eq_true_eq]
   exact ⟨fun hx => hbest _ ((hts _).2 (.inr (List.mem_map.2 ⟨d, hd, rfl⟩))) hx, fun hx => Int.le_trans hx hta⟩
  obtain ⟨_, -, -, b1, b2⟩ := at_there (N := N) (by omega) (HO k1 k2)
  obtain ⟨_, -, -, c1, c2⟩ := at_there (N := N) (by omega) (GO k1 k2)
  have e3 : stL hF [a, i] = stL hF [nth 0 t 0, ((min i.toNat n : Nat) : Int)] := hsel fun d hd => by
   obtain ⟨t', ht', k, hk, e⟩ := hFm d hd
   rw [e]
   refine bool_eq ?_
   simp only [undr, Bool.and_true, Bool.and_eq_true, decide_eq_true_eq]
   exact ⟨fun hx => ⟨hbest t' ht' hx.1, by omega⟩, fun hx => ⟨Int.le_trans hx.1 hta, by omega⟩⟩
  refine ⟨bagAt h' t, bagAt g' t, b1.cg fun z => ?_, b2, c1.cg fun z => ?_, c2, fun j hj => hit t ht j hj, fun z => (lst _ z).trans ?_⟩
  ·rw [← e1]; exact hst [a] z
  ·rw [← e2]; exact gst [a] z
  ·rw [e3]
   exact d4 ([nth 0 t 0, ((min i.toNat n : Nat) : Int)], itA h' g' t (min i.toNat n)) (by rw [hS]; exact allS_mem.2 ⟨t, ht, min i.toNat n, by omega, rfl⟩) z
 ·have e1 : stL h' [a] = [] := hnone fun d hd hu => by
   rw [undr1 (hone d hd)] at hu
   exact q ⟨d.1, (hts _).2 (.inl (List.mem_map.2 ⟨d, hd, rfl⟩)), of_decide_eq_true hu⟩
  have e2 : stL g' [a] = [] := hnone fun d hd hu => by
   rw [undr1 (gone d hd)] at hu
   exact q ⟨d.1, (hts _).2 (.inr (List.mem_map.2 ⟨d, hd, rfl⟩)), of_decide_eq_true hu⟩
  have e3 : stL hF [a, i] = [] := hnone fun d hd hu => by
   obtain ⟨t', ht', k, hk, e⟩ := hFm d hd
   rw [e] at hu
   simp only [undr, Bool.and_true, Bool.and_eq_true, decide_eq_true_eq] at hu
   exact q ⟨t', ht', hu.1⟩
  have hnil : IsBag (amt ([] : List Row)) [] := ⟨List.Pairwise.nil, fun r hr => (by cases hr), fun e => w_zero.symm⟩
  refine ⟨[], [], hnil.cg fun z => ?_, by simp, hnil.cg fun z => ?_, by simp, fun j hj => ?_, fun z => (lst _ z).trans ?_⟩
  ·have := hst [a] z; rw [e1] at this; exact this
  ·have := gst [a] z; rw [e2] at this; exact this
  ·rw [thr_nil, itr_nil]; simp
  ·rw [e3, thr_nil, itr_nil]; exact Cg.rfl
theorem Rounds_eq {N : Nat} (hN : 2000000000 ≤ N) {h g : List Df} (hl : h.length < N) (hl2 : h.length ≤ 4611686018427387903) (gl : g.length < N) (gl2 : g.length ≤ 4611686018427387903) (n : Int) :
  ∃ l e, D_loop_Rounds N (h, g, n, ()) = some (l, e, ()) ∧ ((e = 0 ∧ 0 ≤ n ∧ RndOk h g n.toNat l) ∨ (e ≠ 0 ∧ l = [])) := by
 have bad : ∀ {r : Option Rt_loop_Rounds} {e : Int}, e ≠ 0 → r = some ([], e, ()) → ∃ l e, r = some (l, e, ()) ∧ ((e = 0 ∧ 0 ≤ n ∧ RndOk h g n.toNat l) ∨ (e ≠ 0 ∧ l = [])) := fun he hr => ⟨[], _, hr, .inr ⟨he, rfl⟩⟩
 simp only [D_loop_Rounds, loop_Rounds_6]
 by_cases n0 : n < 0
 ·exact bad (e := 2) (by decide) (by rw [d_true n0, cond_true])
 by_cases n8 : n > 8
 ·exact bad (e := 2) (by decide) (by rw [d_false n0, cond_false, d_true n8, cond_true])
 rw [d_false n0, cond_false, d_false n8, cond_false]
 obtain ⟨m, rfl⟩ : ∃ m : Nat, n = (m : Int) := ⟨n.toNat, by omega⟩
 have hm8 : m ≤ 8 := by omega
 simp only [joinD, single_eq (N := N) (xs := h) hl hl2, single_eq (N := N) (xs := g) gl gl2, Option.bind_some]
 have hright : ∃ b : Bool, (b = true → (∀ d ∈ h, d.1.length = 1) ∧ ∀ d ∈ g, d.1.length = 1) ∧ (bif decide (∀ d ∈ h, d.1.length = 1) then loop_Rounds_5 N h g (m : Int) (decide (∀ d ∈ g, d.1.length = 1)) else loop_Rounds_5 N h g (m : Int) false) = loop_Rounds_5 N h g (m : Int) b := by
  by_cases q : ∀ d ∈ h, d.1.length = 1
  ·exact ⟨decide (∀ d ∈ g, d.1.length = 1), fun hb => ⟨q, of_decide_eq_true hb⟩, by rw [decide_eq_true q, cond_true]⟩
  ·exact ⟨false, fun hb => (by cases hb), by rw [decide_eq_false q, cond_false]⟩
 obtain ⟨b, hb, hr⟩ := hright
 rw [hr]
 simp only [loop_Rounds_5]
 obtain ⟨h', e, h1, h2⟩ := epochs_eq (N := N) (h := h) (by omega) hl (by omega)
 obtain ⟨g', x, g1, g2⟩ := epochs_eq (N := N) (h := g) (by omega) gl (by omega)
 simp only [h1, g1, Option.bind_some]
 rcases h2 with ⟨rfl, H, i1, O1⟩ | ⟨he, rfl⟩
 case inr => exact bad he (by rw [bne_iff_ne.2 he, cond_true])
 rw [bne_self_eq_false, cond_false]
 rcases g2 with ⟨rfl, G, j1, P1⟩ | ⟨he, rfl⟩
 case inr => exact bad he (by rw [bne_iff_ne.2 he, cond_true])
 rw [bne_self_eq_false, cond_false]
 cases b with
 | false => exact bad (e := 3) (by decide) (by rw [Bool.not_false, cond_true])
 | true =>
  obtain ⟨hb1, hb2⟩ := hb rfl
  have hone : ∀ d ∈ h', d.1.length = 1 := fun d hd => by obtain ⟨y, hy, ey⟩ := i1.times d hd; rw [← ey]; exact hb1 y hy
  have gone : ∀ d ∈ g', d.1.length = 1 := fun d hd => by obtain ⟨y, hy, ey⟩ := j1.times d hd; rw [← ey]; exact hb2 y hy
  have h64 := O1.len
  have k64 := P1.len
  rw [Bool.not_true, cond_false]
  simp only [dTimes_eq (N := N) (h := h') (by omega) h64, dTimes_eq (N := N) (h := g') (by omega) k64, Option.bind_some]
  rw [Concat_eq (N := N) (by omega) (by rw [List.length_map, List.length_map]; omega), Option.bind_some]
  obtain ⟨xs, hxs⟩ : ∃ xs, xs = h'.map Prod.fst ++ g'.map Prod.fst := ⟨_, rfl⟩
  rw [← hxs]
  have hxl : xs.length ≤ 128 := by rw [hxs, List.length_append, List.length_map, List.length_map]; omega
  have hx4 : ∀ t ∈ xs, t.length ≤ 4 := fun t ht => by
   rw [hxs] at ht
   rcases List.mem_append.1 ht with ht | ht
   ·obtain ⟨d, hd, rfl⟩ := List.mem_map.1 ht; rw [hone d hd]; omega
   ·obtain ⟨d, hd, rfl⟩ := List.mem_map.1 ht; rw [gone d hd]; omega
  obtain ⟨ys, y1, y2⟩ := sortR_ok (lex_ok xs (by omega))
  have hso : sortR (fun p q => (D_slices_Compare_Lint_int N (p, q, ())).map (·.1)) xs = some ys := sortR_congr (fun a ha b hb => by rw [lexC_eq (hx4 a ha) (by omega)]; rfl) y1
  rw [hso, Option.bind_some]
  have hyl : ys.length ≤ 128 := by rw [y2.1.length_eq]; exact hxl
  obtain ⟨zs, z1⟩ := Compact_eq (N := N) (by omega) (xs := ys) hyl fun s hs => hx4 s (y2.1.subset hs)
  rw [z1, Option.bind_some]
  have hrise : (cpt ys ys.length).Pairwise fun a b => lexc a b < 0 := cpt_rise (y2.2.imp fun {a b} hab hlt => by
   have : ltB lexD b a = true := by unfold ltB; exact d_true hlt
   rw [this] at hab; cases hab) _ (Nat.le_refl _)
  obtain ⟨ts, hts⟩ : ∃ ts, ts = cpt ys ys.length := ⟨_, rfl⟩
  simp only [← hts] at hrise ⊢
  have hmem : ∀ t, t ∈ ts ↔ t ∈ h'.map Prod.fst ∨ t ∈ g'.map Prod.fst := fun t => by
   rw [hts, cpt_mem, ← List.mem_append, ← hxs]
   refine Iff.trans ?_ y2.1.mem_iff
   exact ⟨fun ⟨i, hi, e⟩ => e ▸ nth_mem hi, fun ht => by obtain ⟨i, hi, e⟩ := mem_nth (z := ([] : List Int)) ht; exact ⟨i, hi, e⟩⟩
  have hnd : ts.Nodup := hrise.imp fun {a b} hab e => by rw [e] at hab; exact lexc_irrefl _ hab
  have htl : ts.length ≤ 128 := by rw [hts]; exact Nat.le_trans (cpt_len ys ys.length) hyl
  have hHO : ∀ t ∈ ts, HOk h' t ∧ HOk g' t := fun t ht => by
   have tk : tok t = true ∧ t.length = 1 := by
    rcases (hmem t).1 ht with ht | ht
    ·obtain ⟨d, hd, rfl⟩ := List.mem_map.1 ht; exact ⟨O1.tok hd, hone d hd⟩
    ·obtain ⟨d, hd, rfl⟩ := List.mem_map.1 ht; exact ⟨P1.tok hd, gone d hd⟩
   exact ⟨hokk_at O1 tk.1 fun d hd => by rw [hone d hd, tk.2], hokk_at P1 tk.1 fun d hd => by rw [gone d hd, tk.2]⟩
  rcases rounds_loop (N := N) (by omega) m hm8 hHO htl (fun s => loop_Rounds_1 N s) with hr | ⟨hit, hr⟩
  ·exact bad (e := 1) (by decide) hr
  ·obtain ⟨l, e, m1, m2⟩ := rounds_end (N := N) hN H G i1 j1 O1 P1 hone gone m hm8 hmem hnd htl hit
   refine ⟨l, e, hr.trans m1, ?_⟩
   rcases m2 with ⟨e0, R⟩ | m2
   ·exact .inl ⟨e0, by omega, R⟩
   ·exact .inr m2
end
open Go Go.ChangeShapes Go.WideShapes Go.ChangeAt Go.WideMaps Go.WideElems Go.RowKit Go.Abs Go.Bag Go.His
abbrev Ks_keep_LoopNested : List Kd := [.dat (.sl (.pair (.sl (.int .i64)) (.sl (.pair (.int .i64) (.pair (.int .i64) (.int .i64)))))), .dat (.sl (.pair (.sl (.int .i64)) (.sl (.pair (.int .i64) (.pair (.int .i64) (.int .i64)))))), .dat (.int .i64), .dat (.int .i64), .dat (.int .i64)]
abbrev Rk_keep_LoopNested : List Kd := [.dat (.bool)]
abbrev Rt_keep_LoopNested : Type := Dens Rk_keep_LoopNested
noncomputable def C_keep_LoopNested (_N : Nat) : Ctx := { T := [(3, ⟨.int .i64, 1, 8, some (.int .i64), [.int .i64 (0 : Int)], false, []⟩), (24, ⟨.slice 28, 1, 24, some (.sl (.pair (.sl (.int .i64)) (.sl (.pair (.int .i64) (.pair (.int .i64) (.int .i64)))))), [.nil], false, []⟩), (25, ⟨.slice 3, 1, 24, some (.sl (.int .i64)), [.nil], false, []⟩)], G := findE [mkQ 19 Ks_loop_Rounds Rk_loop_Rounds (D_loop_Rounds _N), mkD 9 Ks_diffs_At Rk_diffs_At (D_diffs_At _N), mkQ 20 Ks_keep_once Rk_keep_once (D_keep_once _N), mkP 14 Ks_ref_BagsSame Rk_ref_BagsSame (D_ref_BagsSame _N), mkP 10 Ks_keep_total Rk_keep_total (D_keep_total _N), mkP 11 Ks_keep_totalAt Rk_keep_totalAt (D_keep_totalAt _N), mkQ 21 Ks_loop_Step Rk_loop_Step (D_loop_Step _N)], I := findI [], N := _N, n := 105, fx := [], fl := 0, gs := [] }
noncomputable def keep_LoopNested_1 (_N : Nat) (_v21 : List (List Int × List (Int × Int × Int))) (_v22 : Int) (_v23 : Int) (_v24 : List (Int × Int × Int)) (_v25 : List (Int × Int × Int)) (_v26 : List (Int × Int × Int)) : Option Rt_keep_LoopNested :=
 (bif (_v23 == (0 : Int)) then ((D_ref_BagsSame _N (_v26, _v25, ())).bind fun _y38 => (bif _y38.1 then ((D_keep_total _N (_v24, ())).bind fun _y39 => ((D_keep_totalAt _N (_v21, [_v22], ())).bind fun _y40 => (some ((_y39.1 == _y40.1), ())))) else (some (false, ())))) else (some (false, ())))
noncomputable def keep_LoopNested_2 (_N : Nat) (_k41 : ((List (List Int × List (Int × Int × Int))) × Int × Int × (List (Int × Int × Int)) × (List (Int × Int × Int)) × (List (Int × Int × Int)) × List Int × List Int × List Int) → Option Rt_keep_LoopNested) (_v6 : List (List Int × List (Int × Int × Int))) (_v7 : Int) (_v8 : Int) (_v9 : Int) (_v11 : List (Int × Int × Int)) (_v12 : List (Int × Int × Int)) (_v13 : List (Int × Int × Int)) (_v16 : List Int) (_v17 : List Int) (_v18 : List Int) (_v10 : Int) (_v14 : List (Int × Int × Int)) (_v15 : Int) (_kn42 : ((List (List Int × List (Int × Int × Int))) × Int × Int × Int × (List (Int × Int × Int)) × (List (Int × Int × Int)) × (List (Int × Int × Int)) × List Int × List Int × List Int) × (Int × (List (Int × Int × Int)) × Int) → Option Rt_keep_LoopNested) : Option Rt_keep_LoopNested :=
 (bif (decide (_v15 < _v9)) then (bif (decide (_v15 < _v7)) then (bif (_v10 == (0 : Int)) then ((D_loop_Step _N (_v11, _v14, ())).bind fun _y43 => (_kn42 ((_v6, _v7, _v8, _v9, _v11, _v12, _v13, _v16, _v17, _v18), (_y43.2.1, _y43.1, (IntKind.i64.wrap (_v15 + (1 : Int))))))) else (_k41 (_v6, _v8, _v10, _v12, _v13, _v14, _v16, _v17, _v18))) else (_k41 (_v6, _v8, _v10, _v12, _v13, _v14, _v16, _v17, _v18))) else (_k41 (_v6, _v8, _v10, _v12, _v13, _v14, _v16, _v17, _v18)))
noncomputable def keep_LoopNested_3 (_N : Nat) (_x1 : List (List Int × List (Int × Int × Int))) (_x2 : List (List Int × List (Int × Int × Int))) (_x3 : Int) (_x4 : Int) (_x5 : Int) : Option Rt_keep_LoopNested :=
 ((D_loop_Rounds _N (_x1, _x2, _x3, ())).bind fun _y33 => (bif (_y33.2.1 != (0 : Int)) then (some (((_y33.1.length : Int) == (0 : Int)), ())) else ((D_diffs_At _N (_x1, [_x4], ())).bind fun _y34 => ((D_diffs_At _N (_x2, [_x4], ())).bind fun _y35 => ((D_diffs_At _N (_y33.1, [_x4, _x5], ())).bind fun _y36 => (bif (_y34.2.1 != (0 : Int)) then (some (true, ())) else (bif (_y35.2.1 != (0 : Int)) then (some (true, ())) else (bif (_y36.2.1 != (0 : Int)) then (some (true, ())) else ((D_keep_once _N (_y35.1, ())).bind fun _y37 => (joinD (fun (_s : (List (List Int × List (Int × Int × Int))) × Int × Int × (List (Int × Int × Int)) × (List (Int × Int × Int)) × (List (Int × Int × Int)) × List Int × List Int × List Int) => keep_LoopNested_1 _N _s.1 _s.2.1 _s.2.2.1 _s.2.2.2.1 _s.2.2.2.2.1 _s.2.2.2.2.2.1) fun _k41 => (loopE (fun (_c : (List (List Int × List (Int × Int × Int))) × Int × Int × Int × (List (Int × Int × Int)) × (List (Int × Int × Int)) × (List (Int × Int × Int)) × List Int × List Int × List Int) (_s : Int × (List (Int × Int × Int)) × Int) _kn => keep_LoopNested_2 _N _k41 _c.1 _c.2.1 _c.2.2.1 _c.2.2.2.1 _c.2.2.2.2.1 _c.2.2.2.2.2.1 _c.2.2.2.2.2.2.1 _c.2.2.2.2.2.2.2.1 _c.2.2.2.2.2.2.2.2.1 _c.2.2.2.2.2.2.2.2.2 _s.1 _s.2.1 _s.2.2 _kn) _N (_x2, _x3, _x4, _x5, _y34.1, _y35.1, _y36.1, [_x4], [_x4], [_x4, _x5]) (_y37.2.1, _y37.1, (0 : Int)))))))))))))
noncomputable def D_keep_LoopNested (_N : Nat) (_x : Dens Ks_keep_LoopNested) : Option Rt_keep_LoopNested := keep_LoopNested_3 _N _x.1 _x.2.1 _x.2.2.1 _x.2.2.2.1 _x.2.2.2.2.1
theorem sp_keep_LoopNested (_N : Nat) : SpecD Tryz.prog [] 7 Ks_keep_LoopNested Rk_keep_LoopNested (D_keep_LoopNested _N) := mkSpD (fn := Tryz.f7) (c := bodyOf Tryz.f7) (C := C_keep_LoopNested _N)
  (a := .two .none (.two .none (.two .none (.two .none (.two .none (.two .none (.two .none (.two .none (.join 3 ⟨[(1, .sl (.pair (.sl (.int .i64)) (.sl (.pair (.int .i64) (.pair (.int .i64) (.int .i64)))))), (3, .int .i64), (12, .int .i64), (14, .sl (.pair (.int .i64) (.pair (.int .i64) (.int .i64)))), (16, .sl (.pair (.int .i64) (.pair (.int .i64) (.int .i64)))), (18, .sl (.pair (.int .i64) (.pair (.int .i64) (.int .i64))))], [.row true 0 3 (.int .i64), .row true 0 3 (.int .i64), .row true 0 3 (.int .i64)]⟩ (.two .none (.one (.loop 3 ⟨[(1, .sl (.pair (.sl (.int .i64)) (.sl (.pair (.int .i64) (.pair (.int .i64) (.int .i64)))))), (2, .int .i64), (3, .int .i64), (4, .int .i64), (12, .int .i64), (13, .sl (.pair (.int .i64) (.pair (.int .i64) (.int .i64)))), (14, .sl (.pair (.int .i64) (.pair (.int .i64) (.int .i64)))), (16, .sl (.pair (.int .i64) (.pair (.int .i64) (.int .i64)))), (18, .sl (.pair (.int .i64) (.pair (.int .i64) (.int .i64)))), (19, .int .i64)], [.row true 0 3 (.int .i64), .row true 0 3 (.int .i64), .row true 0 3 (.int .i64)]⟩ [4, 8, 9] .none))) .none)))))))))
  (by kernel_rfl) rfl (by kernel_rfl) (by kernel_rfl) ⟨rfl, by unfold TOk; kernel_rfl, gOk_of rfl rfl (List.forall_mem_cons.2 ⟨qen_loop_Rounds _N, (List.forall_mem_cons.2 ⟨en_diffs_At _N, (List.forall_mem_cons.2 ⟨qen_keep_once _N, (List.forall_mem_cons.2 ⟨en_ref_BagsSame _N, (List.forall_mem_cons.2 ⟨en_keep_total _N, (List.forall_mem_cons.2 ⟨en_keep_totalAt _N, (List.forall_mem_cons.2 ⟨qen_loop_Step _N, (List.forall_mem_nil _)⟩)⟩)⟩)⟩)⟩)⟩)⟩), iOk_of rfl rfl (List.forall_mem_nil _), rfl⟩ (fun _x => by kernel_rfl)
theorem nested_loop {N : Nat} (hN : 1000 ≤ N) (g : List Df) (n a i : Int) (n8 : n ≤ 8) {A B C : List Row} {b c : List Row} (hA : A = b) (sb : b.Pairwise rlt) (hbl : b.length ≤ 128) (hbb : IsBag (amt b) b) (sX : S1 (thr c)) (hit : ∀ j : Nat, (j : Int) ≤ n → (itr (thr b) (thr c) j).length ≤ 128) (p q r : List Int)
  (K : (List Df) × Int × Int × (List Row) × (List Row) × (List Row) × List Int × List Int × List Int → Option Rt_keep_LoopNested) :
  loopE (fun (c : (List Df) × Int × Int × Int × (List Row) × (List Row) × (List Row) × List Int × List Int × List Int) (s : Int × (List Row) × Int) kn => keep_LoopNested_2 N K c.1 c.2.1 c.2.2.1 c.2.2.2.1 c.2.2.2.2.1 c.2.2.2.2.2.1 c.2.2.2.2.2.2.1 c.2.2.2.2.2.2.2.1 c.2.2.2.2.2.2.2.2.1 c.2.2.2.2.2.2.2.2.2 s.1 s.2.1 s.2.2 kn) N (g, n, a, i, A, B, C, p, q, r) ((0 : Int), thr c, (0 : Int)) = K (g, a, (0 : Int), B, C, itr (thr b) (thr c) (min i.toNat n.toNat), p, q, r) := by
 unfold loopE
 obtain ⟨m, hm⟩ : ∃ m, m = min i.toNat n.toNat := ⟨_, rfl⟩
 rw [← hm]
 refine loopD_path (N := N) m (fun j => ((0 : Int), itr (thr b) (thr c) j, (j : Int))) (fun j hj kn => ?_) (fun kn => ?_) (by omega)
 ·have sJ := itr_s (E := thr b) sX j
  have hlj := hit j (by omega)
  have hlj' := hit (j + 1) (by omega)
  have hstep : D_loop_Step N (A, itr (thr b) (thr c) j, ()) = some (itr (thr b) (thr c) (j + 1), (0 : Int), ()) := by
   rw [hA]
   rcases Step_eq (N := N) hN b (itr (thr b) (thr c) j) with ⟨-, h⟩ | ⟨-, -, be, bx, e1, e2, -, -, e3⟩
   ·omega
   ·obtain rfl := e1.uniq hbb
    obtain rfl := bag_set sJ e2
    rw [e3, sJ.t]
    have : (nxt (thr be) (itr (thr be) (thr c) j)).length ≤ 128 := hlj'
    rw [if_neg (by omega)]
    rfl
  simp only [keep_LoopNested_2]
  rw [d_true (show (j : Int) < i by omega), cond_true, d_true (show (j : Int) < n by omega), cond_true, beq_self_eq_true, cond_true, hstep, Option.bind_some, backE_eq, ix1 (show j < 9 by omega) (by omega)]
  rfl
 ·simp only [keep_LoopNested_2]
  by_cases q1 : (m : Int) < i
  ·rw [d_true q1, cond_true, d_false (show ¬ (m : Int) < n by omega), cond_false]
  ·rw [d_false q1, cond_false]
theorem law_LoopNested (h g : List Df) (n a i : Int) (_wh : wfS (.sl (.pair (.sl (.int .i64)) (.sl (.pair (.int .i64) (.pair (.int .i64) (.int .i64)))))) h) (_wg : wfS (.sl (.pair (.sl (.int .i64)) (.sl (.pair (.int .i64) (.pair (.int .i64) (.int .i64)))))) g) (_wn : wfS (.int .i64) n) (_wa : wfS (.int .i64) a) (_wi : wfS (.int .i64) i) (hz : h.length * 48 ≤ reachBytes) (gz : g.length * 48 ≤ reachBytes) :
  ∃ N, D_keep_LoopNested N (h, g, n, a, i, ()) = some (true, ()) := by
 have hw : h.length < 2000000000000000000 := by unfold reachBytes at hz; omega
 have gw : g.length < 2000000000000000000 := by unfold reachBytes at gz; omega
 obtain ⟨N, hN⟩ : ∃ N, N = h.length + g.length + 2000000000 := ⟨_, rfl⟩
 refine ⟨N, ?_⟩
 obtain ⟨l, e, a1, a2⟩ := Rounds_eq (N := N) (by omega) (h := h) (g := g) (by omega) (by omega) (by omega) (by omega) n
 simp only [D_keep_LoopNested, keep_LoopNested_3, a1, Option.bind_some]
 rcases a2 with ⟨rfl, n0, R⟩ | ⟨he, rfl⟩
 case inr => rw [bne_iff_ne.2 he, cond_true]; rfl
 rw [bne_self_eq_false, cond_false]
 have hh := R.hisH.len
 have hg := R.hisG.len
 have hl := R.out.len
 have hn8 := R.n8
 obtain ⟨b, e, b1, b2⟩ := At_eq (N := N) (by omega) (h := h) (by omega) (by omega) [a]
 obtain ⟨c, x, c1, c2⟩ := At_eq (N := N) (by omega) (h := g) (by omega) (by omega) [a]
 obtain ⟨d, y, f1, f2⟩ := At_eq (N := N) (by omega) (h := l) (by omega) (by omega) [a, i]
 simp only [b1, c1, f1, Option.bind_some]
 by_cases q : e = 0
 case neg => rw [bne_iff_ne.2 q, cond_true]
 subst q
 by_cases q : x = 0
 case neg => rw [bne_self_eq_false, cond_false, bne_iff_ne.2 q, cond_true]
 subst q
 by_cases q : y = 0
 case neg => rw [bne_self_eq_false, cond_false, cond_false, bne_iff_ne.2 q, cond_true]
 subst q
 simp only [bne_self_eq_false, cond_false]
 obtain ⟨HO, ib, lb⟩ := b2 rfl
 obtain ⟨GO, ic, lc⟩ := c2 rfl
 obtain ⟨LO, id, ld⟩ := f2 rfl
 obtain ⟨b', c', r1, r2, r3, r4, r5, r6⟩ := R.st a i LO.tt
 obtain rfl := r1.uniq ib
 obtain rfl := r3.uniq ic
 have sX := thr_bag ic
 rcases once_eq (N := N) (by omega) c' with ⟨-, t, t1, t2, t3⟩ | ⟨t1, -⟩
 case inr => omega
 obtain rfl := t1.uniq (isbag_self ic)
 rw [t3, Option.bind_some]
 simp only [joinD]
 refine (nested_loop (N := N) (by omega) g n a i (by omega) (A := b') (b := b') (c := t) rfl ib.rise lb (isbag_self ib) sX (fun j hj => r5 j (by omega)) _ _ _ _).trans ?_
 have sM := itr_s (E := thr b') sX (min i.toNat n.toNat)
 have hM := r5 (min i.toNat n.toNat) (by omega)
 have hd : d = itr (thr b') (thr t) (min i.toNat n.toNat) := id.same sM.bagA r6
 have htot : w (tot t) = w (tot (stL g [a])) := tot_cg fun z => ic.amt_cg z
 simp only [keep_LoopNested_1, beq_self_eq_true, cond_true]
 rw [Same_eq (N := N) (by omega) (by omega), Option.bind_some, d_true hd.symm, cond_true, total_eq (N := N) (l := t) (by omega) (by omega), Option.bind_some, totalAt_eq (N := N) (h := g) (by omega) (by omega) (fun d hd => by have := R.hisG.row hd; omega) (by omega), Option.bind_some, sel_leq GO]
 simp only [htot, beq_self_eq_true]
set_option maxRecDepth 100000 in
theorem lifted_LoopNested (os : Os) (started : os.Started) (H : Type) (enc : TypeId × Value → H) :
  ReturnsInHanded {} Tryz.checked os 7 .any (Rows.loopNestedSpec.pre6 enc Tryz.prog Tryz.f7 Rows.loopNestedRow.domain false) (Rows.loopNestedSpec.post enc Tryz.prog Tryz.f7 false true false false) := by
 refine returnsInHanded_of_change_sized (C := Tryz.checked) own started (by kernel_rfl) Tryz.func7
  (ChangeSpec.witness6 (enc := enc) (C := Tryz.checked) false ⟨#[], #[.slice none 0 0, .slice none 0 0, .int .i64 0, .int .i64 0, .int .i64 0], []⟩ 8 (by kernel_rfl) (by kernel_rfl) (by kernel_rfl) (by kernel_rfl)) ?_
 intro W base args ds gs before hval0 hW _ hsz0 _
 have hgw : GW [] W := fun _ h => nomatch h
 have hval : ∀ (j : Nat) t v, Tryz.f7.params[j]? = some t → args[j]? = some v → Value.okWide Tryz.prog W .any base t v := hval0
 have hW' := hW
 obtain ⟨p, q, hA0, hV, rfl, _, _⟩ := hW
 have hA : DataW.TrodAll enc Tryz.prog W 0 (fun _ => true) true Tryz.f7.params.toList args.toList ds p := hA0
 rw [Tryz.params7] at hA hval
 obtain ⟨v0, vs0, d0, ds0, p0, q0, hargs, rfl, rfl, h0, r0⟩ := trodAll_cons hA
 obtain ⟨v1, vs1, d1, ds1, p1, q1, rfl, rfl, rfl, h1, r1⟩ := trodAll_cons r0
 obtain ⟨v2, vs2, d2, ds2, p2, q2, rfl, rfl, rfl, h2, r2⟩ := trodAll_cons r1
 obtain ⟨v3, vs3, d3, ds3, p3, q3, rfl, rfl, rfl, h3, r3⟩ := trodAll_cons r2
 obtain ⟨v4, vs4, d4, ds4, p4, q4, rfl, rfl, rfl, h4, r4⟩ := trodAll_cons r3
 obtain ⟨rfl, rfl, rfl⟩ := trodAll_nil r4
 obtain rfl : args = #[v0, v1, v2, v3, v4] := by cases args; simp_all
 obtain ⟨rfl, rfl⟩ := trodVars_none hV
 have hall := List.all_eq_true.1 hsz0
 clear hA0 hval0 hsz0
 simp only [List.append_nil] at hW'
 have hlt0 : ∀ x ∈ p0, x.block < W.heap.size := fun x hx => hW'.lt x (by simp [hx])
 have hlt1 : ∀ x ∈ p1, x.block < W.heap.size := fun x hx => hW'.lt x (by simp [hx])
 have hlt2 : ∀ x ∈ p2, x.block < W.heap.size := fun x hx => hW'.lt x (by simp [hx])
 have hlt3 : ∀ x ∈ p3, x.block < W.heap.size := fun x hx => hW'.lt x (by simp [hx])
 have hlt4 : ∀ x ∈ p4, x.block < W.heap.size := fun x hx => hW'.lt x (by simp [hx])
 obtain ⟨x0, g0, w0⟩ := open_kd (k := .dat (.sl (.pair (.sl (.int .i64)) (.sl (.pair (.int .i64) (.pair (.int .i64) (.int .i64))))))) (by kernel_rfl) (hval 0 24 v0 rfl rfl) h0
 obtain ⟨x1, g1, w1⟩ := open_kd (k := .dat (.sl (.pair (.sl (.int .i64)) (.sl (.pair (.int .i64) (.pair (.int .i64) (.int .i64))))))) (by kernel_rfl) (hval 1 24 v1 rfl rfl) h1
 obtain ⟨x2, g2, w2⟩ := open_kd (k := .dat (.int .i64)) (by kernel_rfl) (hval 2 3 v2 rfl rfl) h2
 obtain ⟨x3, g3, w3⟩ := open_kd (k := .dat (.int .i64)) (by kernel_rfl) (hval 3 3 v3 rfl rfl) h3
 obtain ⟨x4, g4, w4⟩ := open_kd (k := .dat (.int .i64)) (by kernel_rfl) (hval 4 3 v4 rfl rfl) h4
 have z0 : x0.length * Tryz.prog.bytesOf 28 ≤ reachBytes := open_room (t := 24) (r1 := []) (by kernel_rfl) g0 h0 fun n hn => by
  refine of_decide_eq_true (hall n ?_)
  rw [Tryz.params7]
  change n ∈ DataW.weightsEach Tryz.prog [24, 24, 3, 3, 3] [d0, d1, d2, d3, d4]
  simp only [DataW.weightsEach]
  exact List.mem_append_left _ (by simpa using hn)
 have z1 : x1.length * Tryz.prog.bytesOf 28 ≤ reachBytes := open_room (t := 24) (r1 := []) (by kernel_rfl) g1 h1 fun n hn => by
  refine of_decide_eq_true (hall n ?_)
  rw [Tryz.params7]
  change n ∈ DataW.weightsEach Tryz.prog [24, 24, 3, 3, 3] [d0, d1, d2, d3, d4]
  simp only [DataW.weightsEach]
  exact List.mem_append_right _ (List.mem_append_left _ (by simpa using hn))
 obtain ⟨N, hN⟩ := law_LoopNested x0 x1 x2 x3 x4 w0 w1 w2 w3 w4 (by simpa only [show Tryz.prog.bytesOf 28 = 48 by kernel_rfl] using z0) (by simpa only [show Tryz.prog.bytesOf 28 = 48 by kernel_rfl] using z1)
 refine (sp_keep_LoopNested N (fun _ => False) W (x0, x1, x2, x3, x4, ()) (true, ()) [v0, v1, v2, v3, v4] (fun _ h => h.elim) hgw ⟨v0, _, rfl, g0, ⟨v1, _, rfl, g1, ⟨v2, _, rfl, g2, ⟨v3, _, rfl, g3, ⟨v4, _, rfl, g4, rfl⟩⟩⟩⟩⟩ hN).mono ?_
 rintro e W' ⟨v, rfl, hg, hr⟩
 replace hg := hg.old
 have hr : v = .bool true := by simpa only [kvals, retV, Kd.val, Go.Abs.enc, RV] using hr
 subst hr
 exact ⟨_, rfl, _, _, _, [], p0 ++ (p1 ++ (p2 ++ (p3 ++ (p4 ++ [])))), [], hW', (trodAll_cons_mk (shut_bool (show Tryz.prog.underlying 4 = some .bool by kernel_rfl) _) trodAll_mk0), (trodAll_cons_mk (Below.trod laidOut (by kernel_rfl) (of_decide_eq_true (by kernel_rfl)) h0 hg hlt0) (trodAll_cons_mk (Below.trod laidOut (by kernel_rfl) (of_decide_eq_true (by kernel_rfl)) h1 hg hlt1) (trodAll_cons_mk (Below.trod laidOut (by kernel_rfl) (of_decide_eq_true (by kernel_rfl)) h2 hg hlt2) (trodAll_cons_mk (Below.trod laidOut (by kernel_rfl) (of_decide_eq_true (by kernel_rfl)) h3 hg hlt3) (trodAll_cons_mk (Below.trod laidOut (by kernel_rfl) (of_decide_eq_true (by kernel_rfl)) h4 hg hlt4) trodAll_mk0))))), rfl, hg.frame _, fun h => by cases h⟩
theorem loopNested_holds : Rows.LoopNestedSaid :=
 OpenClaim.holds_of_wide 7 Tryz.f7 rfl rfl rfl rfl rfl rfl rfl ⟨rfl, rfl, rfl, rfl, rfl⟩ rfl rfl rfl rfl rfl (by kernel_rfl) Tryz.func7 (by kernel_rfl)
  (of_decide_eq_true (by kernel_rfl)) (by unfold Func.isWrapper; first | (rw [if_pos (by decide +kernel)]; kernel_rfl) | (rw [if_neg (by decide +kernel)]; exact ⟨rfl, rfl⟩))
  (fun os started H enc _ => lifted_LoopNested os started H enc)
end Go.Proofs.YtnieamciihdfpaaGreat
