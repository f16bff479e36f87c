import Derived.Test.YtnieamciihdfpaaIncA
namespace Go.Proofs.Ytnieamciihdfpaa
open Go.Abs Go.Bag Go.His
theorem MovesR_eq {N : Nat} (hN : 10000 ≤ N) {s : List Df} (hs64 : s.length ≤ 64) (htok : ∀ d ∈ s, tok d.1 = true) (hone : ∀ d ∈ s, ∀ e ∈ s, d.1.length = e.1.length) (hK8 : (s.flatMap Prod.snd).length ≤ 8192) (hn : (s.map Prod.fst).Nodup) :
    ∃ d hF, D_diffs_Moves_h N s = some (s, d) ∧ HyOk (fun t => amt (rowsAt hF t)) d ∧ (∀ t, (∃ e ∈ hF, e.1 = t) ↔ ∃ e ∈ s, e.1 = t) ∧ (∀ e ∈ s, ∀ z, Cg (amt (stL hF e.1) z) (amt e.2 z)) ∧ d.2.length ≤ 64 ∧ cntH d ≤ (s.flatMap Prod.snd).length * 64 := by
  have hN1 : 1000 ≤ N := by omega
  obtain ⟨ys, s1, s2, s3⟩ := sort_difs (N := N) hN1 (D := fun p q => (D_diffs_Moves_c1 N (p, q, ())).map (·.1)) (fun p q hp => by rw [mov_cmp hN1 hp]; rfl) (xs := s) (by omega) (fun d hd => tok4 (htok d hd)) hn
  have hy64 : ys.length ≤ 64 := by rw [s2.length_eq]; exact hs64
  have hmem : ∀ {e : Df}, e ∈ ys ↔ e ∈ s := fun {e} => s2.mem_iff
  let K : List Row := s.flatMap Prod.snd
  have hKl : K.length ≤ 8192 := hK8
  have hKm : ∀ {e : Df}, e ∈ s → ∀ r ∈ e.2, r ∈ K := fun {e} he r hr => List.mem_flatMap.2 ⟨e, he, hr⟩
  have hlex : ∀ j i, j < i → i < ys.length → lexc (nth zd ys j).1 (nth zd ys i).1 < 0 := fun j i hji hi => by
    rw [nth_lt (show j < ys.length by omega), nth_lt hi]
    exact List.pairwise_iff_getElem.1 s3 j i (by omega) hi hji
  have hynd : (ys.map Prod.fst).Nodup := (s2.map Prod.fst).nodup_iff.2 hn
  have htk : ∀ {e : Df}, e ∈ ys → tok e.1 = true := fun {e} he => htok _ (hmem.1 he)
  simp only [D_diffs_Moves_h, diffs_Moves_h_5, cloneD_eq (N := N) (show s.length ≤ 1000 by omega), Option.bind_some]
  rw [show sortR (fun p q => (D_diffs_Moves_c1 N (p, q, ())).map (·.1)) s = some ys from s1]
  simp only [Option.bind_some, joinD, loopE]
  obtain ⟨st, ⟨out, hF, rfl, I⟩, hs⟩ := loopD_inv (N := N) (g := fun (st : Int × Hy) kn => diffs_Moves_h_4 N (fun s => diffs_Moves_h_1 N s.1 s.2) ys (ys.length : Int) s ys st.1 st.2 (backE (ys, (ys.length : Int), s, ys) kn)) (k := fun st => some (s, st.2)) ys.length
    (fun i st => ∃ out hF, st = ((i : Int), out) ∧ MInv K ys i out hF)
    (fun i st hi hI => by
      obtain ⟨out, hF, rfl, I⟩ := hI
      obtain ⟨e, hee⟩ : ∃ e, e = nth zd ys i := ⟨_, rfl⟩
      have he : e ∈ ys := by rw [hee]; exact nth_mem (z := zd) hi
      have hes := hmem.1 he
      have he4 := tok4 (htk he)
      have hrow : e.2.length ≤ 8192 := Nat.le_trans (row_le hes) hK8
      have htkm : ∀ {p : Df}, p ∈ ys.take i → p ∈ ys ∧ lexc p.1 e.1 < 0 := fun {p} hp => by
        obtain ⟨j, hj, rfl⟩ := mem_nth (z := zd) hp
        have hj' : j < i := by rw [List.length_take] at hj; omega
        have e1 : nth zd (ys.take i) j = nth zd ys j := by
          rw [nth_lt hj, nth_lt (show j < ys.length by omega)]; exact List.getElem_take
        rw [e1, hee]
        exact ⟨nth_mem (by omega), hlex j i hj' hi⟩
      have hne : ∀ {p : Df}, p ∈ ys.take i → p.1 ≠ e.1 := fun {p} hp e1 => by
        have := (htkm hp).2; rw [e1] at this; exact lexc_irrefl _ this
      obtain ⟨o1, a1, a2, a3, a4, a5, a6, a7⟩ := hPour_eq2 (N := N) I.ok (t := e.1) he4 e.2 1 (by omega) (by omega)
      have hlenF : hF.length = i := by
        have := congrArg List.length I.tm
        simp only [List.length_map, List.length_take] at this
        omega
      have hFnd : (hF.map Prod.fst).Nodup := by
        rw [I.tm]
        exact hynd.sublist ((List.take_sublist i ys).map _)
      have hpl : (ys.take i).length = i := by rw [List.length_take]; omega
      have hFt : ∀ j, j < i → (nth zd hF j).1 = (nth zd (ys.take i) j).1 := fun j hj => by
        have h1 : (hF.map Prod.fst)[j]? = ((ys.take i).map Prod.fst)[j]? := by rw [I.tm]
        rw [List.getElem?_map, List.getElem?_map, List.getElem?_eq_getElem (by omega), List.getElem?_eq_getElem (by omega)] at h1
        rw [nth_lt (by omega), nth_lt (by omega)]
        simpa using h1
      obtain ⟨st, ⟨out9, rfl, G9⟩, hs9⟩ := loopD_invk (N := N) (fun (K9 : List Df × Int × Int × List Df × List Df × Hy → Option (List Df × Hy)) (st : Int × Hy) kn => diffs_Moves_h_3 N K9 ys (ys.length : Int) (i : Int) (ys.take i) (i : Int) s ys e.1 e.2 st.1 st.2 (backE (ys, (ys.length : Int), (i : Int), ys.take i, (i : Int), s, ys, e.1, e.2) kn)) (fun K9 st => K9 (ys, (ys.length : Int), (i : Int), s, ys, st.2)) i
          (fun j st => ∃ out', st = ((j : Int), out') ∧ HyOk (fun u z => amt (rowsAt hF u) z + if u = e.1 then amt e.2 z - amt (stL (hF.take j) e.1) z else 0) out' ∧ out'.2.length ≤ i + 1 ∧ (∀ x, mpHas kT vT o1 x = true → mpHas kT vT out' x = true))
          (fun j st hj hJ => by
            obtain ⟨out', rfl, g1, g2, g3⟩ := hJ
            have hp := nth_mem (z := zd) (xs := ys.take i) (i := j) (by omega)
            obtain ⟨p, hpp⟩ : ∃ p, p = nth zd (ys.take i) j := ⟨_, rfl⟩
            rw [← hpp] at hp
            have hpy := (htkm hp).1
            have hp4 := tok4 (htk hpy)
            have hpe : p.1.length = e.1.length := hone _ (hmem.1 hpy) _ hes
            have hu := Under_eq (N := N) hpe hp4 hN1
            have hjF := nth_mem (z := zd) (xs := hF) (i := j) (by omega)
            have hF1 : (nth zd hF j).1 = p.1 := by rw [hpp]; exact hFt j hj
            have hjl : decide ((j : Int) < (i : Int)) = true := lt_d hj
            have hjl2 : decide ((j : Int) < ((ys.take i).length : Int)) = true := lt_d (by omega)
            have htake : hF.take (j + 1) = hF.take j ++ [nth zd hF j] := take_nd (by omega)
            cases q : undr p.1 e.1 with
            | false =>
              refine ⟨_, ⟨out', rfl, ?_, g2, g3⟩, fun K9 kn => ?_⟩
              · refine g1.cg fun u z => Cg.of_eq ?_
                rw [htake, stL_snoc, hF1, if_neg (show ¬ undr p.1 e.1 = true by rw [q]; simp), List.append_nil]
              · simp only [diffs_Moves_h_3, hjl, hjl2, ge0_d, Bool.and_self, cond_true, Int.toNat_natCast, ← hpp, hu, q, Option.bind_some, cond_false, backE_eq, ix1 hj (show i ≤ 4611686018427387904 by omega)]
                rfl
            | true =>
              have hhas : mpHas kT vT out' (tkey p.1) = true := g3 _ (a5 _ (I.has p hp))
              have hb := g1.get hp4 hhas
              have hbl : (mpGet kT vT out' (tkey p.1)).2.length ≤ 8192 := by
                refine Nat.le_trans (hb.len_le K fun z hz => ?_) hKl
                rw [if_neg (hne hp), Int.add_zero]
                exact I.sup _ _ hz
              obtain ⟨r1, r2, r3⟩ := rws_eq (N := N) hb (by omega) (by omega)
              obtain ⟨o2, b1, b2, b3, b4, b5, b6, b7⟩ := hPour_eq2 (N := N) g1 (t := e.1) he4 (rws N (mpGet kT vT out' (tkey p.1))) (-1) (by omega) (by omega)
              refine ⟨_, ⟨o2, rfl, ?_, by rw [b7 (g3 _ a6)]; exact g2, fun x hx => b5 _ (g3 _ hx)⟩, fun K9 kn => ?_⟩
              · refine b2.cg fun u z => ?_
                by_cases hue : u = e.1
                · rw [if_pos hue, if_pos hue, if_pos hue, htake, stL_snoc, hF1, if_pos q, amt_append]
                  have h1 : Cg (amt (rws N (mpGet kT vT out' (tkey p.1))) z) (amt (nth zd hF j).2 z) := by
                    refine (r2.amt_cg z).trans ?_
                    rw [if_neg (hne hp), Int.add_zero, ← hF1, rowsAt_mem hFnd hjF]
                    exact Cg.rfl
                  have h2 := (Cg.rfl (a := amt (rowsAt hF u) z + (amt e.2 z - amt (stL (hF.take j) e.1) z))).add ((Cg.rfl (a := -1)).mul h1)
                  exact h2.trans (Cg.of_eq (by omega))
                · rw [if_neg hue, if_neg hue, if_neg hue, Int.add_zero]; exact Cg.rfl
              · have heta : ∀ x : KT, (x.1, (x.2.1, (x.2.2.1, (x.2.2.2.1, x.2.2.2.2)))) = x := fun _ => rfl
                simp only [diffs_Moves_h_3, hjl, hjl2, ge0_d, Bool.and_self, cond_true, Int.toNat_natCast, ← hpp, hu, q, Option.bind_some, heta]
                rw [KeyOf_eq, Option.bind_some]
                simp only
                rw [show mpHas kT vT out' (tkey p.1) = true from hhas, cond_true]
                have hkid : kidL kT vT out'.2 (ixL kT vT (tkey p.1) out'.2) = mpGet kT vT out' (tkey p.1) := mp_kid (k := kT) (v := vT) hhas
                rw [show roR (q := Q_bags_Rows) (s := .sl (.pair (.int .i64) (.pair (.int .i64) (.int .i64)))) (D_bags_Bag_Rows_h N) (kidL kT vT out'.2 (ixL kT vT (tkey p.1) out'.2)) = some (rws N (mpGet kT vT out' (tkey p.1))) from by
                  rw [hkid]; exact roR_of (q := Q_bags_Rows) (s := .sl (.pair (.int .i64) (.pair (.int .i64) (.int .i64)))) r1]
                rw [Option.bind_some, b1, Option.bind_some, backE_eq, ix1 hj (show i ≤ 4611686018427387904 by omega)]
                rfl)
          (fun st hJ K9 kn => by
            obtain ⟨out', rfl, _⟩ := hJ
            have : decide ((i : Int) < (i : Int)) = false := lt_self i
            simp only [diffs_Moves_h_3, this, cond_false])
          (by omega) (s := (0, o1)) ⟨o1, rfl, a2.cg fun u z => Cg.of_eq (by rw [List.take_zero]; show _ = _ + if u = e.1 then amt e.2 z - 0 else 0; split <;> omega), by have := I.len; omega, fun x hx => hx⟩
      rw [List.take_of_length_le (show hF.length ≤ i by omega)] at G9
      let R : List Row := e.2 ++ negR (stL hF e.1)
      have hR : ∀ z, amt R z = amt e.2 z - amt (stL hF e.1) z := fun z => by
        show amt (e.2 ++ negR (stL hF e.1)) z = _
        rw [amt_append, amt_neg]; omega
      have htk1 : ys.take (i + 1) = ys.take i ++ [e] := by rw [hee]; exact take_nd hi
      have hnew : ∀ o9, (HyOk (fun u z => amt (rowsAt hF u) z + if u = e.1 then amt e.2 z - amt (stL hF e.1) z else 0) o9 ∧ o9.2.length ≤ i + 1 ∧ (∀ x, mpHas kT vT o1 x = true → mpHas kT vT o9 x = true)) → MInv K ys (i + 1) o9 (hF ++ [(e.1, R)]) := fun o9 ⟨g1, g2, g3⟩ => by
        refine ⟨?_, ?_, ?_, ?_, g2, ?_⟩
        · rw [htk1, List.map_append, List.map_append, I.tm]; rfl
        · refine g1.cg fun u z => Cg.of_eq ?_
          rw [rowsAt_snoc, amt_append]
          by_cases hue : u = e.1
          · rw [if_pos hue, if_pos hue.symm, hR]
          · rw [if_neg hue, if_neg fun h => hue h.symm]; rfl
        · intro x hx z
          rw [htk1] at hx
          rcases List.mem_append.1 hx with hx | hx
          · obtain ⟨hx1, hx2⟩ := htkm hx
            have hno : ¬ undr e.1 x.1 = true := fun h => by
              have h1 := undr_lex (hone _ hes _ (hmem.1 hx1)) h
              have h2 := lexc_neg x.1 e.1
              omega
            rw [stL_snoc, if_neg hno, List.append_nil]
            exact I.st x hx z
          · rw [List.mem_singleton] at hx
            subst hx
            rw [stL_snoc, if_pos (undr_refl _), amt_append]
            exact Cg.of_eq (by rw [hR]; omega)
        · intro t z hz
          rw [rowsAt_snoc, amt_append]
          refine ((I.sup t z hz).add (?_ : Cg _ 0)).trans (Cg.of_eq (by omega))
          split
          · rw [hR, amt_notin fun r hr => hz r (hKm hes r hr)]
            have : Cg (amt (stL hF e.1) z) 0 := sel_none hF (fun u => undr u e.1) z fun t => I.sup t z hz
            exact (Cg.of_eq (by omega)).trans ((Cg.rfl (a := -1)).mul this)
          · exact Cg.rfl
        · intro x hx
          rw [htk1] at hx
          rcases List.mem_append.1 hx with hx | hx
          · exact g3 _ (a5 _ (I.has x hx))
          · rw [List.mem_singleton] at hx
            subst hx
            exact g3 _ a6
      refine ⟨_, ⟨out9, _, rfl, hnew out9 G9⟩, fun kn => ?_⟩
      have hsl : ((ys.take (i : Int).toNat).drop (0 : Int).toNat) = ys.take i := by simp
      simp only [Int.toNat_natCast] at hsl
      simp only [diffs_Moves_h_4, lt_d hi, ge0_d, Bool.and_self, cond_true, Int.toNat_natCast, joinD, ← hee, a1, Option.bind_some, show decide ((0 : Int) ≤ 0) = true from rfl, d_true (show (i : Int) ≤ (ys.length : Int) by omega), hsl, hpl, loopE]
      refine (hs9 _).trans ?_
      simp only [diffs_Moves_h_2, backE_eq, ix1 hi (show ys.length ≤ 4611686018427387904 by omega)]
      rfl)
    (fun st hI kn => by
      obtain ⟨out, hF, rfl, _⟩ := hI
      simp only [diffs_Moves_h_4, lt_self, cond_false, diffs_Moves_h_1])
    (by omega) (s := (0, ((0 : Int), []))) ⟨_, [], rfl, rfl, HyOk.empty.cg fun t z => Cg.rfl, fun e he => by simp at he, fun t z _ => Cg.rfl, Nat.le_refl _, fun e he => by simp at he⟩
  have htm := I.tm
  rw [List.take_length] at htm
  have hiff : ∀ t, (∃ e ∈ hF, e.1 = t) ↔ ∃ e ∈ s, e.1 = t := fun t => by
    have h1 : t ∈ hF.map Prod.fst ↔ t ∈ ys.map Prod.fst := by rw [htm]
    rw [List.mem_map, List.mem_map] at h1
    refine h1.trans ⟨fun ⟨e, he, h⟩ => ⟨e, hmem.1 he, h⟩, fun ⟨e, he, h⟩ => ⟨e, hmem.2 he, h⟩⟩
  have hlen := I.len
  refine ⟨out, hF, hs, I.ok, hiff, fun e he z => I.st e (by rw [List.take_length]; exact hmem.2 he) z, by omega, ?_⟩
  have hall : ∀ e ∈ out.2, (fun b : Bg => b.2.length) e.2.2 ≤ K.length := fun e he => (I.ok.bag e he).len_le K fun z hz => I.sup _ _ hz
  exact Nat.le_trans (sumE_le (k := kT) (v := vT) (fun b : Bg => b.2.length) K.length hall) (Nat.mul_le_mul_left _ (by omega))
end Go.Proofs.Ytnieamciihdfpaa
