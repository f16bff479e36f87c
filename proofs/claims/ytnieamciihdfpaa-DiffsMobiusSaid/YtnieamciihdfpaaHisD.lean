/- Histories of what stands: what the functions come to. -/
import Derived.Test.YtnieamciihdfpaaHisC
import Derived.Test.YtnieamciihdfpaaHisU
namespace Go.Proofs.Ytnieamciihdfpaa
open Go.Abs Go.Bag Go.His
/-- A bag has no more entries than there are keys to have some. -/
theorem BOk.len_le {f : Key → Int} {b : Bg} (h : BOk f b) (K : List Row) (hK : ∀ z, (∀ r ∈ K, ky r ≠ z) → Cg (f z) 0) : b.2.length ≤ K.length := by
  have := keys_le K.length K (Nat.le_refl _) (b.2.map fun e => e.2.1) h.ok.keys fun z hz => by
    obtain ⟨e, he, rfl⟩ := List.mem_map.1 hz
    refine Classical.byContradiction fun hno => ?_
    have h0 := hK e.2.1 fun s hs e1 => hno ⟨s, hs, e1⟩
    have h1 := (mem_get (k := kS) (v := vS) kSn h.ok he).2
    have h2 := h.val e.2.1
    rw [h1, w_eq h0, w_zero] at h2
    exact h.nz e he h2
  simpa using this
theorem sumE_le {k v : Sh} (f : v.den → Nat) (c : Nat) : ∀ {es : Ents k v}, (∀ e ∈ es, f e.2.2 ≤ c) → sumE (k := k) (v := v) f es ≤ c * es.length
  | [], _ => Nat.le_refl _
  | e :: es, h => by
    have h1 := h e (by simp)
    have h2 := sumE_le (k := k) f c (es := es) fun x hx => h x (by simp [hx])
    simp only [sumE, List.map_cons, List.sum_cons, List.length_cons] at h2 ⊢
    rw [Nat.mul_add]
    omega
theorem mov_cmp {N : Nat} (hN : 1000 ≤ N) {p q : Df} (h : p.1.length ≤ 4) : D_diffs_Moves_c1 N (p, q, ()) = some (lexc p.1 q.1, ()) := by
  simp only [D_diffs_Moves_c1, diffs_Moves_c1_1, lexC_eq h hN, Option.bind_some]
theorem cloneD_eq {N : Nat} {a : List Df} (h : a.length ≤ 1000) : D_slices_Clone_Lapi_Diff_api_Diff N (a, ()) = some a := by
  simp only [D_slices_Clone_Lapi_Diff_api_Diff, slices_Clone_Lapi_Diff_api_Diff_1]
  rw [d_true (by simp; omega)]
  cases a with
  | nil => simp [dem2]; rfl
  | cons x xs => simp; rfl
/-- What has been found so far. -/
structure MInv (K : List Row) (ys : List Df) (i : Nat) (out : Hy) (hF : List Df) : Prop where
  tm : hF.map Prod.fst = (ys.take i).map Prod.fst
  ok : HyOk (fun t => amt (rowsAt hF t)) out
  st : ∀ e ∈ ys.take i, ∀ z, Cg (amt (stL hF e.1) z) (amt e.2 z)
  sup : ∀ t z, (∀ r ∈ K, ky r ≠ z) → Cg (amt (rowsAt hF t) z) 0
  len : out.2.length ≤ i
  has : ∀ e ∈ ys.take i, mpHas kT vT out (tkey e.1) = true
theorem rowsAt_snoc (h : List Df) (d : Df) (t : List Int) : rowsAt (h ++ [d]) t = rowsAt h t ++ if d.1 = t then d.2 else [] := by
  unfold rowsAt; rw [sel_snoc]; simp
theorem Moves_eq {N : Nat} (hN : 1000 ≤ N) {s : List Df} (H : HOkk s) (hn : (s.map Prod.fst).Nodup) :
    ∃ d hF, D_diffs_Moves_h N s = some d ∧ HyOk (fun t => amt (rowsAt hF t)) d ∧ (∀ t, (∃ e ∈ hF, e.1 = t) ↔ ∃ e ∈ s, e.1 = t) ∧ (∀ e ∈ s, ∀ z, Cg (amt (stL hF e.1) z) (amt e.2 z)) ∧ d.2.length ≤ 64 ∧ cntH d ≤ 8192 := by
  have hs64 := H.len
  obtain ⟨ys, s1, s2, s3⟩ := sort_difs (N := N) hN (D := fun p q => (D_diffs_Moves_c1 N (p, q, ())).map (·.1)) (fun p q hp => by rw [mov_cmp hN hp]; rfl) (xs := s) (by omega) (fun d hd => tok4 (H.tok hd)) hn
  have hy64 : ys.length ≤ 64 := by rw [s2.length_eq]; exact hs64
  have hmem : ∀ {e : Df}, e ∈ ys ↔ e ∈ s := fun {e} => s2.mem_iff
  let K : List Row := s.flatMap Prod.snd
  have hKl : K.length ≤ 128 := by
    have : K.length = cntR s := by
      show (s.flatMap Prod.snd).length = _
      rw [List.length_flatMap]; rfl
    have := H.rows; omega
  have hKm : ∀ {e : Df}, e ∈ s → ∀ r ∈ e.2, r ∈ K := fun {e} he r hr => List.mem_flatMap.2 ⟨e, he, hr⟩
  have hlex : ∀ j i, j < i → i < ys.length → lexc (nth zd ys j).1 (nth zd ys i).1 < 0 := fun j i hji hi => by
    rw [nth_lt (show j < ys.length by omega), nth_lt hi]
    exact List.pairwise_iff_getElem.1 s3 j i (by omega) hi hji
  have hynd : (ys.map Prod.fst).Nodup := (s2.map Prod.fst).nodup_iff.2 hn
  have htk : ∀ {e : Df}, e ∈ ys → tok e.1 = true := fun {e} he => H.tok (hmem.1 he)
  simp only [D_diffs_Moves_h, diffs_Moves_h_5, cloneD_eq (N := N) (show s.length ≤ 1000 by omega), Option.bind_some]
  rw [show sortR (fun p q => (D_diffs_Moves_c1 N (p, q, ())).map (·.1)) s = some ys from s1]
  simp only [Option.bind_some, joinD, loopE]
  obtain ⟨st, ⟨out, hF, rfl, I⟩, hs⟩ := loopD_inv (N := N) (g := fun (s : Int × Hy) kn => diffs_Moves_h_4 N (fun s => diffs_Moves_h_1 N s) ys (ys.length : Int) ys s.1 s.2 (backE (ys, (ys.length : Int), ys) kn)) (k := fun s => some s.2) ys.length
    (fun i s => ∃ out hF, s = ((i : Int), out) ∧ MInv K ys i out hF)
    (fun i s hi hI => by
      obtain ⟨out, hF, rfl, I⟩ := hI
      obtain ⟨e, hee⟩ : ∃ e, e = nth zd ys i := ⟨_, rfl⟩
      have he : e ∈ ys := by rw [hee]; exact nth_mem (z := zd) hi
      have hes := hmem.1 he
      have he4 := tok4 (htk he)
      have hrow := H.row hes
      have htkm : ∀ {p : Df}, p ∈ ys.take i → p ∈ ys ∧ lexc p.1 e.1 < 0 := fun {p} hp => by
        obtain ⟨j, hj, rfl⟩ := mem_nth (z := zd) hp
        have hj' : j < i := by rw [List.length_take] at hj; omega
        have e1 : nth zd (ys.take i) j = nth zd ys j := by
          rw [nth_lt hj, nth_lt (show j < ys.length by omega)]; exact List.getElem_take
        rw [e1, hee]
        exact ⟨nth_mem (by omega), hlex j i hj' hi⟩
      have hne : ∀ {p : Df}, p ∈ ys.take i → p.1 ≠ e.1 := fun {p} hp e1 => by
        have := (htkm hp).2; rw [e1] at this; exact lexc_irrefl _ this
      obtain ⟨o1, a1, a2, a3, a4, a5, a6, a7⟩ := hPour_eq2 (N := N) I.ok (t := e.1) he4 e.2 1 (by omega) (by omega)
      -- the inner loop
      have hlenF : hF.length = i := by
        have := congrArg List.length I.tm
        simp only [List.length_map, List.length_take] at this
        omega
      have hFnd : (hF.map Prod.fst).Nodup := by
        rw [I.tm]
        exact hynd.sublist ((List.take_sublist i ys).map _)
      have hpl : (ys.take i).length = i := by rw [List.length_take]; omega
      have hFt : ∀ j, j < i → (nth zd hF j).1 = (nth zd (ys.take i) j).1 := fun j hj => by
        have h1 : (hF.map Prod.fst)[j]? = ((ys.take i).map Prod.fst)[j]? := by rw [I.tm]
        rw [List.getElem?_map, List.getElem?_map, List.getElem?_eq_getElem (by omega), List.getElem?_eq_getElem (by omega)] at h1
        rw [nth_lt (by omega), nth_lt (by omega)]
        simpa using h1
      obtain ⟨st, ⟨out9, rfl, G9⟩, hs9⟩ := loopD_invk (N := N) (fun (K9 : List Df × Int × Int × List Df × Hy → Option Hy) (s : Int × Hy) kn => diffs_Moves_h_3 N K9 ys (ys.length : Int) (i : Int) (ys.take i) (i : Int) ys e.1 e.2 s.1 s.2 (backE (ys, (ys.length : Int), (i : Int), ys.take i, (i : Int), ys, e.1, e.2) kn)) (fun K9 s => K9 (ys, (ys.length : Int), (i : Int), ys, s.2)) i
          (fun j s => ∃ out', s = ((j : Int), out') ∧ HyOk (fun u z => amt (rowsAt hF u) z + if u = e.1 then amt e.2 z - amt (stL (hF.take j) e.1) z else 0) out' ∧ out'.2.length ≤ i + 1 ∧ (∀ x, mpHas kT vT o1 x = true → mpHas kT vT out' x = true))
          (fun j s hj hJ => by
            obtain ⟨out', rfl, g1, g2, g3⟩ := hJ
            have hp := nth_mem (z := zd) (xs := ys.take i) (i := j) (by omega)
            obtain ⟨p, hpp⟩ : ∃ p, p = nth zd (ys.take i) j := ⟨_, rfl⟩
            rw [← hpp] at hp
            have hpy := (htkm hp).1
            have hp4 := tok4 (htk hpy)
            have hpe : p.1.length = e.1.length := H.one (hmem.1 hpy) hes
            have hu := Under_eq (N := N) hpe hp4 hN
            have hjF := nth_mem (z := zd) (xs := hF) (i := j) (by omega)
            have hF1 : (nth zd hF j).1 = p.1 := by rw [hpp]; exact hFt j hj
            have hjl : decide ((j : Int) < (i : Int)) = true := lt_d hj
            have hjl2 : decide ((j : Int) < ((ys.take i).length : Int)) = true := lt_d (by omega)
            have htake : hF.take (j + 1) = hF.take j ++ [nth zd hF j] := take_nd (by omega)
            cases q : undr p.1 e.1 with
            | false =>
              refine ⟨_, ⟨out', rfl, ?_, g2, g3⟩, fun K9 kn => ?_⟩
              · refine g1.cg fun u z => Cg.of_eq ?_
                rw [htake, stL_snoc, hF1, if_neg (show ¬ undr p.1 e.1 = true by rw [q]; simp), List.append_nil]
              · simp only [diffs_Moves_h_3, hjl, hjl2, ge0_d, Bool.and_self, cond_true, Int.toNat_natCast, ← hpp, hu, q, Option.bind_some, cond_false, backE_eq, ix1 hj (show i ≤ 4611686018427387904 by omega)]
                rfl
            | true =>
              have hhas : mpHas kT vT out' (tkey p.1) = true := g3 _ (a5 _ (I.has p hp))
              have hb := g1.get hp4 hhas
              have hbl : (mpGet kT vT out' (tkey p.1)).2.length ≤ 128 := by
                refine Nat.le_trans (hb.len_le K fun z hz => ?_) hKl
                rw [if_neg (hne hp), Int.add_zero]
                exact I.sup _ _ hz
              obtain ⟨r1, r2, r3⟩ := rws_eq (N := N) hb (by omega) (by omega)
              obtain ⟨o2, b1, b2, b3, b4, b5, b6, b7⟩ := hPour_eq2 (N := N) g1 (t := e.1) he4 (rws N (mpGet kT vT out' (tkey p.1))) (-1) (by omega) (by omega)
              refine ⟨_, ⟨o2, rfl, ?_, by rw [b7 (g3 _ a6)]; exact g2, fun x hx => b5 _ (g3 _ hx)⟩, fun K9 kn => ?_⟩
              · refine b2.cg fun u z => ?_
                by_cases hue : u = e.1
                · rw [if_pos hue, if_pos hue, if_pos hue, htake, stL_snoc, hF1, if_pos q, amt_append]
                  have h1 : Cg (amt (rws N (mpGet kT vT out' (tkey p.1))) z) (amt (nth zd hF j).2 z) := by
                    refine (r2.amt_cg z).trans ?_
                    rw [if_neg (hne hp), Int.add_zero, ← hF1, rowsAt_mem hFnd hjF]
                    exact Cg.rfl
                  have h2 := (Cg.rfl (a := amt (rowsAt hF u) z + (amt e.2 z - amt (stL (hF.take j) e.1) z))).add ((Cg.rfl (a := -1)).mul h1)
                  exact h2.trans (Cg.of_eq (by omega))
                · rw [if_neg hue, if_neg hue, if_neg hue, Int.add_zero]; exact Cg.rfl
              · have heta : ∀ x : KT, (x.1, (x.2.1, (x.2.2.1, (x.2.2.2.1, x.2.2.2.2)))) = x := fun _ => rfl
                simp only [diffs_Moves_h_3, hjl, hjl2, ge0_d, Bool.and_self, cond_true, Int.toNat_natCast, ← hpp, hu, q, Option.bind_some, heta]
                rw [KeyOf_eq, Option.bind_some]
                simp only
                rw [show mpHas kT vT out' (tkey p.1) = true from hhas, cond_true]
                have hkid : kidL kT vT out'.2 (ixL kT vT (tkey p.1) out'.2) = mpGet kT vT out' (tkey p.1) := mp_kid (k := kT) (v := vT) hhas
                rw [show roR (q := Q_bags_Rows) (s := .sl (.pair (.int .i64) (.pair (.int .i64) (.int .i64)))) (D_bags_Bag_Rows_h N) (kidL kT vT out'.2 (ixL kT vT (tkey p.1) out'.2)) = some (rws N (mpGet kT vT out' (tkey p.1))) from by
                  rw [hkid]; exact roR_of (q := Q_bags_Rows) (s := .sl (.pair (.int .i64) (.pair (.int .i64) (.int .i64)))) r1]
                rw [Option.bind_some, b1, Option.bind_some, backE_eq, ix1 hj (show i ≤ 4611686018427387904 by omega)]
                rfl)
          (fun s hJ K9 kn => by
            obtain ⟨out', rfl, _⟩ := hJ
            have : decide ((i : Int) < (i : Int)) = false := lt_self i
            simp only [diffs_Moves_h_3, this, cond_false])
          (by omega) (s := (0, o1)) ⟨o1, rfl, a2.cg fun u z => Cg.of_eq (by rw [List.take_zero]; show _ = _ + if u = e.1 then amt e.2 z - 0 else 0; split <;> omega), by have := I.len; omega, fun x hx => hx⟩
      rw [List.take_of_length_le (show hF.length ≤ i by omega)] at G9
      -- the time's rows, less what changed at lesser times
      let R : List Row := e.2 ++ negR (stL hF e.1)
      have hR : ∀ z, amt R z = amt e.2 z - amt (stL hF e.1) z := fun z => by
        show amt (e.2 ++ negR (stL hF e.1)) z = _
        rw [amt_append, amt_neg]; omega
      have htk1 : ys.take (i + 1) = ys.take i ++ [e] := by rw [hee]; exact take_nd hi
      have hnew : ∀ o9, (HyOk (fun u z => amt (rowsAt hF u) z + if u = e.1 then amt e.2 z - amt (stL hF e.1) z else 0) o9 ∧ o9.2.length ≤ i + 1 ∧ (∀ x, mpHas kT vT o1 x = true → mpHas kT vT o9 x = true)) → MInv K ys (i + 1) o9 (hF ++ [(e.1, R)]) := fun o9 ⟨g1, g2, g3⟩ => by
        refine ⟨?_, ?_, ?_, ?_, g2, ?_⟩
        · rw [htk1, List.map_append, List.map_append, I.tm]; rfl
        · refine g1.cg fun u z => Cg.of_eq ?_
          rw [rowsAt_snoc, amt_append]
          by_cases hue : u = e.1
          · rw [if_pos hue, if_pos hue.symm, hR]
          · rw [if_neg hue, if_neg fun h => hue h.symm]; rfl
        · intro x hx z
          rw [htk1] at hx
          rcases List.mem_append.1 hx with hx | hx
          · obtain ⟨hx1, hx2⟩ := htkm hx
            have hno : ¬ undr e.1 x.1 = true := fun h => by
              have h1 := undr_lex (H.one hes (hmem.1 hx1)) h
              have h2 := lexc_neg x.1 e.1
              omega
            rw [stL_snoc, if_neg hno, List.append_nil]
            exact I.st x hx z
          · rw [List.mem_singleton] at hx
            subst hx
            rw [stL_snoc, if_pos (undr_refl _), amt_append]
            exact Cg.of_eq (by rw [hR]; omega)
        · intro t z hz
          rw [rowsAt_snoc, amt_append]
          refine ((I.sup t z hz).add (?_ : Cg _ 0)).trans (Cg.of_eq (by omega))
          split
          · rw [hR, amt_notin fun r hr => hz r (hKm hes r hr)]
            have : Cg (amt (stL hF e.1) z) 0 := sel_none hF (fun u => undr u e.1) z fun t => I.sup t z hz
            exact (Cg.of_eq (by omega)).trans ((Cg.rfl (a := -1)).mul this)
          · exact Cg.rfl
        · intro x hx
          rw [htk1] at hx
          rcases List.mem_append.1 hx with hx | hx
          · exact g3 _ (a5 _ (I.has x hx))
          · rw [List.mem_singleton] at hx
            subst hx
            exact g3 _ a6
      refine ⟨_, ⟨out9, _, rfl, hnew out9 G9⟩, fun kn => ?_⟩
      have hsl : ((ys.take (i : Int).toNat).drop (0 : Int).toNat) = ys.take i := by simp
      simp only [Int.toNat_natCast] at hsl
      simp only [diffs_Moves_h_4, lt_d hi, ge0_d, Bool.and_self, cond_true, Int.toNat_natCast, joinD, ← hee, a1, Option.bind_some, show decide ((0 : Int) ≤ 0) = true from rfl, d_true (show (i : Int) ≤ (ys.length : Int) by omega), hsl, hpl, loopE]
      refine (hs9 _).trans ?_
      simp only [diffs_Moves_h_2, backE_eq, ix1 hi (show ys.length ≤ 4611686018427387904 by omega)]
      rfl)
    (fun s hI kn => by
      obtain ⟨out, hF, rfl, _⟩ := hI
      simp only [diffs_Moves_h_4, lt_self, cond_false, diffs_Moves_h_1])
    (by omega) (s := (0, ((0 : Int), []))) ⟨_, [], rfl, rfl, HyOk.empty.cg fun t z => Cg.rfl, fun e he => by simp at he, fun t z _ => Cg.rfl, Nat.le_refl _, fun e he => by simp at he⟩
  have htm := I.tm
  rw [List.take_length] at htm
  have hiff : ∀ t, (∃ e ∈ hF, e.1 = t) ↔ ∃ e ∈ s, e.1 = t := fun t => by
    have h1 : t ∈ hF.map Prod.fst ↔ t ∈ ys.map Prod.fst := by rw [htm]
    rw [List.mem_map, List.mem_map] at h1
    refine h1.trans ⟨fun ⟨e, he, h⟩ => ⟨e, hmem.1 he, h⟩, fun ⟨e, he, h⟩ => ⟨e, hmem.2 he, h⟩⟩
  have hlen := I.len
  refine ⟨out, hF, hs, I.ok, hiff, fun e he z => I.st e (by rw [List.take_length]; exact hmem.2 he) z, by omega, ?_⟩
  have hall : ∀ e ∈ out.2, (fun b : Bg => b.2.length) e.2.2 ≤ 128 := fun e he => Nat.le_trans ((I.ok.bag e he).len_le K fun z hz => I.sup _ _ hz) hKl
  exact Nat.le_trans (sumE_le (k := kT) (v := vT) (fun b : Bg => b.2.length) 128 hall) (by omega)
/-- Histories of what stands. -/
structure MovOf (s hF : List Df) : Prop where
  tm : ∀ t, (∃ e ∈ hF, e.1 = t) ↔ ∃ e ∈ s, e.1 = t
  st : ∀ e ∈ s, ∀ z, Cg (amt (stL hF e.1) z) (amt e.2 z)
theorem Undo_eq {N : Nat} (hN : 10000 ≤ N) {s : List Df} (hl : s.length < N) (hl2 : s.length ≤ 4611686018427387904) (hn : (s.map Prod.fst).Nodup) :
    ∃ l e, D_diffs_Undo N (s, ()) = some (l, e, ()) ∧ ((e ≠ 0 ∧ ¬ HOkk s) ∨ (HOkk s ∧ ∃ hF, MovOf s hF ∧ ((e = 0 ∧ IsHis (fun t => amt (rowsAt hF t)) l ∧ HOkk l) ∨ e = 1))) := by
  obtain ⟨e, h1, h2⟩ := dCheck_ok (N := N) (by omega) hl hl2
  simp only [D_diffs_Undo, diffs_Undo_3, h1, Option.bind_some]
  by_cases q : e = 0
  case neg => exact ⟨[], e, by rw [bne_iff_ne.2 q, cond_true], .inl ⟨q, fun H => q (h2.2 H)⟩⟩
  subst q
  have H := h2.1 rfl
  rw [bne_self_eq_false, cond_false]
  simp only [joinD, loopE]
  have heta : ∀ x : KT, (x.1, (x.2.1, (x.2.2.1, (x.2.2.2.1, x.2.2.2.2)))) = x := fun _ => rfl
  have hseen : loopD (fun (st : Int × (Int × List (Int × KT × Int))) kn => diffs_Undo_2 N (fun s => diffs_Undo_1 N s) s s (s.length : Int) st.1 st.2 (backE (s, s, (s.length : Int)) kn)) N ((0 : Int), ((0 : Int), [])) = diffs_Undo_1 N s := by
    obtain ⟨st, -, hs⟩ := loopD_inv (N := N) (g := fun (st : Int × (Int × List (Int × KT × Int))) kn => diffs_Undo_2 N (fun s => diffs_Undo_1 N s) s s (s.length : Int) st.1 st.2 (backE (s, s, (s.length : Int)) kn)) (k := fun _ => diffs_Undo_1 N s) s.length
      (fun i st => ∃ m : Mp kT (.int .i64), st = ((i : Int), m) ∧ ∀ t : List Int, t.length ≤ 4 → mpHas kT (.int .i64) m (tkey t) = true → ∃ j, j < i ∧ (nth zd s j).1 = t)
      (fun i st hi hI => by
        obtain ⟨m, rfl, hm⟩ := hI
        have hd := nth_mem (z := zd) hi
        have h4 := tok4 (H.tok hd)
        have hno : mpHas kT (.int .i64) m (tkey (nth zd s i).1) = false := by
          cases q : mpHas kT (.int .i64) m (tkey (nth zd s i).1) with
          | false => rfl
          | true =>
            obtain ⟨j, hj, e1⟩ := hm _ h4 q
            exfalso
            have h3 := List.pairwise_iff_getElem.1 hn j i (by rw [List.length_map]; omega) (by rw [List.length_map]; omega) hj
            rw [List.getElem_map, List.getElem_map] at h3
            rw [nth_lt (show j < s.length by omega), nth_lt hi] at e1
            exact h3 e1
        refine ⟨_, ⟨mpPut kT (.int .i64) m (tkey (nth zd s i).1) (i : Int), rfl, fun t ht hh => ?_⟩, fun kn => ?_⟩
        · by_cases q : tkey t = tkey (nth zd s i).1
          · exact ⟨i, by omega, by rw [← ktime_tkey h4, ← q, ktime_tkey ht]⟩
          · rw [mput_has_ne (k := kT) (v := .int .i64) kTn m q] at hh
            obtain ⟨j, hj, e1⟩ := hm t ht hh
            exact ⟨j, by omega, e1⟩
        · simp only [diffs_Undo_2, lt_d hi, ge0_d, Bool.and_self, cond_true, Int.toNat_natCast, heta]
          rw [KeyOf_eq, Option.bind_some]
          simp only
          rw [show mpHas kT (.int .i64) m (tkey (nth zd s i).1) = false from hno, cond_false, Option.bind_some, backE_eq, ix1 hi hl2]
          rfl)
      (fun st hI kn => by
        obtain ⟨m, rfl, _⟩ := hI
        simp only [diffs_Undo_2, lt_self, cond_false])
      hl (s := ((0 : Int), ((0 : Int), []))) ⟨_, rfl, fun t _ hh => by cases hh⟩
    exact hs
  rw [hseen]
  obtain ⟨d, hF, d1, d2, d3, d4, d5, d6⟩ := Moves_eq (N := N) (by omega) H hn
  obtain ⟨l, l1, l2, l3, l4⟩ := hTells_eq (N := N) (by omega) d2 (by omega) (by omega) (by omega) (by omega)
  simp only [diffs_Undo_1, d1, l4, Option.bind_some]
  by_cases q : 64 < l.length ∨ 128 < cntR l
  · rw [if_pos q]
    exact ⟨[], 1, rfl, .inr ⟨H, hF, ⟨d3, d4⟩, .inr rfl⟩⟩
  · rw [if_neg q]
    refine ⟨l, 0, rfl, .inr ⟨H, hF, ⟨d3, d4⟩, .inl ⟨rfl, l1, H.of (fun x hx => ?_) (by omega) (by omega)⟩⟩⟩
    obtain ⟨e, he, h⟩ := l1.times x hx
    exact (d3 x.1).1 ⟨e, he, h⟩
theorem standing_eq {N : Nat} (hN : 1000 ≤ N) {h k l : List Df} (hh : h.length < N) (hk : k.length < N) (Hh : HOkk h) (Hk : HOkk k) (hl : IsHis (fun t => amt (rowsAt h t)) l) (one : ∀ d ∈ h, ∀ e ∈ k, e.1.length = d.1.length) :
    ∃ s, D_keep_standing N (h, k, ()) = some (s, true, ()) ∧ s.map Prod.fst = l.map Prod.fst ∧ ∀ e ∈ s, IsBag (amt (stL k e.1)) e.2 := by
  have hh64 := Hh.len
  obtain ⟨l', e, h1, h2⟩ := dTidy_eq hN hh (by omega)
  rcases h2 with ⟨rfl, -, i1, O1⟩ | ⟨-, hno, -⟩
  case inr => exact absurd Hh hno
  obtain rfl := i1.uniq hl
  have hl64 := O1.len
  simp only [D_keep_standing, keep_standing_3, h1, Option.bind_some, bne_self_eq_false, cond_false, joinD, loopE]
  obtain ⟨st, ⟨o, rfl, g1, g2⟩, hs⟩ := loopD_inv (N := N) (g := fun (s : Int × List Df) kn => keep_standing_2 N (fun s => keep_standing_1 N s) k l' (l'.length : Int) s.1 s.2 (backE (k, l', (l'.length : Int)) kn)) (k := fun s => some (s.2, true, ())) l'.length
    (fun i s => ∃ o : List Df, s = ((i : Int), o) ∧ o.map Prod.fst = (l'.take i).map Prod.fst ∧ ∀ e ∈ o, IsBag (amt (stL k e.1)) e.2)
    (fun i s hi hI => by
      obtain ⟨o, rfl, g1, g2⟩ := hI
      have hd := nth_mem (z := zd) hi
      obtain ⟨x, hx, ex⟩ := i1.times _ hd
      obtain ⟨out, a1, a2, a3⟩ := At_ok hN Hk (O1.tok hd) (fun e he => by rw [one x hx e he, ex]) hk
      have hol : o.length = i := by
        have := congrArg List.length g1
        simp only [List.length_map, List.length_take] at this
        omega
      refine ⟨_, ⟨o ++ [((nth zd l' i).1, out)], rfl, ?_, fun e he => ?_⟩, fun kn => ?_⟩
      · rw [take_nd hi, List.map_append, List.map_append, g1]; rfl
      · rcases List.mem_append.1 he with he | he
        · exact g2 e he
        · rw [List.mem_singleton] at he; subst he; exact a2
      · simp only [keep_standing_2, lt_d hi, ge0_d, Bool.and_self, cond_true, Int.toNat_natCast, a1, Option.bind_some, bne_self_eq_false, cond_false, backE_eq, ix1 hi (show l'.length ≤ 4611686018427387904 by omega)]
        rw [d_true (by simp only [List.length_singleton]; omega), show Nat.ble 1 48 = true from rfl, Bool.and_self, cond_true]
        rfl)
    (fun s hI kn => by
      obtain ⟨o, rfl, _⟩ := hI
      simp only [keep_standing_2, lt_self, cond_false, keep_standing_1])
    (by omega) (s := (0, [])) ⟨[], rfl, rfl, fun e he => by cases he⟩
  rw [List.take_length] at g1
  exact ⟨o, hs, g1, g2⟩
end Go.Proofs.Ytnieamciihdfpaa
