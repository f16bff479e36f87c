import Derived.Test.YtnieamciihdfpaaHisB
import Derived.Test.YtnieamciihdfpaaHisT
namespace Go.Proofs.Ytnieamciihdfpaa
open Go.Abs Go.Bag Go.His
def ovr (a b : List Int) : List Int := List.zipWith (fun x y => if y > x then y else x) a b
def mee (a b : List Int) : List Int := List.zipWith (fun x y => if y < x then y else x) a b
theorem ovr_len {a b : List Int} (h : a.length = b.length) : (ovr a b).length = a.length := by unfold ovr; rw [List.length_zipWith]; omega
theorem mee_len {a b : List Int} (h : a.length = b.length) : (mee a b).length = a.length := by unfold mee; rw [List.length_zipWith]; omega
theorem ovr_nth {a b : List Int} (h : a.length = b.length) {i : Nat} (hi : i < a.length) : nth 0 (ovr a b) i = if nth 0 b i > nth 0 a i then nth 0 b i else nth 0 a i := by
  rw [nth_lt (by rw [ovr_len h]; exact hi), nth_lt hi, nth_lt (by omega)]
  unfold ovr
  rw [List.getElem_zipWith]
theorem mee_nth {a b : List Int} (h : a.length = b.length) {i : Nat} (hi : i < a.length) : nth 0 (mee a b) i = if nth 0 b i < nth 0 a i then nth 0 b i else nth 0 a i := by
  rw [nth_lt (by rw [mee_len h]; exact hi), nth_lt hi, nth_lt (by omega)]
  unfold mee
  rw [List.getElem_zipWith]
theorem undr_ovr {a b c : List Int} (h : a.length = b.length) (h' : a.length = c.length) : undr (ovr a b) c = true ↔ undr a c = true ∧ undr b c = true := by
  rw [undr_iff (by rw [ovr_len h]; exact h'), undr_iff h', undr_iff (by omega), ovr_len h]
  constructor
  · intro H
    refine ⟨fun i hi => ?_, fun i hi => ?_⟩
    · have := H i hi
      rw [ovr_nth h hi] at this
      split at this <;> omega
    · have := H i (by omega)
      rw [ovr_nth h (by omega)] at this
      split at this <;> omega
  · rintro ⟨H1, H2⟩ i hi
    have := H1 i hi
    have := H2 i (by omega)
    rw [ovr_nth h hi]
    split <;> omega
theorem undr_mee {a b c : List Int} (h : a.length = b.length) (h' : c.length = a.length) : undr c (mee a b) = true ↔ undr c a = true ∧ undr c b = true := by
  rw [undr_iff (by rw [mee_len h]; exact h'), undr_iff h', undr_iff (by omega)]
  constructor
  · intro H
    refine ⟨fun i hi => ?_, fun i hi => ?_⟩
    · have := H i hi
      rw [mee_nth h (by omega)] at this
      split at this <;> omega
    · have := H i hi
      rw [mee_nth h (by omega)] at this
      split at this <;> omega
  · rintro ⟨H1, H2⟩ i hi
    have := H1 i hi
    have := H2 i hi
    rw [mee_nth h (by omega)]
    split <;> omega
theorem tok_iff {t : List Int} : tok t = true ↔ (1 ≤ t.length ∧ t.length ≤ 4) ∧ ∀ i, i < t.length → 0 ≤ nth 0 t i ∧ nth 0 t i ≤ 1048576 := by
  have hall : (t.all fun x => decide (0 ≤ x) && decide (x ≤ 1048576)) = true ↔ ∀ i, i < t.length → 0 ≤ nth 0 t i ∧ nth 0 t i ≤ 1048576 := by
    rw [List.all_eq_true]
    constructor
    · intro h i hi
      simpa using h _ (nth_mem (z := 0) hi)
    · intro h x hx
      obtain ⟨i, hi, rfl⟩ := mem_nth (z := (0 : Int)) hx
      simpa using h i hi
  rw [← hall]; simp [tok]
theorem tok_ovr {a b : List Int} (h : a.length = b.length) (ha : tok a = true) (hb : tok b = true) : tok (ovr a b) = true := by
  rw [tok_iff] at ha hb ⊢
  rw [ovr_len h]
  refine ⟨ha.1, fun i hi => ?_⟩
  rw [ovr_nth h hi]
  have := ha.2 i hi
  have := hb.2 i (by omega)
  split <;> omega
theorem tok_mee {a b : List Int} (h : a.length = b.length) (ha : tok a = true) (hb : tok b = true) : tok (mee a b) = true := by
  rw [tok_iff] at ha hb ⊢
  rw [mee_len h]
  refine ⟨ha.1, fun i hi => ?_⟩
  rw [mee_nth h hi]
  have := ha.2 i hi
  have := hb.2 i (by omega)
  split <;> omega
def advL (t : List Int) (us : List (List Int)) (a : List Int) : List Int := us.foldl (fun acc v => mee acc (ovr t v)) a
def adv (f : List (List Int)) (t : List Int) : List Int :=
  match f with
  | [] => t
  | u :: us => advL t us (ovr t u)
theorem advL_spec {t : List Int} : ∀ (us : List (List Int)) (a : List Int), a.length = t.length → (∀ v ∈ us, v.length = t.length) →
    (advL t us a).length = t.length ∧ (∀ c : List Int, c.length = t.length → (undr c (advL t us a) = true ↔ undr c a = true ∧ ∀ v ∈ us, undr c (ovr t v) = true)) ∧ (tok t = true → tok a = true → (∀ v ∈ us, tok v = true) → tok (advL t us a) = true)
  | [], a, ha, _ => ⟨ha, fun c _ => by simp [advL], fun _ h _ => h⟩
  | v :: us, a, ha, hv => by
    have hv0 : t.length = v.length := (hv v (by simp)).symm
    have hl : a.length = (ovr t v).length := by rw [ovr_len hv0, ha]
    obtain ⟨h1, h2, h3⟩ := advL_spec (t := t) us (mee a (ovr t v)) (by rw [mee_len hl, ha]) fun x hx => hv x (by simp [hx])
    refine ⟨h1, fun c hc => ?_, fun ht ha' hvt => h3 ht (tok_mee hl ha' (tok_ovr hv0 ht (hvt v (by simp)))) fun x hx => hvt x (by simp [hx])⟩
    have := h2 c hc
    rw [undr_mee hl (by omega)] at this
    simp only [List.forall_mem_cons]
    exact this.trans ⟨fun ⟨⟨p, q⟩, r⟩ => ⟨p, q, r⟩, fun ⟨p, q, r⟩ => ⟨⟨p, q⟩, r⟩⟩
structure Frt (f : List (List Int)) (k : Nat) : Prop where
  ne : f ≠ []
  one : ∀ u ∈ f, u.length = k
theorem adv_len {f : List (List Int)} {t : List Int} (hf : Frt f t.length) : (adv f t).length = t.length := by
  cases f with
  | nil => exact absurd rfl hf.ne
  | cons u us => exact (advL_spec us _ (ovr_len (hf.one u (by simp)).symm) fun v hv => hf.one v (by simp [hv])).1
theorem adv_tok {f : List (List Int)} {t : List Int} (hf : Frt f t.length) (ht : tok t = true) (hft : ∀ u ∈ f, tok u = true) : tok (adv f t) = true := by
  cases f with
  | nil => exact ht
  | cons u us =>
    refine (advL_spec us _ (ovr_len (hf.one u (by simp)).symm) fun v hv => hf.one v (by simp [hv])).2.2 ht (tok_ovr (hf.one u (by simp)).symm ht (hft u (by simp))) fun v hv => hft v (by simp [hv])
theorem le_ovr {a b : List Int} (h : a.length = b.length) : undr a (ovr a b) = true ∧ undr b (ovr a b) = true := (undr_ovr h (by rw [ovr_len h])).1 (undr_refl _)
theorem Over_eq {N : Nat} (hN : 1000 ≤ N) {a b : List Int} (h : a.length = b.length) (h4 : a.length ≤ 4) : D_times_zip_int_times_greater N (a, b, (), ()) = some (ovr a b) := by
  simp only [D_times_zip_int_times_greater, times_zip_int_times_greater_3]
  rw [d_true (show (0 : Int) ≤ (a.length : Int) by omega), d_true (show (a.length : Int) ≤ (a.length : Int) by omega), d_true (show (a.length : Int) * 8 ≤ 281474976710656 by omega), Bool.and_self, Bool.and_self, cond_true]
  simp only [joinD, loopE, Int.toNat_natCast]
  obtain ⟨s, ⟨l, rfl, hl, hp⟩, hs⟩ := loopD_inv (N := N) (g := fun (s : Int × List Int) kn => times_zip_int_times_greater_2 N (fun s => times_zip_int_times_greater_1 N s) a b (a.length : Int) s.1 s.2 (backE (a, b, (a.length : Int)) kn)) (k := fun s => some s.2) a.length
    (fun i s => ∃ l : List Int, s = ((i : Int), l) ∧ l.length = a.length ∧ ∀ j, j < i → nth 0 l j = nth 0 (ovr a b) j)
    (fun i s hi hI => by
      obtain ⟨l, rfl, hl, hp⟩ := hI
      refine ⟨(((i + 1 : Nat) : Int), l.set i (nth 0 (ovr a b) i)), ⟨_, rfl, by simpa using hl, fun j hj => ?_⟩, fun kn => ?_⟩
      · rw [nth_set (by omega)]
        split
        · rename_i e; rw [e]
        · exact hp j (by omega)
      · simp only [times_zip_int_times_greater_2, lt_d hi, ge0_d, lt_d (show i < b.length by omega), lt_d (show i < l.length by omega), Bool.and_self, cond_true, Int.toNat_natCast, D_times_greater, times_greater_1, Option.bind_some, backE_eq, ix1 hi (show a.length ≤ 4611686018427387904 by omega), ovr_nth h hi]
        rfl)
    (fun s hI kn => by
      obtain ⟨l, rfl, _⟩ := hI
      simp only [times_zip_int_times_greater_2, lt_self, cond_false, times_zip_int_times_greater_1])
    (by omega) (s := (0, List.replicate a.length 0)) ⟨_, rfl, by simp, fun j hj => by omega⟩
  rw [hs]
  congr 1
  apply List.ext_getElem (by rw [hl, ovr_len h])
  intro i h1 h2
  have h1' : i < l.length := h1
  have := hp i (by omega)
  rwa [nth_lt h1, nth_lt h2] at this
theorem Ovr_eq {N : Nat} (hN : 1000 ≤ N) {a b : List Int} (h : a.length = b.length) (h4 : a.length ≤ 4) : D_times_Over N (a, b, ()) = some (ovr a b) := by
  simp only [D_times_Over, times_Over_1, Over_eq hN h h4, Option.bind_some]
def alk (a b : List Int) : Bool := decide (a.length = b.length) && (tok a && tok b)
def leqT (a b : List Int) : Bool := alk a b && undr a b
theorem RCheck_eq {N : Nat} (hN : 1000 ≤ N) (t : List Int) : ∃ e, D_ref_TimesCheck N (t, ()) = some (e, ()) ∧ (e = 0 ↔ tok t = true) := by
  simp only [D_ref_TimesCheck, ref_TimesCheck_3]
  by_cases h0 : t.length = 0
  · exact ⟨1, by rw [d_true (show (t.length : Int) < 1 by omega), cond_true], by simp [tok, h0]⟩
  rw [d_false (show ¬ (t.length : Int) < 1 by omega), cond_false]
  by_cases h4 : 4 < t.length
  · exact ⟨1, by rw [d_true (by omega), cond_true], by simp [tok]; omega⟩
  rw [d_false (by omega), cond_false]
  simp only [joinD, loopE]
  have hbody : ∀ i, i < t.length → ∀ kn, ref_TimesCheck_2 N (fun _ => ref_TimesCheck_1 N) t (t.length : Int) (i : Int) (backE (t, (t.length : Int)) kn) = if 0 ≤ nth 0 t i ∧ nth 0 t i ≤ 1048576 then kn ((i : Int) + 1) else some (2, ()) := fun i hi kn => by
    simp only [ref_TimesCheck_2, lt_d hi, ge0_d, Bool.and_self, cond_true, Int.toNat_natCast, backE_eq, ix1 hi (show t.length ≤ 4611686018427387904 by omega)]
    by_cases q1 : nth 0 t i < 0
    · rw [d_true q1, cond_true, if_neg (by omega)]
    · rw [d_false q1, cond_false]
      by_cases q2 : nth 0 t i > 1048576
      · rw [d_true q2, cond_true, if_neg (by omega)]
      · rw [d_false q2, cond_false, if_pos (by omega)]
  have htok : tok t = true ↔ ∀ i, i < t.length → 0 ≤ nth 0 t i ∧ nth 0 t i ≤ 1048576 := by
    rw [tok_iff]; exact ⟨fun h => h.2, fun h => ⟨by omega, h⟩⟩
  by_cases hg : ∀ i, i < t.length → 0 ≤ nth 0 t i ∧ nth 0 t i ≤ 1048576
  · refine ⟨0, loopD_pass (n := t.length) (by omega) (fun i hi kn => by rw [hbody i hi, if_pos (hg i hi)]) (fun kn => by simp only [ref_TimesCheck_2, lt_self, cond_false, ref_TimesCheck_1]) (by omega), by rw [htok]; exact ⟨fun _ => hg, fun _ => rfl⟩⟩
  · refine ⟨2, loopD_hit (n := t.length) (by omega) (fun i => ¬ (0 ≤ nth 0 t i ∧ nth 0 t i ≤ 1048576)) (fun i hi hb kn => by rw [hbody i hi, if_neg hb]) (fun i hi hb kn => by rw [hbody i hi, if_pos (Classical.not_not.1 hb)]) (by omega) ?_, by rw [htok]; exact ⟨fun h => absurd h (by decide), fun h => absurd h hg⟩⟩
    exact Classical.byContradiction fun hn => hg fun i hi => Classical.byContradiction fun hb => hn ⟨i, hi, hb⟩
theorem RLeq_eq {N : Nat} (hN : 1000 ≤ N) (a b : List Int) : D_ref_TimesLeq N (a, b, ()) = some (leqT a b, ()) := by
  obtain ⟨e, e1, e2⟩ := RCheck_eq hN a
  obtain ⟨f, f1, f2⟩ := RCheck_eq hN b
  simp only [D_ref_TimesLeq, ref_TimesLeq_3, e1, f1, Option.bind_some]
  by_cases hl : a.length = b.length
  case neg => rw [show ((a.length : Int) != (b.length : Int)) = true from bne_iff_ne.2 (by omega), cond_true]; simp [leqT, alk, hl]
  rw [show ((a.length : Int) != (b.length : Int)) = false by rw [hl]; exact bne_self_eq_false _, cond_false]
  by_cases ha : tok a = true
  case neg => rw [bne_iff_ne.2 fun h => ha (e2.1 h), cond_true]; simp [leqT, alk, ha]
  obtain rfl := e2.2 ha
  rw [bne_self_eq_false, cond_false]
  by_cases hb : tok b = true
  case neg => rw [bne_iff_ne.2 fun h => hb (f2.1 h), cond_true]; simp [leqT, alk, hb]
  obtain rfl := f2.2 hb
  rw [bne_self_eq_false, cond_false]
  have hu := undr_iff hl
  have ht := tok_len ha
  have hle : leqT a b = undr a b := by simp [leqT, alk, hl, ha, hb]
  rw [hle]
  simp only [joinD, loopE]
  have hbody : ∀ i, i < a.length → ∀ kn, ref_TimesLeq_2 N (fun _ => ref_TimesLeq_1 N) a b (i : Int) (backE (a, b) kn) = if nth 0 a i ≤ nth 0 b i then kn ((i : Int) + 1) else some (false, ()) := fun i hi kn => by
    simp only [ref_TimesLeq_2, lt_d hi, lt_d (show i < b.length by omega), ge0_d, Bool.and_self, cond_true, Int.toNat_natCast, backE_eq, ix1 hi (show a.length ≤ 4611686018427387904 by omega)]
    by_cases q : nth 0 a i ≤ nth 0 b i
    · rw [d_false (by omega), cond_false, if_pos q]
    · rw [d_true (by omega), cond_true, if_neg q]
  by_cases hg : ∀ i, i < a.length → nth 0 a i ≤ nth 0 b i
  · rw [hu.2 hg]
    exact loopD_pass (n := a.length) (by omega) (fun i hi kn => by rw [hbody i hi, if_pos (hg i hi)]) (fun kn => by simp only [ref_TimesLeq_2, lt_self, cond_false, ref_TimesLeq_1]) (by omega)
  · rw [Bool.eq_false_iff.2 fun h => hg (hu.1 h)]
    refine loopD_hit (n := a.length) (by omega) (fun i => ¬ nth 0 a i ≤ nth 0 b i) (fun i hi hb kn => by rw [hbody i hi, if_neg hb]) (fun i hi hb kn => by rw [hbody i hi, if_pos (Classical.not_not.1 hb)]) (by omega) ?_
    exact Classical.byContradiction fun hn => hg fun i hi => Classical.byContradiction fun hb => hn ⟨i, hi, hb⟩
structure AdvOk (h : List Df) (f : List (List Int)) : Prop where
  his : HOkk h
  frt : TL f
  ne : f ≠ []
  one : ∀ d ∈ h, ∀ u ∈ f, u.length = d.1.length
theorem AdvOk.fr {h : List Df} {f : List (List Int)} (H : AdvOk h f) {d : Df} (hd : d ∈ h) : Frt f d.1.length := ⟨H.ne, H.one d hd⟩
def advD (f : List (List Int)) (h : List Df) : List Df := h.map fun d => (adv f d.1, d.2)
theorem AdvOk.okk {h : List Df} {f : List (List Int)} (H : AdvOk h f) : HOkk (advD f h) := by
  have hr := H.his.rows
  have hl := H.his.len
  refine ⟨by simpa [advD] using hl, by unfold cntR advD at *; rw [List.map_map]; exact hr, ⟨by simpa [advD] using hl, fun t ht => ?_, fun t ht => ?_⟩⟩
  · unfold advD at ht
    rw [List.map_map] at ht
    obtain ⟨d, hd, rfl⟩ := List.mem_map.1 ht
    exact adv_tok (H.fr hd) (H.his.tok hd) H.frt.tok
  · unfold advD at ht ⊢
    rw [List.map_map] at ht ⊢
    obtain ⟨d, hd, rfl⟩ := List.mem_map.1 ht
    have h0 : 0 < h.length := List.length_pos_of_mem hd
    have hm := nth_mem (z := ([] : List Int)) (xs := h.map (Prod.fst ∘ fun d : Df => (adv f d.1, d.2))) (i := 0) (by simpa using h0)
    obtain ⟨d0, hd0, e0⟩ := List.mem_map.1 hm
    rw [← e0]
    show (adv f d.1).length = (adv f d0.1).length
    rw [adv_len (H.fr hd), adv_len (H.fr hd0)]
    exact H.his.one hd hd0
end Go.Proofs.Ytnieamciihdfpaa
