/- Histories behind a front. -/
import Derived.Test.YtnieamciihdfpaaHisB
import Derived.Test.YtnieamciihdfpaaHisT
namespace Go.Proofs.Ytnieamciihdfpaa
open Go.Abs Go.Bag Go.His
/-- The greater numbers, the lesser ones. -/
def ovr (a b : List Int) : List Int := List.zipWith (fun x y => if y > x then y else x) a b
def mee (a b : List Int) : List Int := List.zipWith (fun x y => if y < x then y else x) a b
theorem ovr_len {a b : List Int} (h : a.length = b.length) : (ovr a b).length = a.length := by unfold ovr; rw [List.length_zipWith]; omega
theorem mee_len {a b : List Int} (h : a.length = b.length) : (mee a b).length = a.length := by unfold mee; rw [List.length_zipWith]; omega
theorem ovr_nth {a b : List Int} (h : a.length = b.length) {i : Nat} (hi : i < a.length) : nth 0 (ovr a b) i = if nth 0 b i > nth 0 a i then nth 0 b i else nth 0 a i := by
  rw [nth_lt (by rw [ovr_len h]; exact hi), nth_lt hi, nth_lt (by omega)]
  unfold ovr
  rw [List.getElem_zipWith]
theorem mee_nth {a b : List Int} (h : a.length = b.length) {i : Nat} (hi : i < a.length) : nth 0 (mee a b) i = if nth 0 b i < nth 0 a i then nth 0 b i else nth 0 a i := by
  rw [nth_lt (by rw [mee_len h]; exact hi), nth_lt hi, nth_lt (by omega)]
  unfold mee
  rw [List.getElem_zipWith]
theorem undr_ovr {a b c : List Int} (h : a.length = b.length) (h' : a.length = c.length) : undr (ovr a b) c = true ↔ undr a c = true ∧ undr b c = true := by
  rw [undr_iff (by rw [ovr_len h]; exact h'), undr_iff h', undr_iff (by omega), ovr_len h]
  constructor
  · intro H
    refine ⟨fun i hi => ?_, fun i hi => ?_⟩
    · have := H i hi
      rw [ovr_nth h hi] at this
      split at this <;> omega
    · have := H i (by omega)
      rw [ovr_nth h (by omega)] at this
      split at this <;> omega
  · rintro ⟨H1, H2⟩ i hi
    have := H1 i hi
    have := H2 i (by omega)
    rw [ovr_nth h hi]
    split <;> omega
theorem undr_mee {a b c : List Int} (h : a.length = b.length) (h' : c.length = a.length) : undr c (mee a b) = true ↔ undr c a = true ∧ undr c b = true := by
  rw [undr_iff (by rw [mee_len h]; exact h'), undr_iff h', undr_iff (by omega)]
  constructor
  · intro H
    refine ⟨fun i hi => ?_, fun i hi => ?_⟩
    · have := H i hi
      rw [mee_nth h (by omega)] at this
      split at this <;> omega
    · have := H i hi
      rw [mee_nth h (by omega)] at this
      split at this <;> omega
  · rintro ⟨H1, H2⟩ i hi
    have := H1 i hi
    have := H2 i hi
    rw [mee_nth h (by omega)]
    split <;> omega
theorem tok_iff {t : List Int} : tok t = true ↔ (1 ≤ t.length ∧ t.length ≤ 4) ∧ ∀ i, i < t.length → 0 ≤ nth 0 t i ∧ nth 0 t i ≤ 1048576 := by
  have hall : (t.all fun x => decide (0 ≤ x) && decide (x ≤ 1048576)) = true ↔ ∀ i, i < t.length → 0 ≤ nth 0 t i ∧ nth 0 t i ≤ 1048576 := by
    rw [List.all_eq_true]
    constructor
    · intro h i hi
      simpa using h _ (nth_mem (z := 0) hi)
    · intro h x hx
      obtain ⟨i, hi, rfl⟩ := mem_nth (z := (0 : Int)) hx
      simpa using h i hi
  rw [← hall]; simp [tok]
theorem tok_ovr {a b : List Int} (h : a.length = b.length) (ha : tok a = true) (hb : tok b = true) : tok (ovr a b) = true := by
  rw [tok_iff] at ha hb ⊢
  rw [ovr_len h]
  refine ⟨ha.1, fun i hi => ?_⟩
  rw [ovr_nth h hi]
  have := ha.2 i hi
  have := hb.2 i (by omega)
  split <;> omega
theorem tok_mee {a b : List Int} (h : a.length = b.length) (ha : tok a = true) (hb : tok b = true) : tok (mee a b) = true := by
  rw [tok_iff] at ha hb ⊢
  rw [mee_len h]
  refine ⟨ha.1, fun i hi => ?_⟩
  rw [mee_nth h hi]
  have := ha.2 i hi
  have := hb.2 i (by omega)
  split <;> omega
/-- A time behind a front. -/
def advL (t : List Int) (us : List (List Int)) (a : List Int) : List Int := us.foldl (fun acc v => mee acc (ovr t v)) a
def adv (f : List (List Int)) (t : List Int) : List Int :=
  match f with
  | [] => t
  | u :: us => advL t us (ovr t u)
theorem advL_spec {t : List Int} : ∀ (us : List (List Int)) (a : List Int), a.length = t.length → (∀ v ∈ us, v.length = t.length) →
    (advL t us a).length = t.length ∧ (∀ c : List Int, c.length = t.length → (undr c (advL t us a) = true ↔ undr c a = true ∧ ∀ v ∈ us, undr c (ovr t v) = true)) ∧ (tok t = true → tok a = true → (∀ v ∈ us, tok v = true) → tok (advL t us a) = true)
  | [], a, ha, _ => ⟨ha, fun c _ => by simp [advL], fun _ h _ => h⟩
  | v :: us, a, ha, hv => by
    have hv0 : t.length = v.length := (hv v (by simp)).symm
    have hl : a.length = (ovr t v).length := by rw [ovr_len hv0, ha]
    obtain ⟨h1, h2, h3⟩ := advL_spec (t := t) us (mee a (ovr t v)) (by rw [mee_len hl, ha]) fun x hx => hv x (by simp [hx])
    refine ⟨h1, fun c hc => ?_, fun ht ha' hvt => h3 ht (tok_mee hl ha' (tok_ovr hv0 ht (hvt v (by simp)))) fun x hx => hvt x (by simp [hx])⟩
    have := h2 c hc
    rw [undr_mee hl (by omega)] at this
    simp only [List.forall_mem_cons]
    exact this.trans ⟨fun ⟨⟨p, q⟩, r⟩ => ⟨p, q, r⟩, fun ⟨p, q, r⟩ => ⟨⟨p, q⟩, r⟩⟩
structure Frt (f : List (List Int)) (k : Nat) : Prop where
  ne : f ≠ []
  one : ∀ u ∈ f, u.length = k
theorem adv_len {f : List (List Int)} {t : List Int} (hf : Frt f t.length) : (adv f t).length = t.length := by
  cases f with
  | nil => exact absurd rfl hf.ne
  | cons u us => exact (advL_spec us _ (ovr_len (hf.one u (by simp)).symm) fun v hv => hf.one v (by simp [hv])).1
theorem adv_univ {f : List (List Int)} {t : List Int} (hf : Frt f t.length) {c : List Int} (hc : c.length = t.length) : undr c (adv f t) = true ↔ ∀ u ∈ f, undr c (ovr t u) = true := by
  cases f with
  | nil => exact absurd rfl hf.ne
  | cons u us => rw [List.forall_mem_cons]; exact (advL_spec us _ (ovr_len (hf.one u (by simp)).symm) fun v hv => hf.one v (by simp [hv])).2.1 c hc
theorem adv_tok {f : List (List Int)} {t : List Int} (hf : Frt f t.length) (ht : tok t = true) (hft : ∀ u ∈ f, tok u = true) : tok (adv f t) = true := by
  cases f with
  | nil => exact ht
  | cons u us =>
    refine (advL_spec us _ (ovr_len (hf.one u (by simp)).symm) fun v hv => hf.one v (by simp [hv])).2.2 ht (tok_ovr (hf.one u (by simp)).symm ht (hft u (by simp))) fun v hv => hft v (by simp [hv])
theorem le_ovr {a b : List Int} (h : a.length = b.length) : undr a (ovr a b) = true ∧ undr b (ovr a b) = true := (undr_ovr h (by rw [ovr_len h])).1 (undr_refl _)
theorem le_adv {f : List (List Int)} {t : List Int} (hf : Frt f t.length) : undr t (adv f t) = true := (adv_univ hf rfl).2 fun u hu => (le_ovr (hf.one u hu).symm).1
theorem adv_le {f : List (List Int)} {t : List Int} (hf : Frt f t.length) {u : List Int} (hu : u ∈ f) : undr (adv f t) (ovr t u) = true := (adv_univ hf (adv_len hf)).1 (undr_refl _) u hu
theorem adv_mono {f : List (List Int)} {t s : List Int} (hf : Frt f t.length) (hs : s.length = t.length) (h : ∀ u ∈ f, undr t (ovr s u) = true) : undr (adv f t) (adv f s) = true := by
  have hfs : Frt f s.length := by rw [hs]; exact hf
  refine (adv_univ hfs (by rw [adv_len hf, hs])).2 fun u hu => ?_
  have hu' := hf.one u hu
  refine undr_trans (adv_le hf hu) ((undr_ovr hu'.symm (by rw [ovr_len (by omega)]; omega)).2 ⟨h u hu, (le_ovr (by omega)).2⟩)
/-- It makes two times one just if no open time can tell them apart. -/
theorem adv_eq {f : List (List Int)} {t s : List Int} (hf : Frt f t.length) (hs : s.length = t.length) : adv f t = adv f s ↔ ∀ u ∈ f, undr t (ovr s u) = true ∧ undr s (ovr t u) = true := by
  have hfs : Frt f s.length := by rw [hs]; exact hf
  constructor
  · intro e u hu
    exact ⟨undr_trans (le_adv hf) (e ▸ adv_le hfs hu), undr_trans (le_adv hfs) (e ▸ adv_le hf hu)⟩
  · intro h
    exact undr_anti (by rw [adv_len hf, adv_len hfs, hs]) (adv_mono hf hs fun u hu => (h u hu).1) (adv_mono hfs hs.symm fun u hu => (h u hu).2)
theorem adv_twice {f : List (List Int)} {t : List Int} (hf : Frt f t.length) : adv f (adv f t) = adv f t := by
  have hl := adv_len hf
  have hfa : Frt f (adv f t).length := by rw [hl]; exact hf
  refine (adv_eq hfa hl.symm).2 fun u hu => ⟨adv_le hf hu, ?_⟩
  exact undr_trans (le_adv hf) (le_ovr (by rw [hl]; exact (hf.one u hu).symm)).1
/-- An open time is behind a time just if it is behind it behind the front. -/
theorem adv_open {f : List (List Int)} {t x : List Int} (hf : Frt f t.length) (hx : x.length = t.length) (ho : ∃ u ∈ f, undr u x = true) : undr (adv f t) x = undr t x := by
  obtain ⟨u, hu, hux⟩ := ho
  rw [Bool.eq_iff_iff]
  exact ⟨fun h => undr_trans (le_adv hf) h, fun h => undr_trans (adv_le hf hu) ((undr_ovr (hf.one u hu).symm hx.symm).2 ⟨h, hux⟩)⟩
theorem Over_eq {N : Nat} (hN : 1000 ≤ N) {a b : List Int} (h : a.length = b.length) (h4 : a.length ≤ 4) : D_times_zip_int_times_greater N (a, b, (), ()) = some (ovr a b) := by
  simp only [D_times_zip_int_times_greater, times_zip_int_times_greater_3]
  rw [d_true (show (0 : Int) ≤ (a.length : Int) by omega), d_true (show (a.length : Int) ≤ (a.length : Int) by omega), d_true (show (a.length : Int) * 8 ≤ 281474976710656 by omega), Bool.and_self, Bool.and_self, cond_true]
  simp only [joinD, loopE, Int.toNat_natCast]
  obtain ⟨s, ⟨l, rfl, hl, hp⟩, hs⟩ := loopD_inv (N := N) (g := fun (s : Int × List Int) kn => times_zip_int_times_greater_2 N (fun s => times_zip_int_times_greater_1 N s) a b (a.length : Int) s.1 s.2 (backE (a, b, (a.length : Int)) kn)) (k := fun s => some s.2) a.length
    (fun i s => ∃ l : List Int, s = ((i : Int), l) ∧ l.length = a.length ∧ ∀ j, j < i → nth 0 l j = nth 0 (ovr a b) j)
    (fun i s hi hI => by
      obtain ⟨l, rfl, hl, hp⟩ := hI
      refine ⟨(((i + 1 : Nat) : Int), l.set i (nth 0 (ovr a b) i)), ⟨_, rfl, by simpa using hl, fun j hj => ?_⟩, fun kn => ?_⟩
      · rw [nth_set (by omega)]
        split
        · rename_i e; rw [e]
        · exact hp j (by omega)
      · simp only [times_zip_int_times_greater_2, lt_d hi, ge0_d, lt_d (show i < b.length by omega), lt_d (show i < l.length by omega), Bool.and_self, cond_true, Int.toNat_natCast, D_times_greater, times_greater_1, Option.bind_some, backE_eq, ix1 hi (show a.length ≤ 4611686018427387904 by omega), ovr_nth h hi]
        rfl)
    (fun s hI kn => by
      obtain ⟨l, rfl, _⟩ := hI
      simp only [times_zip_int_times_greater_2, lt_self, cond_false, times_zip_int_times_greater_1])
    (by omega) (s := (0, List.replicate a.length 0)) ⟨_, rfl, by simp, fun j hj => by omega⟩
  rw [hs]
  congr 1
  apply List.ext_getElem (by rw [hl, ovr_len h])
  intro i h1 h2
  have h1' : i < l.length := h1
  have := hp i (by omega)
  rwa [nth_lt h1, nth_lt h2] at this
theorem Ovr_eq {N : Nat} (hN : 1000 ≤ N) {a b : List Int} (h : a.length = b.length) (h4 : a.length ≤ 4) : D_times_Over N (a, b, ()) = some (ovr a b) := by
  simp only [D_times_Over, times_Over_1, Over_eq hN h h4, Option.bind_some]
theorem Lesser_eq {N : Nat} (hN : 1000 ≤ N) {a b : List Int} (h : a.length = b.length) (h4 : a.length ≤ 4) : D_times_zip_int_times_lesser N (a, b, (), ()) = some (mee a b) := by
  simp only [D_times_zip_int_times_lesser, times_zip_int_times_lesser_3]
  rw [d_true (show (0 : Int) ≤ (a.length : Int) by omega), d_true (show (a.length : Int) ≤ (a.length : Int) by omega), d_true (show (a.length : Int) * 8 ≤ 281474976710656 by omega), Bool.and_self, Bool.and_self, cond_true]
  simp only [joinD, loopE, Int.toNat_natCast]
  obtain ⟨s, ⟨l, rfl, hl, hp⟩, hs⟩ := loopD_inv (N := N) (g := fun (s : Int × List Int) kn => times_zip_int_times_lesser_2 N (fun s => times_zip_int_times_lesser_1 N s) a b (a.length : Int) s.1 s.2 (backE (a, b, (a.length : Int)) kn)) (k := fun s => some s.2) a.length
    (fun i s => ∃ l : List Int, s = ((i : Int), l) ∧ l.length = a.length ∧ ∀ j, j < i → nth 0 l j = nth 0 (mee a b) j)
    (fun i s hi hI => by
      obtain ⟨l, rfl, hl, hp⟩ := hI
      refine ⟨(((i + 1 : Nat) : Int), l.set i (nth 0 (mee a b) i)), ⟨_, rfl, by simpa using hl, fun j hj => ?_⟩, fun kn => ?_⟩
      · rw [nth_set (by omega)]
        split
        · rename_i e; rw [e]
        · exact hp j (by omega)
      · simp only [times_zip_int_times_lesser_2, lt_d hi, ge0_d, lt_d (show i < b.length by omega), lt_d (show i < l.length by omega), Bool.and_self, cond_true, Int.toNat_natCast, D_times_lesser, times_lesser_1, Option.bind_some, backE_eq, ix1 hi (show a.length ≤ 4611686018427387904 by omega), mee_nth h hi]
        rfl)
    (fun s hI kn => by
      obtain ⟨l, rfl, _⟩ := hI
      simp only [times_zip_int_times_lesser_2, lt_self, cond_false, times_zip_int_times_lesser_1])
    (by omega) (s := (0, List.replicate a.length 0)) ⟨_, rfl, by simp, fun j hj => by omega⟩
  rw [hs]
  congr 1
  apply List.ext_getElem (by rw [hl, mee_len h])
  intro i h1 h2
  have h1' : i < l.length := h1
  have := hp i (by omega)
  rwa [nth_lt h1, nth_lt h2] at this
theorem Meet_eq {N : Nat} (hN : 1000 ≤ N) {a b : List Int} (h : a.length = b.length) (ha : tok a = true) (hb : tok b = true) : D_times_Meet N (a, b, ()) = some (mee a b, 0, ()) := by
  obtain ⟨e, e1, e2⟩ := Check_eq hN a
  obtain ⟨f, f1, f2⟩ := Check_eq hN b
  obtain rfl := e2.2 ha
  obtain rfl := f2.2 hb
  have w0 : IntKind.i64.wrap ((0 : Int) + 1) = 1 := by decide
  have w1 : IntKind.i64.wrap ((1 : Int) + 1) = 2 := by decide
  obtain ⟨M, rfl⟩ : ∃ M, N = M + 3 := ⟨N - 3, by omega⟩
  simp only [D_times_Meet, times_Meet_1, D_times_pair_times_lesser, times_pair_times_lesser_3, joinD, loopE]
  simp only [loopD_s, times_pair_times_lesser_2, show decide ((0 : Int) < 2) = true from rfl, show decide ((1 : Int) < 2) = true from rfl, show decide ((2 : Int) < 2) = false from rfl, show ((0 : Int) == ((0 : Nat) : Int)) = true from rfl, show ((1 : Int) == ((0 : Nat) : Int)) = false from rfl, show ((1 : Int) == ((1 : Nat) : Int)) = true from rfl, cond_true, cond_false, e1, f1, Option.bind_some, bne_self_eq_false, backE_eq, w0, w1, times_pair_times_lesser_1]
  rw [show ((a.length : Int) != (b.length : Int)) = false by rw [h]; exact bne_self_eq_false _, cond_false, Lesser_eq (by omega) h (tok_len ha).2]
  rfl
def alk (a b : List Int) : Bool := decide (a.length = b.length) && (tok a && tok b)
def leqT (a b : List Int) : Bool := alk a b && undr a b
theorem alk_iff {a b : List Int} : alk a b = true ↔ a.length = b.length ∧ tok a = true ∧ tok b = true := by simp [alk]
theorem RCheck_eq {N : Nat} (hN : 1000 ≤ N) (t : List Int) : ∃ e, D_ref_TimesCheck N (t, ()) = some (e, ()) ∧ (e = 0 ↔ tok t = true) := by
  simp only [D_ref_TimesCheck, ref_TimesCheck_3]
  by_cases h0 : t.length = 0
  · exact ⟨1, by rw [d_true (show (t.length : Int) < 1 by omega), cond_true], by simp [tok, h0]⟩
  rw [d_false (show ¬ (t.length : Int) < 1 by omega), cond_false]
  by_cases h4 : 4 < t.length
  · exact ⟨1, by rw [d_true (by omega), cond_true], by simp [tok]; omega⟩
  rw [d_false (by omega), cond_false]
  simp only [joinD, loopE]
  have hbody : ∀ i, i < t.length → ∀ kn, ref_TimesCheck_2 N (fun _ => ref_TimesCheck_1 N) t (t.length : Int) (i : Int) (backE (t, (t.length : Int)) kn) = if 0 ≤ nth 0 t i ∧ nth 0 t i ≤ 1048576 then kn ((i : Int) + 1) else some (2, ()) := fun i hi kn => by
    simp only [ref_TimesCheck_2, lt_d hi, ge0_d, Bool.and_self, cond_true, Int.toNat_natCast, backE_eq, ix1 hi (show t.length ≤ 4611686018427387904 by omega)]
    by_cases q1 : nth 0 t i < 0
    · rw [d_true q1, cond_true, if_neg (by omega)]
    · rw [d_false q1, cond_false]
      by_cases q2 : nth 0 t i > 1048576
      · rw [d_true q2, cond_true, if_neg (by omega)]
      · rw [d_false q2, cond_false, if_pos (by omega)]
  have htok : tok t = true ↔ ∀ i, i < t.length → 0 ≤ nth 0 t i ∧ nth 0 t i ≤ 1048576 := by
    rw [tok_iff]; exact ⟨fun h => h.2, fun h => ⟨by omega, h⟩⟩
  by_cases hg : ∀ i, i < t.length → 0 ≤ nth 0 t i ∧ nth 0 t i ≤ 1048576
  · refine ⟨0, loopD_pass (n := t.length) (by omega) (fun i hi kn => by rw [hbody i hi, if_pos (hg i hi)]) (fun kn => by simp only [ref_TimesCheck_2, lt_self, cond_false, ref_TimesCheck_1]) (by omega), by rw [htok]; exact ⟨fun _ => hg, fun _ => rfl⟩⟩
  · refine ⟨2, loopD_hit (n := t.length) (by omega) (fun i => ¬ (0 ≤ nth 0 t i ∧ nth 0 t i ≤ 1048576)) (fun i hi hb kn => by rw [hbody i hi, if_neg hb]) (fun i hi hb kn => by rw [hbody i hi, if_pos (Classical.not_not.1 hb)]) (by omega) ?_, by rw [htok]; exact ⟨fun h => absurd h (by decide), fun h => absurd h hg⟩⟩
    exact Classical.byContradiction fun hn => hg fun i hi => Classical.byContradiction fun hb => hn ⟨i, hi, hb⟩
theorem RLeq_eq {N : Nat} (hN : 1000 ≤ N) (a b : List Int) : D_ref_TimesLeq N (a, b, ()) = some (leqT a b, ()) := by
  obtain ⟨e, e1, e2⟩ := RCheck_eq hN a
  obtain ⟨f, f1, f2⟩ := RCheck_eq hN b
  simp only [D_ref_TimesLeq, ref_TimesLeq_3, e1, f1, Option.bind_some]
  by_cases hl : a.length = b.length
  case neg => rw [show ((a.length : Int) != (b.length : Int)) = true from bne_iff_ne.2 (by omega), cond_true]; simp [leqT, alk, hl]
  rw [show ((a.length : Int) != (b.length : Int)) = false by rw [hl]; exact bne_self_eq_false _, cond_false]
  by_cases ha : tok a = true
  case neg => rw [bne_iff_ne.2 fun h => ha (e2.1 h), cond_true]; simp [leqT, alk, ha]
  obtain rfl := e2.2 ha
  rw [bne_self_eq_false, cond_false]
  by_cases hb : tok b = true
  case neg => rw [bne_iff_ne.2 fun h => hb (f2.1 h), cond_true]; simp [leqT, alk, hb]
  obtain rfl := f2.2 hb
  rw [bne_self_eq_false, cond_false]
  have hu := undr_iff hl
  have ht := tok_len ha
  have hle : leqT a b = undr a b := by simp [leqT, alk, hl, ha, hb]
  rw [hle]
  simp only [joinD, loopE]
  have hbody : ∀ i, i < a.length → ∀ kn, ref_TimesLeq_2 N (fun _ => ref_TimesLeq_1 N) a b (i : Int) (backE (a, b) kn) = if nth 0 a i ≤ nth 0 b i then kn ((i : Int) + 1) else some (false, ()) := fun i hi kn => by
    simp only [ref_TimesLeq_2, lt_d hi, lt_d (show i < b.length by omega), ge0_d, Bool.and_self, cond_true, Int.toNat_natCast, backE_eq, ix1 hi (show a.length ≤ 4611686018427387904 by omega)]
    by_cases q : nth 0 a i ≤ nth 0 b i
    · rw [d_false (by omega), cond_false, if_pos q]
    · rw [d_true (by omega), cond_true, if_neg q]
  by_cases hg : ∀ i, i < a.length → nth 0 a i ≤ nth 0 b i
  · rw [hu.2 hg]
    exact loopD_pass (n := a.length) (by omega) (fun i hi kn => by rw [hbody i hi, if_pos (hg i hi)]) (fun kn => by simp only [ref_TimesLeq_2, lt_self, cond_false, ref_TimesLeq_1]) (by omega)
  · rw [Bool.eq_false_iff.2 fun h => hg (hu.1 h)]
    refine loopD_hit (n := a.length) (by omega) (fun i => ¬ nth 0 a i ≤ nth 0 b i) (fun i hi hb kn => by rw [hbody i hi, if_neg hb]) (fun i hi hb kn => by rw [hbody i hi, if_pos (Classical.not_not.1 hb)]) (by omega) ?_
    exact Classical.byContradiction fun hn => hg fun i hi => Classical.byContradiction fun hb => hn ⟨i, hi, hb⟩
theorem ROpen_eq {N : Nat} (hN : 1000 ≤ N) {f : List (List Int)} (hl : f.length < N) (hl2 : f.length < 4611686018427387904) (t : List Int) : D_ref_TimesOpen N (f, t, ()) = some (f.any (fun u => leqT u t), ()) := by
  simp only [D_ref_TimesOpen, ref_TimesOpen_3, joinD, loopE]
  have hbody : ∀ i, i < f.length → ∀ kn, ref_TimesOpen_2 N (fun _ => ref_TimesOpen_1 N) t f (f.length : Int) (i : Int) (backE (t, f, (f.length : Int)) kn) = if leqT (nth [] f i) t = true then some (true, ()) else kn ((i : Int) + 1) := fun i hi kn => by
    simp only [ref_TimesOpen_2, lt_d hi, ge0_d, Bool.and_self, cond_true, Int.toNat_natCast, RLeq_eq hN, Option.bind_some, backE_eq, ix1 hi (Nat.le_of_lt hl2)]
    cases leqT (nth [] f i) t with
    | true => rfl
    | false => rfl
  by_cases hg : ∃ i, i < f.length ∧ leqT (nth [] f i) t = true
  · obtain ⟨i, hi, h⟩ := hg
    rw [List.any_eq_true.2 ⟨_, nth_mem (z := ([] : List Int)) hi, h⟩]
    exact loopD_hit (n := f.length) (by omega) (fun i => leqT (nth [] f i) t = true) (fun i hi hb kn => by rw [hbody i hi, if_pos hb]) (fun i hi hb kn => by rw [hbody i hi, if_neg hb]) hl ⟨i, hi, h⟩
  · have : f.any (fun u => leqT u t) = false := by
      rw [List.any_eq_false]
      intro u hu h
      obtain ⟨i, hi, rfl⟩ := mem_nth (z := ([] : List Int)) hu
      exact hg ⟨i, hi, h⟩
    rw [this]
    exact loopD_pass (n := f.length) (by omega) (fun i hi kn => by rw [hbody i hi, if_neg fun h => hg ⟨i, hi, h⟩]) (fun kn => by simp only [ref_TimesOpen_2, lt_self, cond_false, ref_TimesOpen_1]) (by omega)
/-- What may be told behind a front. -/
structure AdvOk (h : List Df) (f : List (List Int)) : Prop where
  his : HOkk h
  frt : TL f
  ne : f ≠ []
  one : ∀ d ∈ h, ∀ u ∈ f, u.length = d.1.length
theorem AdvOk.fr {h : List Df} {f : List (List Int)} (H : AdvOk h f) {d : Df} (hd : d ∈ h) : Frt f d.1.length := ⟨H.ne, H.one d hd⟩
def advD (f : List (List Int)) (h : List Df) : List Df := h.map fun d => (adv f d.1, d.2)
theorem AdvOk.okk {h : List Df} {f : List (List Int)} (H : AdvOk h f) : HOkk (advD f h) := by
  have hr := H.his.rows
  have hl := H.his.len
  refine ⟨by simpa [advD] using hl, by unfold cntR advD at *; rw [List.map_map]; exact hr, ⟨by simpa [advD] using hl, fun t ht => ?_, fun t ht => ?_⟩⟩
  · unfold advD at ht
    rw [List.map_map] at ht
    obtain ⟨d, hd, rfl⟩ := List.mem_map.1 ht
    exact adv_tok (H.fr hd) (H.his.tok hd) H.frt.tok
  · unfold advD at ht ⊢
    rw [List.map_map] at ht ⊢
    obtain ⟨d, hd, rfl⟩ := List.mem_map.1 ht
    have h0 : 0 < h.length := List.length_pos_of_mem hd
    have hm := nth_mem (z := ([] : List Int)) (xs := h.map (Prod.fst ∘ fun d : Df => (adv f d.1, d.2))) (i := 0) (by simpa using h0)
    obtain ⟨d0, hd0, e0⟩ := List.mem_map.1 hm
    rw [← e0]
    show (adv f d.1).length = (adv f d0.1).length
    rw [adv_len (H.fr hd), adv_len (H.fr hd0)]
    exact H.his.one hd hd0
theorem Advance_eq {N : Nat} (hN : 1000 ≤ N) {h : List Df} (hl : h.length < N) (hl2 : h.length ≤ 4611686018427387904) (f : List (List Int)) :
    ∃ l e, D_diffs_Advance N (h, f, ()) = some (l, e, ()) ∧ ((e = 0 ∧ AdvOk h f ∧ IsHis (fun t => amt (rowsAt (advD f h) t)) l ∧ HOkk l) ∨ (e ≠ 0 ∧ ¬ AdvOk h f ∧ l = [])) := by
  obtain ⟨e, h1, h2⟩ := dCheck_ok hN hl hl2
  obtain ⟨x, x1, x2⟩ := List_eq hN f
  simp only [D_diffs_Advance, diffs_Advance_7, h1, x1, Option.bind_some, joinD, loopE]
  by_cases q : e = 0
  case neg => exact ⟨[], e, by rw [bne_iff_ne.2 q, cond_true], .inr ⟨q, fun H => q (h2.2 H.his), rfl⟩⟩
  subst q
  by_cases q : x = 0
  case neg => exact ⟨[], x, by rw [bne_self_eq_false, cond_false, bne_iff_ne.2 q, cond_true], .inr ⟨q, fun H => q (x2.2 H.frt), rfl⟩⟩
  subst q
  have H := h2.1 rfl
  have F := x2.1 rfl
  simp only [bne_self_eq_false, cond_false]
  cases f with
  | nil => exact ⟨[], 5, rfl, .inr ⟨by decide, fun H => H.ne rfl, rfl⟩⟩
  | cons u us =>
    rw [show (((u :: us).length : Int) == 0) = false from beq_false_of_ne (by simp; omega), cond_false]
    have hmain : AdvOk h (u :: us) → ∃ l e, diffs_Advance_6 N h (u :: us) = some (l, e, ()) ∧ ((e = 0 ∧ AdvOk h (u :: us) ∧ IsHis (fun t => amt (rowsAt (advD (u :: us) h) t)) l ∧ HOkk l) ∨ (e ≠ 0 ∧ ¬ AdvOk h (u :: us) ∧ l = [])) := fun A => by
      have h64 := H.len
      have h128 := H.rows
      have hmono : ∀ i, cntR (h.take i) ≤ cntR h := fun i => by
        have : cntR h = cntR (h.take i) + cntR (h.drop i) := by
          conv => lhs; rw [← List.take_append_drop i h]
          unfold cntR; rw [List.map_append, List.sum_append]
        omega
      have hus : us.length ≤ 64 := by have := F.len; simp at this; omega
      simp only [diffs_Advance_6, joinD, loopE]
      obtain ⟨s, ⟨b, rfl, hb, hb1, hb2⟩, hs⟩ := loopD_inv (N := N) (g := fun (s : Int × Hy) kn => diffs_Advance_5 N (fun s => diffs_Advance_1 N s) (u :: us) h (h.length : Int) s.1 s.2 (backE ((u :: us), h, (h.length : Int)) kn)) (k := fun s => diffs_Advance_1 N s.2) h.length
        (fun i s => ∃ b : Hy, s = ((i : Int), b) ∧ HyOk (fun t => amt (rowsAt (advD (u :: us) (h.take i)) t)) b ∧ b.2.length ≤ i ∧ cntH b ≤ cntR (h.take i))
        (fun i s hi hI => by
          obtain ⟨b, rfl, hb, hb1, hb2⟩ := hI
          have hd := nth_mem (z := zd) hi
          have hc1 := hmono (i + 1)
          rw [cntR_take hi] at hc1
          have hfr := A.fr hd
          have htk := H.tok hd
          have htl := tok_len htk
          have hu : (nth zd h i).1.length = u.length := (A.one _ hd u (by simp)).symm
          have hadv : adv (u :: us) (nth zd h i).1 = advL (nth zd h i).1 us (ovr (nth zd h i).1 u) := rfl
          obtain ⟨b', e1, e2, e3, e4⟩ := hPour_eq (N := N) hb (t := adv (u :: us) (nth zd h i).1) (by rw [adv_len hfr]; omega) (nth zd h i).2 1 (by omega) (by omega)
          have hin : ∀ (k : List Int → Option Rt_diffs_Advance), loopD (fun (s : List Int × Int) kn => diffs_Advance_4 N (fun s => k s.2.1) (u :: us) h (h.length : Int) (i : Int) us (us.length : Int) b (nth zd h i).1 (nth zd h i).2 s.1 s.2 (backE ((u :: us), h, (h.length : Int), (i : Int), us, (us.length : Int), b, (nth zd h i).1, (nth zd h i).2) kn)) N (ovr (nth zd h i).1 u, 0) = k (advL (nth zd h i).1 us (ovr (nth zd h i).1 u)) := fun k => by
            refine loopD_path (N := N) us.length (fun j => (advL (nth zd h i).1 (us.take j) (ovr (nth zd h i).1 u), (j : Int))) (fun j hj kn => ?_) (fun kn => ?_) (by omega)
            · have hv := nth_mem (z := ([] : List Int)) hj
              have hvl : (nth zd h i).1.length = (nth [] us j).length := (A.one _ hd _ (by simp [hv])).symm
              have hpre := advL_spec (t := (nth zd h i).1) (us.take j) _ (ovr_len hu) fun v hv => A.one _ hd v (by simp [List.mem_of_mem_take hv])
              have ha1 := hpre.2.2 htk (tok_ovr hu htk (F.tok u (by simp))) fun v hv => F.tok v (by simp [List.mem_of_mem_take hv])
              have ho1 := tok_ovr hvl htk (F.tok _ (by simp [hv]))
              simp only [diffs_Advance_4, lt_d hj, ge0_d, Bool.and_self, cond_true, Int.toNat_natCast, Ovr_eq hN hvl htl.2, Option.map_some, Option.bind_some, Meet_eq hN (by rw [hpre.1, ovr_len hvl]) ha1 ho1, backE_eq, ix1 hj (show us.length ≤ 4611686018427387904 by omega)]
              rw [List.take_succ_eq_append_getElem hj, ← nth_lt (z := ([] : List Int)) hj]
              unfold advL
              rw [List.foldl_append]
              rfl
            · simp only [diffs_Advance_4, lt_self, cond_false, List.take_length]
          refine ⟨_, ⟨b', rfl, ?_, by omega, by rw [cntR_take hi]; omega⟩, fun kn => ?_⟩
          · refine e2.cg fun t z => Cg.of_eq ?_
            unfold advD rowsAt
            rw [take_nd hi, List.map_append, List.map_singleton, sel_snoc, amt_append]
            by_cases q : t = adv (u :: us) (nth zd h i).1
            · rw [if_pos q, if_pos (by rw [decide_eq_true_eq]; exact q.symm), Int.one_mul]
            · rw [if_neg q, if_neg (by rw [decide_eq_true_eq]; exact fun e => q e.symm)]; rfl
          · have hsl : (((u :: us).take (((u :: us).length : Int)).toNat).drop (1 : Int).toNat) = us := by simp
            simp only [diffs_Advance_5, lt_d hi, ge0_d, Bool.and_self, cond_true, Int.toNat_natCast, joinD, show decide ((0 : Int) ≤ 0) = true from rfl, show decide ((0 : Int) < ((u :: us).length : Int)) = true from d_true (by rw [List.length_cons]; omega), Int.toNat_zero, show nth ([] : List Int) (u :: us) 0 = u from rfl, Ovr_eq hN hu htl.2, Option.map_some, Option.bind_some]
            rw [show decide ((0 : Int) ≤ 1) = true from rfl, show decide ((1 : Int) ≤ ((u :: us).length : Int)) = true from d_true (by rw [List.length_cons]; omega), show decide (((u :: us).length : Int) ≤ ((u :: us).length : Int)) = true from d_true (Int.le_refl _), Bool.and_self, Bool.and_self, cond_true]
            simp only [Int.toNat_natCast] at hsl
            simp only [hsl, loopE]
            refine (hin fun t9 => diffs_Advance_3 N _ (u :: us) t9 h (h.length : Int) (i : Int) b (nth zd h i).2).trans ?_
            simp only [diffs_Advance_3, ← hadv, e1, Option.bind_some, diffs_Advance_2, backE_eq, ix1 hi (show h.length ≤ 4611686018427387904 by omega)]
            rfl)
        (fun s hI kn => by
          obtain ⟨b, rfl, _⟩ := hI
          simp only [diffs_Advance_5, lt_self, cond_false, joinD])
        hl (s := (0, ((0 : Int), []))) ⟨_, rfl, HyOk.empty.cg fun t z => Cg.rfl, Nat.le_refl _, Nat.le_refl _⟩
      rw [List.take_length] at hb hb2
      obtain ⟨l, l1, l2, l3, l4⟩ := hTells_eq hN hb (by omega) (by omega) (by omega) (by omega)
      rw [if_neg (by rintro (h | h) <;> omega)] at l4
      refine ⟨l, 0, ?_, .inl ⟨rfl, A, l1, l1.okk A.okk (by omega)⟩⟩
      refine hs.trans ?_
      simp only [diffs_Advance_1, l4, Option.bind_some]
    by_cases hp : 0 < h.length
    · rw [d_true (show (h.length : Int) > 0 by omega), cond_true]
      simp only [show decide ((0 : Int) ≤ 0) = true from rfl, d_true (show (0 : Int) < (h.length : Int) by omega), show decide ((0 : Int) < ((u :: us).length : Int)) = true from d_true (by rw [List.length_cons]; omega), Bool.and_self, cond_true, Int.toNat_zero, show nth ([] : List Int) (u :: us) 0 = u from rfl]
      have h0 := nth_mem (z := zd) hp
      by_cases q : (nth zd h 0).1.length = u.length
      · rw [show (((nth (([] : List Int), ([] : List Row)) h 0).1.length : Int) != (u.length : Int)) = false from by rw [bne_eq_false_iff_eq]; exact congrArg Int.ofNat q, cond_false]
        refine hmain ⟨H, F, by simp, fun d hd v hv => ?_⟩
        have e1 := H.one hd h0
        have e2 := F.eqL hv (show u ∈ u :: us by simp)
        omega
      · refine ⟨[], 3, ?_, .inr ⟨by decide, fun A => q (A.one _ h0 u (by simp)).symm, rfl⟩⟩
        rw [show (((nth (([] : List Int), ([] : List Row)) h 0).1.length : Int) != (u.length : Int)) = true from bne_iff_ne.2 fun e => q (Int.ofNat.inj e), cond_true]
    · rw [d_false (show ¬ (h.length : Int) > 0 by omega), cond_false]
      have : h = [] := List.eq_nil_of_length_eq_zero (by omega)
      subst this
      exact hmain ⟨H, F, by simp, fun d hd => by cases hd⟩
end Go.Proofs.Ytnieamciihdfpaa
