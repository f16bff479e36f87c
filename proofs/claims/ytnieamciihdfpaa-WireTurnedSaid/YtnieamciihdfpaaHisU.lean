/- Histories behind a front. -/
import Derived.Test.YtnieamciihdfpaaHisB
import Derived.Test.YtnieamciihdfpaaHisT
namespace Go.Proofs.Ytnieamciihdfpaa
open Go.Abs Go.Bag Go.His
/-- The greater numbers, the lesser ones. -/
def ovr (a b : List Int) : List Int := List.zipWith (fun x y => if y > x then y else x) a b
def mee (a b : List Int) : List Int := List.zipWith (fun x y => if y < x then y else x) a b
theorem ovr_len {a b : List Int} (h : a.length = b.length) : (ovr a b).length = a.length := by unfold ovr; rw [List.length_zipWith]; omega
theorem mee_len {a b : List Int} (h : a.length = b.length) : (mee a b).length = a.length := by unfold mee; rw [List.length_zipWith]; omega
theorem ovr_nth {a b : List Int} (h : a.length = b.length) {i : Nat} (hi : i < a.length) : nth 0 (ovr a b) i = if nth 0 b i > nth 0 a i then nth 0 b i else nth 0 a i := by
  rw [nth_lt (by rw [ovr_len h]; exact hi), nth_lt hi, nth_lt (by omega)]
  unfold ovr
  rw [List.getElem_zipWith]
theorem mee_nth {a b : List Int} (h : a.length = b.length) {i : Nat} (hi : i < a.length) : nth 0 (mee a b) i = if nth 0 b i < nth 0 a i then nth 0 b i else nth 0 a i := by
  rw [nth_lt (by rw [mee_len h]; exact hi), nth_lt hi, nth_lt (by omega)]
  unfold mee
  rw [List.getElem_zipWith]
theorem undr_mee {a b c : List Int} (h : a.length = b.length) (h' : c.length = a.length) : undr c (mee a b) = true ↔ undr c a = true ∧ undr c b = true := by
  rw [undr_iff (by rw [mee_len h]; exact h'), undr_iff h', undr_iff (by omega)]
  constructor
  · intro H
    refine ⟨fun i hi => ?_, fun i hi => ?_⟩
    · have := H i hi
      rw [mee_nth h (by omega)] at this
      split at this <;> omega
    · have := H i hi
      rw [mee_nth h (by omega)] at this
      split at this <;> omega
  · rintro ⟨H1, H2⟩ i hi
    have := H1 i hi
    have := H2 i hi
    rw [mee_nth h (by omega)]
    split <;> omega
theorem tok_iff {t : List Int} : tok t = true ↔ (1 ≤ t.length ∧ t.length ≤ 4) ∧ ∀ i, i < t.length → 0 ≤ nth 0 t i ∧ nth 0 t i ≤ 1048576 := by
  have hall : (t.all fun x => decide (0 ≤ x) && decide (x ≤ 1048576)) = true ↔ ∀ i, i < t.length → 0 ≤ nth 0 t i ∧ nth 0 t i ≤ 1048576 := by
    rw [List.all_eq_true]
    constructor
    · intro h i hi
      simpa using h _ (nth_mem (z := 0) hi)
    · intro h x hx
      obtain ⟨i, hi, rfl⟩ := mem_nth (z := (0 : Int)) hx
      simpa using h i hi
  rw [← hall]; simp [tok]
theorem tok_ovr {a b : List Int} (h : a.length = b.length) (ha : tok a = true) (hb : tok b = true) : tok (ovr a b) = true := by
  rw [tok_iff] at ha hb ⊢
  rw [ovr_len h]
  refine ⟨ha.1, fun i hi => ?_⟩
  rw [ovr_nth h hi]
  have := ha.2 i hi
  have := hb.2 i (by omega)
  split <;> omega
theorem tok_mee {a b : List Int} (h : a.length = b.length) (ha : tok a = true) (hb : tok b = true) : tok (mee a b) = true := by
  rw [tok_iff] at ha hb ⊢
  rw [mee_len h]
  refine ⟨ha.1, fun i hi => ?_⟩
  rw [mee_nth h hi]
  have := ha.2 i hi
  have := hb.2 i (by omega)
  split <;> omega
/-- A time behind a front. -/
def advL (t : List Int) (us : List (List Int)) (a : List Int) : List Int := us.foldl (fun acc v => mee acc (ovr t v)) a
def adv (f : List (List Int)) (t : List Int) : List Int :=
  match f with
  | [] => t
  | u :: us => advL t us (ovr t u)
theorem advL_spec {t : List Int} : ∀ (us : List (List Int)) (a : List Int), a.length = t.length → (∀ v ∈ us, v.length = t.length) →
    (advL t us a).length = t.length ∧ (∀ c : List Int, c.length = t.length → (undr c (advL t us a) = true ↔ undr c a = true ∧ ∀ v ∈ us, undr c (ovr t v) = true)) ∧ (tok t = true → tok a = true → (∀ v ∈ us, tok v = true) → tok (advL t us a) = true)
  | [], a, ha, _ => ⟨ha, fun c _ => by simp [advL], fun _ h _ => h⟩
  | v :: us, a, ha, hv => by
    have hv0 : t.length = v.length := (hv v (by simp)).symm
    have hl : a.length = (ovr t v).length := by rw [ovr_len hv0, ha]
    obtain ⟨h1, h2, h3⟩ := advL_spec (t := t) us (mee a (ovr t v)) (by rw [mee_len hl, ha]) fun x hx => hv x (by simp [hx])
    refine ⟨h1, fun c hc => ?_, fun ht ha' hvt => h3 ht (tok_mee hl ha' (tok_ovr hv0 ht (hvt v (by simp)))) fun x hx => hvt x (by simp [hx])⟩
    have := h2 c hc
    rw [undr_mee hl (by omega)] at this
    simp only [List.forall_mem_cons]
    exact this.trans ⟨fun ⟨⟨p, q⟩, r⟩ => ⟨p, q, r⟩, fun ⟨p, q, r⟩ => ⟨⟨p, q⟩, r⟩⟩
structure Frt (f : List (List Int)) (k : Nat) : Prop where
  ne : f ≠ []
  one : ∀ u ∈ f, u.length = k
theorem adv_len {f : List (List Int)} {t : List Int} (hf : Frt f t.length) : (adv f t).length = t.length := by
  cases f with
  | nil => exact absurd rfl hf.ne
  | cons u us => exact (advL_spec us _ (ovr_len (hf.one u (by simp)).symm) fun v hv => hf.one v (by simp [hv])).1
theorem adv_tok {f : List (List Int)} {t : List Int} (hf : Frt f t.length) (ht : tok t = true) (hft : ∀ u ∈ f, tok u = true) : tok (adv f t) = true := by
  cases f with
  | nil => exact ht
  | cons u us =>
    refine (advL_spec us _ (ovr_len (hf.one u (by simp)).symm) fun v hv => hf.one v (by simp [hv])).2.2 ht (tok_ovr (hf.one u (by simp)).symm ht (hft u (by simp))) fun v hv => hft v (by simp [hv])
/-- What may be told behind a front. -/
structure AdvOk (h : List Df) (f : List (List Int)) : Prop where
  his : HOkk h
  frt : TL f
  ne : f ≠ []
  one : ∀ d ∈ h, ∀ u ∈ f, u.length = d.1.length
theorem AdvOk.fr {h : List Df} {f : List (List Int)} (H : AdvOk h f) {d : Df} (hd : d ∈ h) : Frt f d.1.length := ⟨H.ne, H.one d hd⟩
def advD (f : List (List Int)) (h : List Df) : List Df := h.map fun d => (adv f d.1, d.2)
theorem AdvOk.okk {h : List Df} {f : List (List Int)} (H : AdvOk h f) : HOkk (advD f h) := by
  have hr := H.his.rows
  have hl := H.his.len
  refine ⟨by simpa [advD] using hl, by unfold cntR advD at *; rw [List.map_map]; exact hr, ⟨by simpa [advD] using hl, fun t ht => ?_, fun t ht => ?_⟩⟩
  · unfold advD at ht
    rw [List.map_map] at ht
    obtain ⟨d, hd, rfl⟩ := List.mem_map.1 ht
    exact adv_tok (H.fr hd) (H.his.tok hd) H.frt.tok
  · unfold advD at ht ⊢
    rw [List.map_map] at ht ⊢
    obtain ⟨d, hd, rfl⟩ := List.mem_map.1 ht
    have h0 : 0 < h.length := List.length_pos_of_mem hd
    have hm := nth_mem (z := ([] : List Int)) (xs := h.map (Prod.fst ∘ fun d : Df => (adv f d.1, d.2))) (i := 0) (by simpa using h0)
    obtain ⟨d0, hd0, e0⟩ := List.mem_map.1 hm
    rw [← e0]
    show (adv f d.1).length = (adv f d0.1).length
    rw [adv_len (H.fr hd), adv_len (H.fr hd0)]
    exact H.his.one hd hd0
end Go.Proofs.Ytnieamciihdfpaa
