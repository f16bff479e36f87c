/- Operators that work key by key, plainly: a key's rows alone. -/
import Derived.Test.YtkijpiphgnnonaaOpsQ
namespace Go.Proofs.Ytkijpiphgnnonaa
open Go.Abs Go.Bag
def keyF (l : List Row) (k : Int) : List Row := l.filter fun r => decide (r.1 = k)
theorem amt_keyF (l : List Row) (k : Int) (e : Key) : amt (keyF l k) e = if e.1 = k then amt l e else 0 := by
  unfold keyF
  induction l with
  | nil => simp [amt]
  | cons r l ih =>
    by_cases q : r.1 = k
    · rw [List.filter_cons_of_pos (by simp [q])]
      simp only [amt, ih]
      by_cases he : e.1 = k
      · rw [if_pos he, if_pos he]
      · rw [if_neg he, if_neg he, if_neg fun h => he (by rw [← h]; exact q)]; rfl
    · rw [List.filter_cons_of_neg (by simp [q]), ih]
      simp only [amt]
      by_cases he : e.1 = k
      · rw [if_pos he, if_pos he, if_neg fun h => q (by rw [← he, ← h]; rfl)]; omega
      · rw [if_neg he, if_neg he]
theorem keyF_bag {a t : List Row} (h : IsBag (amt a) t) (k : Int) : IsBag (amt (keyF a k)) (keyF t k) := ⟨h.rise.sublist List.filter_sublist, fun r hr => h.nz r (List.mem_filter.1 hr).1, fun e => by
  rw [amt_keyF, amt_keyF]
  by_cases he : e.1 = k
  · rw [if_pos he, if_pos he]; exact h.val e
  · rw [if_neg he, if_neg he, w_zero]⟩
theorem sorted_mem_eq {l m : List Row} (hl : l.Pairwise rlt) (hm : m.Pairwise rlt) (h : ∀ r, r ∈ l ↔ r ∈ m) : l = m := by
  have nd : ∀ {l : List Row}, l.Pairwise rlt → l.Nodup := fun {l} hp => List.Pairwise.imp (fun {a b} (h : rlt a b) (e : a = b) => rlt_irrefl b (by rw [e] at h; exact h)) hp
  refine sorted_uniq (r := fun a b => rlt a b) l m (fun a _ b _ h1 h2 => absurd (rlt_trans h1 h2) (rlt_irrefl a)) ?_ hl hm
  exact (List.perm_ext_iff_of_nodup (nd hl) (nd hm)).2 h
theorem ints_mem_eq {l m : List Int} (hl : l.Pairwise (· < ·)) (hm : m.Pairwise (· < ·)) (h : ∀ r, r ∈ l ↔ r ∈ m) : l = m := by
  have nd : ∀ {l : List Int}, l.Pairwise (· < ·) → l.Nodup := fun {l} hp => List.Pairwise.imp (fun {a b} (h : a < b) (e : a = b) => by omega) hp
  refine sorted_uniq (r := fun a b => a < b) l m (fun a _ b _ h1 h2 => by omega) ?_ hl hm
  exact (List.perm_ext_iff_of_nodup (nd hl) (nd hm)).2 h
theorem mem_outG {kind : Int} (h7 : kind ≠ 7) {t : List Row} (hs : t.Pairwise rlt) (r : Row) : r ∈ outG kind t ↔ keyF t r.1 ≠ [] ∧ rowG kind (keyF t r.1) = some r := by
  obtain ⟨g1, -, g3⟩ := grp_props t.length t (Nat.le_refl _) (rlt_le hs)
  unfold outG
  rw [if_neg h7, List.mem_filterMap]
  constructor
  · rintro ⟨xs, hx, hr⟩
    obtain ⟨q1, q2⟩ := g1 xs hx
    have e : xs = keyF t r.1 := by rw [(rowG_key hr).1]; exact q2
    rw [← e]; exact ⟨q1, hr⟩
  · rintro ⟨h1, h2⟩
    obtain ⟨x, hx⟩ := List.exists_mem_of_ne_nil _ h1
    obtain ⟨hx1, hx2⟩ := List.mem_filter.1 hx
    obtain ⟨xs, hm, hk⟩ := g3 x hx1
    refine ⟨xs, hm, ?_⟩
    rw [(g1 xs hm).2, hk, of_decide_eq_true hx2]
    exact h2
theorem keyF_keyF (t : List Row) (k k' : Int) : keyF (keyF t k) k' = if k' = k then keyF t k else [] := by
  unfold keyF
  rw [List.filter_filter]
  by_cases h : k' = k
  · rw [if_pos h, h]; congr 1; funext r; simp
  · rw [if_neg h]
    exact List.filter_eq_nil_iff.2 fun x _ => by simp; intro e1 e2; exact h (e1.symm.trans e2)
theorem outG_keyF {kind : Int} {t : List Row} (hs : t.Pairwise rlt) (k : Int) : keyF (outG kind t) k = outG kind (keyF t k) := by
  have hs' : (keyF t k).Pairwise rlt := hs.sublist List.filter_sublist
  by_cases h7 : kind = 7
  · unfold outG keyF
    rw [if_pos h7, if_pos h7, List.filter_map, List.filter_filter, List.filter_filter]
    congr 1
    congr 1
    funext r
    simp only [Function.comp, oneR]
    exact Bool.and_comm _ _
  · refine sorted_mem_eq ((outG_sorted hs).sublist List.filter_sublist) (outG_sorted hs') fun r => ?_
    rw [mem_outG h7 hs' r]
    unfold keyF at *
    rw [List.mem_filter, mem_outG h7 hs r]
    have := keyF_keyF t k r.1
    unfold keyF at this ⊢
    rw [this]
    by_cases h : r.1 = k
    · rw [if_pos h, h]; simp
    · rw [if_neg h]; simp [h]
theorem outG_some {kind : Int} (h5 : 5 ≤ kind) (h8 : kind ≤ 8) {t : List Row} (hs : t.Pairwise rlt) (k : Int) : outG kind (keyF t k) ≠ [] ↔ ∃ r ∈ keyF t k, r.2.2 > 0 ∨ kind = 5 ∨ kind = 6 := by
  have hs' : (keyF t k).Pairwise rlt := hs.sublist List.filter_sublist
  by_cases h7 : kind = 7
  · unfold outG
    rw [if_pos h7, ne_eq, List.map_eq_nil_iff, List.filter_eq_nil_iff]
    constructor
    · intro h
      refine Classical.byContradiction fun hno => h fun r hr hd => hno ⟨r, hr, .inl (of_decide_eq_true hd)⟩
    · rintro ⟨r, hr, h | h | h⟩ hno
      · exact hno r hr (decide_eq_true h)
      · omega
      · omega
  · have hall : ∀ r ∈ keyF t k, r.1 = k := fun r hr => of_decide_eq_true (List.mem_filter.1 hr).2
    have hkk : keyF (keyF t k) k = keyF t k := by rw [keyF_keyF, if_pos rfl]
    have hiff : outG kind (keyF t k) ≠ [] ↔ keyF t k ≠ [] ∧ (hv kind (keyF t k)).isSome = true := by
      constructor
      · intro h
        obtain ⟨r, hr⟩ := List.exists_mem_of_ne_nil _ h
        obtain ⟨p1, p2⟩ := (mem_outG h7 hs' r).1 hr
        have hrk : r.1 = k := by
          obtain ⟨x, hx⟩ := List.exists_mem_of_ne_nil _ p1
          obtain ⟨x1, x2⟩ := List.mem_filter.1 hx
          rw [← of_decide_eq_true x2]; exact hall x x1
        rw [hrk, hkk] at p1 p2
        refine ⟨p1, ?_⟩
        unfold rowG at p2
        cases q : hv kind (keyF t k) with
        | none => rw [q] at p2; cases p2
        | some v => rfl
      · rintro ⟨h1, h2⟩ h3
        obtain ⟨v, hv1⟩ := Option.isSome_iff_exists.1 h2
        have hg : gkey (keyF t k) = k := by
          cases q : keyF t k with
          | nil => exact absurd q h1
          | cons r l => exact hall r (by rw [q]; simp)
        have : ((k, v, 1) : Row) ∈ outG kind (keyF t k) := (mem_outG h7 hs' _).2 ⟨by rw [hkk]; exact h1, by rw [hkk]; unfold rowG; rw [hv1, hg]; rfl⟩
        rw [h3] at this; cases this
    rw [hiff]
    constructor
    · rintro ⟨h1, h2⟩
      by_cases h56 : kind = 5 ∨ kind = 6
      · obtain ⟨r, hr⟩ := List.exists_mem_of_ne_nil _ h1
        exact ⟨r, hr, .inr h56⟩
      · have h9 : kind = 8 := by omega
        subst h9
        unfold hv at h2
        rw [if_neg (by omega), if_neg (by omega), if_pos rfl, Option.isSome_map] at h2
        obtain ⟨r, hr⟩ := Option.isSome_iff_exists.1 h2
        exact ⟨r, List.mem_of_find?_eq_some hr, .inl (by simpa using List.find?_some hr)⟩
    · rintro ⟨r, hr, h⟩
      refine ⟨fun e => (by rw [e] at hr; cases hr), ?_⟩
      unfold hv
      by_cases h5' : kind = 5
      · rw [if_pos h5']; rfl
      · by_cases h6' : kind = 6
        · rw [if_neg h5', if_pos h6']; rfl
        · have h9 : kind = 8 := by omega
          rw [if_neg h5', if_neg h6', if_pos h9, Option.isSome_map]
          rw [List.find?_isSome]
          exact ⟨r, hr, by rcases h with h | h | h <;> first | simpa using h | omega⟩
/-- The keys of what is made rise. -/
theorem outG_keys {kind : Int} (h7 : kind ≠ 7) {t : List Row} (hs : t.Pairwise rlt) : ((outG kind t).map (·.1)).Pairwise (· < ·) := by
  obtain ⟨-, h2, -⟩ := grp_props t.length t (Nat.le_refl _) (rlt_le hs)
  unfold outG
  rw [if_neg h7]
  refine List.pairwise_map.2 (List.Pairwise.filterMap (rowG kind) (fun xs ys h a ha b hb => ?_) h2)
  obtain ⟨e1, -⟩ := rowG_key ha
  obtain ⟨e2, -⟩ := rowG_key hb
  omega
theorem tot_ones : (l : List Row) → (∀ r ∈ l, r.2.2 = 1) → tot l = (l.length : Int)
  | [], _ => rfl
  | r :: l, h => by
    have := tot_ones l fun x hx => h x (by simp [hx])
    have h1 := h r (by simp)
    simp only [tot, List.length_cons]; omega
/-- What is made of a list with 1 each. -/
theorem outG7_again {t : List Row} : outG 7 (outG 7 t) = outG 7 t := by
  unfold outG
  rw [if_pos rfl, if_pos rfl]
  generalize t.filter (fun r => decide (r.2.2 > 0)) = l
  induction l with
  | nil => rfl
  | cons r l ih =>
    rw [List.map_cons, List.filter_cons_of_pos (by simp [oneR]), List.map_cons, ih]
    rfl
structure OnceAt (t : List Row) (c m : Row) : Prop where
  n : c.2.2 = 1
  len : ((keyF (outG 7 t) c.1).length : Int) = c.2.1
  hd : ∃ l, keyF (outG 7 t) c.1 = m :: l
theorem once_rows {t : List Row} (hs : t.Pairwise rlt) (hl : t.length ≤ 128) : (outG 6 (outG 7 t)).length = (outG 8 t).length ∧ ∀ (i : Nat) (c m : Row), (outG 6 (outG 7 t))[i]? = some c → (outG 8 t)[i]? = some m → OnceAt t c m := by
  have hs7 : (outG 7 t).Pairwise rlt := outG_sorted hs
  have h7n : ∀ r ∈ outG 7 t, r.2.2 = 1 := outG_n
  have hm7 : ∀ k, keyF (outG 7 t) k = ((keyF t k).filter fun r => decide (r.2.2 > 0)).map oneR := fun k => by
    rw [outG_keyF hs]; unfold outG; rw [if_pos rfl]
  have hkeys : (outG 6 (outG 7 t)).map (·.1) = (outG 8 t).map (·.1) := by
    refine ints_mem_eq (outG_keys (by decide) hs7) (outG_keys (by decide) hs) fun k => ?_
    constructor
    · intro h
      obtain ⟨r, hr, rfl⟩ := List.mem_map.1 h
      obtain ⟨p1, p2⟩ := (mem_outG (by decide) hs7 r).1 hr
      rw [hm7] at p1
      obtain ⟨x, hx⟩ := List.exists_mem_of_ne_nil _ (fun e => p1 (by rw [e]; rfl) : (keyF t r.1).filter (fun r => decide (r.2.2 > 0)) ≠ [])
      obtain ⟨x1, x2⟩ := List.mem_filter.1 hx
      have hne := (outG_some (kind := 8) (by decide) (by decide) hs r.1).2 ⟨x, x1, .inl (of_decide_eq_true x2)⟩
      rw [← outG_keyF hs] at hne
      obtain ⟨y, hy⟩ := List.exists_mem_of_ne_nil _ hne
      obtain ⟨y1, y2⟩ := List.mem_filter.1 hy
      exact List.mem_map.2 ⟨y, y1, of_decide_eq_true y2⟩
    · intro h
      obtain ⟨r, hr, rfl⟩ := List.mem_map.1 h
      have hne : keyF (outG 8 t) r.1 ≠ [] := fun e => by
        have : r ∈ keyF (outG 8 t) r.1 := List.mem_filter.2 ⟨hr, by simp⟩
        rw [e] at this; cases this
      rw [outG_keyF hs] at hne
      obtain ⟨x, x1, x2⟩ := (outG_some (kind := 8) (by decide) (by decide) hs r.1).1 hne
      have hx0 : x.2.2 > 0 := by rcases x2 with h | h | h <;> first | exact h | omega
      have hmem : oneR x ∈ keyF (outG 7 t) r.1 := by rw [hm7]; exact List.mem_map.2 ⟨x, List.mem_filter.2 ⟨x1, decide_eq_true hx0⟩, rfl⟩
      have hne2 := (outG_some (kind := 6) (by decide) (by decide) hs7 r.1).2 ⟨oneR x, hmem, .inr (.inr rfl)⟩
      rw [← outG_keyF hs7] at hne2
      obtain ⟨y, hy⟩ := List.exists_mem_of_ne_nil _ hne2
      obtain ⟨y1, y2⟩ := List.mem_filter.1 hy
      exact List.mem_map.2 ⟨y, y1, of_decide_eq_true y2⟩
  refine ⟨by simpa using congrArg List.length hkeys, fun i c m hc hm => ?_⟩
  have hk : c.1 = m.1 := by
    have := congrArg (fun l => l[i]?) hkeys
    simp only [List.getElem?_map, hc, hm, Option.map_some, Option.some.injEq] at this
    exact this
  have hcm := List.mem_of_getElem? hc
  have hmm := List.mem_of_getElem? hm
  obtain ⟨c1, c2⟩ := (mem_outG (by decide) hs7 c).1 hcm
  obtain ⟨m1, m2⟩ := (mem_outG (by decide) hs m).1 hmm
  refine ⟨outG_n c hcm, ?_, ?_⟩
  · unfold rowG hv at c2
    rw [if_neg (by decide), if_pos rfl] at c2
    simp only [Option.map_some, Option.some.injEq] at c2
    have h1 : tot (keyF (outG 7 t) c.1) = ((keyF (outG 7 t) c.1).length : Int) := tot_ones _ fun r hr => h7n r (List.mem_filter.1 hr).1
    have h2 : (keyF (outG 7 t) c.1).length ≤ 128 := Nat.le_trans (List.length_filter_le _ _) (Nat.le_trans (outG_len hs) hl)
    have h3 : c.2.1 = w (tot (keyF (outG 7 t) c.1)) := (congrArg (fun z : Row => z.2.1) c2).symm
    rw [h3, h1, w_id (by omega) (by omega)]
  · rw [hk, hm7]
    unfold rowG hv at m2
    rw [if_neg (by decide), if_neg (by decide), if_pos rfl] at m2
    cases q : (keyF t m.1).find? (fun r => decide (r.2.2 > 0)) with
    | none => rw [q] at m2; cases m2
    | some r =>
      rw [q] at m2
      simp only [Option.map_some, Option.some.injEq] at m2
      have hhd : ((keyF t m.1).filter fun r => decide (r.2.2 > 0)).head? = some r := by rw [List.head?_filter]; exact q
      cases q2 : (keyF t m.1).filter fun r => decide (r.2.2 > 0) with
      | nil => rw [q2] at hhd; cases hhd
      | cons x l =>
        rw [q2] at hhd
        simp only [List.head?_cons, Option.some.injEq] at hhd
        subst hhd
        refine ⟨l.map oneR, ?_⟩
        rw [List.map_cons]
        congr 1
        have hxk : x.1 = m.1 := of_decide_eq_true (List.mem_filter.1 (List.mem_of_find?_eq_some q)).2
        have hg : gkey (keyF t m.1) = m.1 := by
          cases q3 : keyF t m.1 with
          | nil => exact absurd q3 m1
          | cons y l' => exact of_decide_eq_true (List.mem_filter.1 (show y ∈ keyF t m.1 by rw [q3]; simp)).2
        rw [← m2, hg]
        unfold oneR
        rw [hxk]
theorem w_in' {n : Int} (h : IntKind.i64.min ≤ n ∧ n ≤ IntKind.i64.max) : w n = n := by
  have h1 : IntKind.i64.min = -9223372036854775808 := rfl
  have h2 : IntKind.i64.max = 9223372036854775807 := rfl
  exact w_id (by omega) (by omega)
end Go.Proofs.Ytkijpiphgnnonaa
