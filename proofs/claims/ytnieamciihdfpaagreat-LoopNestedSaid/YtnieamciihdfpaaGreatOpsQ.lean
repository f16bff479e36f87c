import Derived.Test.YtnieamciihdfpaaGreatOpsI
import Derived.Test.YtnieamciihdfpaaGreatOpsP
namespace Go.Proofs.YtnieamciihdfpaaGreat
open Go.Abs Go.Bag
abbrev gkey (xs : List Row) : Int := kyAt xs 0
theorem tw_split (l : List Row) (k : Int) (hs : l.Pairwise fun a b => a.1 ≤ b.1) (hk : ∀ x ∈ l, k ≤ x.1) : (l.takeWhile fun s => s.1 == k) = l.filter (fun r => decide (r.1 = k)) ∧ ∀ x ∈ l.dropWhile (fun s => s.1 == k), k < x.1 := by
 induction l with
 | nil => exact ⟨rfl, fun x hx => (by cases hx)⟩
 | cons y l ih =>
  obtain ⟨h1, h2⟩ := List.pairwise_cons.1 hs
  obtain ⟨i1, i2⟩ := ih h2 fun x hx => hk x (by simp [hx])
  by_cases q : y.1 = k
  ·rw [List.takeWhile_cons_of_pos (by simp [q]), List.filter_cons_of_pos (by simp [q]), List.dropWhile_cons_of_pos (by simp [q]), i1]
   exact ⟨rfl, i2⟩
  ·have hky := hk y (by simp)
   rw [List.takeWhile_cons_of_neg (by simp [q]), List.filter_cons_of_neg (by simp [q]), List.dropWhile_cons_of_neg (by simp [q])]
   refine ⟨(List.filter_eq_nil_iff.2 fun x hx => ?_).symm, fun x hx => ?_⟩
   ·have := h1 x hx; simp; omega
   ·rcases List.mem_cons.1 hx with rfl | hx
    ·omega
    ·have := h1 x hx; omega
theorem rlt_le {l : List Row} (h : l.Pairwise rlt) : l.Pairwise fun a b => a.1 ≤ b.1 := h.imp fun {a b} h => by unfold rlt at h; omega
theorem take_tw (l : List Row) (p : Row → Bool) : l.take (l.takeWhile p).length = l.takeWhile p ∧ l.drop (l.takeWhile p).length = l.dropWhile p := by
 have e := List.takeWhile_append_dropWhile (p := p) (l := l)
 constructor
 ·conv => lhs; rw [← e]
  rw [List.takeWhile_append_dropWhile]
  conv => lhs; arg 2; rw [← e]
  exact List.take_left' rfl
 ·conv => lhs; arg 2; rw [← e]
  exact List.drop_left' rfl
theorem grp_props : ∀ (n : Nat) (t : List Row), t.length ≤ n → t.Pairwise (fun a b => a.1 ≤ b.1) →
  (∀ xs ∈ grp t, xs ≠ [] ∧ xs = t.filter (fun r => decide (r.1 = gkey xs))) ∧ (grp t).Pairwise (fun xs ys => gkey xs < gkey ys) ∧ ∀ r ∈ t, ∃ xs ∈ grp t, gkey xs = r.1 := by
 intro n
 induction n with
 | zero =>
  intro t hl _
  have : t = [] := List.eq_nil_of_length_eq_zero (by omega)
  subst this
  exact ⟨fun xs hx => (by cases hx), .nil, fun r hr => (by cases hr)⟩
 | succ n ih =>
  intro t hl hs
  cases t with
  | nil => exact ⟨fun xs hx => (by cases hx), .nil, fun r hr => (by cases hr)⟩
  | cons r l =>
   obtain ⟨h1, h2⟩ := List.pairwise_cons.1 hs
   obtain ⟨p1, p2⟩ := tw_split l r.1 h2 h1
   obtain ⟨t1, t2⟩ := take_tw l fun s => s.1 == r.1
   have hfirst : (r :: l).take (hdn (r :: l)) = (r :: l).filter (fun x => decide (x.1 = r.1)) := by
    show r :: l.take _ = _
    rw [t1, p1, List.filter_cons_of_pos (by simp)]
   have hrest : (r :: l).drop (hdn (r :: l)) = l.dropWhile fun s => s.1 == r.1 := t2
   rw [grp_cons, hfirst, hrest]
   have hsub : (l.dropWhile fun s => s.1 == r.1).Sublist l := List.dropWhile_sublist _
   obtain ⟨i1, i2, i3⟩ := ih (l.dropWhile fun s => s.1 == r.1) (by have := hsub.length_le; simp only [List.length_cons] at hl; omega) (h2.sublist hsub)
   have hk0 : gkey ((r :: l).filter (fun x => decide (x.1 = r.1))) = r.1 := by
    rw [List.filter_cons_of_pos (by simp)]; rfl
   have hmem : ∀ ys : List Row, ys ≠ [] → ∃ y ∈ ys, y.1 = gkey ys := fun ys hy => by
    cases ys with
    | nil => exact absurd rfl hy
    | cons y ys => exact ⟨y, by simp, rfl⟩
   have hgt : ∀ xs ∈ grp (l.dropWhile fun s => s.1 == r.1), r.1 < gkey xs := fun xs hx => by
    obtain ⟨q1, q2⟩ := i1 xs hx
    obtain ⟨y, y1, y2⟩ := hmem xs q1
    rw [q2] at y1
    rw [← y2]
    exact p2 y (List.mem_filter.1 y1).1
   have hdw : ∀ k, k ≠ r.1 → (l.dropWhile fun s => s.1 == r.1).filter (fun x => decide (x.1 = k)) = (r :: l).filter (fun x => decide (x.1 = k)) := fun k hk => by
    rw [List.filter_cons_of_neg (by simp; exact fun e => hk e.symm)]
    conv => rhs; rw [← List.takeWhile_append_dropWhile (p := fun s : Row => s.1 == r.1) (l := l)]
    rw [List.filter_append, p1, List.filter_filter]
    have : l.filter (fun x => decide (x.1 = k) && decide (x.1 = r.1)) = [] := List.filter_eq_nil_iff.2 fun x _ => by
     simp only [Bool.and_eq_true, decide_eq_true_eq]
     rintro ⟨e1, e2⟩
     exact hk (e1.symm.trans e2)
    rw [this, List.nil_append]
   refine ⟨fun xs hx => ?_, List.pairwise_cons.2 ⟨fun xs hx => by rw [hk0]; exact hgt xs hx, i2⟩, fun x hx => ?_⟩
   ·rcases List.mem_cons.1 hx with rfl | hx
    ·rw [hk0]
     exact ⟨by rw [List.filter_cons_of_pos (by simp)]; simp, rfl⟩
    ·obtain ⟨q1, q2⟩ := i1 xs hx
     refine ⟨q1, ?_⟩
     rw [← hdw _ (by have := hgt xs hx; omega)]
     exact q2
   ·by_cases q : x.1 = r.1
    ·exact ⟨_, List.mem_cons_self .., by rw [hk0, q]⟩
    ·have hxl : x ∈ l.dropWhile fun s => s.1 == r.1 := by
      have : x ∈ (r :: l).filter (fun y => decide (y.1 = x.1)) := List.mem_filter.2 ⟨hx, by simp⟩
      rw [← hdw _ q] at this
      exact (List.mem_filter.1 this).1
     obtain ⟨xs, x1, x2⟩ := i3 x hxl
     exact ⟨xs, List.mem_cons_of_mem _ x1, x2⟩
def vsum : List Row → Int
 | [] => 0
 | r :: l => r.2.1 * r.2.2 + vsum l
def hv (kind : Int) (xs : List Row) : Option Int :=
 if kind = 5 then some (w (vsum xs)) else if kind = 6 then some (w (tot xs)) else if kind = 8 then ((xs.find? fun r => decide (r.2.2 > 0)).map fun r => r.2.1) else some 0
def rowG (kind : Int) (xs : List Row) : Option Row := (hv kind xs).map fun v => (gkey xs, v, 1)
def oneR (r : Row) : Row := (r.1, r.2.1, 1)
def outG (kind : Int) (t : List Row) : List Row := if kind = 7 then (t.filter fun r => decide (r.2.2 > 0)).map oneR else (grp t).filterMap (rowG kind)
theorem rowG_key {kind : Int} {xs : List Row} {r : Row} (h : rowG kind xs = some r) : r.1 = gkey xs ∧ r.2.2 = 1 := by
 unfold rowG at h
 cases q : hv kind xs with
 | none => rw [q] at h; cases h
 | some v => rw [q] at h; cases h; exact ⟨rfl, rfl⟩
theorem outG_sorted {kind : Int} {t : List Row} (hs : t.Pairwise rlt) : (outG kind t).Pairwise rlt := by
 unfold outG
 split
 ·refine List.pairwise_map.2 ((hs.sublist List.filter_sublist).imp fun {a b} h => ?_)
  exact h
 ·obtain ⟨-, h2, -⟩ := grp_props t.length t (Nat.le_refl _) (rlt_le hs)
  refine List.Pairwise.filterMap (rowG kind) (fun xs ys h a ha b hb => ?_) h2
  obtain ⟨e1, -⟩ := rowG_key ha
  obtain ⟨e2, -⟩ := rowG_key hb
  unfold rlt
  omega
theorem outG_n {kind : Int} {t : List Row} : ∀ r ∈ outG kind t, r.2.2 = 1 := by
 intro r hr
 unfold outG at hr
 split at hr
 ·obtain ⟨x, _, rfl⟩ := List.mem_map.1 hr; rfl
 ·obtain ⟨xs, _, h⟩ := List.mem_filterMap.1 hr
  exact (rowG_key h).2
theorem amt_rng {l : List Row} (hs : l.Pairwise rlt) (h1 : ∀ r ∈ l, r.2.2 = 1) (e : Key) : amt l e = w (amt l e) := by
 by_cases hk : ∃ r ∈ l, ky r = e
 ·obtain ⟨r, hr, rfl⟩ := hk
  rw [amt_mem (rise_nodup hs) hr, h1 r hr]; decide
 ·rw [amt_notin fun r hr he => hk ⟨r, hr, he⟩, w_zero]
theorem ones_bag {l : List Row} (hs : l.Pairwise rlt) (h1 : ∀ r ∈ l, r.2.2 = 1) : IsBag (amt l) l := ⟨hs, fun r hr => by rw [h1 r hr]; decide, fun e => amt_rng hs h1 e⟩
theorem outG_bag {kind : Int} {t : List Row} (hs : t.Pairwise rlt) : IsBag (amt (outG kind t)) (outG kind t) := ones_bag (outG_sorted hs) outG_n
theorem grp_len (t : List Row) (hs : t.Pairwise (fun a b => a.1 ≤ b.1)) : (grp t).length ≤ t.length := by
 obtain ⟨h1, h2, -⟩ := grp_props t.length t (Nat.le_refl _) hs
 have key : ∀ (n : Nat) (t : List Row), t.length ≤ n → (grp t).length ≤ t.length := by
  intro n
  induction n with
  | zero => intro t hl; have : t = [] := List.eq_nil_of_length_eq_zero (by omega); subst this; exact Nat.le_refl _
  | succ n ih =>
   intro t hl
   cases t with
   | nil => exact Nat.le_refl _
   | cons r l =>
    rw [grp_cons]
    have hp := hdn_pos (l := r :: l) (by simp)
    have := ih ((r :: l).drop (hdn (r :: l))) (by rw [List.length_drop]; simp only [List.length_cons] at hl ⊢; omega)
    rw [List.length_drop] at this
    simp only [List.length_cons] at this ⊢
    omega
 exact key _ t (Nat.le_refl _)
theorem outG_len {kind : Int} {t : List Row} (hs : t.Pairwise rlt) : (outG kind t).length ≤ t.length := by
 unfold outG
 split
 ·rw [List.length_map]; exact List.length_filter_le _ _
 ·exact Nat.le_trans (List.length_filterMap_le _ _) (grp_len t (rlt_le hs))
end Go.Proofs.YtnieamciihdfpaaGreat
