/- order.Sorted: a list of all elements in which each stands behind those below it. -/
import Derived.Test.YtagghgmpdjoknaaDoorCoversS
import Derived.Test.YtagghgmpdjoknaaDoorOrderC
namespace Go.Proofs.YtagghgmpdjoknaaDoor
open Go.Abs
/-- A list of some elements, closed below, each behind those below it. -/
structure Lined (up : List Int) (m : Nat) (l : List Nat) : Prop where
  lt : ∀ x ∈ l, x < m
  ne : l.Pairwise fun a b => a ≠ b ∧ ¬ le up b a
  closed : ∀ x ∈ l, ∀ y, y < m → le up y x → y ∈ l
theorem lined_len {up : List Int} {m : Nat} {l : List Nat} (h : Lined up m l) : l.length ≤ m := by
  have hn : l.Nodup := h.ne.imp fun h => h.1
  have := hn.length_le_of_subset (l₂ := List.range m) fun x hx => List.mem_range.2 (h.lt x hx)
  simpa using this
theorem lined_full {up : List Int} {m : Nat} {l : List Nat} (h : Lined up m l) (hl : l.length < m) : ∃ i, i < m ∧ i ∉ l := by
  apply Classical.byContradiction
  intro hn
  have hs : ∀ i ∈ List.range m, i ∈ l := fun i hi => Classical.byContradiction fun h' => hn ⟨i, List.mem_range.1 hi, h'⟩
  have := List.nodup_range.length_le_of_subset hs
  simp at this
  omega
theorem srt10 {N : Nat} {n : Int} {up v3 s : List Int} {w A : Int} (hA : W32 A) (hs : s.length ≤ 100) (hin : ∀ i, bt A i = true → i < v3.length) (kn : (Int × List Int × List Int) × (Int × List Int) → Option Rt_order_Sorted) (ap)
    (hex : ∃ i, bt A i = true ∧ (iandNot .u32 (nth 0 v3 i) w == one i) = true) :
    ∃ i : Nat, bt A i = true ∧ (iandNot .u32 (nth 0 v3 i) w == one i) = true ∧ forD (fun y (_s : Unit) k => order_Sorted_2 N kn n up v3 w s (backE (n, up, v3, w, s) k) y) ap (eachXs (A, ())) () = kn ((n, up, v3), (ior .u32 w (one i), s ++ [(i : Int)])) := by
  have key : ∃ x ∈ eachXs (A, ()), (iandNot .u32 (nth 0 v3 x.toNat) w == one x.toNat) = true ∧ forD (fun y (_s : Unit) k => order_Sorted_2 N kn n up v3 w s (backE (n, up, v3, w, s) k) y) ap (eachXs (A, ())) () = kn ((n, up, v3), (ior .u32 w (one x.toNat), s ++ [x])) := by
    refine forD_find (fun x : Int => (iandNot .u32 (nth 0 v3 x.toNat) w == one x.toNat) = true) (fun x => kn ((n, up, v3), (ior .u32 w (one x.toNat), s ++ [x]))) _ (fun x hx hc kn => ?_) (fun x hx hc kn => ?_) ?_
    · obtain ⟨i, rfl, hi, hbi⟩ := (mem_each hA).1 hx
      have := hin i hbi
      simp only [Int.toNat_natCast] at hc
      simp only [order_Sorted_2, ge0_d, lt_d this, Bool.and_self, cond_true, One_eq N i, Option.bind_some, Int.toNat_natCast, hc]
      rw [d_true (by simp; omega)]
      rfl
    · obtain ⟨i, rfl, hi, hbi⟩ := (mem_each hA).1 hx
      have := hin i hbi
      simp only [Int.toNat_natCast, Bool.not_eq_true] at hc
      simp only [order_Sorted_2, ge0_d, lt_d this, Bool.and_self, cond_true, One_eq N i, Option.bind_some, Int.toNat_natCast, hc, cond_false, backE_eq]
    · obtain ⟨i, hi, hc⟩ := hex
      exact ⟨(i : Int), (mem_each hA).2 ⟨i, rfl, bt_lt hA hi, hi⟩, by rw [Int.toNat_natCast]; exact hc⟩
  obtain ⟨x, hx, hc, he⟩ := key
  obtain ⟨i, rfl, hi, hbi⟩ := (mem_each hA).1 hx
  rw [Int.toNat_natCast] at hc he
  exact ⟨i, hbi, hc, he⟩
theorem Sorted_eq {N : Nat} (hN : 40 ≤ N) {up : List Int} (hw : WL up) {n : Int} (h : Ord n up) :
    ∃ l : List Nat, D_order_Sorted N ((n, up), ()) = some (l.map fun (i : Nat) => (i : Int), 0, ()) ∧ Lined up n.toNat l ∧ l.length = n.toNat := by
  obtain ⟨e, h1, h2⟩ := Check_spec hN hw n
  obtain rfl := h2.2 h
  obtain ⟨m, rfl⟩ : ∃ m : Nat, n = (m : Int) := ⟨n.toNat, by have := h.h0; omega⟩
  have hm16 : m ≤ 16 := by have := h.h1; omega
  have hwd := WL.colsS up (m : Int) up.length
  simp only [D_order_Sorted, order_Sorted_4, order_Sorted_1, joinD, loopE,
    h1, Option.bind_some, bne_self_eq_false, cond_false, Down_eq hw h hN, Int.toNat_natCast]
  refine loopD_post (fun s => ∃ l : List Nat, s.2 = l.map (fun (i : Nat) => (i : Int)) ∧ W32 s.1 ∧ (∀ i, bt s.1 i = true ↔ i ∈ l) ∧ Lined up m l) (fun s => m - s.2.length) (fun a => ∃ l : List Nat, a = some (l.map fun (i : Nat) => (i : Int), 0, ()) ∧ Lined up m l ∧ l.length = m) ?_ N _
    ⟨[], rfl, W32.zero, fun i => by simp [bt_zero], ⟨(fun x hx => (by cases hx)), List.Pairwise.nil, (fun x hx => (by cases hx))⟩⟩ (by simp; omega)
  rintro ⟨w, s⟩ ⟨l, hs, hW, hwl, hl⟩ kn hkn
  simp only at hs hW hwl
  subst hs
  have hll := lined_len hl
  by_cases hlt : l.length < m
  · have hA : W32 (iandNot .u32 (allw (m : Int)) w) := W32.iandNot
    have hb : ∀ i, bt (iandNot .u32 (allw (m : Int)) w) i = true ↔ i < m ∧ i ∉ l := fun i => by
      rw [bt_iandNot (W32.allw _) hW, bt_allw (by omega) (by omega), Bool.and_eq_true, decide_eq_true_eq, Bool.not_eq_true', ← Bool.not_eq_true, hwl, Int.toNat_natCast]
    have hc : ∀ i, i < m → i ∉ l → ((iandNot .u32 (nth 0 (colsS up (m : Int) up.length) i) w == one i) = true ↔ ∀ y, y < m → le up y i → y ∉ l → y = i) := fun i hi hil => by
      have hd : ∀ y, bt (nth 0 (colsS up (m : Int) up.length) i) y = true ↔ y < up.length ∧ le up y i := fun y => le_cols (by have := h.len; omega) (by omega)
      have hlen := h.len
      rw [beq_iff_eq]
      constructor
      · intro e y hy hle hyl
        have : bt (one i) y = true := by
          rw [← e, bt_iandNot (hwd.nth i) hW, Bool.and_eq_true, hd, Bool.not_eq_true', ← Bool.not_eq_true, hwl]
          exact ⟨⟨by omega, hle⟩, hyl⟩
        rw [bt_one (by omega)] at this
        exact of_decide_eq_true this
      · intro hall
        refine bt_ext W32.iandNot (W32.one i) fun y _ => ?_
        rw [Bool.eq_iff_iff, bt_iandNot (hwd.nth i) hW, Bool.and_eq_true, hd, Bool.not_eq_true', ← Bool.not_eq_true, hwl, bt_one (by omega), decide_eq_true_eq]
        constructor
        · rintro ⟨⟨h3, h4⟩, h5⟩
          exact hall y (by omega) h4 h5
        · rintro rfl
          exact ⟨⟨by omega, h.refl y (by omega)⟩, hil⟩
    simp only [order_Sorted_3, forE, List.length_map, lt_d hlt, cond_true, All_eq N (show (0 : Int) ≤ (m : Int) by omega), Each_eq N (iandNot .u32 (allw (m : Int)) w), Option.bind_some]
    obtain ⟨i, hbi, hxc, he⟩ := srt10 (N := N) (v3 := colsS up (m : Int) up.length) (w := w) (s := l.map fun (i : Nat) => (i : Int)) hA (by simp; omega) (fun i hi => by rw [colsS_len]; have := (hb i).1 hi; omega) (n := (m : Int)) (up := up) (kn := backE ((m : Int), up, colsS up (m : Int) up.length) kn) (ap := fun _ => backE ((m : Int), up, colsS up (m : Int) up.length) kn (((m : Int), up, colsS up (m : Int) up.length), (w, l.map fun (i : Nat) => (i : Int)))) (by
      obtain ⟨i, hi, hil⟩ := lined_full hl hlt
      obtain ⟨j, hj, hjl, hmin⟩ := h.least (fun i => i ∉ l) (show i < ((m : Nat) : Int).toNat by omega) hil
      exact ⟨j, (hb j).2 ⟨by omega, hjl⟩, (hc j (by omega) hjl).2 fun y hy hle hyl => hmin y (by omega) hyl hle⟩)
    rw [he, backE_eq]
    obtain ⟨him, hil⟩ := (hb i).1 hbi
    have hmin := (hc i him hil).1 hxc
    refine hkn _ ⟨l ++ [i], by simp, W32.ior, fun j => ?_, ?_⟩ (by simp; omega)
    · rw [bt_ior hW (W32.one i), Bool.or_eq_true, hwl, bt_one (by omega), decide_eq_true_eq, List.mem_append, List.mem_singleton]
    · refine ⟨fun x hx => ?_, ?_, fun x hx y hy hle => ?_⟩
      · rcases List.mem_append.1 hx with hx | hx
        · exact hl.lt x hx
        · rw [List.mem_singleton.1 hx]; exact him
      · refine List.pairwise_append.2 ⟨hl.ne, List.pairwise_singleton _ _, fun a ha b hb => ?_⟩
        rw [List.mem_singleton.1 hb]
        exact ⟨fun e => hil (e ▸ ha), fun hle => hil (hl.closed a ha i him hle)⟩
      · rcases List.mem_append.1 hx with hx | hx
        · exact List.mem_append_left _ (hl.closed x hx y hy hle)
        · rw [List.mem_singleton.1 hx] at hle
          by_cases hyl : y ∈ l
          · exact List.mem_append_left _ hyl
          · rw [hmin y hy hle hyl]; simp
  · simp only [order_Sorted_3, List.length_map, d_false (show ¬ ((l.length : Int) < (m : Int)) by omega), cond_false]
    exact ⟨l, rfl, hl, by omega⟩
end Go.Proofs.YtagghgmpdjoknaaDoor
