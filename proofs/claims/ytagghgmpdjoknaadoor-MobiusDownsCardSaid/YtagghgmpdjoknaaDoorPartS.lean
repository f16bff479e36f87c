/- keep.part: the order of some elements. -/
import Derived.Test.YtagghgmpdjoknaaDoorPart
import Derived.Test.YtagghgmpdjoknaaDoorOrderS
import Derived.Test.YtagghgmpdjoknaaDoorAbsLat
namespace Go.Proofs.YtagghgmpdjoknaaDoor
open Go.Abs
/-- The words of the order of some elements, so far. -/
structure Pw (up : List Int) (l : List Nat) (n : Nat) (w : List Int) : Prop where
  len : w.length = n
  wl : WL w
  bit : ∀ i, i < n → ∀ j, bt (nth 0 w i) j = true ↔ j < l.length ∧ le up (nth 0 l i) (nth 0 l j)
theorem nthp (l : List Nat) (i : Nat) : nth (0 : Int) (l.map fun (j : Nat) => (j : Int)) i = ((nth 0 l i : Nat) : Int) := by
  unfold nth
  rw [List.getD_eq_getElem?_getD, List.getD_eq_getElem?_getD, List.getElem?_map]
  cases l[i]? <;> rfl
section
variable {N m : Nat} (hN : 1000 ≤ N) (hm : m ≤ 16) {up : List Int} (hw : WL up) (hlu : up.length = m) {l : List Nat} (hl : l.length ≤ 16) (hlt : ∀ x ∈ l, x < m)
include hN hm hw hlu hl hlt
theorem part10 {i : Nat} (hi : i < l.length) (acc : List Int) :
    ∃ W, W32 W ∧ (∀ j, bt W j = true ↔ j < l.length ∧ le up (nth 0 l i) (nth 0 l j)) ∧ ∀ k : List Int × Int × List Int × Int × Int × Int × List Int × Int × Int × List Int → Option Rt_keep_part, loopD (fun (s : Int × Int) kn => keep_part_4 N k (l.map fun (j : Nat) => (j : Int)) ((nth 0 l i : Nat) : Int) (l.map fun (j : Nat) => (j : Int)) (l.length : Int) (i : Int) (l.map fun (j : Nat) => (j : Int)) (l.length : Int) (m : Int) up 0 (l.length : Int) acc s.1 s.2 (backE ((l.map fun (j : Nat) => (j : Int)), ((nth 0 l i : Nat) : Int), (l.map fun (j : Nat) => (j : Int)), (l.length : Int), (i : Int), (l.map fun (j : Nat) => (j : Int)), (l.length : Int), (m : Int), up, (0 : Int), (l.length : Int), acc) kn)) N (0, 0) = k ((l.map fun (j : Nat) => (j : Int)), W, (l.map fun (j : Nat) => (j : Int)), (l.length : Int), (i : Int), (m : Int), up, (0 : Int), (l.length : Int), acc) := by
  have hll : (l.map fun (j : Nat) => (j : Int)).length = l.length := List.length_map ..
  have hai := hlt _ (nth_mem (z := 0) hi)
  obtain ⟨⟨W, t⟩, ⟨-, h1, h2⟩, h3⟩ := loopD_invk (N := N) (fun (k : List Int × Int × List Int × Int × Int × Int × List Int × Int × Int × List Int → Option Rt_keep_part) (s : Int × Int) kn => keep_part_4 N k (l.map fun (j : Nat) => (j : Int)) ((nth 0 l i : Nat) : Int) (l.map fun (j : Nat) => (j : Int)) (l.length : Int) (i : Int) (l.map fun (j : Nat) => (j : Int)) (l.length : Int) (m : Int) up 0 (l.length : Int) acc s.1 s.2 (backE ((l.map fun (j : Nat) => (j : Int)), ((nth 0 l i : Nat) : Int), (l.map fun (j : Nat) => (j : Int)), (l.length : Int), (i : Int), (l.map fun (j : Nat) => (j : Int)), (l.length : Int), (m : Int), up, (0 : Int), (l.length : Int), acc) kn)) (fun k s => k ((l.map fun (j : Nat) => (j : Int)), s.1, (l.map fun (j : Nat) => (j : Int)), (l.length : Int), (i : Int), (m : Int), up, (0 : Int), (l.length : Int), acc)) (s := ((0 : Int), (0 : Int))) l.length
    (fun n s => s.2 = (n : Int) ∧ W32 s.1 ∧ ∀ j, bt s.1 j = true ↔ j < n ∧ le up (nth 0 l i) (nth 0 l j)) (fun n s hn hs => by
      obtain ⟨W, t⟩ := s
      obtain ⟨ht, hW, hb⟩ := hs
      simp only at ht hW hb
      subst ht
      have haj := hlt _ (nth_mem (z := 0) hn)
      have e2 : IntKind.u64.wrap (n : Int) = (n : Int) := by rw [IntKind.wrap_u64]; omega
      have e3 : IntKind.i64.wrap ((n : Int) + 1) = (n : Int) + 1 := w64 (by omega) (by omega)
      have hbody : ∀ k kn, keep_part_4 N k (l.map fun (j : Nat) => (j : Int)) ((nth 0 l i : Nat) : Int) (l.map fun (j : Nat) => (j : Int)) (l.length : Int) (i : Int) (l.map fun (j : Nat) => (j : Int)) (l.length : Int) (m : Int) up 0 (l.length : Int) acc W (n : Int) (backE ((l.map fun (j : Nat) => (j : Int)), ((nth 0 l i : Nat) : Int), (l.map fun (j : Nat) => (j : Int)), (l.length : Int), (i : Int), (l.map fun (j : Nat) => (j : Int)), (l.length : Int), (m : Int), up, (0 : Int), (l.length : Int), acc) kn) = if le up (nth 0 l i) (nth 0 l n) then kn (ior .u32 W (one n), (n : Int) + 1) else kn (W, (n : Int) + 1) := fun k kn => by
        simp only [keep_part_4, backE_eq, hll, lt_d hn, ge0_d, Bool.and_self, cond_true, Int.toNat_natCast, nthp, kbelow_eq N hw (show nth 0 l i < up.length by omega) (show nth 0 l n < 4611686018427387904 by omega), Option.bind_some, e2, d_false (show ¬ ((n : Int) < 0) by omega), e3, cond_false]
        cases q1 : bt (nth 0 up (nth 0 l i)) (nth 0 l n) with
        | false => rw [if_neg (fun h => by rw [le, q1] at h; cases h)]; rfl
        | true => rw [if_pos (show le up (nth 0 l i) (nth 0 l n) from q1)]; rfl
      by_cases q : le up (nth 0 l i) (nth 0 l n)
      · refine ⟨(ior .u32 W (one n), (n : Int) + 1), ⟨rfl, W32.ior, fun j => ?_⟩, fun k kn => by rw [hbody, if_pos q]⟩
        simp only
        rw [bt_ior hW (W32.one _), bt_one (by omega), Bool.or_eq_true, hb, decide_eq_true_eq]
        constructor
        · rintro (⟨q1, q2⟩ | rfl)
          · exact ⟨by omega, q2⟩
          · exact ⟨by omega, q⟩
        · rintro ⟨q1, q2⟩
          by_cases e : j = n
          · exact .inr e
          · exact .inl ⟨by omega, q2⟩
      · refine ⟨(W, (n : Int) + 1), ⟨rfl, hW, fun j => ?_⟩, fun k kn => by rw [hbody, if_neg q]⟩
        simp only
        rw [hb]
        constructor
        · exact fun ⟨q1, q2⟩ => ⟨by omega, q2⟩
        · rintro ⟨q1, q2⟩
          by_cases e : j = n
          · subst e; exact absurd q2 q
          · exact ⟨by omega, q2⟩)
    (fun s hs k kn => by
      obtain ⟨W, t⟩ := s
      obtain ⟨ht, -⟩ := hs
      simp only at ht
      subst ht
      simp only [keep_part_4, lt_self, cond_false]) (by omega)
    ⟨rfl, W32.zero, fun j => by rw [bt_zero]; exact ⟨fun h => Bool.noConfusion h, fun h => absurd h.1 (Nat.not_lt_zero _)⟩⟩
  exact ⟨W, h1, h2, h3⟩
theorem part_eq : ∃ w, D_keep_part N (((m : Int), up), (l.map fun (j : Nat) => (j : Int)), ()) = some (((l.length : Int), w), ()) ∧ Pw up l l.length w := by
  have hll : (l.map fun (j : Nat) => (j : Int)).length = l.length := List.length_map ..
  simp only [D_keep_part, keep_part_6, keep_part_1, joinD, loopE, hll]
  obtain ⟨⟨t, s⟩, ⟨-, h2⟩, h3⟩ := loopD_inv (N := N) (g := fun (s : Int × List Int) kn => keep_part_5 N (fun s => some ((s.2.2.2.1, s.2.2.2.2), ())) (l.map fun (j : Nat) => (j : Int)) (l.map fun (j : Nat) => (j : Int)) (l.length : Int) (m : Int) up 0 (l.length : Int) s.1 s.2 (backE ((l.map fun (j : Nat) => (j : Int)), (l.map fun (j : Nat) => (j : Int)), (l.length : Int), (m : Int), up, (0 : Int), (l.length : Int)) kn)) (k := fun s => some (((l.length : Int), s.2), ())) (s := ((0 : Int), [])) l.length
    (fun i s => s.1 = (i : Int) ∧ Pw up l i s.2) (fun i s hi hs => by
      obtain ⟨t, s⟩ := s
      obtain ⟨ht, hq⟩ := hs
      simp only at ht hq
      subst ht
      obtain ⟨W, W1, W2, W3⟩ := part10 hN hm hw hlu hl hlt hi s
      have hls := hq.len
      have e3 : IntKind.i64.wrap ((i : Int) + 1) = (i : Int) + 1 := w64 (by omega) (by omega)
      refine ⟨((i : Int) + 1, s ++ [W]), ⟨rfl, ⟨by rw [List.length_append, hls]; rfl, fun x hx => ?_, fun x hx k => ?_⟩⟩, fun kn => ?_⟩
      · rcases List.mem_append.1 hx with h | h
        · exact hq.wl x h
        · rw [List.mem_singleton.1 h]; exact W1
      · simp only
        by_cases e : x < i
        · have : nth 0 (s ++ [W]) x = nth 0 s x := by
            unfold nth
            rw [List.getD_eq_getElem?_getD, List.getElem?_append_left (by omega), ← List.getD_eq_getElem?_getD]
          rw [this]
          exact hq.bit x e k
        · have ex : x = i := by omega
          have : nth 0 (s ++ [W]) x = W := by
            unfold nth
            rw [List.getD_eq_getElem?_getD, List.getElem?_append_right (by omega), hls, ex]
            simp
          rw [this, ex]
          exact W2 k
      · simp only [keep_part_5, keep_part_3, keep_part_2, joinD, loopE, backE_eq, hll, lt_d hi, ge0_d, Bool.and_self, cond_true, Int.toNat_natCast, nthp, W3, e3]
        rw [d_true (by simp; omega)]; rfl)
    (fun s hs kn => by
      obtain ⟨t, s⟩ := s
      obtain ⟨ht, -⟩ := hs
      simp only at ht
      subst ht
      simp only [keep_part_5, lt_self, cond_false]) (by omega) ⟨rfl, ⟨rfl, (fun x hx => by cases hx), fun x hx => absurd hx (Nat.not_lt_zero _)⟩⟩
  exact ⟨s, h3, h2⟩
end
/-- It is an order. -/
theorem Pw.ord {m : Nat} {up w : List Int} (ho : Ord (m : Int) up) {l : List Nat} (hl : l.length ≤ 16) (hlt : ∀ x ∈ l, x < m) (hne : ∀ i j, i < l.length → j < l.length → nth 0 l i = nth 0 l j → i = j) (h : Pw up l l.length w) : Ord (l.length : Int) w := by
  have hle : ∀ {i j}, i < l.length → (le w i j ↔ j < l.length ∧ le up (nth 0 l i) (nth 0 l j)) := fun {i j} hi => h.bit i hi j
  have hm : ∀ {i}, i < l.length → nth 0 l i < m := fun hi => hlt _ (nth_mem hi)
  refine ⟨by omega, by omega, by rw [h.len]; rfl, fun i hi j hj => ?_, fun i hi => ?_, fun i j hi hj h1 h2 => ?_, fun i j k hi hj h1 h2 => ?_⟩ <;> rw [Int.toNat_natCast] at *
  · exact ((hle hi).1 hj).1
  · exact (hle hi).2 ⟨hi, ho.refl _ (by have := hm hi; omega)⟩
  · exact hne i j hi hj (ho.anti _ _ (by have := hm hi; omega) (by have := hm hj; omega) ((hle hi).1 h1).2 ((hle hj).1 h2).2)
  · obtain ⟨hk, b2⟩ := (hle hj).1 h2
    exact (hle hi).2 ⟨hk, ho.trans _ _ _ (by have := hm hi; omega) (by have := hm hj; omega) ((hle hi).1 h1).2 b2⟩
end Go.Proofs.YtagghgmpdjoknaaDoor
