/- What the inverse of a table comes to. -/
import Derived.Test.YtagghgmpdjoknaaDoorMobS
import Derived.Test.YtagghgmpdjoknaaDoorMobB
import Derived.Test.YtagghgmpdjoknaaDoorSortedS
import Derived.Test.YtagghgmpdjoknaaDoorKeepS
namespace Go.Proofs.YtagghgmpdjoknaaDoor
open Go.Abs
theorem nthc (l : List Nat) (i : Nat) : nth (0 : Int) (l.map fun (j : Nat) => (j : Int)) i = ((nth 0 l i : Nat) : Int) := by
  unfold nth
  rw [List.getD_eq_getElem?_getD, List.getD_eq_getElem?_getD, List.getElem?_map]
  cases l[i]? <;> rfl
theorem lined_lt {up : List Int} {m : Nat} {l : List Nat} (h : Lined up m l) (hl : l.length = m) {i : Nat} (hi : i < m) : nth 0 l i < m := h.lt _ (nth_mem (by omega))
theorem lined_ne {up : List Int} {m : Nat} {l : List Nat} (h : Lined up m l) (hl : l.length = m) {i j : Nat} (hij : i < j) (hj : j < m) : nth 0 l i ≠ nth 0 l j ∧ ¬ le up (nth 0 l j) (nth 0 l i) := by
  have e : ∀ i, (hi : i < l.length) → nth 0 l i = l[i] := fun i hi => by unfold nth; rw [List.getD_eq_getElem?_getD, List.getElem?_eq_getElem hi]; rfl
  rw [e i (by omega), e j (by omega)]
  exact List.pairwise_iff_getElem.1 h.ne i j (by omega) (by omega) hij
theorem lined_all {up : List Int} {m : Nat} {l : List Nat} (h : Lined up m l) (hl : l.length = m) {x : Nat} (hx : x < m) : ∃ i, i < m ∧ nth 0 l i = x := by
  have hmem : x ∈ l := by
    refine Classical.byContradiction fun hn => ?_
    have hd : (x :: l).Nodup := List.nodup_cons.2 ⟨hn, h.ne.imp fun h => h.1⟩
    have := hd.length_le_of_subset (l₂ := List.range m) fun y hy => List.mem_range.2 (by
      rcases List.mem_cons.1 hy with rfl | hy
      · exact hx
      · exact h.lt y hy)
    simp at this
    omega
  obtain ⟨i, hi, e⟩ := mem_nth (z := (0 : Nat)) hmem
  exact ⟨i, by omega, e⟩
section
variable {N m : Nat} (hm : m ≤ 16) {up f : List Int} (hw : WL up) (ho : Ord (m : Int) up) (hf : Tab m up f) {a : Nat} (ha : a < m)
  {T : Tb} (hT : ∀ x y, x < m → y < m → ¬ le up x y → T x y = 0)
include hm hw ho hf ha hT
theorem inv_row {k0 : Nat} (hk : k0 < m) (hne : k0 ≠ a) {s0 : List Int} (h0 : Cel m s0 ∧ ∀ x y, x < m → y < m → x ≠ a → tv m s0 x y = T x y) :
    ∃ s, (Cel m s ∧ ∀ x y, x < m → y < m → x ≠ a → tv m s x y = T x y) ∧ (∀ x : Nat × Nat, x.1 < m ∧ x.2 < m → tv m s x.1 x.2 = tv m s0 x.1 x.2 + (if x.1 = a then -(tv m f a a * tv m f a k0 * T k0 x.2) else 0)) ∧
      ∀ k : List Int → Option Rt_mobius_Inverse, forD (fun y s kn => mobius_Inverse_3 N (m : Int) up (m : Int) f (m : Int) (a : Int) (nth 0 f (a * m + a)) (k0 : Int) s (backE ((m : Int), up, (m : Int), f, (m : Int), (a : Int), nth 0 f (a * m + a), (k0 : Int)) kn) y) k (eachXs (nth 0 up k0, ())) s0 = k s := by
  have hwa := WL.nth hw k0
  obtain ⟨s, h1, h2, h3⟩ := each_add (m := m) hwa (fun j hj => ord_in ho hk hj) (by omega) (fun i : Nat × Nat => i.1 < m ∧ i.2 < m) (fun s i => tv m s i.1 i.2) (fun b x => if x.1 = a ∧ x.2 = b then -(tv m f a a * tv m f a k0 * T k0 b) else 0)
    (fun s => Cel m s ∧ ∀ x y, x < m → y < m → x ≠ a → tv m s x y = T x y)
    (fun (_ : List Int → Option Rt_mobius_Inverse) (y : Int) (s : List Int) kn => mobius_Inverse_3 N (m : Int) up (m : Int) f (m : Int) (a : Int) (nth 0 f (a * m + a)) (k0 : Int) s (backE ((m : Int), up, (m : Int), f, (m : Int), (a : Int), nth 0 f (a * m + a), (k0 : Int)) kn) y) (fun k s => k s)
    (fun b s hb hbt hs => by
      obtain ⟨hs, hs2⟩ := hs
      refine ⟨s.set (a * m + b) (IntKind.i64.wrap (nth 0 s (a * m + b) - IntKind.i64.wrap (IntKind.i64.wrap (nth 0 f (a * m + a) * nth 0 f (a * m + k0)) * nth 0 s (k0 * m + b)))), ⟨hs.set (I64.wrap _) _, fun x y hx hy hne => ?_⟩, fun x hx => ?_, fun k kn => ?_⟩
      · rw [tv_set hs.len ha hb hx hy, if_neg (fun h => hne h.1), hs2 x y hx hy hne]
      · simp only [tv_set hs.len ha hb hx.1 hx.2]
        by_cases e : x.1 = a ∧ x.2 = b
        · have := hs2 k0 b hk hb hne
          unfold tv at this
          rw [if_pos e, if_pos e, ph_wrap, ph_sub, ph_wrap, ph_mul, ph_wrap, ph_mul, e.1, e.2, this]
          unfold tv
          grind
        · rw [if_neg e, if_neg e]; grind
      · simp only [mobius_Inverse_3, backE_eq, Int.toNat_natCast, grid_eq hm ha hb, grid_eq hm ha hk, grid_eq hm ha ha, grid_eq hm hk hb, okIf_cell ha hb hs.len, okIf_cell ha hk hf.len, okIf_cell hk hb hs.len, Option.bind_some]) s0 h0
  refine ⟨s, h1, fun x hx => ?_, h3⟩
  rw [h2 x hx]
  congr 1
  by_cases e : x.1 = a
  · rw [if_pos e, Sg_one hx.2 fun j hj hne => ?_]
    · by_cases q : bt (nth 0 up k0) x.2 = true
      · rw [if_pos q, if_pos ⟨e, rfl⟩]
      · rw [if_neg q, hT k0 x.2 hk hx.2 q]; grind
    · split
      · rw [if_neg fun h => hne h.2.symm]
      · rfl
  · rw [if_neg e, Sg_zero fun j hj => ?_]
    split
    · rw [if_neg fun h => e h.1]
    · rfl
theorem inv_sq {s0 : List Int} (h0 : Cel m s0 ∧ ∀ x y, x < m → y < m → x ≠ a → tv m s0 x y = T x y) :
    ∃ s, (Cel m s ∧ ∀ x y, x < m → y < m → x ≠ a → tv m s x y = T x y) ∧ (∀ x : Nat × Nat, x.1 < m ∧ x.2 < m → tv m s x.1 x.2 = tv m s0 x.1 x.2 + (if x.1 = a then -(tv m f a a * Sg m fun k0 => if k0 = a then 0 else tv m f a k0 * T k0 x.2) else 0)) ∧
      ∀ k : List Int → Option Rt_mobius_Inverse, forD (fun (y : Int) (s : List Int) kn => mobius_Inverse_4 N (m : Int) up (m : Int) f (m : Int) (a : Int) (nth 0 f (a * m + a)) s (backE ((m : Int), up, (m : Int), f, (m : Int), (a : Int), nth 0 f (a * m + a)) kn) y) k (eachXs (iandNot .u32 (nth 0 up a) (one a), ())) s0 = k s := by
  have hlu : up.length = m := by have := ho.len; omega
  have hwa := WL.nth hw a
  have hbits : ∀ j, bt (iandNot .u32 (nth 0 up a) (one a)) j = true ↔ le up a j ∧ j ≠ a := fun j => by
    rw [bt_iandNot hwa (W32.one _), bt_one (by omega)]
    simp [le]
  obtain ⟨s, h1, h2, h3⟩ := each_add (m := m) (w := iandNot .u32 (nth 0 up a) (one a)) W32.iandNot (fun j hj => ord_in ho ha ((hbits j).1 hj).1) (by omega) (fun i : Nat × Nat => i.1 < m ∧ i.2 < m) (fun s i => tv m s i.1 i.2) (fun k0 x => if x.1 = a then -(tv m f a a * tv m f a k0 * T k0 x.2) else 0)
    (fun s => Cel m s ∧ ∀ x y, x < m → y < m → x ≠ a → tv m s x y = T x y)
    (fun (_ : List Int → Option Rt_mobius_Inverse) (y : Int) (s : List Int) kn => mobius_Inverse_4 N (m : Int) up (m : Int) f (m : Int) (a : Int) (nth 0 f (a * m + a)) s (backE ((m : Int), up, (m : Int), f, (m : Int), (a : Int), nth 0 f (a * m + a)) kn) y) (fun k s => k s)
    (fun k0 s hk hbt hs => by
      obtain ⟨s', q1, q2, q3⟩ := inv_row (N := N) hm hw ho hf ha hT hk ((hbits k0).1 hbt).2 hs
      refine ⟨s', q1, q2, fun k kn => ?_⟩
      simp only [mobius_Inverse_4, forE, backE_eq, hlu, lt_d hk, ge0_d, Bool.and_self, cond_true, Int.toNat_natCast, Each_eq N, Option.bind_some, q3]) s0 h0
  refine ⟨s, h1, fun x hx => ?_, h3⟩
  rw [h2 x hx]
  congr 1
  by_cases e : x.1 = a
  · rw [if_pos e, ← Sg_ml, ← Sg_neg]
    refine Sg_congr fun j hj => ?_
    simp only [if_pos e]
    by_cases q : j = a
    · rw [if_neg (fun h => ((hbits j).1 h).2 q), if_pos q]; grind
    · rw [if_neg q]
      by_cases q2 : le up a j
      · rw [if_pos ((hbits j).2 ⟨q2, q⟩)]; grind
      · rw [if_neg (fun h => q2 ((hbits j).1 h).1), hf.tv0 ha hj q2]; grind
  · rw [if_neg e, Sg_zero fun j hj => ?_]
    simp only [if_neg e]
    split <;> rfl
end
def Unit1 (m : Nat) (f : List Int) : Prop := ∀ a, a < m → nth 0 f (a * m + a) = 1 ∨ nth 0 f (a * m + a) = -1
theorem unit_sq {x : Int} (h : x = 1 ∨ x = -1) : ph x * ph x = 1 := by
  rcases h with rfl | rfl
  · rfl
  · rfl
/-- The inverse has an inverse. -/
theorem inv_unit {m : Nat} {up f g : List Int} (ho : Ord (m : Int) up) (hf : Tab m up f) (hg : Tab m up g) (cg : Cel m g) (h : Unit1 m f) (hi : EqT m (mulT m (tv m f) (tv m g)) dl) : Unit1 m g := fun a ha => by
  have e := hi a a ha ha
  unfold mulT dl at e
  rw [if_pos rfl, Sg_one ha fun k hk hne => ?_] at e
  · have h1 : ph (nth 0 f (a * m + a)) * ph (nth 0 g (a * m + a)) = 1 := e
    rcases h a ha with q | q
    · refine .inl (ph_inj (I64.nth cg.i64 _) I64.one ?_)
      rw [q, ph_one] at h1
      rw [ph_one]; grind
    · refine .inr (ph_inj (I64.nth cg.i64 _) (by unfold I64; omega) ?_)
      rw [q, ph_m1] at h1
      rw [ph_m1]; grind
  · by_cases q : le up a k
    · rw [hg.tv0 hk ha fun q2 => hne (ho.anti k a (by omega) (by omega) q2 q)]; grind
    · rw [hf.tv0 ha hk q]; grind
section
variable {N m : Nat} (hN : 1000 ≤ N) (hm : m ≤ 16) {up f : List Int} (hw : WL up) (ho : Ord (m : Int) up)
include hN hm hw ho
theorem Inverse_bad (h : ¬ Tab m up f) : D_mobius_Inverse N (((m : Int), up), f, ()) = some ([], 2, ()) := by
  obtain ⟨e, h1, h2⟩ := Check_spec (N := N) (by omega) hw (m : Int)
  obtain rfl := h2.2 ho
  have hlu : up.length = m := by have := ho.len; omega
  obtain ⟨a1, -⟩ | ⟨-, a2⟩ := table_eq hN hm (f := f) hw hlu
  · exact absurd a1 h
  simp only [D_mobius_Inverse, mobius_Inverse_8, h1, Option.bind_some, bne_self_eq_false, cond_false, a2, Bool.not_false, cond_true]
omit hN hw ho in
theorem inv6 (hf : Tab m up f) {a : Nat} (ha : a < m) (kn) (k) :
    mobius_Inverse_7 N k m m up m f (a : Int) kn = if nth 0 f (a * m + a) = 1 ∨ nth 0 f (a * m + a) = -1 then kn (((m : Int), (m : Int), up, (m : Int), f), (a : Int) + 1) else some ([], 5, ()) := by
  simp only [mobius_Inverse_7, lt_d ha, cond_true, grid_eq hm ha ha, okIf_cell ha ha hf.len, Option.bind_some, Int.toNat_natCast, w1 hm ha]
  by_cases q1 : nth 0 f (a * m + a) = 1
  · rw [if_pos (.inl q1), q1]; rfl
  · rw [bne_iff_ne.2 q1, cond_true]
    by_cases q2 : nth 0 f (a * m + a) = -1
    · rw [if_pos (.inr q2), q2]; rfl
    · rw [if_neg (fun h => h.elim q1 q2), bne_iff_ne.2 q2]; rfl
theorem Inverse_none (hf : Tab m up f) (h : ¬ Unit1 m f) : D_mobius_Inverse N (((m : Int), up), f, ()) = some ([], 5, ()) := by
  obtain ⟨e, h1, h2⟩ := Check_spec (N := N) (by omega) hw (m : Int)
  obtain rfl := h2.2 ho
  have hlu : up.length = m := by have := ho.len; omega
  obtain ⟨-, a2⟩ | ⟨a1, -⟩ := table_eq hN hm (f := f) hw hlu
  case inr => exact absurd hf a1
  simp only [D_mobius_Inverse, mobius_Inverse_8, joinD, loopE, h1, Option.bind_some, bne_self_eq_false, cond_false, a2, Bool.not_true]
  refine loopD_hitU (n := m) (fun a => ¬ (nth 0 f (a * m + a) = 1 ∨ nth 0 f (a * m + a) = -1)) (fun a ha hb kn => by rw [inv6 hm hf ha, if_neg hb]) (fun a ha hb kn => by rw [inv6 hm hf ha, if_pos (Classical.not_not.1 hb), backE_eq]) (by omega) ?_
  refine Classical.byContradiction fun hn => h fun a ha => Classical.byContradiction fun q => hn ⟨a, ha, q⟩
theorem Inverse_eq (hf : Tab m up f) (h : Unit1 m f) : ∃ g, D_mobius_Inverse N (((m : Int), up), f, ()) = some (g, 0, ()) ∧ Cel m g ∧ Tab m up g ∧ EqT m (mulT m (tv m f) (tv m g)) dl := by
  obtain ⟨e, h1, h2⟩ := Check_spec (N := N) (by omega) hw (m : Int)
  obtain rfl := h2.2 ho
  have hlu : up.length = m := by have := ho.len; omega
  obtain ⟨-, a2⟩ | ⟨a1, -⟩ := table_eq hN hm (f := f) hw hlu
  case inr => exact absurd hf a1
  obtain ⟨l, l1, l2, l3⟩ := Sorted_eq (N := N) (by omega) hw ho
  rw [Int.toNat_natCast] at l2 l3
  simp only [D_mobius_Inverse, mobius_Inverse_8, joinD, loopE, h1, Option.bind_some, bne_self_eq_false, cond_false, a2, Bool.not_true]
  rw [loopD_passU (n := m) (k := mobius_Inverse_6 N (m : Int) up (m : Int) f) (fun a ha kn => by rw [inv6 hm hf ha, if_pos (h a ha), backE_eq]) (fun kn => by simp only [mobius_Inverse_7, lt_self, cond_false]) (by omega)]
  simp only [mobius_Inverse_6, mobius_Inverse_1, joinD, loopE, square_eq hm, l1, Option.bind_some]
  have hll : ((l.map fun (j : Nat) => (j : Int)).length : Int) - 1 = (m : Int) - 1 := by rw [List.length_map, l3]
  rw [hll, w64 (show -9223372036854775808 ≤ (m : Int) - 1 by omega) (show (m : Int) - 1 ≤ 9223372036854775807 by omega)]
  obtain ⟨⟨t, s⟩, ⟨-, q1, -, q3, q4⟩, e⟩ := loopD_invk (N := N) (fun (k : Int × List Int × Int × List Int × List Int × Int → Option Rt_mobius_Inverse) (s : Int × List Int) kn => mobius_Inverse_5 N k (l.map fun (j : Nat) => (j : Int)) (m : Int) up (m : Int) f (m : Int) s.1 s.2 (backE (l.map (fun (j : Nat) => (j : Int)), (m : Int), up, (m : Int), f, (m : Int)) kn)) (fun k s => k ((m : Int), up, (m : Int), f, s.2, (m : Int))) (s := ((m : Int) - 1, List.replicate (m * m) 0)) m
    (fun p s => s.1 = (m : Int) - 1 - (p : Int) ∧ Cel m s.2 ∧ (∀ i, i < m - p → ∀ b, b < m → tv m s.2 (nth 0 l i) b = 0) ∧ (∀ i, m - p ≤ i → i < m → ∀ b, b < m → mulT m (tv m f) (tv m s.2) (nth 0 l i) b = dl (nth 0 l i) b) ∧ ∀ a b, a < m → b < m → ¬ le up a b → tv m s.2 a b = 0)
    (fun p s hp hs => by
      obtain ⟨t, s⟩ := s
      obtain ⟨ht, c1, c2, c3, c4⟩ := hs
      simp only at ht c1 c2 c3 c4
      have hi : m - 1 - p < m := by omega
      generalize hii : m - 1 - p = i at hi
      obtain rfl : t = (i : Int) := by omega
      have ha := lined_lt l2 l3 hi
      generalize hia : nth 0 l i = a at ha
      have hda := h a ha
      have hd1 : I64 (nth 0 f (a * m + a)) := by rcases hda with e | e <;> rw [e] <;> unfold I64 <;> omega
      have hs1 : ∀ x y, x < m → y < m → tv m (s.set (a * m + a) (nth 0 f (a * m + a))) x y = if x = a ∧ y = a then tv m f a a else tv m s x y := fun x y hx hy => by
        rw [tv_set c1.len ha ha hx hy]; rfl
      obtain ⟨s', ⟨r1, r2⟩, r3, r4⟩ := inv_sq (N := N) (T := tv m s) (s0 := s.set (a * m + a) (nth 0 f (a * m + a))) hm hw ho hf ha c4 ⟨c1.set hd1 _, fun x y hx hy hne => by rw [hs1 x y hx hy, if_neg fun h => hne h.1]⟩
      have row0 : ∀ b, b < m → tv m s a b = 0 := fun b hb => by rw [← hia]; exact c2 i (by omega) b hb
      have rowa : ∀ b, b < m → tv m s' a b = (if b = a then tv m f a a else 0) - tv m f a a * Sg m fun k0 => if k0 = a then 0 else tv m f a k0 * tv m s k0 b := fun b hb => by
        have := r3 (a, b) ⟨ha, hb⟩
        simp only [if_true] at this
        rw [this, hs1 a b ha hb]
        by_cases e : b = a
        · rw [if_pos ⟨rfl, e⟩, if_pos e]; grind
        · rw [if_neg fun h => e h.2, if_neg e, row0 b hb]; grind
      refine ⟨((i : Int) - 1, s'), ⟨by simp only; omega, r1, fun i' hi' b hb => ?_, fun i' h1 h2 b hb => ?_, fun x y hx hy hle => ?_⟩, fun k kn => ?_⟩
      · have hne := (lined_ne l2 l3 (show i' < i by omega) hi).1
        simp only
        rw [r2 _ b (lined_lt l2 l3 (by omega)) hb (by rw [← hia]; exact hne)]
        exact c2 i' (by omega) b hb
      · simp only
        by_cases e : i' = i
        · subst e
          rw [hia]
          unfold mulT
          rw [Sg_apart ha]
          have e2 : (Sg m fun k0 => if k0 = a then 0 else tv m f a k0 * tv m s' k0 b) = Sg m fun k0 => if k0 = a then 0 else tv m f a k0 * tv m s k0 b := Sg_congr fun k0 hk => by
            by_cases q : k0 = a
            · rw [if_pos q, if_pos q]
            · rw [if_neg q, if_neg q, r2 k0 b hk hb q]
          rw [e2, rowa b hb]
          have hsq : tv m f a a * tv m f a a = 1 := unit_sq hda
          generalize (Sg m fun k0 => if k0 = a then 0 else tv m f a k0 * tv m s k0 b) = S
          unfold dl
          by_cases q : b = a
          · rw [if_pos q, if_pos q.symm]; grind
          · rw [if_neg q, if_neg fun h => q h.symm]; grind
        · have hii' : i < i' := by omega
          have hx := lined_ne l2 l3 hii' h2
          rw [hia] at hx
          have hxl := lined_lt l2 l3 h2
          rw [← c3 i' (by omega) h2 b hb]
          refine Sg_congr fun k0 hk => ?_
          by_cases q : k0 = a
          · rw [q, hf.tv0 hxl ha hx.2]; grind
          · rw [r2 k0 b hk hb q]
      · simp only
        by_cases e : x = a
        · subst e
          rw [rowa y hy, if_neg (fun e => hle (by subst e; exact ho.refl _ (by omega))), Sg_zero fun k0 hk => ?_]
          · grind
          · by_cases q : k0 = x
            · rw [if_pos q]
            · rw [if_neg q]
              by_cases q2 : le up x k0
              · rw [c4 k0 y hk hy fun q3 => hle (ho.trans x k0 y (by omega) (by omega) q2 q3)]; grind
              · rw [hf.tv0 ha hk q2]; grind
        · rw [r2 x y hx hy e]; exact c4 x y hx hy hle
      · have hwrap : IntKind.i64.wrap ((i : Int) - 1) = (i : Int) - 1 := w64 (by omega) (by omega)
        simp only [mobius_Inverse_5, mobius_Inverse_2, joinD, forE, backE_eq, List.length_map, l3, Int.toNat_natCast, nthc, hia, show decide ((0 : Int) ≤ (i : Int)) = true from ge0_d i, show decide ((0 : Int) ≤ (a : Int)) = true from ge0_d a, d_true (show (i : Int) ≥ 0 by omega), lt_d hi, hlu, lt_d ha, Bool.and_self, cond_true, grid_eq hm ha ha, okIf_cell ha ha hf.len, okIf_cell ha ha c1.len, One_eq N a, Each_eq N, Option.bind_some, r4, hwrap])
    (fun s hs k kn => by
      obtain ⟨t, s⟩ := s
      obtain ⟨ht, -⟩ := hs
      simp only at ht
      subst ht
      simp only [mobius_Inverse_5, d_false (show ¬ ((m : Int) - 1 - (m : Int) ≥ 0) by omega), cond_false]) (by omega)
    ⟨by simp, Cel.zero m, fun i _ b _ => by unfold tv; rw [nth_zeros, ph_zero], fun i h1 h2 => by omega, fun a b _ _ _ => by unfold tv; rw [nth_zeros, ph_zero]⟩
  refine ⟨s, e _, q1, ⟨q1.len, fun a b ha hb hle => ph_inj (I64.nth q1.i64 _) I64.zero (q4 a b ha hb hle)⟩, fun a b ha hb => ?_⟩
  obtain ⟨i, hi, rfl⟩ := lined_all l2 l3 ha
  exact q3 i (by omega) hi b hb
end
/-- The order as a table. -/
def zt (up : List Int) : Tb := fun a b => if le up a b then 1 else 0
structure IsMu (m : Nat) (up g : List Int) : Prop where
  cel : Cel m g
  tab : Tab m up g
  left : EqT m (mulT m (zt up) (tv m g)) dl
  right : EqT m (mulT m (tv m g) (zt up)) dl
theorem Mu_eq {N m : Nat} (hN : 1000 ≤ N) (hm : m ≤ 16) {up : List Int} (hw : WL up) (ho : Ord (m : Int) up) : ∃ g, D_mobius_Mu N (((m : Int), up), ()) = some (g, 0, ()) ∧ IsMu m up g := by
  obtain ⟨z, z1, z2, z3⟩ := Zeta_eq (N := N) hN hm hw ho
  have hz : Tab m up z := ⟨z2.len, fun a b ha hb hle => by rw [z3 a b ha hb, if_neg hle]⟩
  have hzt : EqT m (tv m z) (zt up) := fun a b ha hb => by
    unfold tv zt
    rw [z3 a b ha hb]
    split <;> rfl
  have hu : Unit1 m z := fun a ha => .inl (by rw [z3 a a ha ha, if_pos (ho.refl a (by omega))])
  obtain ⟨g, g1, g2, g3, g4⟩ := Inverse_eq (N := N) hN hm hw ho hz hu
  obtain ⟨h, h1, h2, h3, h4⟩ := Inverse_eq (N := N) hN hm hw ho g3 (inv_unit ho hz g3 g2 hu g4)
  obtain ⟨b1, b2⟩ := inv_both g4 h4
  refine ⟨g, by simp only [D_mobius_Mu, mobius_Mu_1, z1, g1, Option.bind_some, bne_self_eq_false, cond_false], g2, g3, fun a b ha hb => ?_, fun a b ha hb => ?_⟩
  · rw [← g4 a b ha hb]; exact mulT_congr (fun x y hx hy => (hzt x y hx hy).symm) (fun _ _ _ _ => rfl) a b ha hb
  · rw [← b2 a b ha hb]; exact mulT_congr (fun _ _ _ _ => rfl) (fun x y hx hy => (hzt x y hx hy).symm) a b ha hb
/-- What has no sums below is nothing. -/
theorem IsMu.none {m : Nat} {up g : List Int} (h : IsMu m up g) {v : Nat → Z} (hv : ∀ z, z < m → Sg m (fun y => v y * zt up y z) = 0) {y : Nat} (hy : y < m) : v y = 0 := by
  have hT : EqT m (mulT m (fun _ y => v y) (zt up)) (fun _ _ => 0) := fun a z _ hz => hv z hz
  have e1 : mulT m (mulT m (fun _ y => v y) (zt up)) (tv m g) 0 y = 0 := by
    have := mulT_congr hT (fun _ _ _ _ => rfl : EqT m (tv m g) (tv m g)) 0 y (by omega) hy
    rw [this]
    exact Sg_zero fun k _ => by grind
  rw [mulT_assoc, mulT_congr (fun _ _ _ _ => rfl) h.left 0 y (by omega) hy, mulT_dl _ hy] at e1
  exact e1
/-- What has the sums of one element is that element's row. -/
theorem IsMu.row {m : Nat} {up g : List Int} (h : IsMu m up g) {a : Nat} (ha : a < m) {v : Nat → Z} (hv : ∀ z, z < m → Sg m (fun y => v y * zt up y z) = dl a z) {y : Nat} (hy : y < m) : v y = tv m g a y := by
  have hT : EqT m (mulT m (fun _ y => v y) (zt up)) (fun _ z => dl a z) := fun x z _ hz => hv z hz
  have e1 : mulT m (mulT m (fun _ y => v y) (zt up)) (tv m g) 0 y = tv m g a y := by
    have := mulT_congr hT (fun _ _ _ _ => rfl : EqT m (tv m g) (tv m g)) 0 y (by omega) hy
    rw [this]
    exact dl_mulT (tv m g) ha
  rw [mulT_assoc, mulT_congr (fun _ _ _ _ => rfl) h.left 0 y (by omega) hy, mulT_dl _ hy] at e1
  exact e1
end Go.Proofs.YtagghgmpdjoknaaDoor
