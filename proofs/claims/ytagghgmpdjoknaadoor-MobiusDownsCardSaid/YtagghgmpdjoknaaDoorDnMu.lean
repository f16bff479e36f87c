/- Mu of the order of the down-sets: where what the one has more is loose, its sign. -/
import Derived.Test.YtagghgmpdjoknaaDoorMobI
import Derived.Test.YtagghgmpdjoknaaDoorDownsIS
namespace Go.Proofs.YtagghgmpdjoknaaDoor
open Go.Abs
/-- Pairs of opposite terms. -/
theorem Sg_pair {d : Nat} {f : Nat → Z} (p : Nat → Prop) (R : Nat → Nat → Prop) (hR : ∀ y w, R y w → p y ∧ ¬ p w ∧ f w = - f y)
    (h1 : ∀ y, y < d → p y → f y ≠ 0 → ∃ w, w < d ∧ R y w ∧ ∀ w', w' < d → R y w' → w' = w) (h2 : ∀ w, w < d → ¬ p w → f w ≠ 0 → ∃ y, y < d ∧ R y w ∧ ∀ y', y' < d → R y' w → y' = y) : Sg d f = 0 := by
  classical
  have e1 : ∀ y, y < d → (Sg d fun w => if R y w then f y else 0) = if p y then f y else 0 := fun y hy => by
    by_cases hp : p y
    · rw [if_pos hp]
      by_cases hf : f y = 0
      · rw [hf]; exact Sg_zero fun w _ => by split <;> rfl
      · obtain ⟨w, hw, r1, r2⟩ := h1 y hy hp hf
        rw [Sg_one hw fun w' hw' hne => if_neg fun h => hne (r2 w' hw' h), if_pos r1]
    · rw [if_neg hp]
      exact Sg_zero fun w _ => if_neg fun h => hp (hR y w h).1
  have e2 : ∀ w, w < d → (Sg d fun y => if R y w then f w else 0) = if p w then 0 else f w := fun w hw => by
    by_cases hp : p w
    · rw [if_pos hp]
      exact Sg_zero fun y _ => if_neg fun h => (hR y w h).2.1 hp
    · rw [if_neg hp]
      by_cases hf : f w = 0
      · rw [hf]; exact Sg_zero fun y _ => by split <;> rfl
      · obtain ⟨y, hy, r1, r2⟩ := h2 w hw hp hf
        rw [Sg_one hy fun y' hy' hne => if_neg fun h => hne (r2 y' hy' h), if_pos r1]
  have e3 : Sg d f = (Sg d fun y => if p y then f y else 0) + Sg d fun w => if p w then 0 else f w := by
    rw [← Sg_add]
    exact Sg_congr fun i _ => by by_cases hp : p i <;> simp [hp]
  rw [e3, ← Sg_congr e1, ← Sg_congr e2, Sg_swap d d (fun w y => if R y w then f w else 0), ← Sg_add]
  refine Sg_zero fun y _ => ?_
  rw [← Sg_add]
  refine Sg_zero fun w _ => ?_
  by_cases h : R y w
  · rw [if_pos h, if_pos h, (hR y w h).2.2]; grind
  · rw [if_neg h, if_neg h]; grind
def sgP (k : Nat) : Z := if k % 2 = 1 then -1 else 1
theorem sgP_succ (k : Nat) : sgP (k + 1) = - sgP k := by
  unfold sgP
  by_cases h : k % 2 = 1
  · rw [if_pos h, if_neg (by omega)]; grind
  · rw [if_neg h, if_pos (by omega)]
theorem filter_one (p q : Nat → Bool) (x : Nat) (hx : p x = false) (hq : ∀ t, q t = (p t || decide (t = x))) : ∀ n, ((List.range n).filter q).length = ((List.range n).filter p).length + if x < n then 1 else 0
  | 0 => by simp
  | n + 1 => by
    have ih := filter_one p q x hx hq n
    rw [List.range_succ, List.filter_append, List.filter_append, List.length_append, List.length_append, ih]
    by_cases e : n = x
    · subst e
      have h1 : q n = true := by rw [hq]; simp
      simp [h1, hx]
    · have h1 : q n = p n := by rw [hq]; simp [e]
      have h3 : (if x < n + 1 then 1 else 0) = if x < n then 1 else 0 := by
        by_cases h2 : x < n
        · rw [if_pos h2, if_pos (by omega)]
        · rw [if_neg h2, if_neg (by omega)]
      have h4 : [n].filter q = [n].filter p := by rw [List.filter_cons, List.filter_cons, h1]; rfl
      rw [h3, h4]
      omega
/-- Is none of a set strictly below another one? -/
def Loose (up : List Int) (w : Int) : Prop := ∀ i j, bt w i = true → bt w j = true → le up i j → i = j
section
variable {m : Nat} (hm : m ≤ 16) {up : List Int} (hw : WL up) (ho : Ord (m : Int) up)
/-- What Mu is. -/
noncomputable def dnv (up : List Int) (m i y : Nat) : Z := open Classical in
  if (∀ x, bt (nth 0 (downs up m) i) x = true → bt (nth 0 (downs up m) y) x = true) ∧ Loose up (iandNot .u32 (nth 0 (downs up m) y) (nth 0 (downs up m) i)) then sgP (els (iandNot .u32 (nth 0 (downs up m) y) (nth 0 (downs up m) i))).length else 0
include hm hw ho
theorem dn_mu (q : (downs up m).length ≤ 16) {g : List Int} (hg : IsMu (downs up m).length (incL (downs up m)) g) {i j : Nat} (hi : i < (downs up m).length) (hj : j < (downs up m).length) : dnv up m i j = tv (downs up m).length g i j := by
  classical
  have hD : ∀ {i}, i < (downs up m).length → isDn up m (nth 0 (downs up m) i) := fun hi => (mem_downs hw ho).1 (nth_mem (z := (0 : Int)) hi)
  have hmore : ∀ {y z}, y < (downs up m).length → z < (downs up m).length → ∀ t, bt (iandNot .u32 (nth 0 (downs up m) y) (nth 0 (downs up m) z)) t = true ↔ bt (nth 0 (downs up m) y) t = true ∧ ¬ bt (nth 0 (downs up m) z) t = true := fun hy hz t => by
    rw [bt_iandNot (hD hy).w32 (hD hz).w32, Bool.and_eq_true, Bool.not_eq_true', Bool.not_eq_true]
  have hinj : ∀ {y z}, y < (downs up m).length → z < (downs up m).length → (∀ x, bt (nth 0 (downs up m) y) x = true ↔ bt (nth 0 (downs up m) z) x = true) → y = z := fun hy hz h => dn_inj hw ho hy hz fun x _ => h x
  refine IsMu.row hg hi (v := fun y => dnv up m i y) (fun z hz => ?_) hj
  have hzt : ∀ y, y < (downs up m).length → dnv up m i y * zt (incL (downs up m)) y z = if (∀ x, bt (nth 0 (downs up m) y) x = true → bt (nth 0 (downs up m) z) x = true) then dnv up m i y else 0 := fun y hy => by
    unfold zt
    by_cases h : ∀ x, bt (nth 0 (downs up m) y) x = true → bt (nth 0 (downs up m) z) x = true
    · rw [if_pos h, if_pos ((le_inc hw ho q hy).2 ⟨hz, h⟩)]; grind
    · rw [if_neg h, if_neg fun h' => h ((le_inc hw ho q hy).1 h').2]; grind
  rw [Sg_congr hzt]
  by_cases hiz : i = z
  · subst hiz
    rw [show dl i i = 1 from if_pos rfl, Sg_one hi fun y hy hne => ?_]
    · rw [if_pos fun _ h => h]
      unfold dnv
      have h0 : iandNot .u32 (nth 0 (downs up m) i) (nth 0 (downs up m) i) = 0 := bt_ext W32.iandNot W32.zero fun t _ => by
        rw [bt_zero]
        exact Bool.eq_false_iff.2 fun h => ((hmore hi hi t).1 h).2 ((hmore hi hi t).1 h).1
      rw [h0, if_pos ⟨fun _ h => h, fun a b h _ _ => no0 h⟩]
      have : els 0 = [] := by
        rw [List.eq_nil_iff_forall_not_mem]
        intro t ht
        exact no0 ((mem_els W32.zero).1 ht)
      rw [this]; rfl
    · by_cases h : ∀ x, bt (nth 0 (downs up m) y) x = true → bt (nth 0 (downs up m) i) x = true
      · rw [if_pos h]
        unfold dnv
        exact if_neg fun h' => hne (hinj hy hi fun x => ⟨h x, h'.1 x⟩)
      · rw [if_neg h]
  rw [show dl i z = 0 from if_neg hiz]
  by_cases hsub : ∀ x, bt (nth 0 (downs up m) i) x = true → bt (nth 0 (downs up m) z) x = true
  case neg =>
    refine Sg_zero fun y hy => ?_
    by_cases h : ∀ x, bt (nth 0 (downs up m) y) x = true → bt (nth 0 (downs up m) z) x = true
    · rw [if_pos h]
      unfold dnv
      exact if_neg fun h' => hsub fun x hx => h x (h'.1 x hx)
    · rw [if_neg h]
  -- an element that the one has more, with none of these below it
  have hex : ∃ x, bt (nth 0 (downs up m) z) x = true ∧ ¬ bt (nth 0 (downs up m) i) x = true := Classical.byContradiction fun hno => hiz (hinj hi hz fun x => ⟨hsub x, fun h => Classical.byContradiction fun h' => hno ⟨x, h, h'⟩⟩)
  obtain ⟨x0, hx0⟩ := hex
  obtain ⟨x, hx, ⟨xz, xi⟩, hmin⟩ := ho.least (fun x => bt (nth 0 (downs up m) z) x = true ∧ ¬ bt (nth 0 (downs up m) i) x = true) (i := x0) (by have := (hD hz).lt x0 hx0.1; omega) hx0
  have hxm : x < m := by omega
  have hbelow : ∀ t, t < m → le up t x → t ≠ x → bt (nth 0 (downs up m) i) t = true := fun t ht hle hne => Classical.byContradiction fun hn => hne (hmin t (by omega) ⟨(hD hz).dn t x xz hle ht, hn⟩ hle)
  refine Sg_pair (fun y => ¬ bt (nth 0 (downs up m) y) x = true) (fun y w => y < (downs up m).length ∧ w < (downs up m).length ∧ (¬ bt (nth 0 (downs up m) y) x = true) ∧ (∀ t, bt (nth 0 (downs up m) w) t = true ↔ bt (nth 0 (downs up m) y) t = true ∨ t = x)) ?_ ?_ ?_
  · rintro y w ⟨hy, hwl, hyx, hb⟩
    refine ⟨hyx, fun h => h ((hb x).2 (.inr rfl)), ?_⟩
    have ez : (∀ t, bt (nth 0 (downs up m) w) t = true → bt (nth 0 (downs up m) z) t = true) ↔ ∀ t, bt (nth 0 (downs up m) y) t = true → bt (nth 0 (downs up m) z) t = true :=
      ⟨fun h t ht => h t ((hb t).2 (.inl ht)), fun h t ht => ((hb t).1 ht).elim (h t) fun e => e ▸ xz⟩
    by_cases h : ∀ t, bt (nth 0 (downs up m) y) t = true → bt (nth 0 (downs up m) z) t = true
    case neg => rw [if_neg h, if_neg fun h' => h (ez.1 h')]; grind
    rw [if_pos h, if_pos (ez.2 h)]
    have e1 : (∀ t, bt (nth 0 (downs up m) i) t = true → bt (nth 0 (downs up m) w) t = true) ↔ ∀ t, bt (nth 0 (downs up m) i) t = true → bt (nth 0 (downs up m) y) t = true :=
      ⟨fun h t ht => ((hb t).1 (h t ht)).resolve_right fun e => xi (e ▸ ht), fun h t ht => (hb t).2 (.inl (h t ht))⟩
    by_cases hs : ∀ t, bt (nth 0 (downs up m) i) t = true → bt (nth 0 (downs up m) y) t = true
    case neg =>
      unfold dnv
      rw [if_neg fun h' => hs (e1.1 h'.1), if_neg fun h' => hs h'.1]; grind
    have e2 : Loose up (iandNot .u32 (nth 0 (downs up m) w) (nth 0 (downs up m) i)) ↔ Loose up (iandNot .u32 (nth 0 (downs up m) y) (nth 0 (downs up m) i)) := by
      constructor
      · intro hl a b ha hb' hle
        obtain ⟨a1, a2⟩ := (hmore hy hi a).1 ha
        obtain ⟨b1, b2⟩ := (hmore hy hi b).1 hb'
        exact hl a b ((hmore hwl hi a).2 ⟨(hb a).2 (.inl a1), a2⟩) ((hmore hwl hi b).2 ⟨(hb b).2 (.inl b1), b2⟩) hle
      · intro hl a b ha hb' hle
        obtain ⟨a1, a2⟩ := (hmore hwl hi a).1 ha
        obtain ⟨b1, b2⟩ := (hmore hwl hi b).1 hb'
        have ham := (hD hwl).lt a a1
        rcases (hb a).1 a1 with a3 | rfl
        · rcases (hb b).1 b1 with b3 | rfl
          · exact hl a b ((hmore hy hi a).2 ⟨a3, a2⟩) ((hmore hy hi b).2 ⟨b3, b2⟩) hle
          · exact Classical.byContradiction fun hne => a2 (hbelow a ham hle hne)
        · rcases (hb b).1 b1 with b3 | rfl
          · exact absurd ((hD hy).dn a b b3 hle ham) hyx
          · rfl
    have e3 : (els (iandNot .u32 (nth 0 (downs up m) w) (nth 0 (downs up m) i))).length = (els (iandNot .u32 (nth 0 (downs up m) y) (nth 0 (downs up m) i))).length + 1 := by
      unfold els
      rw [filter_one (bt (iandNot .u32 (nth 0 (downs up m) y) (nth 0 (downs up m) i))) (bt (iandNot .u32 (nth 0 (downs up m) w) (nth 0 (downs up m) i))) x (Bool.eq_false_iff.2 fun h => hyx ((hmore hy hi x).1 h).1) (fun t => by
        rw [Bool.eq_iff_iff, Bool.or_eq_true, hmore hwl hi, hmore hy hi, hb, decide_eq_true_eq]
        constructor
        · rintro ⟨h1 | h1, h2⟩
          · exact .inl ⟨h1, h2⟩
          · exact .inr h1
        · rintro (⟨h1, h2⟩ | rfl)
          · exact ⟨.inl h1, h2⟩
          · exact ⟨.inr rfl, xi⟩), if_pos (by omega)]
    unfold dnv
    by_cases hl : Loose up (iandNot .u32 (nth 0 (downs up m) y) (nth 0 (downs up m) i))
    · rw [if_pos ⟨e1.2 hs, e2.2 hl⟩, if_pos ⟨hs, hl⟩, e3, sgP_succ]
    · rw [if_neg fun h' => hl (e2.1 h'.2), if_neg fun h' => hl h'.2]; grind
  · -- with it
    intro y hy hyx hf
    have hyz : ∀ t, bt (nth 0 (downs up m) y) t = true → bt (nth 0 (downs up m) z) t = true := Classical.byContradiction fun h => hf (if_neg h)
    rw [if_pos hyz] at hf
    have hiy : ∀ t, bt (nth 0 (downs up m) i) t = true → bt (nth 0 (downs up m) y) t = true := Classical.byContradiction fun h => hf (if_neg fun h' => h h'.1)
    obtain ⟨w, w1, w2⟩ := dn_pred hw ho (fun t => bt (nth 0 (downs up m) y) t = true ∨ t = x) (fun a b ha hb hle h => by
      rcases h with h | rfl
      · exact .inl ((hD hy).dn a b h hle ha)
      · by_cases e : a = b
        · exact .inr e
        · exact .inl (hiy a (hbelow a ha hle e))) hm
    have w2 : ∀ t, bt (nth 0 (downs up m) w) t = true ↔ bt (nth 0 (downs up m) y) t = true ∨ t = x := fun t => (w2 t).trans ⟨fun h => h.2, fun h => ⟨h.elim ((hD hy).lt t) fun e => e ▸ hxm, h⟩⟩
    exact ⟨w, w1, ⟨hy, w1, hyx, w2⟩, fun w' h' r => hinj h' w1 fun t => (r.2.2.2 t).trans (w2 t).symm⟩
  · -- without it
    intro w hwl hwx hf
    have hwx := Classical.byContradiction fun h => hwx h
    have hwz : ∀ t, bt (nth 0 (downs up m) w) t = true → bt (nth 0 (downs up m) z) t = true := Classical.byContradiction fun h => hf (if_neg h)
    rw [if_pos hwz] at hf
    have hc := Classical.byContradiction fun h => hf (if_neg h)
    obtain ⟨y, y1, y2⟩ := dn_pred hw ho (fun t => bt (nth 0 (downs up m) w) t = true ∧ t ≠ x) (fun a b ha hb hle ⟨h1, h2⟩ => by
      refine ⟨(hD hwl).dn a b h1 hle ha, fun e => ?_⟩
      subst e
      by_cases hbi : bt (nth 0 (downs up m) i) b = true
      · exact xi ((hD hi).dn a b hbi hle ha)
      · exact h2 (hc.2 a b ((hmore hwl hi a).2 ⟨hwx, xi⟩) ((hmore hwl hi b).2 ⟨h1, hbi⟩) hle).symm) hm
    have y2 : ∀ t, bt (nth 0 (downs up m) y) t = true ↔ bt (nth 0 (downs up m) w) t = true ∧ t ≠ x := fun t => (y2 t).trans ⟨fun h => h.2, fun h => ⟨(hD hwl).lt t h.1, h⟩⟩
    have hr : ∀ t, bt (nth 0 (downs up m) w) t = true ↔ bt (nth 0 (downs up m) y) t = true ∨ t = x := fun t => by
      rw [y2]
      by_cases e : t = x
      · subst e; exact ⟨fun _ => .inr rfl, fun _ => hwx⟩
      · exact ⟨fun h => .inl ⟨h, e⟩, fun h => (h.resolve_right e).1⟩
    refine ⟨y, y1, ⟨y1, hwl, fun h => ((y2 x).1 h).2 rfl, hr⟩, fun y' h' r => hinj h' y1 fun t => ?_⟩
    rw [y2, r.2.2.2 t]
    constructor
    · exact fun h => ⟨.inl h, fun e => r.2.2.1 (e ▸ h)⟩
    · exact fun ⟨h, e⟩ => h.resolve_right e
end
end Go.Proofs.YtagghgmpdjoknaaDoor
