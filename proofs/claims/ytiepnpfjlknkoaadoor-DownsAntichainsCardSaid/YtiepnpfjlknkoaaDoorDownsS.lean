/- downs: what its functions come to. -/
import Derived.Test.YtiepnpfjlknkoaaDoorDowns
import Derived.Test.YtiepnpfjlknkoaaDoorDualS
namespace Go.Proofs.YtiepnpfjlknkoaaDoor
open Go.Abs
/-- A set of numbers below k. -/
def within (w : Int) (k : Nat) : Prop := ∀ i, bt w i = true → i < k
theorem checked_spec {N : Nat} (hN : 40 ≤ N) {up : List Int} (hw : WL up) (n : Int) {x : Int} (hx : W32 x) : ∃ e, D_downs_checked N ((n, up), x, ()) = some (e, ()) ∧ (e = 0 ↔ Ord n up ∧ within x n.toNat) := by
  obtain ⟨e, h1, h2⟩ := Check_spec hN hw n
  simp only [D_downs_checked, downs_checked_1, h1, Option.bind_some]
  by_cases he : e = 0
  case neg =>
    rw [show (e != 0) = true from bne_iff_ne.2 he, cond_true]
    exact ⟨e, rfl, ne_iff he fun h => he (h2.2 h.1)⟩
  subst he
  have h := h2.1 rfl
  simp only [bne_self_eq_false, cond_false, All_eq N h.h0, Option.bind_some]
  cases hb : (iandNot .u32 x (allw n) != 0) with
  | true =>
    refine ⟨2, rfl, ne_iff (by decide) fun h' => ?_⟩
    have := (in_all hx h.h0 (by have := h.h1; omega)).2 h'.2
    rw [hb] at this; cases this
  | false => exact ⟨0, rfl, ⟨fun _ => ⟨h, (in_all hx h.h0 (by have := h.h1; omega)).1 hb⟩, fun _ => rfl⟩⟩
theorem under_spec (N : Nat) {rows : List Int} (hw : WL rows) {x : Int} (hx : W32 x) (hin : within x rows.length) :
    ∃ d, D_downs_under N (rows, x, ()) = some (d, ()) ∧ W32 d ∧ ∀ j, bt d j = true ↔ ∃ i, bt x i = true ∧ bt (nth 0 rows i) j = true := by
  have key : ∀ (l : List Nat) (w : Int), W32 w → W32 (l.foldl (fun w i => ior .u32 w (nth 0 rows i)) w) ∧ ∀ j, bt (l.foldl (fun w i => ior .u32 w (nth 0 rows i)) w) j = true ↔ bt w j = true ∨ ∃ i ∈ l, bt (nth 0 rows i) j = true := by
    intro l
    induction l with
    | nil => intro w hW; exact ⟨hW, fun j => by simp⟩
    | cons i l ih =>
      intro w hW
      obtain ⟨h1, h2⟩ := ih (ior .u32 w (nth 0 rows i)) W32.ior
      refine ⟨h1, fun j => ?_⟩
      rw [List.foldl_cons, h2, bt_ior hW (hw.nth i), Bool.or_eq_true]
      simp only [List.mem_cons, exists_eq_or_imp, or_assoc]
  obtain ⟨h1, h2⟩ := key (els x) 0 W32.zero
  refine ⟨_, ?_, h1, fun j => ?_⟩
  · simp only [D_downs_under, downs_under_1, downs_under_2, downs_under_3, downs_under_4, downs_under_5, downs_under_6, downs_under_7, downs_under_8, downs_under_9, downs_under_10, downs_under_11, downs_under_12, Each_eq N x, Option.bind_some]
    refine (forD_els hx (fun w i => ior .u32 w (nth 0 rows i)) (fun _ => True) (fun i s kn hi hb _ => ?_) _ trivial).1
    simp only [ge0_d, lt_d (hin i hb), Bool.and_self, cond_true, Int.toNat_natCast, and_self]
  · rw [h2, bt_zero]
    simp only [Bool.false_eq_true, false_or, mem_els hx]
theorem ends_spec (N : Nat) {rows : List Int} (hw : WL rows) {x : Int} (hx : W32 x) (hin : within x rows.length) (hr : ∀ i, bt x i = true → bt (nth 0 rows i) i = true) :
    ∃ d, D_downs_ends N (rows, x, ()) = some (d, ()) ∧ W32 d ∧ ∀ i, bt d i = true ↔ bt x i = true ∧ ∀ j, bt (nth 0 rows i) j = true → bt x j = true → j = i := by
  have key : ∀ (l : List Nat) (w : Int), W32 w → (∀ i ∈ l, i < 32) → W32 (l.foldl (fun w i => bif (iand .u32 (nth 0 rows i) x == one i) then ior .u32 w (one i) else w) w) ∧
      ∀ j, bt (l.foldl (fun w i => bif (iand .u32 (nth 0 rows i) x == one i) then ior .u32 w (one i) else w) w) j = true ↔ bt w j = true ∨ j ∈ l ∧ (iand .u32 (nth 0 rows j) x == one j) = true := by
    intro l
    induction l with
    | nil => intro w hW _; exact ⟨hW, fun j => by simp⟩
    | cons i l ih =>
      intro w hW hl
      have hW' : W32 (bif (iand .u32 (nth 0 rows i) x == one i) then ior .u32 w (one i) else w) := by
        cases (iand .u32 (nth 0 rows i) x == one i) with
        | true => exact W32.ior
        | false => exact hW
      obtain ⟨h1, h2⟩ := ih _ hW' fun j hj => hl j (by simp [hj])
      refine ⟨h1, fun j => ?_⟩
      rw [List.foldl_cons, h2]
      cases hc : (iand .u32 (nth 0 rows i) x == one i) with
      | true =>
        rw [cond_true, bt_ior hW (W32.one i), Bool.or_eq_true, bt_one (hl i (by simp)), decide_eq_true_eq, List.mem_cons]
        constructor
        · rintro ((h | rfl) | h)
          · exact .inl h
          · exact .inr ⟨.inl rfl, hc⟩
          · exact .inr ⟨.inr h.1, h.2⟩
        · rintro (h | ⟨rfl | h, h'⟩)
          · exact .inl (.inl h)
          · exact .inl (.inr rfl)
          · exact .inr ⟨h, h'⟩
      | false =>
        rw [cond_false, List.mem_cons]
        constructor
        · rintro (h | h)
          · exact .inl h
          · exact .inr ⟨.inr h.1, h.2⟩
        · rintro (h | ⟨rfl | h, h'⟩)
          · exact .inl h
          · rw [hc] at h'; cases h'
          · exact .inr ⟨h, h'⟩
  obtain ⟨h1, h2⟩ := key (els x) 0 W32.zero fun i hi => (mem_els'.1 hi).1
  refine ⟨_, ?_, h1, fun i => ?_⟩
  · simp only [D_downs_ends, downs_ends_1, downs_ends_2, downs_ends_3, downs_ends_4, downs_ends_5, downs_ends_6, downs_ends_7, downs_ends_8, downs_ends_9, downs_ends_10, downs_ends_11, downs_ends_12, Each_eq N x, Option.bind_some]
    refine (forD_els hx (fun w i => bif (iand .u32 (nth 0 rows i) x == one i) then ior .u32 w (one i) else w) (fun _ => True) (fun i s kn hi hb _ => ?_) _ trivial).1
    simp only [ge0_d, lt_d (hin i hb), Bool.and_self, cond_true, Int.toNat_natCast, One_eq N i, Option.bind_some, and_true]
    cases (iand .u32 (nth 0 rows i) x == one i) <;> rfl
  · rw [h2, bt_zero]
    simp only [Bool.false_eq_true, false_or, mem_els hx]
    refine and_congr_right fun hi => ?_
    rw [beq_iff_eq]
    constructor
    · intro e j hj hxj
      have : bt (one i) j = true := by rw [← e, bt_iand (hw.nth i) hx, hj, hxj]; rfl
      rw [bt_one (bt_lt hx hi)] at this
      exact of_decide_eq_true this
    · intro hall
      refine bt_ext W32.iand (W32.one i) fun j _ => ?_
      rw [Bool.eq_iff_iff, bt_iand (hw.nth i) hx, Bool.and_eq_true, bt_one (bt_lt hx hi), decide_eq_true_eq]
      exact ⟨fun h => hall j h.1 h.2, fun e => by subst e; exact ⟨hr j hi, hi⟩⟩
theorem downs_bad {N : Nat} {up : List Int} {n x : Int} {e : Int} (hc : D_downs_checked N ((n, up), x, ()) = some (e, ())) (he : e ≠ 0) : D_downs_Down N ((n, up), x, ()) = some (0, e, ()) ∧ D_downs_Maximal N ((n, up), x, ()) = some (0, e, ()) := by
  simp only [D_downs_Down, downs_Down_1, D_downs_Maximal, downs_Maximal_1, hc, Option.bind_some, show (e != 0) = true from bne_iff_ne.2 he, cond_true, and_self]
section
variable {N : Nat} (hN : 40 ≤ N) {up : List Int} (hw : WL up) {n : Int} {x : Int} (hx : W32 x)
include hN hw hx
theorem Down_spec' (h : Ord n up) (hin : within x n.toNat) : ∃ d, D_downs_Down N ((n, up), x, ()) = some (d, 0, ()) ∧ W32 d ∧ ∀ j, bt d j = true ↔ j < n.toNat ∧ ∃ i, bt x i = true ∧ le up j i := by
  obtain ⟨e, h1, h2⟩ := checked_spec hN hw n hx
  obtain rfl := h2.2 ⟨h, hin⟩
  obtain ⟨d, k1, k2, k3⟩ := under_spec N (WL.colsS up n up.length) hx (by rw [colsS_len]; exact hin)
  refine ⟨d, by simp only [D_downs_Down, downs_Down_1, h1, Option.bind_some, bne_self_eq_false, cond_false, Down_eq hw h hN, k1], k2, fun j => ?_⟩
  rw [k3]
  constructor
  · rintro ⟨i, hi, hb⟩
    have hb := (le_cols (by have := h.len; have := h.h1; omega) (hin i hi)).1 hb
    exact ⟨by rw [← h.len]; exact hb.1, i, hi, hb.2⟩
  · rintro ⟨hj, i, hi, hb⟩
    exact ⟨i, hi, (le_cols (by have := h.len; have := h.h1; omega) (hin i hi)).2 ⟨by rw [h.len]; exact hj, hb⟩⟩
theorem Max_spec (h : Ord n up) (hin : within x n.toNat) : ∃ d, D_downs_Maximal N ((n, up), x, ()) = some (d, 0, ()) ∧ W32 d ∧ ∀ i, bt d i = true ↔ bt x i = true ∧ ∀ j, le up i j → bt x j = true → j = i := by
  obtain ⟨e, h1, h2⟩ := checked_spec hN hw n hx
  obtain rfl := h2.2 ⟨h, hin⟩
  obtain ⟨d, k1, k2, k3⟩ := ends_spec N hw hx (by rw [h.len]; exact hin) fun i hi => h.refl i (hin i hi)
  exact ⟨d, by simp only [D_downs_Maximal, downs_Maximal_1, h1, Option.bind_some, bne_self_eq_false, cond_false, k1], k2, k3⟩
theorem Min_spec (h : Ord n up) (hin : within x n.toNat) : ∃ d, D_downs_Minimal N ((n, up), x, ()) = some (d, 0, ()) ∧ W32 d ∧ ∀ i, bt d i = true ↔ bt x i = true ∧ ∀ j, le up j i → bt x j = true → j = i := by
  obtain ⟨e, h1, h2⟩ := checked_spec hN hw n hx
  obtain rfl := h2.2 ⟨h, hin⟩
  obtain ⟨d, k1, k2, k3⟩ := ends_spec N (WL.colsS up n up.length) hx (by rw [colsS_len]; exact hin) fun i hi => (le_dual h (hin i hi) (hin i hi)).2 (h.refl i (hin i hi))
  refine ⟨d, by simp only [D_downs_Minimal, downs_Minimal_1, h1, Option.bind_some, bne_self_eq_false, cond_false, Down_eq hw h hN, k1], k2, fun i => ?_⟩
  rw [k3]
  refine and_congr_right fun hi => forall_congr' fun j => ⟨fun h' hle hj => h' ((le_dual h (hin j hj) (hin i hi)).2 hle) hj, fun h' hb hj => h' ((le_dual h (hin j hj) (hin i hi)).1 hb) hj⟩
end
end Go.Proofs.YtiepnpfjlknkoaaDoor
