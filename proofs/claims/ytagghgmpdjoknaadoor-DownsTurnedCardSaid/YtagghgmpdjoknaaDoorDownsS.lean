/- downs: what its functions come to. -/
import Derived.Test.YtagghgmpdjoknaaDoorDowns
import Derived.Test.YtagghgmpdjoknaaDoorDualS
namespace Go.Proofs.YtagghgmpdjoknaaDoor
open Go.Abs
/-- A set of numbers below k. -/
def within (w : Int) (k : Nat) : Prop := ∀ i, bt w i = true → i < k
theorem checked_spec {N : Nat} (hN : 40 ≤ N) {up : List Int} (hw : WL up) (n : Int) {x : Int} (hx : W32 x) : ∃ e, D_downs_checked N ((n, up), x, ()) = some (e, ()) ∧ (e = 0 ↔ Ord n up ∧ within x n.toNat) := by
  obtain ⟨e, h1, h2⟩ := Check_spec hN hw n
  simp only [D_downs_checked, downs_checked_1, h1, Option.bind_some]
  by_cases he : e = 0
  case neg =>
    rw [show (e != 0) = true from bne_iff_ne.2 he, cond_true]
    exact ⟨e, rfl, ne_iff he fun h => he (h2.2 h.1)⟩
  subst he
  have h := h2.1 rfl
  simp only [bne_self_eq_false, cond_false, All_eq N h.h0, Option.bind_some]
  cases hb : (iandNot .u32 x (allw n) != 0) with
  | true =>
    refine ⟨2, rfl, ne_iff (by decide) fun h' => ?_⟩
    have := (in_all hx h.h0 (by have := h.h1; omega)).2 h'.2
    rw [hb] at this; cases this
  | false => exact ⟨0, rfl, ⟨fun _ => ⟨h, (in_all hx h.h0 (by have := h.h1; omega)).1 hb⟩, fun _ => rfl⟩⟩
theorem under_spec (N : Nat) {rows : List Int} (hw : WL rows) {x : Int} (hx : W32 x) (hin : within x rows.length) :
    ∃ d, D_downs_under N (rows, x, ()) = some (d, ()) ∧ W32 d ∧ ∀ j, bt d j = true ↔ ∃ i, bt x i = true ∧ bt (nth 0 rows i) j = true := by
  have key : ∀ (l : List Nat) (w : Int), W32 w → W32 (l.foldl (fun w i => ior .u32 w (nth 0 rows i)) w) ∧ ∀ j, bt (l.foldl (fun w i => ior .u32 w (nth 0 rows i)) w) j = true ↔ bt w j = true ∨ ∃ i ∈ l, bt (nth 0 rows i) j = true := by
    intro l
    induction l with
    | nil => intro w hW; exact ⟨hW, fun j => by simp⟩
    | cons i l ih =>
      intro w hW
      obtain ⟨h1, h2⟩ := ih (ior .u32 w (nth 0 rows i)) W32.ior
      refine ⟨h1, fun j => ?_⟩
      rw [List.foldl_cons, h2, bt_ior hW (hw.nth i), Bool.or_eq_true]
      simp only [List.mem_cons, exists_eq_or_imp, or_assoc]
  obtain ⟨h1, h2⟩ := key (els x) 0 W32.zero
  refine ⟨_, ?_, h1, fun j => ?_⟩
  · simp only [D_downs_under, joinD, forE, backE_eq, downs_under_1, downs_under_2, downs_under_3, Each_eq N x, Option.bind_some]
    refine (forD_els hx (fun w i => ior .u32 w (nth 0 rows i)) (fun _ => True) (fun i s kn hi hb _ => ?_) _ trivial).1
    simp only [ge0_d, lt_d (hin i hb), Bool.and_self, cond_true, Int.toNat_natCast, and_self]
  · rw [h2, bt_zero]
    simp only [Bool.false_eq_true, false_or, mem_els hx]
section
variable {N : Nat} (hN : 40 ≤ N) {up : List Int} (hw : WL up) {n : Int} {x : Int} (hx : W32 x)
include hN hw hx
theorem Down_spec' (h : Ord n up) (hin : within x n.toNat) : ∃ d, D_downs_Down N ((n, up), x, ()) = some (d, 0, ()) ∧ W32 d ∧ ∀ j, bt d j = true ↔ j < n.toNat ∧ ∃ i, bt x i = true ∧ le up j i := by
  obtain ⟨e, h1, h2⟩ := checked_spec hN hw n hx
  obtain rfl := h2.2 ⟨h, hin⟩
  obtain ⟨d, k1, k2, k3⟩ := under_spec N (WL.colsS up n up.length) hx (by rw [colsS_len]; exact hin)
  refine ⟨d, by simp only [D_downs_Down, downs_Down_1, h1, Option.bind_some, bne_self_eq_false, cond_false, Down_eq hw h hN, k1], k2, fun j => ?_⟩
  rw [k3]
  constructor
  · rintro ⟨i, hi, hb⟩
    have hb := (le_cols (by have := h.len; have := h.h1; omega) (hin i hi)).1 hb
    exact ⟨by rw [← h.len]; exact hb.1, i, hi, hb.2⟩
  · rintro ⟨hj, i, hi, hb⟩
    exact ⟨i, hi, (le_cols (by have := h.len; have := h.h1; omega) (hin i hi)).2 ⟨by rw [h.len]; exact hj, hb⟩⟩
end
end Go.Proofs.YtagghgmpdjoknaaDoor
