/- polar: what its functions come to. -/
import Derived.Test.YtkijpiphgnnonaaDoorPolar
import Derived.Test.YtkijpiphgnnonaaDoorSetsS
import Derived.Test.YtkijpiphgnnonaaDoorAbsOrd
namespace Go.Proofs.YtkijpiphgnnonaaDoor
open Go.Abs
/-- A context that may be. -/
def ctxOk (rows : List Int) (n : Int) : Prop := rows.length ≤ 16 ∧ 0 ≤ n ∧ n ≤ 16 ∧ ∀ i, i < rows.length → ∀ j, bt (nth 0 rows i) j = true → j < n.toNat
theorem shared_eq (N : Nat) {lines : List Int} (hl : WL lines) {set : Int} (hs : W32 set) {n : Int} (hn : 0 ≤ n) (hin : ∀ i, bt set i = true → i < lines.length) :
    D_polar_shared N (lines, set, n, ()) = some ((els set).foldl (fun w i => iand .u32 w (nth 0 lines i)) (allw n), ()) := by
  simp only [D_polar_shared, joinD, forE, backE_eq, polar_shared_1, polar_shared_2, polar_shared_3, All_eq N hn, Each_eq, Option.bind_some]
  refine (forD_els hs (fun w i => iand .u32 w (nth 0 lines i)) (fun _ => True) ?_ _ trivial).1
  intro i s kn hi hb _
  have := hin i hb
  simp [show (0 : Int) ≤ (i : Int) by omega, this]
theorem bt_shared {lines : List Int} (hl : WL lines) {l : List Nat} {w : Int} (hw : W32 w) : W32 (l.foldl (fun w i => iand .u32 w (nth 0 lines i)) w) ∧
    ∀ j, bt (l.foldl (fun w i => iand .u32 w (nth 0 lines i)) w) j = true ↔ bt w j = true ∧ ∀ i ∈ l, bt (nth 0 lines i) j = true := by
  induction l generalizing w with
  | nil => exact ⟨hw, fun j => by simp⟩
  | cons i l ih =>
    obtain ⟨h1, h2⟩ := ih (w := iand .u32 w (nth 0 lines i)) W32.iand
    refine ⟨h1, fun j => ?_⟩
    rw [List.foldl_cons, h2, bt_iand hw (hl.nth i)]
    simp only [Bool.and_eq_true, List.mem_cons, forall_eq_or_imp, and_assoc]
open Classical in
noncomputable def openS (rows : List Int) (n : Int) : Dens Rk_polar_open :=
  if rows.length ≤ 16 ∧ 0 ≤ n ∧ n ≤ 16 then (if ctxOk rows n then ((rows, colsS rows n rows.length), 0, ()) else (([], []), 2, ())) else (([], []), 1, ())
theorem open_eq {N : Nat} {rows : List Int} (hw : WL rows) (n : Int) (hN : rows.length < N) : D_polar_open N ((rows, n), ()) = some (openS rows n) := by
  simp only [D_polar_open, joinD, loopE, forE, backE_eq, polar_open_1, polar_open_2, polar_open_3, polar_open_4, polar_open_5, openS]
  by_cases h1 : rows.length ≤ 16
  case neg => simp [h1, show ((16 : Int) < (rows.length : Int)) by omega]
  by_cases h2 : 0 ≤ n
  case neg => simp [h2, show ¬ ((16 : Int) < (rows.length : Int)) by omega, show n < 0 by omega]
  by_cases h3 : n ≤ 16
  case neg => simp [h3, show ¬ ((16 : Int) < (rows.length : Int)) by omega, show ¬ n < 0 by omega, show 16 < n by omega]
  simp only [show decide ((rows.length : Int) > 16) = false from decide_eq_false (by omega), show decide (n < 0) = false from decide_eq_false (by omega), show decide (n > 16) = false from decide_eq_false (by omega),
    show decide (0 ≤ n) = true from decide_eq_true h2, show decide (n ≤ n) = true from decide_eq_true (by omega), show decide (n * 4 ≤ 281474976710656) = true from decide_eq_true (by omega), cond_false, Bool.and_self, cond_true, h1, h2, h3, and_self, if_true]
  refine loopD_const (fun s => ∃ k : Nat, s = ((k : Int), colsS rows n k) ∧ k ≤ rows.length ∧ ∀ i, i < k → ∀ j, bt (nth 0 rows i) j = true → j < n.toNat) (fun s => rows.length - s.1.toNat) _ ?_ N _
    ⟨0, by simp [colsS, mkw, List.map_const'], by omega, fun i hi => by omega⟩ (by simp; omega)
  rintro s ⟨k, rfl, hk, hok⟩ kn hkn
  simp only
  by_cases hkl : k < rows.length
  · have hW := WL.nth hw k
    simp only [show decide ((k : Int) < (rows.length : Int)) = true from decide_eq_true (by omega), show decide (0 ≤ (k : Int)) = true from decide_eq_true (by omega), cond_true, Bool.and_self, All_eq N h2, Option.bind_some, Int.toNat_natCast, Each_eq, One_eq]
    cases hb : (iandNot .u32 (nth 0 rows k) (allw n) != 0) with
    | true =>
      rw [cond_true, if_neg]
      rintro ⟨_, _, _, h⟩
      have := (in_all hW h2 (by omega)).2 (h k hkl)
      rw [hb] at this; cases this
    | false =>
      have hin := (in_all hW h2 (by omega)).1 hb
      rw [cond_false]
      obtain ⟨e, _⟩ := forD_els (R := Dens Rk_polar_open) (k := fun s => kn (IntKind.i64.wrap ((k : Int) + 1), s)) hW (fun cs j => cs.set j (ior .u32 (nth 0 cs j) (Go.Abs.one k))) (fun cs => cs.length = n.toNat)
        (f := fun y4 s kn => bif (decide (0 ≤ y4) && decide (y4 < (s.length : Int))) then (bif (decide (0 ≤ y4) && decide (y4 < (s.length : Int))) then kn (s.set y4.toNat (ior .u32 (nth 0 s y4.toNat) (Go.Abs.one k))) else none) else none)
        (fun i s kn hi hbi hs => by
          have := hin i hbi
          simp only [hs, show decide ((0 : Int) ≤ (i : Int)) = true from decide_eq_true (by omega), show decide ((i : Int) < (n.toNat : Int)) = true from decide_eq_true (by omega), Bool.and_self, cond_true, Int.toNat_natCast, List.length_set, and_self]) (colsS rows n k) (colsS_len rows n k)
      refine e.trans ?_
      rw [cols_step hw (by omega) hin, w64 (by omega) (by omega)]
      exact hkn _ ⟨k + 1, rfl, by omega, fun i hi j hj => by
        by_cases hik : i = k
        · subst hik; exact hin j hj
        · exact hok i (by omega) j hj⟩ (by simp; omega)
  · have : k = rows.length := by omega
    subst this
    simp only [show decide ((rows.length : Int) < (rows.length : Int)) = false from decide_eq_false (by omega), cond_false]
    rw [if_pos ⟨h1, h2, h3, hok⟩]
/-- A set of numbers below k. -/
def sub (w : Int) (k : Nat) : Prop := ∀ i, bt w i = true → i < k
theorem sub_iff {w n : Int} (hw : W32 w) (h0 : 0 ≤ n) (h1 : n < 32) : (iandNot .u32 w (allw n) != 0) = true ↔ ¬ sub w n.toNat := by
  rw [← Bool.not_eq_false]
  exact not_congr (in_all hw h0 h1)
theorem openS_pos {rows : List Int} {n : Int} (h : ctxOk rows n) : openS rows n = ((rows, colsS rows n rows.length), 0, ()) := by
  unfold openS
  rw [if_pos ⟨h.1, h.2.1, h.2.2.1⟩, if_pos h]
theorem openS_neg {rows : List Int} {n : Int} (h : ¬ ctxOk rows n) : ∃ e, openS rows n = (([], []), e, ()) ∧ e ≠ 0 := by
  unfold openS
  split
  · exact ⟨2, by simp [h], by decide⟩
  · exact ⟨1, rfl, by decide⟩
theorem bt_cols {rows : List Int} {n : Int} (h : ctxOk rows n) {j : Nat} (hj : j < n.toNat) (i : Nat) : bt (nth 0 (colsS rows n rows.length) j) i = true ↔ i < rows.length ∧ bt (nth 0 rows i) j = true := by
  rw [nth_cols hj, bt_mkw (by have := h.1; omega)]
  simp
end Go.Proofs.YtkijpiphgnnonaaDoor
