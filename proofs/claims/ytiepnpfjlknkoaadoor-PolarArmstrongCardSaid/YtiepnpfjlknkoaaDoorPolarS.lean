/- polar: what its functions come to. -/
import Derived.Test.YtiepnpfjlknkoaaDoorPolar
import Derived.Test.YtiepnpfjlknkoaaDoorSetsS
namespace Go.Proofs.YtiepnpfjlknkoaaDoor
open Go.Abs
/-- A context that may be. -/
def ctxOk (rows : List Int) (n : Int) : Prop := rows.length ≤ 16 ∧ 0 ≤ n ∧ n ≤ 16 ∧ ∀ i, i < rows.length → ∀ j, bt (nth 0 rows i) j = true → j < n.toNat
def colsS (rows : List Int) (n : Int) (k : Nat) : List Int := (List.range n.toNat).map fun j => mkw k fun i => bt (nth 0 rows i) j
theorem colsS_len (rows : List Int) (n : Int) (k : Nat) : (colsS rows n k).length = n.toNat := by simp [colsS]
theorem nth_cols {rows : List Int} {n : Int} {k j : Nat} (hj : j < n.toNat) : nth 0 (colsS rows n k) j = mkw k fun i => bt (nth 0 rows i) j := by
  rw [nth_lt (by rw [colsS_len]; exact hj)]; simp [colsS]
theorem WL.colsS (rows : List Int) (n : Int) (k : Nat) : WL (colsS rows n k) := fun x hx => by
  unfold Proofs.YtiepnpfjlknkoaaDoor.colsS at hx
  obtain ⟨j, _, rfl⟩ := List.mem_map.1 hx
  exact W32.mkw _ _
theorem cols_step {rows : List Int} (hw : WL rows) {n : Int} {k : Nat} (hk : k < 32) (hin : ∀ j, bt (nth 0 rows k) j = true → j < n.toNat) :
    (els (nth 0 rows k)).foldl (fun cs j => cs.set j (ior .u32 (nth 0 cs j) (one k))) (colsS rows n k) = colsS rows n (k + 1) := by
  have hW := WL.nth hw k
  have key : ∀ (l : List Nat) (cs : List Int), l.Nodup → (∀ j ∈ l, j < cs.length) → (l.foldl (fun cs j => cs.set j (ior .u32 (nth 0 cs j) (one k))) cs).length = cs.length ∧
      ∀ j, nth 0 (l.foldl (fun cs j => cs.set j (ior .u32 (nth 0 cs j) (one k))) cs) j = if j ∈ l then ior .u32 (nth 0 cs j) (one k) else nth 0 cs j := by
    intro l
    induction l with
    | nil => intro cs _ _; exact ⟨rfl, fun j => by simp⟩
    | cons i l ih =>
      intro cs hn hl
      obtain ⟨h1, h2⟩ := List.nodup_cons.1 hn
      obtain ⟨h3, h4⟩ := ih (cs.set i (ior .u32 (nth 0 cs i) (one k))) h2 (fun j hj => by rw [List.length_set]; exact hl j (by simp [hj]))
      refine ⟨by rw [List.foldl_cons, h3, List.length_set], fun j => ?_⟩
      rw [List.foldl_cons, h4, nth_set (hl i (by simp))]
      by_cases hij : i = j
      · subst hij; simp [h1]
      · simp [hij, Ne.symm hij]
  have hnd := nodup_els (nth 0 rows k)
  have hlt : ∀ j ∈ els (nth 0 rows k), j < (colsS rows n k).length := fun j hj => by rw [colsS_len]; exact hin j (mem_els'.1 hj).2
  obtain ⟨h1, h2⟩ := key _ _ hnd hlt
  refine ext_nth (by rw [h1, colsS_len, colsS_len]) fun j hj => ?_
  rw [h1, colsS_len] at hj
  rw [h2, nth_cols hj, nth_cols hj, mkw_succ, Bool.cond_eq_ite]
  simp only [mem_els hW]
theorem shared_eq (N : Nat) {lines : List Int} (hl : WL lines) {set : Int} (hs : W32 set) {n : Int} (hn : 0 ≤ n) (hin : ∀ i, bt set i = true → i < lines.length) :
    D_polar_shared N (lines, set, n, ()) = some ((els set).foldl (fun w i => iand .u32 w (nth 0 lines i)) (allw n), ()) := by
  simp only [D_polar_shared, polar_shared_1, polar_shared_2, polar_shared_3, polar_shared_4, polar_shared_5, polar_shared_6, polar_shared_7, polar_shared_8, polar_shared_9, polar_shared_10, polar_shared_11, polar_shared_12, All_eq N hn, Each_eq, Option.bind_some]
  refine (forD_els hs (fun w i => iand .u32 w (nth 0 lines i)) (fun _ => True) ?_ _ trivial).1
  intro i s kn hi hb _
  have := hin i hb
  simp [show (0 : Int) ≤ (i : Int) by omega, this]
theorem bt_shared {lines : List Int} (hl : WL lines) {l : List Nat} {w : Int} (hw : W32 w) : W32 (l.foldl (fun w i => iand .u32 w (nth 0 lines i)) w) ∧
    ∀ j, bt (l.foldl (fun w i => iand .u32 w (nth 0 lines i)) w) j = true ↔ bt w j = true ∧ ∀ i ∈ l, bt (nth 0 lines i) j = true := by
  induction l generalizing w with
  | nil => exact ⟨hw, fun j => by simp⟩
  | cons i l ih =>
    obtain ⟨h1, h2⟩ := ih (w := iand .u32 w (nth 0 lines i)) W32.iand
    refine ⟨h1, fun j => ?_⟩
    rw [List.foldl_cons, h2, bt_iand hw (hl.nth i)]
    simp only [Bool.and_eq_true, List.mem_cons, forall_eq_or_imp, and_assoc]
open Classical in
noncomputable def openS (rows : List Int) (n : Int) : Dens Rk_polar_open :=
  if rows.length ≤ 16 ∧ 0 ≤ n ∧ n ≤ 16 then (if ctxOk rows n then ((rows, colsS rows n rows.length), 0, ()) else (([], []), 2, ())) else (([], []), 1, ())
theorem open_eq {N : Nat} {rows : List Int} (hw : WL rows) (n : Int) (hN : rows.length < N) : D_polar_open N ((rows, n), ()) = some (openS rows n) := by
  simp only [D_polar_open, polar_open_1, polar_open_2, polar_open_3, polar_open_4, polar_open_5, polar_open_6, polar_open_7, polar_open_8, polar_open_9, polar_open_10, polar_open_11, polar_open_12, polar_open_13, polar_open_14, polar_open_15, polar_open_16, polar_open_17, polar_open_18, polar_open_19, polar_open_20, polar_open_21, polar_open_22, polar_open_23, polar_open_24, polar_open_25, polar_open_26, polar_open_27, polar_open_28, polar_open_29, openS]
  by_cases h1 : rows.length ≤ 16
  case neg => simp [h1, show ((16 : Int) < (rows.length : Int)) by omega]
  by_cases h2 : 0 ≤ n
  case neg => simp [h2, show ¬ ((16 : Int) < (rows.length : Int)) by omega, show n < 0 by omega]
  by_cases h3 : n ≤ 16
  case neg => simp [h3, show ¬ ((16 : Int) < (rows.length : Int)) by omega, show ¬ n < 0 by omega, show 16 < n by omega]
  simp only [show decide ((rows.length : Int) > 16) = false from decide_eq_false (by omega), show decide (n < 0) = false from decide_eq_false (by omega), show decide (n > 16) = false from decide_eq_false (by omega),
    show decide (0 ≤ n) = true from decide_eq_true h2, show decide (n ≤ n) = true from decide_eq_true (by omega), show decide (n * 4 ≤ 281474976710656) = true from decide_eq_true (by omega), cond_false, Bool.and_self, cond_true, h1, h2, h3, and_self, if_true]
  refine loopD_const (fun s => ∃ k : Nat, s = ((k : Int), colsS rows n k) ∧ k ≤ rows.length ∧ ∀ i, i < k → ∀ j, bt (nth 0 rows i) j = true → j < n.toNat) (fun s => rows.length - s.1.toNat) _ ?_ N _
    ⟨0, by simp [colsS, mkw, List.map_const'], by omega, fun i hi => by omega⟩ (by simp; omega)
  rintro s ⟨k, rfl, hk, hok⟩ kn hkn
  simp only
  by_cases hkl : k < rows.length
  · have hW := WL.nth hw k
    simp only [show decide ((k : Int) < (rows.length : Int)) = true from decide_eq_true (by omega), show decide (0 ≤ (k : Int)) = true from decide_eq_true (by omega), cond_true, Bool.and_self, All_eq N h2, Option.bind_some, Int.toNat_natCast, Each_eq, One_eq]
    cases hb : (iandNot .u32 (nth 0 rows k) (allw n) != 0) with
    | true =>
      rw [cond_true, if_neg]
      rintro ⟨_, _, _, h⟩
      have := (in_all hW h2 (by omega)).2 (h k hkl)
      rw [hb] at this; cases this
    | false =>
      have hin := (in_all hW h2 (by omega)).1 hb
      rw [cond_false]
      obtain ⟨e, _⟩ := forD_els (R := Dens Rk_polar_open) (k := fun s => kn (IntKind.i64.wrap ((k : Int) + 1), s)) hW (fun cs j => cs.set j (ior .u32 (nth 0 cs j) (one k))) (fun cs => cs.length = n.toNat)
        (f := fun y4 s kn => bif (decide (0 ≤ y4) && decide (y4 < (s.length : Int))) then (bif (decide (0 ≤ y4) && decide (y4 < (s.length : Int))) then kn (s.set y4.toNat (ior .u32 (nth 0 s y4.toNat) (one k))) else none) else none)
        (fun i s kn hi hbi hs => by
          have := hin i hbi
          simp only [hs, show decide ((0 : Int) ≤ (i : Int)) = true from decide_eq_true (by omega), show decide ((i : Int) < (n.toNat : Int)) = true from decide_eq_true (by omega), Bool.and_self, cond_true, Int.toNat_natCast, List.length_set, and_self]) (colsS rows n k) (colsS_len rows n k)
      refine e.trans ?_
      rw [cols_step hw (by omega) hin, w64 (by omega) (by omega)]
      exact hkn _ ⟨k + 1, rfl, by omega, fun i hi j hj => by
        by_cases hik : i = k
        · subst hik; exact hin j hj
        · exact hok i (by omega) j hj⟩ (by simp; omega)
  · have : k = rows.length := by omega
    subst this
    simp only [show decide ((rows.length : Int) < (rows.length : Int)) = false from decide_eq_false (by omega), cond_false]
    rw [if_pos ⟨h1, h2, h3, hok⟩]
/-- A set of numbers below k. -/
def sub (w : Int) (k : Nat) : Prop := ∀ i, bt w i = true → i < k
theorem sub_iff {w n : Int} (hw : W32 w) (h0 : 0 ≤ n) (h1 : n < 32) : (iandNot .u32 w (allw n) != 0) = true ↔ ¬ sub w n.toNat := by
  rw [← Bool.not_eq_false]
  exact not_congr (in_all hw h0 h1)
theorem openS_pos {rows : List Int} {n : Int} (h : ctxOk rows n) : openS rows n = ((rows, colsS rows n rows.length), 0, ()) := by
  unfold openS
  rw [if_pos ⟨h.1, h.2.1, h.2.2.1⟩, if_pos h]
theorem openS_neg {rows : List Int} {n : Int} (h : ¬ ctxOk rows n) : ∃ e, openS rows n = (([], []), e, ()) ∧ e ≠ 0 := by
  unfold openS
  split
  · exact ⟨2, by simp [h], by decide⟩
  · exact ⟨1, rfl, by decide⟩
theorem bt_cols {rows : List Int} {n : Int} (h : ctxOk rows n) {j : Nat} (hj : j < n.toNat) (i : Nat) : bt (nth 0 (colsS rows n rows.length) j) i = true ↔ i < rows.length ∧ bt (nth 0 rows i) j = true := by
  rw [nth_cols hj, bt_mkw (by have := h.1; omega)]
  simp
theorem Up_spec {N : Nat} {rows : List Int} (hw : WL rows) (n : Int) (hN : rows.length < N) {x : Int} (hx : W32 x) :
    ∃ u e, D_polar_Up N ((rows, n), x, ()) = some (u, e, ()) ∧ (e = 0 ↔ ctxOk rows n ∧ sub x rows.length) ∧ (e = 0 → W32 u ∧ ∀ j, bt u j = true ↔ j < n.toNat ∧ ∀ i, bt x i = true → bt (nth 0 rows i) j = true) := by
  simp only [D_polar_Up, polar_Up_1, open_eq hw n hN, Option.bind_some]
  by_cases hc : ctxOk rows n
  · rw [openS_pos hc]
    simp only [beq_self_eq_true, cond_true, All_eq N (show (0 : Int) ≤ (rows.length : Int) by omega), Option.bind_some]
    cases hb : (iandNot .u32 x (allw (rows.length : Int)) != 0) with
    | true =>
      have := (sub_iff hx (show (0 : Int) ≤ (rows.length : Int) by omega) (by have := hc.1; omega)).1 hb
      exact ⟨0, 2, rfl, by simp; exact fun _ => by simpa using this, by simp⟩
    | false =>
      have hs : sub x rows.length := by
        have := (in_all hx (show (0 : Int) ≤ (rows.length : Int) by omega) (by have := hc.1; omega)).1 hb
        exact fun i hi => by have := this i hi; simpa using this
      have hl : ((colsS rows n rows.length).length : Int) = n := by rw [colsS_len]; have := hc.2.1; omega
      simp only [cond_false, D_polar_sides_up, polar_sides_up_1, hl, shared_eq N hw hx hc.2.1 hs, Option.bind_some, bne_self_eq_false]
      obtain ⟨h1, h2⟩ := bt_shared (w := allw n) hw (l := els x) (W32.allw n)
      refine ⟨_, 0, rfl, by simp [hc, hs], fun _ => ⟨h1, fun j => ?_⟩⟩
      rw [h2, bt_allw hc.2.1 (by have := hc.2.2.1; omega), decide_eq_true_eq]
      simp only [mem_els hx]
  · obtain ⟨e, he, hne⟩ := openS_neg hc
    rw [he]
    simp only [show (e == 0) = false from beq_false_of_ne hne, show (e != 0) = true from bne_iff_ne.2 hne, cond_false, cond_true]
    exact ⟨0, e, rfl, by simp [hc, hne], fun h => absurd h hne⟩
theorem Down_spec {N : Nat} {rows : List Int} (hw : WL rows) (n : Int) (hN : rows.length < N) {x : Int} (hx : W32 x) :
    ∃ u e, D_polar_Down N ((rows, n), x, ()) = some (u, e, ()) ∧ (e = 0 ↔ ctxOk rows n ∧ sub x n.toNat) ∧ (e = 0 → W32 u ∧ ∀ i, bt u i = true ↔ i < rows.length ∧ ∀ j, bt x j = true → bt (nth 0 rows i) j = true) := by
  simp only [D_polar_Down, polar_Down_1, open_eq hw n hN, Option.bind_some]
  by_cases hc : ctxOk rows n
  · rw [openS_pos hc]
    simp only [beq_self_eq_true, cond_true, All_eq N hc.2.1, Option.bind_some]
    cases hb : (iandNot .u32 x (allw n) != 0) with
    | true =>
      have := (sub_iff hx hc.2.1 (by have := hc.2.2.1; omega)).1 hb
      exact ⟨0, 2, rfl, by simp; exact fun _ => by simpa using this, by simp⟩
    | false =>
      have hs : sub x n.toNat := (in_all hx hc.2.1 (by have := hc.2.2.1; omega)).1 hb
      simp only [cond_false, D_polar_sides_down, polar_sides_down_1, shared_eq N (WL.colsS rows n rows.length) hx (show (0 : Int) ≤ (rows.length : Int) by omega) (by rw [colsS_len]; exact hs), Option.bind_some, bne_self_eq_false]
      obtain ⟨h1, h2⟩ := bt_shared (w := allw (rows.length : Int)) (WL.colsS rows n rows.length) (l := els x) (W32.allw _)
      refine ⟨_, 0, rfl, by simp [hc, hs], fun _ => ⟨h1, fun i => ?_⟩⟩
      rw [h2, bt_allw (by omega) (by have := hc.1; omega), decide_eq_true_eq, Int.toNat_natCast]
      simp only [mem_els hx]
      refine and_congr_right fun hi => forall_congr' fun j => ⟨fun h hj => ?_, fun h hj => ?_⟩
      · exact ((bt_cols hc (hs j hj) i).1 (h hj)).2
      · exact (bt_cols hc (hs j hj) i).2 ⟨hi, h hj⟩
  · obtain ⟨e, he, hne⟩ := openS_neg hc
    rw [he]
    simp only [show (e == 0) = false from beq_false_of_ne hne, show (e != 0) = true from bne_iff_ne.2 hne, cond_false, cond_true]
    exact ⟨0, e, rfl, by simp [hc, hne], fun h => absurd h hne⟩
end Go.Proofs.YtiepnpfjlknkoaaDoor
