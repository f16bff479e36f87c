import Derived.Test.YtfcjibfkhmnolaaSloS
import Derived.Test.YtfcjibfkhmnolaaFrame0
namespace Go.Proofs.Ytfcjibfkhmnolaa
open Go Go.ChangeShapes Go.WideShapes Go.ChangeAt Go.WideMaps Go.WideElems Go.RowKit Go.Abs
abbrev Ks_keep_SlotsBusy : List Kd := [.dat (.int .i64), .dat (.sl (.int .i64)), .dat (.sl (.pair (.int .i64) (.pair (.int .i64) (.pair (.int .i64) (.int .i64))))), .dat (.int .i64)]
abbrev Rk_keep_SlotsBusy : List Kd := [.dat (.bool)]
abbrev Rt_keep_SlotsBusy : Type := Dens Rk_keep_SlotsBusy
noncomputable def C_keep_SlotsBusy (_N : Nat) : Ctx := { T := [(3, ⟨.int .i64, 1, 8, some (.int .i64), [.int .i64 (0 : Int)], false, []⟩), (4, ⟨.bool, 1, 1, some .bool, [.bool false], false, []⟩), (23, ⟨.slice 28, 1, 24, some (.sl (.int .i64)), [.nil], false, []⟩), (28, ⟨.int .i64, 1, 8, some (.int .i64), [.int .i64 (0 : Int)], false, []⟩), (37, ⟨.slice 42, 1, 24, some (.sl (.pair (.int .i64) (.pair (.int .i64) (.pair (.int .i64) (.int .i64))))), [.nil], false, []⟩), (38, ⟨.slice 44, 1, 24, some (.sl (.pair (.int .i64) (.pair (.int .i64) (.bool)))), [.nil], false, []⟩), (42, ⟨.struct [(0, 3), (1, 3), (2, 3), (3, 3)], 4, 32, some (.pair (.int .i64) (.pair (.int .i64) (.pair (.int .i64) (.int .i64)))), [.int .i64 (0 : Int), .int .i64 (0 : Int), .int .i64 (0 : Int), .int .i64 (0 : Int)], true, []⟩), (44, ⟨.struct [(0, 3), (1, 3), (2, 4)], 3, 24, some (.pair (.int .i64) (.pair (.int .i64) (.bool))), [.int .i64 (0 : Int), .int .i64 (0 : Int), .bool false], true, []⟩)], G := findE [mkQ 18 Ks_slots_Play Rk_slots_Play (D_slots_Play _N)], I := findI [], N := _N, n := 91, fx := [], fl := 0, gs := [] }
noncomputable def keep_SlotsBusy_1 (_N : Nat) (_v47 : List (Int × Int × Bool)) (_v48 : Int) : Option Rt_keep_SlotsBusy :=
  (some ((_v48 == (_v47.length : Int)), ()))
noncomputable def keep_SlotsBusy_2 (_N : Nat) (_kn51 : (Int × List Int × (List (Int × Int × Bool)) × (List (Int × Int × Int × Int)) × Int) × (Int × Int × Int) → Option Rt_keep_SlotsBusy) (_v35 : Int) (_v36 : List Int) (_v37 : List (Int × Int × Bool)) (_v38 : Int) (_v39 : Int) (_v40 : List (Int × Int × Int × Int)) (_v41 : Int) (_v42 : Int) : Option Rt_keep_SlotsBusy :=
  (_kn51 ((_v35, _v36, _v37, _v40, _v41), (_v38, _v39, (IntKind.i64.wrap (_v42 + (1 : Int))))))
noncomputable def keep_SlotsBusy_3 (_N : Nat) (_k52 : (Int × List Int × (List (Int × Int × Bool)) × Int × Int × (List (Int × Int × Int × Int)) × Int × Int × Int × Int × Int × Int) → Option Rt_keep_SlotsBusy) (_v23 : Int) (_v24 : List Int) (_v25 : List (Int × Int × Bool)) (_v26 : Int) (_v27 : Int) (_v28 : List (Int × Int × Int × Int)) (_v29 : Int) (_v30 : Int) (_v31 : Int) (_v32 : Int) (_v33 : Int) (_v34 : Int) : Option Rt_keep_SlotsBusy :=
  (bif (_v31 != (2 : Int)) then (_k52 (_v23, _v24, _v25, _v26, _v27, _v28, _v29, _v30, _v31, _v32, _v33, _v34)) else (bif (decide (_v27 ≥ (_v25.length : Int))) then (some (false, ())) else (bif (decide (0 ≤ _v27) && decide (_v27 < (_v25.length : Int))) then (bif (((nth ((0 : Int), ((0 : Int), false)) _v25 (_v27).toNat).1) == _v23) then (bif (!(((nth ((0 : Int), ((0 : Int), false)) _v25 (_v27).toNat).2).2 == (_v26 == (0 : Int)))) then (some (false, ())) else (bif (!((nth ((0 : Int), ((0 : Int), false)) _v25 (_v27).toNat).2).2) then (_k52 (_v23, _v24, _v25, (IntKind.i64.wrap (_v26 - (1 : Int))), (IntKind.i64.wrap (_v27 + (1 : Int))), _v28, _v29, _v30, _v31, _v32, _v33, _v34)) else (_k52 (_v23, _v24, _v25, _v26, (IntKind.i64.wrap (_v27 + (1 : Int))), _v28, _v29, _v30, _v31, _v32, _v33, _v34)))) else (_k52 (_v23, _v24, _v25, _v26, (IntKind.i64.wrap (_v27 + (1 : Int))), _v28, _v29, _v30, _v31, _v32, _v33, _v34))) else none)))
noncomputable def keep_SlotsBusy_4 (_N : Nat) (_k53 : (Int × List Int × (List (Int × Int × Bool)) × Int × Int × (List (Int × Int × Int × Int)) × Int × Int × Int × Int × Int × Int) → Option Rt_keep_SlotsBusy) (_v10 : Int) (_v11 : List Int) (_v12 : List (Int × Int × Bool)) (_v13 : Int) (_v14 : Int) (_v15 : List (Int × Int × Int × Int)) (_v16 : Int) (_v17 : Int) (_v18 : Bool) (_v19 : Int) (_v20 : Int) (_v21 : Int) (_v22 : Int) : Option Rt_keep_SlotsBusy :=
  (bif _v18 then (_k53 (_v10, _v11, _v12, (IntKind.i64.wrap (_v13 + _v21)), _v14, _v15, _v16, _v17, _v19, _v20, _v21, _v22)) else (_k53 (_v10, _v11, _v12, _v13, _v14, _v15, _v16, _v17, _v19, _v20, _v21, _v22)))
noncomputable def keep_SlotsBusy_5 (_N : Nat) (_k50 : ((List (Int × Int × Bool)) × Int) → Option Rt_keep_SlotsBusy) (_v2 : Int) (_v3 : List Int) (_v4 : List (Int × Int × Bool)) (_v7 : List (Int × Int × Int × Int)) (_v8 : Int) (_v5 : Int) (_v6 : Int) (_v9 : Int) (_kn51 : (Int × List Int × (List (Int × Int × Bool)) × (List (Int × Int × Int × Int)) × Int) × (Int × Int × Int) → Option Rt_keep_SlotsBusy) : Option Rt_keep_SlotsBusy :=
  (bif (decide (_v9 < _v8)) then (joinD (fun (_s : Int × List Int × (List (Int × Int × Bool)) × Int × Int × (List (Int × Int × Int × Int)) × Int × Int × Int × Int × Int × Int) => keep_SlotsBusy_2 _N _kn51 _s.1 _s.2.1 _s.2.2.1 _s.2.2.2.1 _s.2.2.2.2.1 _s.2.2.2.2.2.1 _s.2.2.2.2.2.2.1 _s.2.2.2.2.2.2.2.1) fun _k52 => (bif (decide (0 ≤ _v9) && decide (_v9 < (_v7.length : Int))) then (joinD (fun (_s : Int × List Int × (List (Int × Int × Bool)) × Int × Int × (List (Int × Int × Int × Int)) × Int × Int × Int × Int × Int × Int) => keep_SlotsBusy_3 _N _k52 _s.1 _s.2.1 _s.2.2.1 _s.2.2.2.1 _s.2.2.2.2.1 _s.2.2.2.2.2.1 _s.2.2.2.2.2.2.1 _s.2.2.2.2.2.2.2.1 _s.2.2.2.2.2.2.2.2.1 _s.2.2.2.2.2.2.2.2.2.1 _s.2.2.2.2.2.2.2.2.2.2.1 _s.2.2.2.2.2.2.2.2.2.2.2) fun _k53 => (joinD (fun (_s : Int × List Int × (List (Int × Int × Bool)) × Int × Int × (List (Int × Int × Int × Int)) × Int × Int × Bool × Int × Int × Int × Int) => keep_SlotsBusy_4 _N _k53 _s.1 _s.2.1 _s.2.2.1 _s.2.2.2.1 _s.2.2.2.2.1 _s.2.2.2.2.2.1 _s.2.2.2.2.2.2.1 _s.2.2.2.2.2.2.2.1 _s.2.2.2.2.2.2.2.2.1 _s.2.2.2.2.2.2.2.2.2.1 _s.2.2.2.2.2.2.2.2.2.2.1 _s.2.2.2.2.2.2.2.2.2.2.2.1 _s.2.2.2.2.2.2.2.2.2.2.2.2) fun _k54 => (bif (((nth ((0 : Int), ((0 : Int), ((0 : Int), (0 : Int)))) _v7 (_v9).toNat).1) == (1 : Int)) then (bif ((((nth ((0 : Int), ((0 : Int), ((0 : Int), (0 : Int)))) _v7 (_v9).toNat).2).1) == _v2) then (bif (decide (0 ≤ _v9) && decide (_v9 < (_v3.length : Int))) then (_k54 (_v2, _v3, _v4, _v5, _v6, _v7, _v8, _v9, ((nth (0 : Int) _v3 (_v9).toNat) == (0 : Int)), (nth ((0 : Int), ((0 : Int), ((0 : Int), (0 : Int)))) _v7 (_v9).toNat).1, ((nth ((0 : Int), ((0 : Int), ((0 : Int), (0 : Int)))) _v7 (_v9).toNat).2).1, (((nth ((0 : Int), ((0 : Int), ((0 : Int), (0 : Int)))) _v7 (_v9).toNat).2).2).1, (((nth ((0 : Int), ((0 : Int), ((0 : Int), (0 : Int)))) _v7 (_v9).toNat).2).2).2)) else none) else (_k54 (_v2, _v3, _v4, _v5, _v6, _v7, _v8, _v9, false, (nth ((0 : Int), ((0 : Int), ((0 : Int), (0 : Int)))) _v7 (_v9).toNat).1, ((nth ((0 : Int), ((0 : Int), ((0 : Int), (0 : Int)))) _v7 (_v9).toNat).2).1, (((nth ((0 : Int), ((0 : Int), ((0 : Int), (0 : Int)))) _v7 (_v9).toNat).2).2).1, (((nth ((0 : Int), ((0 : Int), ((0 : Int), (0 : Int)))) _v7 (_v9).toNat).2).2).2))) else (_k54 (_v2, _v3, _v4, _v5, _v6, _v7, _v8, _v9, false, (nth ((0 : Int), ((0 : Int), ((0 : Int), (0 : Int)))) _v7 (_v9).toNat).1, ((nth ((0 : Int), ((0 : Int), ((0 : Int), (0 : Int)))) _v7 (_v9).toNat).2).1, (((nth ((0 : Int), ((0 : Int), ((0 : Int), (0 : Int)))) _v7 (_v9).toNat).2).2).1, (((nth ((0 : Int), ((0 : Int), ((0 : Int), (0 : Int)))) _v7 (_v9).toNat).2).2).2))))) else none)) else (_k50 (_v4, _v6)))
noncomputable def keep_SlotsBusy_6 (_N : Nat) (_x1 : Int) (_x2 : List Int) (_x3 : List (Int × Int × Int × Int)) (_x4 : Int) : Option Rt_keep_SlotsBusy :=
  ((D_slots_Play _N (_x1, _x2, _x3, ())).bind fun _y49 => (bif (_y49.2.2.1 != (0 : Int)) then (some (true, ())) else (bif ((_y49.1.length : Int) != (_x3.length : Int)) then (some (false, ())) else (joinD (fun (_s : (List (Int × Int × Bool)) × Int) => keep_SlotsBusy_1 _N _s.1 _s.2) fun _k50 => (loopE (fun (_c : Int × List Int × (List (Int × Int × Bool)) × (List (Int × Int × Int × Int)) × Int) (_s : Int × Int × Int) _kn => keep_SlotsBusy_5 _N _k50 _c.1 _c.2.1 _c.2.2.1 _c.2.2.2.1 _c.2.2.2.2 _s.1 _s.2.1 _s.2.2 _kn) _N (_x4, _y49.1, _y49.2.1, _x3, (_x3.length : Int)) ((0 : Int), (0 : Int), (0 : Int)))))))
noncomputable def D_keep_SlotsBusy (_N : Nat) (_x : Dens Ks_keep_SlotsBusy) : Option Rt_keep_SlotsBusy := keep_SlotsBusy_6 _N _x.1 _x.2.1 _x.2.2.1 _x.2.2.2.1
theorem sp_keep_SlotsBusy (_N : Nat) : SpecD Try.prog [] 6 Ks_keep_SlotsBusy Rk_keep_SlotsBusy (D_keep_SlotsBusy _N) := mkSpD (fn := Try.f6) (c := bodyOf Try.f6) (C := C_keep_SlotsBusy _N)
    (a := .two .none (.two .none (.two .none (.two .none (.two .none (.two .none (.join 0 ⟨[(10, .sl (.pair (.int .i64) (.pair (.int .i64) (.bool)))), (13, .int .i64)], []⟩ (.two .none (.one (.loop 0 ⟨[(3, .int .i64), (9, .sl (.int .i64)), (10, .sl (.pair (.int .i64) (.pair (.int .i64) (.bool)))), (12, .int .i64), (13, .int .i64), (32, .sl (.pair (.int .i64) (.pair (.int .i64) (.pair (.int .i64) (.int .i64))))), (33, .int .i64), (34, .int .i64)], []⟩ [3, 4, 7] (.two .none (.two .none (.join 1 ⟨[(3, .int .i64), (9, .sl (.int .i64)), (10, .sl (.pair (.int .i64) (.pair (.int .i64) (.bool)))), (12, .int .i64), (13, .int .i64), (32, .sl (.pair (.int .i64) (.pair (.int .i64) (.pair (.int .i64) (.int .i64))))), (33, .int .i64), (34, .int .i64)], [.cells [.int .i64, .int .i64, .int .i64, .int .i64]]⟩ (.one (.two .none (.join 1 ⟨[(3, .int .i64), (9, .sl (.int .i64)), (10, .sl (.pair (.int .i64) (.pair (.int .i64) (.bool)))), (12, .int .i64), (13, .int .i64), (15, .ptr 0 0), (32, .sl (.pair (.int .i64) (.pair (.int .i64) (.pair (.int .i64) (.int .i64))))), (33, .int .i64), (34, .int .i64)], [.cells [.int .i64, .int .i64, .int .i64, .int .i64]]⟩ (.join 1 ⟨[(3, .int .i64), (9, .sl (.int .i64)), (10, .sl (.pair (.int .i64) (.pair (.int .i64) (.bool)))), (12, .int .i64), (13, .int .i64), (15, .ptr 0 0), (32, .sl (.pair (.int .i64) (.pair (.int .i64) (.pair (.int .i64) (.int .i64))))), (33, .int .i64), (34, .int .i64), (54, .bool)], [.cells [.int .i64, .int .i64, .int .i64, .int .i64]]⟩ .none .none) .none))) .none)))))) .none)))))))
    (by kernel_rfl) rfl (by kernel_rfl) (by kernel_rfl) ⟨rfl, by unfold TOk; kernel_rfl, gOk_of rfl rfl (List.forall_mem_cons.2 ⟨qen_slots_Play _N, (List.forall_mem_nil _)⟩), iOk_of rfl rfl (List.forall_mem_nil _), rfl⟩ (fun _x => by kernel_rfl)
abbrev zs : Slt := (0, 0, false)
def sumU : List (Int × Int) → Int
  | [] => 0
  | x :: r => x.1 + sumU r
theorem sumU_app (a b : List (Int × Int)) : sumU (a ++ b) = sumU a + sumU b := by
  induction a with
  | nil => simp [sumU]
  | cons x r ih => simp only [List.cons_append, sumU, ih]; omega
theorem sumU_bd {q : List (Int × Int)} (h : ∀ x ∈ q, 1 ≤ x.1 ∧ x.1 ≤ 1000) : (q.length : Int) ≤ sumU q ∧ sumU q ≤ 1000 * (q.length : Int) := by
  induction q with
  | nil => simp [sumU]
  | cons x r ih =>
    have h1 := ih fun y hy => h y (List.mem_cons_of_mem _ hy)
    have h2 := h x (List.mem_cons_self ..)
    simp only [sumU, List.length_cons]
    omega
theorem sumU_pop {x : Int × Int} {r : List (Int × Int)} : sumU (popQ (x :: r)) = sumU (x :: r) - 1 := by
  simp only [popQ]
  split <;> simp only [sumU] <;> omega
def busyU (lev : Int) (s : SS) : Int := if 0 ≤ lev then sumU (nth [] s.w lev.toNat) else 0
def codeA (lv : Int) (a : Ask) : Int := if a.1 = 1 then (if badA lv a = true then 2 else 0) else if a.1 = 2 then 0 else 17
theorem codes_step (lv : Int) (tb : List Int) (s : SS) (a : Ask) : (stp lv tb s a).codes = s.codes ++ [codeA lv a] := by
  unfold stp codeA
  by_cases h1 : a.1 = 1
  · rw [if_pos h1, if_pos h1]; cases badA lv a <;> rfl
  · rw [if_neg h1, if_neg h1]; by_cases h2 : a.1 = 2 <;> simp [h2]
theorem told_stepB (lv : Int) (tb : List Int) (s : SS) (a : Ask) : (stp lv tb s a).told = s.told ++ if a.1 = 2 then [toldQ (nth 0 tb s.p) (nth [] s.w (nth 0 tb s.p).toNat)] else [] := by
  unfold stp
  by_cases h1 : a.1 = 1
  · have h2 : ¬ a.1 = 2 := by omega
    rw [if_pos h1, if_neg h2]; cases badA lv a <;> simp
  · rw [if_neg h1]; by_cases h2 : a.1 = 2 <;> simp [h2]
theorem pre_run (lv : Int) (tb : List Int) : (l : List Ask) → (s : SS) → ∃ c d, (l.foldl (stp lv tb) s).codes = s.codes ++ c ∧ (l.foldl (stp lv tb) s).told = s.told ++ d
  | [], s => ⟨[], [], by simp, by simp⟩
  | a :: l, s => by
    obtain ⟨c, d, h1, h2⟩ := pre_run lv tb l (stp lv tb s a)
    rw [codes_step] at h1; rw [told_stepB] at h2
    exact ⟨_, _, by rw [List.foldl_cons, h1, List.append_assoc], by rw [List.foldl_cons, h2, List.append_assoc]⟩
theorem pre_take {lv : Int} {tb : List Int} (l : List Ask) (i : Nat) : ∃ c d, (runS lv tb l).codes = (runS lv tb (l.take i)).codes ++ c ∧ (runS lv tb l).told = (runS lv tb (l.take i)).told ++ d := by
  have := pre_run lv tb (l.drop i) (runS lv tb (l.take i))
  rwa [runS, ← List.foldl_append, List.take_append_drop] at this
theorem code_at {lv : Int} {tb : List Int} (h : TbOk lv tb) (l : List Ask) {i : Nat} (hi : i < l.length) : nth 0 (runS lv tb l).codes i = codeA lv (nth za l i) := by
  obtain ⟨c, d, h1, -⟩ := pre_take (lv := lv) (tb := tb) l (i + 1)
  rw [runS_take l hi, codes_step] at h1
  have hl := (runS_ok h l i (by omega)).c
  rw [h1, nth_app (by rw [List.length_append, hl]; exact Nat.lt_succ_self _)]
  have := nth_end (z := (0 : Int)) (x := codeA lv (nth za l i)) (xs := (runS lv tb (l.take i)).codes)
  rwa [hl] at this
theorem told_at {lv : Int} {tb : List Int} (l : List Ask) {i : Nat} (hi : i < l.length) (h2 : (nth za l i).1 = 2) {s : SS} (hs : runS lv tb (l.take i) = s) :
    s.told.length < (runS lv tb l).told.length ∧ nth zs (runS lv tb l).told s.told.length = toldQ (nth 0 tb s.p) (nth [] s.w (nth 0 tb s.p).toNat) := by
  obtain ⟨c, d, -, h1⟩ := pre_take (lv := lv) (tb := tb) l (i + 1)
  rw [runS_take l hi, told_stepB, if_pos h2, hs] at h1
  rw [h1]
  refine ⟨by simp only [List.length_append, List.length_singleton]; omega, ?_⟩
  rw [nth_app (by simp), nth_end]
theorem busy_step {lv lev : Int} {tb : List Int} (h : TbOk lv tb) {s : SS} {i : Nat} (o : OkS lv tb s i) (a : Ask) :
    busyU lev (stp lv tb s a) = busyU lev s + (if a.1 = 1 ∧ a.2.1 = lev ∧ codeA lv a = 0 then a.2.2.1 else 0) - (if a.1 = 2 ∧ nth 0 tb s.p = lev ∧ nth [] s.w lev.toNat ≠ [] then 1 else 0) := by
  unfold stp
  by_cases h1 : a.1 = 1
  · rw [if_pos h1, if_neg (show ¬ (a.1 = 2 ∧ nth 0 tb s.p = lev ∧ nth [] s.w lev.toNat ≠ []) by omega)]
    cases hb : badA lv a with
    | true =>
      rw [if_pos rfl, if_neg (fun h => by have := h.2.2; simp [codeA, h1, hb] at this)]
      simp [busyU]
    | false =>
      have hf := badA_f hb
      rw [if_neg (by decide)]
      have hc : codeA lv a = 0 := by simp [codeA, h1, hb]
      by_cases e : a.2.1 = lev
      · rw [if_pos ⟨h1, e, hc⟩]
        unfold busyU
        rw [if_pos (by omega), if_pos (by omega)]
        dsimp only
        rw [nth_set (by rw [o.wl]; omega), if_pos (by rw [e]), e, sumU_app]
        simp [sumU]
      · rw [if_neg (fun h => e h.2.1)]
        unfold busyU
        by_cases h0 : 0 ≤ lev
        · rw [if_pos h0, if_pos h0]
          dsimp only
          rw [nth_set (by rw [o.wl]; omega), if_neg (by omega)]
          omega
        · rw [if_neg h0, if_neg h0]; rfl
  · rw [if_neg h1, if_neg (show ¬ (a.1 = 1 ∧ a.2.1 = lev ∧ codeA lv a = 0) by omega)]
    by_cases h2 : a.1 = 2
    · rw [if_pos h2]
      have hx := h.mem s.p o.p
      generalize nth 0 tb s.p = x at hx ⊢
      unfold busyU
      by_cases h0 : 0 ≤ lev
      · rw [if_pos h0, if_pos h0]
        dsimp only
        rw [nth_set (by rw [o.wl]; omega)]
        by_cases e : x = lev
        · subst e
          rw [if_pos rfl]
          cases hq : nth [] s.w x.toNat with
          | nil => rw [if_neg (by simp)]; simp [popQ, sumU]
          | cons y r => rw [if_pos ⟨h2, rfl, by simp⟩, sumU_pop]; omega
        · rw [if_neg (by omega), if_neg (fun h => e h.2.1)]; omega
      · rw [if_neg h0, if_neg h0, if_neg (fun h => h0 (by have := h.2.1; omega))]; rfl
    · rw [if_neg h2, if_neg (fun h => h2 h.1)]
      unfold busyU; dsimp only; omega
theorem busy_bd {lv lev : Int} {tb : List Int} {s : SS} {i : Nat} (o : OkS lv tb s i) : 0 ≤ busyU lev s ∧ busyU lev s ≤ 1000 * (i : Int) := by
  unfold busyU
  split
  · obtain ⟨h1, h2⟩ := o.q lev.toNat
    have := sumU_bd h2
    omega
  · omega
theorem law_SlotsBusy (lv : Int) (tb : List Int) (l : List Ask) (lev : Int) (_h1 : wfS (.int .i64) lv) (_h2 : wfS (.sl (.int .i64)) tb) (_h3 : wfS (.sl (.pair (.int .i64) (.pair (.int .i64) (.pair (.int .i64) (.int .i64))))) l) (_h4 : wfS (.int .i64) lev) : ∃ N, D_keep_SlotsBusy N (lv, tb, l, lev, ()) = some (true, ()) := by
  refine ⟨200, ?_⟩
  simp only [D_keep_SlotsBusy, keep_SlotsBusy_6]
  rcases Play_eq (N := 200) (by omega) lv tb l with ⟨e, he, e1⟩ | ⟨hl, ht, e1⟩
  · simp only [e1, Option.bind_some]
    rw [bne_iff_ne.2 he, cond_true]
  have hok := runS_all ht l
  simp only [e1 l hl, Option.bind_some, bne_self_eq_false, cond_false, hok.c, joinD, loopE]
  obtain ⟨st, hst⟩ : ∃ st : Nat → Int × Int × Int, st = fun i => (busyU lev (runS lv tb (l.take i)), ((runS lv tb (l.take i)).told.length : Int), (i : Int)) := ⟨_, rfl⟩
  have e00 : ((0 : Int), (0 : Int), (0 : Int)) = st 0 := by
    have h0 := busy_bd (lev := lev) (OkS.zero ht)
    have h1 : busyU lev (runS lv tb (l.take 0)) = 0 := by
      have h2 : runS lv tb (l.take 0) = s0 lv := rfl
      rw [h2]; omega
    rw [hst]; dsimp only; rw [h1]; rfl
  rw [e00]
  refine loopD_path l.length st (fun i hi kn => ?_) (fun kn => ?_) (by omega) <;> subst hst <;> clear e00 <;> dsimp only
  · have hw : IntKind.i64.wrap ((i : Int) + 1) = ((i + 1 : Nat) : Int) := w64 (by omega) (by omega)
    have o := runS_ok ht l i (by omega)
    have hb := busy_step (lev := lev) ht o (nth za l i)
    have hbd := busy_bd (lev := lev) o
    have hbd' := busy_bd (lev := lev) (o.step ht (nth za l i))
    have htd := told_stepB lv tb (runS lv tb (l.take i)) (nth za l i)
    have hta := told_at (lv := lv) (tb := tb) l hi
    have hcode := code_at ht l hi
    rw [runS_take l hi]
    have hix : decide ((i : Int) < ((runS lv tb l).codes.length : Int)) = true := by rw [hok.c]; exact lt_d hi
    generalize runS lv tb (l.take i) = s at hb hbd hbd' htd hta o ⊢
    obtain ⟨⟨kd, lvl, u, nm⟩, ha⟩ : ∃ a : Ask, nth za l i = a := ⟨_, rfl⟩
    rw [ha] at hb htd hta hcode hbd' ⊢
    have hq := (o.q lev.toNat).2
    have htl := o.t
    simp only [keep_SlotsBusy_5, lt_d hi, ge0_d, hix, Bool.and_self, cond_true, joinD, Int.toNat_natCast, ha, hcode, keep_SlotsBusy_2, backE_eq, hw]
    generalize stp lv tb s (kd, lvl, u, nm) = s' at *
    by_cases h1 : kd = 1
    · subst h1
      rw [htd, beq_self_eq_true, cond_true, if_neg (show ¬ (1 : Int) = 2 by decide), List.append_nil]
      have hb : busyU lev s' = busyU lev s + if lvl = lev ∧ codeA lv (1, lvl, u, nm) = 0 then u else 0 := by
        rw [hb, if_neg (show ¬ ((1 : Int) = 2 ∧ nth 0 tb s.p = lev ∧ nth [] s.w lev.toNat ≠ []) by omega)]
        simp
      have h12 : ((1 : Int) != 2) = true := rfl
      by_cases h2 : lvl = lev
      · rw [beq_iff_eq.2 h2, cond_true]
        by_cases h3 : codeA lv (1, lvl, u, nm) = 0
        · rw [if_pos ⟨h2, h3⟩] at hb
          simp only [keep_SlotsBusy_4, keep_SlotsBusy_3, keep_SlotsBusy_2, backE_eq, hw, beq_iff_eq.2 h3, cond_true, h12, ← hb]
          rw [w64 (show -9223372036854775808 ≤ busyU lev s' by omega) (by omega)]
        · rw [if_neg (fun h => h3 h.2)] at hb
          simp only [keep_SlotsBusy_4, keep_SlotsBusy_3, keep_SlotsBusy_2, backE_eq, hw, beq_false_of_ne h3, cond_false, cond_true, h12, hb, Int.add_zero]
      · rw [beq_false_of_ne h2, cond_false]
        rw [if_neg (fun h => h2 h.1)] at hb
        simp only [keep_SlotsBusy_4, keep_SlotsBusy_3, keep_SlotsBusy_2, backE_eq, hw, cond_false, cond_true, h12, hb, Int.add_zero]
    · rw [beq_false_of_ne h1, cond_false]
      rw [if_neg (fun h => h1 h.1)] at hb
      by_cases h2 : kd = 2
      · subst h2
        obtain ⟨ht1, ht2⟩ := hta rfl rfl
        have hgt : decide ((s.told.length : Int) ≥ ((runS lv tb l).told.length : Int)) = false := d_false (by omega)
        have hn : IntKind.i64.wrap ((s.told.length : Int) + 1) = ((s.told.length + 1 : Nat) : Int) := w64 (by omega) (by omega)
        rw [if_pos rfl] at htd
        have htl' : s'.told.length = s.told.length + 1 := by rw [htd, List.length_append]; rfl
        simp only [keep_SlotsBusy_4, keep_SlotsBusy_3, keep_SlotsBusy_2, backE_eq, hw, cond_false, bne_self_eq_false, hgt, ge0_d, lt_d ht1, Bool.and_self, cond_true, Int.toNat_natCast, ht2, hn, toldQ_lev, htl']
        have hx := ht.mem s.p o.p
        by_cases e : nth 0 tb s.p = lev
        · rw [beq_iff_eq.2 e, cond_true]
          rw [e] at hx ⊢
          have hbs : busyU lev s = sumU (nth [] s.w lev.toNat) := if_pos hx.1
          cases hqq : nth [] s.w lev.toNat with
          | nil =>
            rw [hqq] at hbs hb
            rw [if_neg (by simp)] at hb
            have h0 : busyU lev s = 0 := hbs
            have h0' : busyU lev s' = 0 := by omega
            simp only [toldQ, h0, h0']; rfl
          | cons y r =>
            rw [hqq] at hbs hb hq
            rw [if_pos ⟨rfl, e, by simp⟩] at hb
            have hsb := sumU_bd hq
            have hne : busyU lev s ≠ 0 := by rw [hbs]; simp only [List.length_cons] at hsb; omega
            have hbb : busyU lev s' = busyU lev s - 1 := by omega
            simp only [toldQ, beq_false_of_ne hne, hbb]
            rw [w64 (show -9223372036854775808 ≤ busyU lev s - 1 by omega) (by omega)]; rfl
        · rw [beq_false_of_ne e, cond_false]
          rw [if_neg (fun h => e h.2.1)] at hb
          have hb : busyU lev s' = busyU lev s := by omega
          rw [hb]
      · rw [if_neg h2, List.append_nil] at htd
        rw [if_neg (fun h => h2 h.1)] at hb
        have hb : busyU lev s' = busyU lev s := by omega
        simp only [keep_SlotsBusy_4, keep_SlotsBusy_3, keep_SlotsBusy_2, backE_eq, hw, cond_false, bne_iff_ne.2 h2, cond_true, htd, hb]
  · rw [List.take_length]
    simp only [keep_SlotsBusy_5, lt_self, cond_false, keep_SlotsBusy_1, beq_self_eq_true]
set_option maxRecDepth 100000 in
theorem lifted_SlotsBusy (os : Os) (started : os.Started) (H : Type) (enc : TypeId × Value → H) :
    ReturnsInHanded {} Try.checked os 6 .any (Rows.slotsBusySpec.pre6 enc Try.prog Try.f6 Rows.slotsBusyRow.domain false) (Rows.slotsBusySpec.post enc Try.prog Try.f6 false true false false) := by
  refine returnsInHanded_of_change_sized (C := Try.checked) own started (by kernel_rfl) Try.func6
    (ChangeSpec.witness6 (enc := enc) (C := Try.checked) false ⟨#[], #[.int .i64 0, .slice none 0 0, .slice none 0 0, .int .i64 0], []⟩ 8 (by kernel_rfl) (by kernel_rfl) (by kernel_rfl) (by kernel_rfl)) ?_
  intro W base args ds gs before hval0 hW _ hsz0 _
  have hgw : GW [] W := fun _ h => nomatch h
  have hval : ∀ (j : Nat) t v, Try.f6.params[j]? = some t → args[j]? = some v → Value.okWide Try.prog W .any base t v := hval0
  have hW' := hW
  obtain ⟨p, q, hA0, hV, rfl, _, _⟩ := hW
  have hA : DataW.TrodAll enc Try.prog W 0 (fun _ => true) true Try.f6.params.toList args.toList ds p := hA0
  rw [Try.params6] at hA hval
  obtain ⟨v0, vs0, d0, ds0, p0, q0, hargs, rfl, rfl, h0, r0⟩ := trodAll_cons hA
  obtain ⟨v1, vs1, d1, ds1, p1, q1, rfl, rfl, rfl, h1, r1⟩ := trodAll_cons r0
  obtain ⟨v2, vs2, d2, ds2, p2, q2, rfl, rfl, rfl, h2, r2⟩ := trodAll_cons r1
  obtain ⟨v3, vs3, d3, ds3, p3, q3, rfl, rfl, rfl, h3, r3⟩ := trodAll_cons r2
  obtain ⟨rfl, rfl, rfl⟩ := trodAll_nil r3
  obtain rfl : args = #[v0, v1, v2, v3] := by cases args; simp_all
  obtain ⟨rfl, rfl⟩ := trodVars_none hV
  have hall := List.all_eq_true.1 hsz0
  clear hA0 hval0 hsz0
  simp only [List.append_nil] at hW'
  have hlt0 : ∀ x ∈ p0, x.block < W.heap.size := fun x hx => hW'.lt x (by simp [hx])
  have hlt1 : ∀ x ∈ p1, x.block < W.heap.size := fun x hx => hW'.lt x (by simp [hx])
  have hlt2 : ∀ x ∈ p2, x.block < W.heap.size := fun x hx => hW'.lt x (by simp [hx])
  have hlt3 : ∀ x ∈ p3, x.block < W.heap.size := fun x hx => hW'.lt x (by simp [hx])
  obtain ⟨x0, g0, w0⟩ := open_kd (k := .dat (.int .i64)) (by kernel_rfl) (hval 0 3 v0 rfl rfl) h0
  obtain ⟨x1, g1, w1⟩ := open_kd (k := .dat (.sl (.int .i64))) (by kernel_rfl) (hval 1 36 v1 rfl rfl) h1
  obtain ⟨x2, g2, w2⟩ := open_kd (k := .dat (.sl (.pair (.int .i64) (.pair (.int .i64) (.pair (.int .i64) (.int .i64)))))) (by kernel_rfl) (hval 2 37 v2 rfl rfl) h2
  obtain ⟨x3, g3, w3⟩ := open_kd (k := .dat (.int .i64)) (by kernel_rfl) (hval 3 3 v3 rfl rfl) h3
  obtain ⟨N, hN⟩ := law_SlotsBusy x0 x1 x2 x3 w0 w1 w2 w3
  refine (sp_keep_SlotsBusy N (fun _ => False) W (x0, x1, x2, x3, ()) (true, ()) [v0, v1, v2, v3] (fun _ h => h.elim) hgw ⟨v0, _, rfl, g0, ⟨v1, _, rfl, g1, ⟨v2, _, rfl, g2, ⟨v3, _, rfl, g3, rfl⟩⟩⟩⟩ hN).mono ?_
  rintro e W' ⟨v, rfl, hg, hr⟩
  replace hg := hg.old
  have hr : v = .bool true := by simpa only [kvals, retV, Kd.val, Go.Abs.enc, RV] using hr
  subst hr
  exact ⟨_, rfl, _, _, _, [], p0 ++ (p1 ++ (p2 ++ (p3 ++ []))), [], hW', (trodAll_cons_mk (shut_bool (show Try.prog.underlying 4 = some .bool by kernel_rfl) _) trodAll_mk0), (trodAll_cons_mk (Below.trod laidOut (by kernel_rfl) (of_decide_eq_true (by kernel_rfl)) h0 hg hlt0) (trodAll_cons_mk (Below.trod laidOut (by kernel_rfl) (of_decide_eq_true (by kernel_rfl)) h1 hg hlt1) (trodAll_cons_mk (Below.trod laidOut (by kernel_rfl) (of_decide_eq_true (by kernel_rfl)) h2 hg hlt2) (trodAll_cons_mk (Below.trod laidOut (by kernel_rfl) (of_decide_eq_true (by kernel_rfl)) h3 hg hlt3) trodAll_mk0)))), rfl, hg.frame _, fun h => by cases h⟩
theorem slotsBusy_holds : Rows.SlotsBusySaid :=
  OpenClaim.holds_of_wide 6 Try.f6 rfl rfl rfl rfl rfl rfl rfl ⟨rfl, rfl, rfl, rfl, rfl⟩ rfl rfl rfl rfl rfl (by kernel_rfl) Try.func6 (by kernel_rfl)
    (of_decide_eq_true (by kernel_rfl)) (by unfold Func.isWrapper; first | (rw [if_pos (by decide +kernel)]; kernel_rfl) | (rw [if_neg (by decide +kernel)]; exact ⟨rfl, rfl⟩))
    (fun os started H enc _ => lifted_SlotsBusy os started H enc)
end Go.Proofs.Ytfcjibfkhmnolaa
