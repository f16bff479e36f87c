import Derived.Test.YtfcjibfkhmnolaaSloS
import Derived.Test.YtfcjibfkhmnolaaFrame0
namespace Go.Proofs.Ytfcjibfkhmnolaa
open Go Go.ChangeShapes Go.WideShapes Go.ChangeAt Go.WideMaps Go.WideElems Go.RowKit Go.Abs
abbrev Ks_keep_SlotsApart : List Kd := [.dat (.int .i64), .dat (.sl (.int .i64)), .dat (.sl (.pair (.int .i64) (.pair (.int .i64) (.pair (.int .i64) (.int .i64))))), .dat (.int .i64)]
abbrev Rk_keep_SlotsApart : List Kd := [.dat (.bool)]
abbrev Rt_keep_SlotsApart : Type := Dens Rk_keep_SlotsApart
noncomputable def C_keep_SlotsApart (_N : Nat) : Ctx := { T := [(3, ⟨.int .i64, 1, 8, some (.int .i64), [.int .i64 (0 : Int)], false, []⟩), (37, ⟨.slice 42, 1, 24, some (.sl (.pair (.int .i64) (.pair (.int .i64) (.pair (.int .i64) (.int .i64))))), [.nil], false, []⟩), (38, ⟨.slice 44, 1, 24, some (.sl (.pair (.int .i64) (.pair (.int .i64) (.bool)))), [.nil], false, []⟩), (42, ⟨.struct [(0, 3), (1, 3), (2, 3), (3, 3)], 4, 32, some (.pair (.int .i64) (.pair (.int .i64) (.pair (.int .i64) (.int .i64)))), [.int .i64 (0 : Int), .int .i64 (0 : Int), .int .i64 (0 : Int), .int .i64 (0 : Int)], true, []⟩), (44, ⟨.struct [(0, 3), (1, 3), (2, 4)], 3, 24, some (.pair (.int .i64) (.pair (.int .i64) (.bool))), [.int .i64 (0 : Int), .int .i64 (0 : Int), .bool false], true, []⟩)], G := findE [mkQ 18 Ks_slots_Play Rk_slots_Play (D_slots_Play _N), mkD 18 Ks_slots_Play Rk_slots_Play (D_slots_Play _N)], I := findI [], N := _N, n := 126, fx := [0], fl := 0, gs := [] }
noncomputable def keep_SlotsApart_1 (_N : Nat) : Option Rt_keep_SlotsApart :=
  (some (true, ()))
noncomputable def keep_SlotsApart_2 (_N : Nat) (_kn56 : (Int × (List (Int × Int × Bool)) × (List (Int × Int × Bool)) × (List (Int × Int × Int × Int))) × Int → Option Rt_keep_SlotsApart) (_v38 : Int) (_v39 : List (Int × Int × Bool)) (_v40 : List (Int × Int × Bool)) (_v41 : Int) (_v51 : List (Int × Int × Int × Int)) : Option Rt_keep_SlotsApart :=
  (_kn56 ((_v38, _v39, _v40, _v51), (IntKind.i64.wrap (_v41 + (1 : Int)))))
noncomputable def keep_SlotsApart_3 (_N : Nat) (_k55 : (List (Int × Int × Int × Int)) → Option Rt_keep_SlotsApart) (_v33 : Int) (_v34 : List (Int × Int × Bool)) (_v35 : List (Int × Int × Bool)) (_v37 : List (Int × Int × Int × Int)) (_v36 : Int) (_kn56 : (Int × (List (Int × Int × Bool)) × (List (Int × Int × Bool)) × (List (Int × Int × Int × Int))) × Int → Option Rt_keep_SlotsApart) : Option Rt_keep_SlotsApart :=
  (bif (decide (_v36 < (_v35.length : Int))) then (joinD (fun (_s : Int × (List (Int × Int × Bool)) × (List (Int × Int × Bool)) × Int × (List (Int × Int × Bool)) × Int × (Int × Int × Bool) × Int × Int × Int × Bool × Bool × Bool × (List (Int × Int × Int × Int))) => keep_SlotsApart_2 _N _kn56 _s.1 _s.2.1 _s.2.2.1 _s.2.2.2.1 _s.2.2.2.2.2.2.2.2.2.2.2.2.2) fun _k57 => (bif (decide (0 ≤ _v36) && decide (_v36 < (_v35.length : Int))) then (bif (decide (0 ≤ _v36) && decide (_v36 < (_v34.length : Int))) then (bif (((nth ((0 : Int), ((0 : Int), false)) _v35 (_v36).toNat).1) != ((nth ((0 : Int), ((0 : Int), false)) _v34 (_v36).toNat).1)) then (some (false, ())) else (bif (decide (0 ≤ _v36) && decide (_v36 < (_v35.length : Int))) then (bif (((nth ((0 : Int), ((0 : Int), false)) _v35 (_v36).toNat).1) == _v33) then (bif (decide (0 ≤ _v36) && decide (_v36 < (_v35.length : Int))) then (bif (decide (0 ≤ _v36) && decide (_v36 < (_v34.length : Int))) then (bif (!(eqD (.pair (.int .i64) (.pair (.int .i64) (.bool))) ((nth ((0 : Int), ((0 : Int), false)) _v35 (_v36).toNat).1, (((nth ((0 : Int), ((0 : Int), false)) _v35 (_v36).toNat).2).1, ((nth ((0 : Int), ((0 : Int), false)) _v35 (_v36).toNat).2).2)) ((nth ((0 : Int), ((0 : Int), false)) _v34 (_v36).toNat).1, (((nth ((0 : Int), ((0 : Int), false)) _v34 (_v36).toNat).2).1, ((nth ((0 : Int), ((0 : Int), false)) _v34 (_v36).toNat).2).2)))) then (some (false, ())) else (_k57 (_v33, _v34, _v35, _v36, _v35, _v36, (nth ((0 : Int), ((0 : Int), false)) _v35 (_v36).toNat), (nth ((0 : Int), ((0 : Int), false)) _v35 (_v36).toNat).1, (nth ((0 : Int), ((0 : Int), false)) _v35 (_v36).toNat).1, _v33, (((nth ((0 : Int), ((0 : Int), false)) _v35 (_v36).toNat).1) == _v33), true, (!(eqD (.pair (.int .i64) (.pair (.int .i64) (.bool))) ((nth ((0 : Int), ((0 : Int), false)) _v35 (_v36).toNat).1, (((nth ((0 : Int), ((0 : Int), false)) _v35 (_v36).toNat).2).1, ((nth ((0 : Int), ((0 : Int), false)) _v35 (_v36).toNat).2).2)) ((nth ((0 : Int), ((0 : Int), false)) _v34 (_v36).toNat).1, (((nth ((0 : Int), ((0 : Int), false)) _v34 (_v36).toNat).2).1, ((nth ((0 : Int), ((0 : Int), false)) _v34 (_v36).toNat).2).2)))), _v37))) else none) else none) else (_k57 (_v33, _v34, _v35, _v36, _v35, _v36, (nth ((0 : Int), ((0 : Int), false)) _v35 (_v36).toNat), (nth ((0 : Int), ((0 : Int), false)) _v35 (_v36).toNat).1, (nth ((0 : Int), ((0 : Int), false)) _v35 (_v36).toNat).1, _v33, (((nth ((0 : Int), ((0 : Int), false)) _v35 (_v36).toNat).1) == _v33), false, false, _v37))) else none)) else none) else none)) else (_k55 _v37))
noncomputable def keep_SlotsApart_4 (_N : Nat) (_v27 : Int) (_v28 : List (Int × Int × Bool)) (_v29 : Int) (_v30 : List (Int × Int × Bool)) (_v31 : Int) (_v32 : List (Int × Int × Int × Int)) : Option Rt_keep_SlotsApart :=
  (bif (_v29 != (0 : Int)) then (some (false, ())) else (bif ((_v30.length : Int) != (_v28.length : Int)) then (some (false, ())) else (bif ((_v30.length : Int) != _v31) then (some (false, ())) else (joinD (fun (_s : (List (Int × Int × Int × Int))) => keep_SlotsApart_1 _N) fun _k55 => (loopE (fun (_c : Int × (List (Int × Int × Bool)) × (List (Int × Int × Bool)) × (List (Int × Int × Int × Int))) (_s : Int) _kn => keep_SlotsApart_3 _N _k55 _c.1 _c.2.1 _c.2.2.1 _c.2.2.2 _s _kn) _N (_v27, _v28, _v30, _v32) (0 : Int))))))
noncomputable def keep_SlotsApart_5 (_N : Nat) (_k58 : (Int × (List (Int × Int × Bool)) × Int × (List (Int × Int × Bool)) × Int × (List (Int × Int × Int × Int))) → Option Rt_keep_SlotsApart) (_v18 : Int) (_v19 : List (Int × Int × Bool)) (_v20 : Int) (_v21 : List (Int × Int × Bool)) (_v23 : List (Int × Int × Int × Int)) (_v24 : Int) (_v26 : List (Int × Int × Int × Int)) (_v22 : Int) (_v25 : Int) (_kn59 : (Int × (List (Int × Int × Bool)) × Int × (List (Int × Int × Bool)) × (List (Int × Int × Int × Int)) × Int × (List (Int × Int × Int × Int))) × (Int × Int) → Option Rt_keep_SlotsApart) : Option Rt_keep_SlotsApart :=
  (bif (decide (_v25 < _v24)) then (bif (decide (0 ≤ _v25) && decide (_v25 < (_v23.length : Int))) then (bif (((nth ((0 : Int), ((0 : Int), ((0 : Int), (0 : Int)))) _v23 (_v25).toNat).1) == (2 : Int)) then (_kn59 ((_v18, _v19, _v20, _v21, _v23, _v24, _v26), ((IntKind.i64.wrap (_v22 + (1 : Int))), (IntKind.i64.wrap (_v25 + (1 : Int)))))) else (_kn59 ((_v18, _v19, _v20, _v21, _v23, _v24, _v26), (_v22, (IntKind.i64.wrap (_v25 + (1 : Int))))))) else none) else (_k58 (_v18, _v19, _v20, _v21, _v22, _v26)))
noncomputable def keep_SlotsApart_6 (_N : Nat) (_v11 : Int) (_v12 : List Int) (_v13 : List (Int × Int × Int × Int)) (_v14 : Int) (_v15 : List (Int × Int × Bool)) (_v16 : List (Int × Int × Int × Int)) : Option Rt_keep_SlotsApart :=
  ((D_slots_Play _N (_v11, _v12, _v16, ())).bind fun _y54 => (joinD (fun (_s : Int × (List (Int × Int × Bool)) × Int × (List (Int × Int × Bool)) × Int × (List (Int × Int × Int × Int))) => keep_SlotsApart_4 _N _s.1 _s.2.1 _s.2.2.1 _s.2.2.2.1 _s.2.2.2.2.1 _s.2.2.2.2.2) fun _k58 => (loopE (fun (_c : Int × (List (Int × Int × Bool)) × Int × (List (Int × Int × Bool)) × (List (Int × Int × Int × Int)) × Int × (List (Int × Int × Int × Int))) (_s : Int × Int) _kn => keep_SlotsApart_5 _N _k58 _c.1 _c.2.1 _c.2.2.1 _c.2.2.2.1 _c.2.2.2.2.1 _c.2.2.2.2.2.1 _c.2.2.2.2.2.2 _s.1 _s.2 _kn) _N (_v14, _v15, _y54.2.2.1, _y54.2.1, _v13, (_v13.length : Int), _v16) ((0 : Int), (0 : Int)))))
noncomputable def keep_SlotsApart_7 (_N : Nat) (_k60 : (Int × List Int × (List (Int × Int × Int × Int)) × Int × (List (Int × Int × Bool)) × (List (Int × Int × Int × Int))) → Option Rt_keep_SlotsApart) (_v2 : Int) (_v3 : List Int) (_v4 : List (Int × Int × Int × Int)) (_v5 : Int) (_v6 : List (Int × Int × Bool)) (_v7 : List (Int × Int × Int × Int)) (_v8 : Int) (_v9 : Int) (_v10 : List (Int × Int × Int × Int)) (_kn61 : (Int × List Int × (List (Int × Int × Int × Int)) × Int × (List (Int × Int × Bool)) × (List (Int × Int × Int × Int)) × Int) × (Int × (List (Int × Int × Int × Int))) → Option Rt_keep_SlotsApart) : Option Rt_keep_SlotsApart :=
  (bif (decide (_v9 < _v8)) then (bif (decide (0 ≤ _v9) && decide (_v9 < (_v7.length : Int))) then (bif (((nth ((0 : Int), ((0 : Int), ((0 : Int), (0 : Int)))) _v7 (_v9).toNat).1) != (1 : Int)) then (bif (decide ((_v10.length + ([((nth ((0 : Int), ((0 : Int), ((0 : Int), (0 : Int)))) _v7 (_v9).toNat).1, (((nth ((0 : Int), ((0 : Int), ((0 : Int), (0 : Int)))) _v7 (_v9).toNat).2).1, ((((nth ((0 : Int), ((0 : Int), ((0 : Int), (0 : Int)))) _v7 (_v9).toNat).2).2).1, (((nth ((0 : Int), ((0 : Int), ((0 : Int), (0 : Int)))) _v7 (_v9).toNat).2).2).2)))]).length) * 32 ≤ 140737488355328) && Nat.ble 1 32) then (_kn61 ((_v2, _v3, _v4, _v5, _v6, _v7, _v8), ((IntKind.i64.wrap (_v9 + (1 : Int))), (_v10 ++ [((nth ((0 : Int), ((0 : Int), ((0 : Int), (0 : Int)))) _v7 (_v9).toNat).1, (((nth ((0 : Int), ((0 : Int), ((0 : Int), (0 : Int)))) _v7 (_v9).toNat).2).1, ((((nth ((0 : Int), ((0 : Int), ((0 : Int), (0 : Int)))) _v7 (_v9).toNat).2).2).1, (((nth ((0 : Int), ((0 : Int), ((0 : Int), (0 : Int)))) _v7 (_v9).toNat).2).2).2)))])))) else none) else (bif ((((nth ((0 : Int), ((0 : Int), ((0 : Int), (0 : Int)))) _v7 (_v9).toNat).2).1) == _v5) then (bif (decide ((_v10.length + ([((nth ((0 : Int), ((0 : Int), ((0 : Int), (0 : Int)))) _v7 (_v9).toNat).1, (((nth ((0 : Int), ((0 : Int), ((0 : Int), (0 : Int)))) _v7 (_v9).toNat).2).1, ((((nth ((0 : Int), ((0 : Int), ((0 : Int), (0 : Int)))) _v7 (_v9).toNat).2).2).1, (((nth ((0 : Int), ((0 : Int), ((0 : Int), (0 : Int)))) _v7 (_v9).toNat).2).2).2)))]).length) * 32 ≤ 140737488355328) && Nat.ble 1 32) then (_kn61 ((_v2, _v3, _v4, _v5, _v6, _v7, _v8), ((IntKind.i64.wrap (_v9 + (1 : Int))), (_v10 ++ [((nth ((0 : Int), ((0 : Int), ((0 : Int), (0 : Int)))) _v7 (_v9).toNat).1, (((nth ((0 : Int), ((0 : Int), ((0 : Int), (0 : Int)))) _v7 (_v9).toNat).2).1, ((((nth ((0 : Int), ((0 : Int), ((0 : Int), (0 : Int)))) _v7 (_v9).toNat).2).2).1, (((nth ((0 : Int), ((0 : Int), ((0 : Int), (0 : Int)))) _v7 (_v9).toNat).2).2).2)))])))) else none) else (_kn61 ((_v2, _v3, _v4, _v5, _v6, _v7, _v8), ((IntKind.i64.wrap (_v9 + (1 : Int))), _v10))))) else none) else (_k60 (_v2, _v3, _v4, _v5, _v6, _v10)))
noncomputable def keep_SlotsApart_8 (_N : Nat) (_x1 : Int) (_x2 : List Int) (_x3 : List (Int × Int × Int × Int)) (_x4 : Int) : Option Rt_keep_SlotsApart :=
  ((D_slots_Play _N (_x1, _x2, _x3, ())).bind fun _y53 => (bif (_y53.2.2.1 != (0 : Int)) then (some (((_y53.2.1.length : Int) == (0 : Int)), ())) else (joinD (fun (_s : Int × List Int × (List (Int × Int × Int × Int)) × Int × (List (Int × Int × Bool)) × (List (Int × Int × Int × Int))) => keep_SlotsApart_6 _N _s.1 _s.2.1 _s.2.2.1 _s.2.2.2.1 _s.2.2.2.2.1 _s.2.2.2.2.2) fun _k60 => (loopE (fun (_c : Int × List Int × (List (Int × Int × Int × Int)) × Int × (List (Int × Int × Bool)) × (List (Int × Int × Int × Int)) × Int) (_s : Int × (List (Int × Int × Int × Int))) _kn => keep_SlotsApart_7 _N _k60 _c.1 _c.2.1 _c.2.2.1 _c.2.2.2.1 _c.2.2.2.2.1 _c.2.2.2.2.2.1 _c.2.2.2.2.2.2 _s.1 _s.2 _kn) _N (_x1, _x2, _x3, _x4, _y53.2.1, _x3, (_x3.length : Int)) ((0 : Int), [])))))
noncomputable def D_keep_SlotsApart (_N : Nat) (_x : Dens Ks_keep_SlotsApart) : Option Rt_keep_SlotsApart := keep_SlotsApart_8 _N _x.1 _x.2.1 _x.2.2.1 _x.2.2.2.1
theorem sp_keep_SlotsApart (_N : Nat) : SpecD Try.prog [] 5 Ks_keep_SlotsApart Rk_keep_SlotsApart (D_keep_SlotsApart _N) := mkSpD (fn := Try.f5) (c := bodyOf Try.f5) (C := C_keep_SlotsApart _N)
    (a := .two .none (.two .none (.two .none (.two .none (.join 1 ⟨[(0, .int .i64), (1, .sl (.int .i64)), (2, .sl (.pair (.int .i64) (.pair (.int .i64) (.pair (.int .i64) (.int .i64))))), (3, .int .i64), (10, .sl (.pair (.int .i64) (.pair (.int .i64) (.bool)))), (12, .slc 0 0)], [.row false 0 42 (.pair (.int .i64) (.pair (.int .i64) (.pair (.int .i64) (.int .i64))))]⟩ (.two .none (.one (.obj 12 42 (.pair (.int .i64) (.pair (.int .i64) (.pair (.int .i64) (.int .i64)))) (.loop 1 ⟨[(0, .int .i64), (1, .sl (.int .i64)), (2, .sl (.pair (.int .i64) (.pair (.int .i64) (.pair (.int .i64) (.int .i64))))), (3, .int .i64), (10, .sl (.pair (.int .i64) (.pair (.int .i64) (.bool)))), (12, .slc 0 0), (34, .sl (.pair (.int .i64) (.pair (.int .i64) (.pair (.int .i64) (.int .i64))))), (35, .int .i64), (36, .int .i64)], [.row false 0 42 (.pair (.int .i64) (.pair (.int .i64) (.pair (.int .i64) (.int .i64))))]⟩ [7, 8] .none)))) (.two .none (.two .none (.join 1 ⟨[(3, .int .i64), (10, .sl (.pair (.int .i64) (.pair (.int .i64) (.bool)))), (11, .int .i64), (16, .sl (.pair (.int .i64) (.pair (.int .i64) (.bool)))), (17, .int .i64)], [.row true 0 42 (.pair (.int .i64) (.pair (.int .i64) (.pair (.int .i64) (.int .i64))))]⟩ (.two .none (.one (.loop 1 ⟨[(3, .int .i64), (10, .sl (.pair (.int .i64) (.pair (.int .i64) (.bool)))), (11, .int .i64), (16, .sl (.pair (.int .i64) (.pair (.int .i64) (.bool)))), (17, .int .i64), (62, .sl (.pair (.int .i64) (.pair (.int .i64) (.pair (.int .i64) (.int .i64))))), (63, .int .i64), (64, .int .i64)], [.row true 0 42 (.pair (.int .i64) (.pair (.int .i64) (.pair (.int .i64) (.int .i64))))]⟩ [4, 7] .none))) (.two .none (.join 1 ⟨[], [.row true 0 42 (.pair (.int .i64) (.pair (.int .i64) (.pair (.int .i64) (.int .i64))))]⟩ (.two .none (.one (.loop 1 ⟨[(3, .int .i64), (10, .sl (.pair (.int .i64) (.pair (.int .i64) (.bool)))), (16, .sl (.pair (.int .i64) (.pair (.int .i64) (.bool)))), (20, .int .i64)], [.row true 0 42 (.pair (.int .i64) (.pair (.int .i64) (.pair (.int .i64) (.int .i64))))]⟩ [3] (.two .none (.join 1 ⟨[(3, .int .i64), (10, .sl (.pair (.int .i64) (.pair (.int .i64) (.bool)))), (16, .sl (.pair (.int .i64) (.pair (.int .i64) (.bool)))), (20, .int .i64), (107, .sl (.pair (.int .i64) (.pair (.int .i64) (.bool)))), (108, .int .i64), (109, .fptr (.pair (.int .i64) (.pair (.int .i64) (.bool)))), (110, .fptr (.int .i64)), (111, .int .i64), (112, .int .i64), (113, .bool), (114, .bool), (124, .bool)], [.row true 0 42 (.pair (.int .i64) (.pair (.int .i64) (.pair (.int .i64) (.int .i64))))]⟩ (.one (.two (.draw 0 (.pure :: .pure :: .pure :: .pure :: .pure :: .pure :: .pure :: .pure :: .pure :: .pure :: .pure :: .pure :: .pure :: .pure :: .pure :: .pure :: .pure :: .pure :: .pure :: .pure :: .pure :: .pure :: .pure :: .pure :: .pure :: .pure :: .pure :: .pure :: .pure :: .pure :: .pure :: [])) .none)) .none))))) .none))))))))))
    (by kernel_rfl) rfl (by kernel_rfl) (by kernel_rfl) ⟨rfl, by unfold TOk; kernel_rfl, gOk_of rfl rfl (List.forall_mem_cons.2 ⟨qen_slots_Play _N, (List.forall_mem_cons.2 ⟨en_slots_Play _N, (List.forall_mem_nil _)⟩)⟩), iOk_of rfl rfl (List.forall_mem_nil _), rfl⟩ (fun _x => by kernel_rfl)
abbrev zs : Slt := (0, 0, false)
structure ApR (lev : Int) (s t : SS) : Prop where
  p : s.p = t.p
  tl : t.told.length = s.told.length
  td : ∀ j, j < s.told.length → (nth zs t.told j).1 = (nth zs s.told j).1 ∧ ((nth zs t.told j).1 = lev → nth zs t.told j = nth zs s.told j)
  q : 0 ≤ lev → nth [] s.w lev.toNat = nth [] t.w lev.toNat
def ownB (lev : Int) (a : Ask) : Bool := a.1 != 1 || a.2.1 == lev
theorem ApR.step {lv lev : Int} {tb : List Int} (h : TbOk lv tb) {s t : SS} {i j : Nat} (os : OkS lv tb s i) (ot : OkS lv tb t j) (r : ApR lev s t) (a : Ask) (ha : ownB lev a = true) : ApR lev (stp lv tb s a) (stp lv tb t a) := by
  unfold stp
  by_cases h1 : a.1 = 1
  · simp only [if_pos h1]
    cases hb : badA lv a with
    | true => simp only [if_pos]; exact ⟨r.p, r.tl, r.td, r.q⟩
    | false =>
      have hf := badA_f hb
      simp only [Bool.false_eq_true, if_false]
      have hl : a.2.1 = lev := by
        rcases Bool.or_eq_true_iff.1 ha with h | h
        · exact absurd h1 (by simpa using h)
        · simpa using h
      refine ⟨r.p, r.tl, r.td, fun h0 => ?_⟩
      dsimp only
      rw [nth_set (by rw [os.wl]; omega), nth_set (by rw [ot.wl]; omega), hl, if_pos rfl, if_pos rfl, r.q h0]
  · simp only [if_neg h1]
    by_cases h2 : a.1 = 2
    · simp only [if_pos h2, ← r.p]
      have hx := h.mem s.p os.p
      generalize nth 0 tb s.p = x at hx ⊢
      refine ⟨rfl, by simp [r.tl], fun j hj => ?_, fun h0 => ?_⟩
      · dsimp only at hj ⊢
        rw [List.length_append, List.length_singleton] at hj
        rcases Nat.lt_or_ge j s.told.length with hlt | hge
        · rw [nth_app hlt, nth_app (by rw [r.tl]; exact hlt)]; exact r.td j hlt
        · obtain rfl : j = s.told.length := by omega
          have e1 := nth_end (z := zs) (x := toldQ x (nth [] s.w x.toNat)) (xs := s.told)
          have e2 := nth_end (z := zs) (x := toldQ x (nth [] t.w x.toNat)) (xs := t.told)
          rw [r.tl] at e2
          rw [e1, e2, toldQ_lev, toldQ_lev]
          exact ⟨rfl, fun e => by rw [e, r.q (by omega)]⟩
      · dsimp only
        rw [nth_set (by rw [os.wl]; omega), nth_set (by rw [ot.wl]; omega)]
        have hq := r.q h0
        by_cases e : x.toNat = lev.toNat
        · rw [if_pos e, if_pos e, e, hq]
        · rw [if_neg e, if_neg e, hq]
    · simp only [if_neg h2]; exact ⟨r.p, r.tl, r.td, r.q⟩
theorem ApR.skip {lv lev : Int} {tb : List Int} {s t : SS} {i : Nat} (os : OkS lv tb s i) (r : ApR lev s t) (a : Ask) (ha : ownB lev a = false) : ApR lev (stp lv tb s a) t := by
  obtain ⟨h1, h2⟩ := Bool.or_eq_false_iff.1 ha
  have h1 : a.1 = 1 := by simpa using h1
  have h2 : a.2.1 ≠ lev := by simpa using h2
  unfold stp
  simp only [if_pos h1]
  cases hb : badA lv a with
  | true => simp only [if_pos]; exact ⟨r.p, r.tl, r.td, r.q⟩
  | false =>
    have hf := badA_f hb
    simp only [Bool.false_eq_true, if_false]
    refine ⟨r.p, r.tl, r.td, fun h0 => ?_⟩
    dsimp only
    rw [nth_set (by rw [os.wl]; omega), if_neg (by omega), r.q h0]
theorem ApR.run {lv lev : Int} {tb : List Int} (h : TbOk lv tb) : (l : List Ask) → {s t : SS} → {i j : Nat} → OkS lv tb s i → OkS lv tb t j → ApR lev s t → ApR lev (l.foldl (stp lv tb) s) ((l.filter (ownB lev)).foldl (stp lv tb) t)
  | [], _, _, _, _, _, _, r => r
  | a :: l, _, _, _, _, os, ot, r => by
    rw [List.foldl_cons]
    cases ha : ownB lev a with
    | true => rw [List.filter_cons_of_pos ha, List.foldl_cons]; exact ApR.run h l (os.step h a) (ot.step h a) (r.step h os ot a ha)
    | false => rw [List.filter_cons_of_neg (by rw [ha]; decide)]; exact ApR.run h l (os.step h a) ot (r.skip os a ha)
theorem told_step (lv : Int) (tb : List Int) (s : SS) (a : Ask) : (stp lv tb s a).told.length = s.told.length + if a.1 = 2 then 1 else 0 := by
  unfold stp
  by_cases h1 : a.1 = 1
  · have h2 : ¬ a.1 = 2 := by omega
    rw [if_pos h1, if_neg h2]; cases badA lv a <;> rfl
  · rw [if_neg h1]; by_cases h2 : a.1 = 2 <;> simp [h2]
theorem many_run (lv : Int) (tb : List Int) (l : List Ask) : ∀ i, i ≤ l.length → ((runS lv tb (l.take i)).told.length = ((l.take i).filter (fun a => a.1 == 2)).length)
  | 0, _ => by simp [runS, s0]
  | i + 1, hi => by
    rw [runS_take l hi, told_step, many_run lv tb l i (by omega), List.take_succ_eq_append_getElem hi, List.filter_append, List.length_append, nth_lt hi]
    by_cases e : (l[i]).1 = 2
    · rw [if_pos e, List.filter_cons_of_pos (by simpa using e)]; rfl
    · rw [if_neg e, List.filter_cons_of_neg (by simpa using e)]; rfl
theorem last_eq {N : Nat} (lev : Int) {s t : SS} (r : ApR lev s t) (own : List Ask) (hN : s.told.length < N) (hb : s.told.length ≤ 1000) : keep_SlotsApart_4 N lev s.told 0 t.told (s.told.length : Int) own = some (true, ()) := by
  simp only [keep_SlotsApart_4, r.tl, bne_self_eq_false, cond_false, joinD, loopE, keep_SlotsApart_1]
  refine loopD_passU (n := s.told.length) (fun i hi kn => ?_) (fun kn => ?_) hN
  · obtain ⟨h1, h2⟩ := r.td i hi
    have hw : IntKind.i64.wrap ((i : Int) + 1) = (i : Int) + 1 := w64 (by omega) (by omega)
    obtain ⟨⟨a1, a2, a3⟩, ha⟩ : ∃ a : Slt, nth zs s.told i = a := ⟨_, rfl⟩
    obtain ⟨⟨b1, b2, b3⟩, hb'⟩ : ∃ a : Slt, nth zs t.told i = a := ⟨_, rfl⟩
    rw [ha, hb'] at h1 h2
    dsimp only at h1 h2
    subst h1
    simp only [keep_SlotsApart_3, r.tl, lt_d hi, ge0_d, Bool.and_self, cond_true, joinD, Int.toNat_natCast, ha, hb', bne_self_eq_false, cond_false, keep_SlotsApart_2, backE_eq, hw]
    by_cases e : b1 = lev
    · have h3 := h2 e
      simp only [Prod.mk.injEq] at h3
      obtain ⟨-, rfl, rfl⟩ := h3
      subst e
      rw [beq_self_eq_true, cond_true, eqD_refl rfl, Bool.not_true, cond_false]
    · rw [beq_false_of_ne e, cond_false]
  · simp only [keep_SlotsApart_3, r.tl, lt_self, cond_false]
theorem law_SlotsApart (lv : Int) (tb : List Int) (l : List Ask) (lev : Int) (_h1 : wfS (.int .i64) lv) (_h2 : wfS (.sl (.int .i64)) tb) (_h3 : wfS (.sl (.pair (.int .i64) (.pair (.int .i64) (.pair (.int .i64) (.int .i64))))) l) (_h4 : wfS (.int .i64) lev) : ∃ N, D_keep_SlotsApart N (lv, tb, l, lev, ()) = some (true, ()) := by
  refine ⟨200, ?_⟩
  simp only [D_keep_SlotsApart, keep_SlotsApart_8]
  rcases Play_eq (N := 200) (by omega) lv tb l with ⟨e, he, e1⟩ | ⟨hl, ht, e1⟩
  · simp only [e1, Option.bind_some]
    rw [bne_iff_ne.2 he, cond_true]; rfl
  have hown : (l.filter (ownB lev)).length ≤ 60 := Nat.le_trans (List.length_filter_le _ _) hl
  have hok := runS_all ht l
  have hr : ApR lev (runS lv tb l) (runS lv tb (l.filter (ownB lev))) := ApR.run ht l (OkS.zero ht) (OkS.zero ht) ⟨rfl, rfl, fun j hj => by simp [s0] at hj, fun _ => rfl⟩
  have hmany : (runS lv tb l).told.length = (l.filter (fun a => a.1 == 2)).length := by have := many_run lv tb l l.length (Nat.le_refl _); rwa [List.take_length] at this
  have htl : (runS lv tb l).told.length ≤ 60 := Nat.le_trans hok.t hl
  simp only [e1 l hl, Option.bind_some, bne_self_eq_false, cond_false, joinD, loopE]
  refine loopD_path l.length (fun i => ((i : Int), (l.take i).filter (ownB lev))) (fun i hi kn => ?_) (fun kn => ?_) (by omega)
  · have hw : IntKind.i64.wrap ((i : Int) + 1) = ((i + 1 : Nat) : Int) := w64 (by omega) (by omega)
    have hfl : ((l.take i).filter (ownB lev)).length ≤ 60 := by
      refine Nat.le_trans (List.length_filter_le _ _) ?_
      rw [List.length_take]; omega
    have hap : ∀ x : Ask, decide ((((l.take i).filter (ownB lev)).length + [x].length) * 32 ≤ 140737488355328) = true := fun x => d_true (by simp only [List.length_singleton]; omega)
    have e0 : Nat.ble 1 32 = true := rfl
    have htk : (l.take (i + 1)).filter (ownB lev) = (l.take i).filter (ownB lev) ++ if ownB lev (nth za l i) = true then [nth za l i] else [] := by
      rw [List.take_succ_eq_append_getElem hi, List.filter_append, nth_lt hi]
      by_cases e : ownB lev l[i] = true
      · rw [if_pos e, List.filter_cons_of_pos e]; rfl
      · rw [if_neg e, List.filter_cons_of_neg e]; rfl
    obtain ⟨⟨kd, lvl, u, nm⟩, ha⟩ : ∃ a : Ask, nth za l i = a := ⟨_, rfl⟩
    rw [ha] at htk
    simp only [keep_SlotsApart_7, lt_d hi, ge0_d, Bool.and_self, cond_true, Int.toNat_natCast, ha, backE_eq, hap, e0, hw, htk]
    by_cases e : kd = 1
    · subst e
      rw [bne_self_eq_false, cond_false]
      by_cases e : lvl = lev
      · rw [if_pos (show ownB lev (1, lvl, u, nm) = true by simp [ownB, e]), beq_iff_eq.2 e, cond_true]
      · rw [if_neg (show ¬ ownB lev (1, lvl, u, nm) = true by simp [ownB, e]), beq_false_of_ne e, cond_false, List.append_nil]
    · rw [if_pos (show ownB lev (kd, lvl, u, nm) = true by simp [ownB, e]), bne_iff_ne.2 e, cond_true]
  · rw [List.take_length]
    simp only [keep_SlotsApart_7, lt_self, cond_false, keep_SlotsApart_6, e1 _ hown, Option.bind_some, joinD, loopE]
    refine loopD_path l.length (fun i => ((((l.take i).filter (fun a => a.1 == 2)).length : Int), (i : Int))) (fun i hi kn => ?_) (fun kn => ?_) (by omega)
    · have hw : IntKind.i64.wrap ((i : Int) + 1) = ((i + 1 : Nat) : Int) := w64 (by omega) (by omega)
      have hfl : ((l.take i).filter (fun a => a.1 == 2)).length ≤ 60 := by
        refine Nat.le_trans (List.length_filter_le _ _) ?_
        rw [List.length_take]; omega
      have hw2 : IntKind.i64.wrap ((((l.take i).filter (fun a => a.1 == 2)).length : Int) + 1) = (((l.take i).filter (fun a => a.1 == 2)).length : Int) + 1 := w64 (by omega) (by omega)
      have htk : (l.take (i + 1)).filter (fun a => a.1 == 2) = (l.take i).filter (fun a => a.1 == 2) ++ if (nth za l i).1 = 2 then [nth za l i] else [] := by
        rw [List.take_succ_eq_append_getElem hi, List.filter_append, nth_lt hi]
        by_cases e : (l[i]).1 = 2
        · rw [if_pos e, List.filter_cons_of_pos (by simpa using e)]; rfl
        · rw [if_neg e, List.filter_cons_of_neg (by simpa using e)]; rfl
      obtain ⟨⟨kd, lvl, u, nm⟩, ha⟩ : ∃ a : Ask, nth za l i = a := ⟨_, rfl⟩
      rw [ha] at htk
      simp only [keep_SlotsApart_5, lt_d hi, ge0_d, Bool.and_self, cond_true, Int.toNat_natCast, ha, backE_eq, hw, hw2, htk]
      by_cases e : kd = 2
      · subst e
        rw [beq_self_eq_true, cond_true, if_pos rfl, List.length_append]; rfl
      · rw [beq_false_of_ne e, cond_false, if_neg e, List.append_nil]
    · rw [List.take_length]
      simp only [keep_SlotsApart_5, lt_self, cond_false, ← hmany]
      exact last_eq lev hr _ (by omega) (by omega)
set_option maxRecDepth 100000 in
theorem lifted_SlotsApart (os : Os) (started : os.Started) (H : Type) (enc : TypeId × Value → H) :
    ReturnsInHanded {} Try.checked os 5 .any (Rows.slotsApartSpec.pre6 enc Try.prog Try.f5 Rows.slotsApartRow.domain false) (Rows.slotsApartSpec.post enc Try.prog Try.f5 false true false false) := by
  refine returnsInHanded_of_change_sized (C := Try.checked) own started (by kernel_rfl) Try.func5
    (ChangeSpec.witness6 (enc := enc) (C := Try.checked) false ⟨#[], #[.int .i64 0, .slice none 0 0, .slice none 0 0, .int .i64 0], []⟩ 8 (by kernel_rfl) (by kernel_rfl) (by kernel_rfl) (by kernel_rfl)) ?_
  intro W base args ds gs before hval0 hW _ hsz0 _
  have hgw : GW [] W := fun _ h => nomatch h
  have hval : ∀ (j : Nat) t v, Try.f5.params[j]? = some t → args[j]? = some v → Value.okWide Try.prog W .any base t v := hval0
  have hW' := hW
  obtain ⟨p, q, hA0, hV, rfl, _, _⟩ := hW
  have hA : DataW.TrodAll enc Try.prog W 0 (fun _ => true) true Try.f5.params.toList args.toList ds p := hA0
  rw [Try.params5] at hA hval
  obtain ⟨v0, vs0, d0, ds0, p0, q0, hargs, rfl, rfl, h0, r0⟩ := trodAll_cons hA
  obtain ⟨v1, vs1, d1, ds1, p1, q1, rfl, rfl, rfl, h1, r1⟩ := trodAll_cons r0
  obtain ⟨v2, vs2, d2, ds2, p2, q2, rfl, rfl, rfl, h2, r2⟩ := trodAll_cons r1
  obtain ⟨v3, vs3, d3, ds3, p3, q3, rfl, rfl, rfl, h3, r3⟩ := trodAll_cons r2
  obtain ⟨rfl, rfl, rfl⟩ := trodAll_nil r3
  obtain rfl : args = #[v0, v1, v2, v3] := by cases args; simp_all
  obtain ⟨rfl, rfl⟩ := trodVars_none hV
  have hall := List.all_eq_true.1 hsz0
  clear hA0 hval0 hsz0
  simp only [List.append_nil] at hW'
  have hlt0 : ∀ x ∈ p0, x.block < W.heap.size := fun x hx => hW'.lt x (by simp [hx])
  have hlt1 : ∀ x ∈ p1, x.block < W.heap.size := fun x hx => hW'.lt x (by simp [hx])
  have hlt2 : ∀ x ∈ p2, x.block < W.heap.size := fun x hx => hW'.lt x (by simp [hx])
  have hlt3 : ∀ x ∈ p3, x.block < W.heap.size := fun x hx => hW'.lt x (by simp [hx])
  obtain ⟨x0, g0, w0⟩ := open_kd (k := .dat (.int .i64)) (by kernel_rfl) (hval 0 3 v0 rfl rfl) h0
  obtain ⟨x1, g1, w1⟩ := open_kd (k := .dat (.sl (.int .i64))) (by kernel_rfl) (hval 1 36 v1 rfl rfl) h1
  obtain ⟨x2, g2, w2⟩ := open_kd (k := .dat (.sl (.pair (.int .i64) (.pair (.int .i64) (.pair (.int .i64) (.int .i64)))))) (by kernel_rfl) (hval 2 37 v2 rfl rfl) h2
  obtain ⟨x3, g3, w3⟩ := open_kd (k := .dat (.int .i64)) (by kernel_rfl) (hval 3 3 v3 rfl rfl) h3
  obtain ⟨N, hN⟩ := law_SlotsApart x0 x1 x2 x3 w0 w1 w2 w3
  refine (sp_keep_SlotsApart N (fun _ => False) W (x0, x1, x2, x3, ()) (true, ()) [v0, v1, v2, v3] (fun _ h => h.elim) hgw ⟨v0, _, rfl, g0, ⟨v1, _, rfl, g1, ⟨v2, _, rfl, g2, ⟨v3, _, rfl, g3, rfl⟩⟩⟩⟩ hN).mono ?_
  rintro e W' ⟨v, rfl, hg, hr⟩
  replace hg := hg.old
  have hr : v = .bool true := by simpa only [kvals, retV, Kd.val, Go.Abs.enc, RV] using hr
  subst hr
  exact ⟨_, rfl, _, _, _, [], p0 ++ (p1 ++ (p2 ++ (p3 ++ []))), [], hW', (trodAll_cons_mk (shut_bool (show Try.prog.underlying 4 = some .bool by kernel_rfl) _) trodAll_mk0), (trodAll_cons_mk (Below.trod laidOut (by kernel_rfl) (of_decide_eq_true (by kernel_rfl)) h0 hg hlt0) (trodAll_cons_mk (Below.trod laidOut (by kernel_rfl) (of_decide_eq_true (by kernel_rfl)) h1 hg hlt1) (trodAll_cons_mk (Below.trod laidOut (by kernel_rfl) (of_decide_eq_true (by kernel_rfl)) h2 hg hlt2) (trodAll_cons_mk (Below.trod laidOut (by kernel_rfl) (of_decide_eq_true (by kernel_rfl)) h3 hg hlt3) trodAll_mk0)))), rfl, hg.frame _, fun h => by cases h⟩
theorem slotsApart_holds : Rows.SlotsApartSaid :=
  OpenClaim.holds_of_wide 5 Try.f5 rfl rfl rfl rfl rfl rfl rfl ⟨rfl, rfl, rfl, rfl, rfl⟩ rfl rfl rfl rfl rfl (by kernel_rfl) Try.func5 (by kernel_rfl)
    (of_decide_eq_true (by kernel_rfl)) (by unfold Func.isWrapper; first | (rw [if_pos (by decide +kernel)]; kernel_rfl) | (rw [if_neg (by decide +kernel)]; exact ⟨rfl, rfl⟩))
    (fun os started H enc _ => lifted_SlotsApart os started H enc)
end Go.Proofs.Ytfcjibfkhmnolaa
