/- The Front of a list of times does not hang on where it begins: the law answers true for every list of times and every number. No condition. -/
import Derived.Test.YtololihlpldcdaaTimesF
import Derived.Test.YtololihlpldcdaaFrame0
namespace Go.Proofs.Ytololihlpldcdaa
open Go Go.ChangeShapes Go.WideShapes Go.ChangeAt Go.WideMaps Go.WideElems Go.RowKit Go.Abs
-- watershed/watershedkeep.TimesAnyhow
abbrev Ks_keep_TimesAnyhow : List Kd := [.dat (.sl (.sl (.int .i64))), .dat (.int .u8)]
abbrev Rk_keep_TimesAnyhow : List Kd := [.dat (.bool)]
abbrev Rt_keep_TimesAnyhow : Type := Dens Rk_keep_TimesAnyhow
noncomputable def C_keep_TimesAnyhow (_N : Nat) : Ctx := { T := [(3, ⟨.int .i64, 1, 8, some (.int .i64), [.int .i64 (0 : Int)]⟩), (5, ⟨.int .u8, 1, 1, some (.int .u8), [.int .u8 (0 : Int)]⟩), (22, ⟨.slice 26, 1, 24, some (.sl (.sl (.int .i64))), [.nil]⟩), (26, ⟨.slice 3, 1, 24, some (.sl (.int .i64)), [.nil]⟩)], G := findE [mkQ 15 Ks_times_Front Rk_times_Front (D_times_Front _N), mkD 15 Ks_times_Front Rk_times_Front (D_times_Front _N), mkP 16 Ks_ref_Lists Rk_ref_Lists (D_ref_Lists _N)], I := findI [], N := _N, n := 78, fx := [0], fl := 0, gs := [] }
noncomputable def keep_TimesAnyhow_1 (_N : Nat) (_v7 : List (List Int)) (_v8 : List (List Int)) : Option Rt_keep_TimesAnyhow :=
  ((D_times_Front _N (_v8, ())).bind fun _y12 => (bif (_y12.2.1 == (0 : Int)) then ((D_ref_Lists _N (_v7, _y12.1, ())).bind fun _y13 => (some (_y13.1, ()))) else (some (false, ()))))
noncomputable def keep_TimesAnyhow_2 (_N : Nat) (_k14 : (List (List Int) × List (List Int)) → Option Rt_keep_TimesAnyhow) (_v2 : List (List Int)) (_v3 : List (List Int)) (_v4 : Int) (_v5 : Int) (_v6 : List (List Int)) (_kn15 : (List (List Int) × List (List Int) × Int) × (Int × List (List Int)) → Option Rt_keep_TimesAnyhow) : Option Rt_keep_TimesAnyhow :=
  (bif (decide (_v5 < (_v2.length : Int))) then (bif ((_v2.length : Int) == 0) then none else (bif (decide (0 ≤ ((IntKind.i64.wrap ((IntKind.i64.wrap (_v4 + (_v2.length : Int))) - _v5)).tmod (_v2.length : Int))) && decide (((IntKind.i64.wrap ((IntKind.i64.wrap (_v4 + (_v2.length : Int))) - _v5)).tmod (_v2.length : Int)) < (_v2.length : Int))) then (bif (decide ((_v6.length + ([(nth ([]) _v2 ((IntKind.i64.wrap ((IntKind.i64.wrap (_v4 + (_v2.length : Int))) - _v5)).tmod (_v2.length : Int)).toNat)]).length) * 24 ≤ 70368744177664) && Nat.ble 1 24) then (_kn15 ((_v2, _v3, _v4), ((IntKind.i64.wrap (_v5 + (1 : Int))), (_v6 ++ [(nth ([]) _v2 ((IntKind.i64.wrap ((IntKind.i64.wrap (_v4 + (_v2.length : Int))) - _v5)).tmod (_v2.length : Int)).toNat)])))) else none) else none)) else (_k14 (_v3, _v6)))
noncomputable def keep_TimesAnyhow_3 (_N : Nat) (_x1 : List (List Int)) (_x2 : Int) : Option Rt_keep_TimesAnyhow :=
  ((D_times_Front _N (_x1, ())).bind fun _y11 => (bif (_y11.2.1 != (0 : Int)) then (bif ((_y11.1.length : Int) == (0 : Int)) then (bif (_y11.2.1 != (0 : Int)) then (some (true, ())) else (some (((_x1.length : Int) == (0 : Int)), ()))) else (some (false, ()))) else (bif ((_x1.length : Int) == (0 : Int)) then (bif ((_y11.1.length : Int) == (0 : Int)) then (bif (_y11.2.1 != (0 : Int)) then (some (true, ())) else (some (((_x1.length : Int) == (0 : Int)), ()))) else (some (false, ()))) else (bif ((_y11.1.length : Int) == (0 : Int)) then (bif ((_y11.1.length : Int) == (0 : Int)) then (bif (_y11.2.1 != (0 : Int)) then (some (true, ())) else (some (((_x1.length : Int) == (0 : Int)), ()))) else (some (false, ()))) else (bif ((_x1.length : Int) == 0) then none else (joinD (fun (_s : List (List Int) × List (List Int)) => keep_TimesAnyhow_1 _N _s.1 _s.2) fun _k14 => (loopE (fun (_c : List (List Int) × List (List Int) × Int) (_s : Int × List (List Int)) _kn => keep_TimesAnyhow_2 _N _k14 _c.1 _c.2.1 _c.2.2 _s.1 _s.2 _kn) _N (_x1, _y11.1, ((IntKind.i64.wrap _x2).tmod (_x1.length : Int))) ((0 : Int), []))))))))
noncomputable def D_keep_TimesAnyhow (_N : Nat) (_x : Dens Ks_keep_TimesAnyhow) : Option Rt_keep_TimesAnyhow := keep_TimesAnyhow_3 _N _x.1 _x.2.1
theorem sp_keep_TimesAnyhow (_N : Nat) : SpecD Try.prog [] 3 Ks_keep_TimesAnyhow Rk_keep_TimesAnyhow (D_keep_TimesAnyhow _N) := mkSpD (fn := Try.f3) (c := bodyOf Try.f3) (C := C_keep_TimesAnyhow _N)
    (a := .two .none (.two .none (.two .none (.two .none (.two .none (.join 1 ⟨[(5, .sl (.sl (.int .i64))), (7, .slc 0 0)], [.row false 0 26 (.sl (.int .i64))]⟩ (.two .none (.one (.obj 7 26 (.sl (.int .i64)) (.loop 1 ⟨[(0, .sl (.sl (.int .i64))), (5, .sl (.sl (.int .i64))), (7, .slc 0 0), (8, .int .i64), (9, .int .i64)], [.row false 0 26 (.sl (.int .i64))]⟩ [3, 4] .none)))) .none))))))
    (by kernel_rfl) rfl (by kernel_rfl) (by kernel_rfl) ⟨rfl, by unfold TOk; kernel_rfl, gOk_of rfl rfl (List.forall_mem_cons.2 ⟨qen_times_Front _N, (List.forall_mem_cons.2 ⟨en_times_Front _N, (List.forall_mem_cons.2 ⟨en_ref_Lists _N, (List.forall_mem_nil _)⟩)⟩)⟩), iOk_of rfl rfl (List.forall_mem_nil _), rfl⟩ (fun _x => by kernel_rfl)
theorem en_keep_TimesAnyhow (_N : Nat) : EntOk Try.prog [] (mkP 3 Ks_keep_TimesAnyhow Rk_keep_TimesAnyhow (D_keep_TimesAnyhow _N)) := entP ⟨Try.f3, bodyOf Try.f3, by kernel_rfl, by kernel_rfl, rfl⟩ (by kernel_rfl) (sp_keep_TimesAnyhow _N)
theorem TL.of_mem {xs ys : List (List Int)} (h : TL xs) (hl : ys.length ≤ 64) (hm : ∀ t ∈ ys, t ∈ xs) : TL ys where
  len := hl
  tok := fun t ht => h.tok t (hm t ht)
  one := fun t ht => by
    have h0 : 0 < ys.length := List.length_pos_of_mem ht
    exact h.eqL (hm t ht) (hm _ (nth_mem h0))
theorem isMin_congr {xs ys : List (List Int)} (h : ∀ t, t ∈ xs ↔ t ∈ ys) (t : List Int) : isMin xs t ↔ isMin ys t := by simp only [isMin, h]
theorem law_TimesAnyhow (l : List (List Int)) (k : Int) (wl : wfS (.sl (.sl (.int .i64))) l) (wk : wfS (.int .u8) k) : ∃ N, D_keep_TimesAnyhow N (l, k, ()) = some (true, ()) := by
  refine ⟨1000, ?_⟩
  simp only [D_keep_TimesAnyhow, keep_TimesAnyhow_3]
  rcases Front_eq (N := 1000) (Nat.le_refl _) l with ⟨h, e, he, f1⟩ | ⟨h, f, f1, f2, f3, f4⟩
  · rw [f1, Option.bind_some, show (e != 0) = true from bne_iff_ne.2 he]; rfl
  have hlen := h.len
  rw [f1, Option.bind_some, bne_self_eq_false, cond_false]
  by_cases h0 : l.length = 0
  · have hf0 : f.length = 0 := by omega
    simp only [h0, hf0]; rfl
  have hne : ((l.length : Int) == 0) = false := beq_false_of_ne (by omega)
  have hf : f.length ≠ 0 := fun hf0 => by
    obtain ⟨u, hu, -⟩ := front_under h.one f3 (nth_mem (z := ([] : List Int)) (show 0 < l.length by omega))
    rw [List.eq_nil_of_length_eq_zero hf0] at hu
    cases hu
  simp only [hne, cond_false, show ((f.length : Int) == 0) = false from beq_false_of_ne (by omega), joinD, loopE]
  have hk : 0 ≤ k ∧ k ≤ 255 := by simpa [wfS, IntKind.min, IntKind.max, IntKind.signed, IntKind.bits] using wk
  have hat : ∃ at_ : Nat, at_ < l.length ∧ (IntKind.i64.wrap k).tmod (l.length : Int) = (at_ : Int) := by
    obtain ⟨m, rfl⟩ : ∃ m : Nat, k = (m : Int) := ⟨k.toNat, by omega⟩
    exact ⟨m % l.length, Nat.mod_lt _ (by omega), by rw [w64 (by omega) (by omega)]; rfl⟩
  obtain ⟨a, ha, hae⟩ := hat
  rw [hae]
  let st : Nat → List (List Int) := fun i => (List.range i).map fun j => nth [] l ((a + l.length - j) % l.length)
  have hres : keep_TimesAnyhow_1 1000 f (st l.length) = some (true, ()) := by
    have hmem : ∀ t, t ∈ l ↔ t ∈ st l.length := fun t => by
      constructor
      · intro ht
        obtain ⟨i, hi, rfl⟩ := mem_nth (z := ([] : List Int)) ht
        by_cases q : i ≤ a
        · refine List.mem_map.2 ⟨a - i, List.mem_range.2 (by omega), ?_⟩
          rw [show a + l.length - (a - i) = i + l.length by omega, Nat.add_mod_right, Nat.mod_eq_of_lt hi]
        · refine List.mem_map.2 ⟨a + l.length - i, List.mem_range.2 (by omega), ?_⟩
          rw [show a + l.length - (a + l.length - i) = i by omega, Nat.mod_eq_of_lt hi]
      · intro ht
        obtain ⟨j, hj, rfl⟩ := List.mem_map.1 ht
        exact nth_mem (Nat.mod_lt _ (by omega))
    have hsl : (st l.length).length = l.length := by simp [st]
    have h' : TL (st l.length) := h.of_mem (by omega) fun t ht => (hmem t).2 ht
    simp only [keep_TimesAnyhow_1]
    rcases Front_eq (N := 1000) (Nat.le_refl _) (st l.length) with ⟨h2, -⟩ | ⟨-, g, g1, g2, g3, g4⟩
    · exact absurd h' h2
    · have e : f = g := rise_uniq f2 g2 fun t => by rw [f3, g3]; exact isMin_congr hmem t
      subst e
      rw [g1, Option.bind_some, beq_self_eq_true, cond_true, Lists_self (Nat.le_refl _) (by omega) (fun t ht => (tok_len (h.tok t ((f3 t).1 ht).1)).2)]
      rfl
  refine loopD_path (N := 1000) l.length (fun i => ((i : Int), st i)) (fun i hi kn => ?_) (fun kn => ?_) (by omega)
  · have e1 : IntKind.i64.wrap (IntKind.i64.wrap ((a : Int) + (l.length : Int)) - (i : Int)) = ((a + l.length - i : Nat) : Int) := by
      rw [w64 (n := (a : Int) + (l.length : Int)) (by omega) (by omega), w64 (by omega) (by omega)]; omega
    have e2 : ((a + l.length - i : Nat) : Int).tmod (l.length : Int) = (((a + l.length - i) % l.length : Nat) : Int) := rfl
    have e3 : (a + l.length - i) % l.length < l.length := Nat.mod_lt _ (by omega)
    have hsi : (st i).length = i := by simp [st]
    simp only [keep_TimesAnyhow_2, lt_d hi, cond_true, hne, cond_false, e1, e2, ge0_d, lt_d e3, Bool.and_self, Int.toNat_natCast, hsi]
    rw [d_true (by simp; omega)]
    have : st (i + 1) = st i ++ [nth [] l ((a + l.length - i) % l.length)] := by simp [st, List.range_succ]
    simp only [backE_eq, ix1 hi (by omega), this]
    rfl
  · simp only [keep_TimesAnyhow_2, lt_self, cond_false]
    exact hres
set_option maxRecDepth 100000 in
theorem lifted_TimesAnyhow (os : Os) (started : os.Started) (H : Type) (enc : TypeId × Value → H) :
    ReturnsInHanded {} Try.checked os 3 .any (Rows.timesAnyhowSpec.pre6 enc Try.prog Try.f3 Rows.timesAnyhowRow.domain false) (Rows.timesAnyhowSpec.post enc Try.prog Try.f3 false true false false) := by
  refine returnsInHanded_of_change_sized (C := Try.checked) own started (by kernel_rfl) Try.func3
    (ChangeSpec.witness6 (enc := enc) (C := Try.checked) false ⟨#[], #[.slice none 0 0, .int .u8 0], []⟩ 8 (by kernel_rfl) (by kernel_rfl) (by kernel_rfl) (by kernel_rfl)) ?_
  intro W base args ds gs before hval0 hW _ hsz0 _
  have hgw : GW [] W := fun _ h => nomatch h
  have hval : ∀ (j : Nat) t v, Try.f3.params[j]? = some t → args[j]? = some v → Value.okWide Try.prog W .any base t v := hval0
  have hW' := hW
  obtain ⟨p, q, hA0, hV, rfl, _, _⟩ := hW
  have hA : DataW.TrodAll enc Try.prog W 0 (fun _ => true) true Try.f3.params.toList args.toList ds p := hA0
  rw [Try.params3] at hA hval
  obtain ⟨v0, vs0, d0, ds0, p0, q0, hargs, rfl, rfl, h0, r0⟩ := trodAll_cons hA
  obtain ⟨v1, vs1, d1, ds1, p1, q1, rfl, rfl, rfl, h1, r1⟩ := trodAll_cons r0
  obtain ⟨rfl, rfl, rfl⟩ := trodAll_nil r1
  obtain rfl : args = #[v0, v1] := by cases args; simp_all
  obtain ⟨rfl, rfl⟩ := trodVars_none hV
  clear hA0 hval0 hsz0
  simp only [List.append_nil] at hW'
  have hlt0 : ∀ x ∈ p0, x.block < W.heap.size := fun x hx => hW'.lt x (by simp [hx])
  have hlt1 : ∀ x ∈ p1, x.block < W.heap.size := fun x hx => hW'.lt x (by simp [hx])
  obtain ⟨x0, g0, w0⟩ := open_kd (k := .dat (.sl (.sl (.int .i64)))) (by kernel_rfl) (hval 0 22 v0 rfl rfl) h0
  obtain ⟨x1, g1, w1⟩ := open_kd (k := .dat (.int .u8)) (by kernel_rfl) (hval 1 5 v1 rfl rfl) h1
  obtain ⟨N, hN⟩ := law_TimesAnyhow x0 x1 w0 w1
  refine (sp_keep_TimesAnyhow N (fun _ => False) W (x0, x1, ()) (true, ()) [v0, v1] (fun _ h => h.elim) hgw ⟨v0, _, rfl, g0, ⟨v1, _, rfl, g1, rfl⟩⟩ hN).mono ?_
  rintro e W' ⟨v, rfl, hg, hr⟩
  replace hg := hg.old
  have hr : v = .bool true := by simpa only [kvals, retV, Kd.val, Go.Abs.enc, RV] using hr
  subst hr
  exact ⟨_, rfl, _, _, _, [], p0 ++ (p1 ++ []), [], hW', (trodAll_cons_mk (shut_bool (show Try.prog.underlying 4 = some .bool by kernel_rfl) _) trodAll_mk0), (trodAll_cons_mk (Below.trod laidOut (by kernel_rfl) (of_decide_eq_true (by kernel_rfl)) h0 hg hlt0) (trodAll_cons_mk (Below.trod laidOut (by kernel_rfl) (of_decide_eq_true (by kernel_rfl)) h1 hg hlt1) trodAll_mk0)), rfl, hg.frame _, fun h => by cases h⟩

/-- The statement: whatever the arguments, the law's function returns true and leaves them as they were. -/
theorem timesAnyhow_holds : Rows.TimesAnyhowSaid :=
  OpenClaim.holds_of_wide 3 Try.f3 rfl rfl rfl rfl rfl rfl rfl ⟨rfl, rfl, rfl, rfl, rfl⟩ rfl rfl rfl rfl rfl (by kernel_rfl) Try.func3 (by kernel_rfl)
    (of_decide_eq_true (by kernel_rfl)) (by unfold Func.isWrapper; first | (rw [if_pos (by decide +kernel)]; kernel_rfl) | (rw [if_neg (by decide +kernel)]; exact ⟨rfl, rfl⟩))
    (fun os started H enc _ => lifted_TimesAnyhow os started H enc)
end Go.Proofs.Ytololihlpldcdaa
