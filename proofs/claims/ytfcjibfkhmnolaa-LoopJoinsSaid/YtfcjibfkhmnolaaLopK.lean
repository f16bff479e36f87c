/- loop's laws: what they share. -/
import Derived.Test.YtfcjibfkhmnolaaLopL
namespace Go.Proofs.Ytfcjibfkhmnolaa
open Go.Abs Go.Bag
-- watershed/watershedkeep.inside
abbrev Ks_keep_inside : List Kd := [.dat (.sl (.pair (.int .i64) (.pair (.int .i64) (.int .i64)))), .dat (.sl (.pair (.int .i64) (.pair (.int .i64) (.int .i64))))]
abbrev Rk_keep_inside : List Kd := [.dat (.bool)]
abbrev Rt_keep_inside : Type := Dens Rk_keep_inside
noncomputable def C_keep_inside (_N : Nat) : Ctx := { T := [(46, ⟨.slice 51, 1, 24, some (.sl (.pair (.int .i64) (.pair (.int .i64) (.int .i64)))), [.nil], false, []⟩), (51, ⟨.struct [(0, 2), (1, 2), (2, 2)], 3, 24, some (.pair (.int .i64) (.pair (.int .i64) (.int .i64))), [.int .i64 (0 : Int), .int .i64 (0 : Int), .int .i64 (0 : Int)], true, []⟩)], G := findE [], I := findI [], N := _N, n := 32, fx := [], fl := 0, gs := [] }
noncomputable def keep_inside_1 (_N : Nat) : Option Rt_keep_inside :=
  (some (true, ()))
noncomputable def keep_inside_2 (_N : Nat) (_kn32 : ((List (Int × Int × Int)) × (List (Int × Int × Int)) × Int) × Int → Option Rt_keep_inside) (_v24 : List (Int × Int × Int)) (_v25 : List (Int × Int × Int)) (_v26 : Int) (_v27 : Int) : Option Rt_keep_inside :=
  (_kn32 ((_v24, _v25, _v26), (IntKind.i64.wrap (_v27 + (1 : Int)))))
noncomputable def keep_inside_3 (_N : Nat) (_k33 : ((List (Int × Int × Int)) × (List (Int × Int × Int)) × Int × Int × Int × Int × Int) → Option Rt_keep_inside) (_v16 : List (Int × Int × Int)) (_v17 : Bool) (_v18 : List (Int × Int × Int)) (_v19 : Int) (_v20 : Int) (_v21 : Int) (_v22 : Int) (_v23 : Int) : Option Rt_keep_inside :=
  (bif (!_v17) then (some (false, ())) else (_k33 (_v16, _v18, _v19, _v20, _v21, _v22, _v23)))
noncomputable def keep_inside_4 (_N : Nat) (_k34 : ((List (Int × Int × Int)) × Bool × (List (Int × Int × Int)) × Int × Int × Int × Int × Int) → Option Rt_keep_inside) (_v5 : List (Int × Int × Int)) (_v7 : List (Int × Int × Int)) (_v8 : Int) (_v9 : Int) (_v10 : List (Int × Int × Int)) (_v11 : Int) (_v13 : Int) (_v14 : Int) (_v15 : Int) (_v6 : Bool) (_v12 : Int) (_kn35 : ((List (Int × Int × Int)) × (List (Int × Int × Int)) × Int × Int × (List (Int × Int × Int)) × Int × Int × Int × Int) × (Bool × Int) → Option Rt_keep_inside) : Option Rt_keep_inside :=
  (bif (decide (_v12 < _v11)) then (bif (decide (0 ≤ _v12) && decide (_v12 < (_v10.length : Int))) then (bif _v6 then (_kn35 ((_v5, _v7, _v8, _v9, _v10, _v11, _v13, _v14, _v15), (true, (IntKind.i64.wrap (_v12 + (1 : Int)))))) else (_kn35 ((_v5, _v7, _v8, _v9, _v10, _v11, _v13, _v14, _v15), ((eqD (.pair (.int .i64) (.pair (.int .i64) (.int .i64))) (_v13, (_v14, _v15)) ((nth ((0 : Int), ((0 : Int), (0 : Int))) _v10 (_v12).toNat).1, (((nth ((0 : Int), ((0 : Int), (0 : Int))) _v10 (_v12).toNat).2).1, ((nth ((0 : Int), ((0 : Int), (0 : Int))) _v10 (_v12).toNat).2).2))), (IntKind.i64.wrap (_v12 + (1 : Int))))))) else none) else (_k34 (_v5, _v6, _v7, _v8, _v9, _v13, _v14, _v15)))
noncomputable def keep_inside_5 (_N : Nat) (_k31 : Unit → Option Rt_keep_inside) (_v1 : List (Int × Int × Int)) (_v2 : List (Int × Int × Int)) (_v3 : Int) (_v4 : Int) (_kn32 : ((List (Int × Int × Int)) × (List (Int × Int × Int)) × Int) × Int → Option Rt_keep_inside) : Option Rt_keep_inside :=
  (bif (decide (_v4 < _v3)) then (joinD (fun (_s : (List (Int × Int × Int)) × (List (Int × Int × Int)) × Int × Int × Int × Int × Int) => keep_inside_2 _N _kn32 _s.1 _s.2.1 _s.2.2.1 _s.2.2.2.1) fun _k33 => (bif (decide (0 ≤ _v4) && decide (_v4 < (_v2.length : Int))) then (joinD (fun (_s : (List (Int × Int × Int)) × Bool × (List (Int × Int × Int)) × Int × Int × Int × Int × Int) => keep_inside_3 _N _k33 _s.1 _s.2.1 _s.2.2.1 _s.2.2.2.1 _s.2.2.2.2.1 _s.2.2.2.2.2.1 _s.2.2.2.2.2.2.1 _s.2.2.2.2.2.2.2) fun _k34 => (loopE (fun (_c : (List (Int × Int × Int)) × (List (Int × Int × Int)) × Int × Int × (List (Int × Int × Int)) × Int × Int × Int × Int) (_s : Bool × Int) _kn => keep_inside_4 _N _k34 _c.1 _c.2.1 _c.2.2.1 _c.2.2.2.1 _c.2.2.2.2.1 _c.2.2.2.2.2.1 _c.2.2.2.2.2.2.1 _c.2.2.2.2.2.2.2.1 _c.2.2.2.2.2.2.2.2 _s.1 _s.2 _kn) _N (_v1, _v2, _v3, _v4, _v1, (_v1.length : Int), (nth ((0 : Int), ((0 : Int), (0 : Int))) _v2 (_v4).toNat).1, ((nth ((0 : Int), ((0 : Int), (0 : Int))) _v2 (_v4).toNat).2).1, ((nth ((0 : Int), ((0 : Int), (0 : Int))) _v2 (_v4).toNat).2).2) (false, (0 : Int)))) else none)) else (_k31 ()))
noncomputable def keep_inside_6 (_N : Nat) (_x1 : List (Int × Int × Int)) (_x2 : List (Int × Int × Int)) : Option Rt_keep_inside :=
  (joinD (fun (_s : Unit) => keep_inside_1 _N) fun _k31 => (loopE (fun (_c : (List (Int × Int × Int)) × (List (Int × Int × Int)) × Int) (_s : Int) _kn => keep_inside_5 _N _k31 _c.1 _c.2.1 _c.2.2 _s _kn) _N (_x2, _x1, (_x1.length : Int)) (0 : Int)))
noncomputable def D_keep_inside (_N : Nat) (_x : Dens Ks_keep_inside) : Option Rt_keep_inside := keep_inside_6 _N _x.1 _x.2.1
theorem sp_keep_inside (_N : Nat) : SpecD Try.prog [] 37 Ks_keep_inside Rk_keep_inside (D_keep_inside _N) := mkSpD (fn := Try.f37) (c := bodyOf Try.f37) (C := C_keep_inside _N)
    (a := .two .none (.join 0 ⟨[], []⟩ (.two .none (.one (.loop 0 ⟨[(1, .sl (.pair (.int .i64) (.pair (.int .i64) (.int .i64)))), (10, .sl (.pair (.int .i64) (.pair (.int .i64) (.int .i64)))), (11, .int .i64), (12, .int .i64)], []⟩ [3] (.two .none (.two .none (.join 1 ⟨[(1, .sl (.pair (.int .i64) (.pair (.int .i64) (.int .i64)))), (10, .sl (.pair (.int .i64) (.pair (.int .i64) (.int .i64)))), (11, .int .i64), (12, .int .i64)], [.cells [.int .i64, .int .i64, .int .i64]]⟩ (.one (.two .none (.two .none (.join 1 ⟨[(1, .sl (.pair (.int .i64) (.pair (.int .i64) (.int .i64)))), (7, .bool), (10, .sl (.pair (.int .i64) (.pair (.int .i64) (.int .i64)))), (11, .int .i64), (12, .int .i64)], [.cells [.int .i64, .int .i64, .int .i64]]⟩ (.two .none (.one (.loop 1 ⟨[(1, .sl (.pair (.int .i64) (.pair (.int .i64) (.int .i64)))), (6, .ptr 0 0), (7, .bool), (10, .sl (.pair (.int .i64) (.pair (.int .i64) (.int .i64)))), (11, .int .i64), (12, .int .i64), (16, .sl (.pair (.int .i64) (.pair (.int .i64) (.int .i64)))), (17, .int .i64), (18, .int .i64)], [.cells [.int .i64, .int .i64, .int .i64]]⟩ [1, 7] .none))) .none)))) .none)))))) .none))
    (by kernel_rfl) rfl (by kernel_rfl) (by kernel_rfl) ⟨rfl, by unfold TOk; kernel_rfl, gOk_of rfl rfl (List.forall_mem_nil _), iOk_of rfl rfl (List.forall_mem_nil _), rfl⟩ (fun _x => by kernel_rfl)
theorem en_keep_inside (_N : Nat) : EntOk Try.prog [] (mkP 37 Ks_keep_inside Rk_keep_inside (D_keep_inside _N)) := entP ⟨Try.f37, bodyOf Try.f37, by kernel_rfl, by kernel_rfl, rfl⟩ (by kernel_rfl) (sp_keep_inside _N)
-- watershed/watershedkeep.once
abbrev Ks_keep_once : List Kd := [.dat (.sl (.pair (.int .i64) (.pair (.int .i64) (.int .i64))))]
abbrev Rk_keep_once : List Kd := [.dat (.sl (.pair (.int .i64) (.pair (.int .i64) (.int .i64)))), .dat (.int .i64)]
abbrev Rt_keep_once : Type := Dens Rk_keep_once
noncomputable def C_keep_once (_N : Nat) : Ctx := { T := [(3, ⟨.int .i64, 1, 8, some (.int .i64), [.int .i64 (0 : Int)], false, []⟩), (71, ⟨.struct [(0, 3), (1, 2), (2, 2)], 3, 24, some (.pair (.int .i64) (.pair (.int .i64) (.int .i64))), [.int .i64 (0 : Int), .int .i64 (0 : Int), .int .i64 (0 : Int)], true, []⟩)], G := findE [mkQ 33 Ks_ops_One Rk_ops_One (D_ops_One _N)], I := findI [], N := _N, n := 9, fx := [], fl := 0, gs := [] }
noncomputable def keep_once_1 (_N : Nat) (_x1 : List (Int × Int × Int)) : Option Rt_keep_once :=
  ((D_ops_One _N (((7 : Int), ((0 : Int), (0 : Int))), _x1, ())).bind fun _y2 => (some (_y2.1, _y2.2.1, ())))
noncomputable def D_keep_once (_N : Nat) (_x : Dens Ks_keep_once) : Option Rt_keep_once := keep_once_1 _N _x.1
theorem sp_keep_once (_N : Nat) : SpecD Try.prog [] 38 Ks_keep_once Rk_keep_once (D_keep_once _N) := mkSpD (fn := Try.f38) (c := bodyOf Try.f38) (C := C_keep_once _N)
    (a := .none)
    (by kernel_rfl) rfl (by kernel_rfl) (by kernel_rfl) ⟨rfl, by unfold TOk; kernel_rfl, gOk_of rfl rfl (List.forall_mem_cons.2 ⟨qen_ops_One _N, (List.forall_mem_nil _)⟩), iOk_of rfl rfl (List.forall_mem_nil _), rfl⟩ (fun _x => by kernel_rfl)
theorem qen_keep_once (_N : Nat) : EntOk Try.prog [] (mkQ 38 Ks_keep_once Rk_keep_once (D_keep_once _N)) := entQ ⟨Try.f38, bodyOf Try.f38, by kernel_rfl, by kernel_rfl, rfl⟩ (sp_keep_once _N)
theorem w_in' {n : Int} (h : IntKind.i64.min ≤ n ∧ n ≤ IntKind.i64.max) : w n = n := by
  have h1 : IntKind.i64.min = -9223372036854775808 := rfl
  have h2 : IntKind.i64.max = 9223372036854775807 := rfl
  exact w_id (by omega) (by omega)
theorem eq3 (a b : Row) : eqD (.pair (.int .i64) (.pair (.int .i64) (.int .i64))) (a.1, (a.2.1, a.2.2)) (b.1, (b.2.1, b.2.2)) = decide (a = b) := by
  refine bool_eq ?_
  rw [decide_eq_true_eq]
  exact eqD_iff (k := .pair (.int .i64) (.pair (.int .i64) (.int .i64))) rfl
theorem inside_eq {N : Nat} {a b : List Row} (ha : a.length < N) (hb : b.length < N) (ha2 : a.length ≤ 4611686018427387904 - 1) (hb2 : b.length ≤ 4611686018427387904 - 1) : D_keep_inside N (a, b, ()) = some (decide (∀ r ∈ a, r ∈ b), ()) := by
  simp only [D_keep_inside, keep_inside_6, joinD, loopE]
  have inner : ∀ (r : Row) (i : Int) (K : List Row × Bool × List Row × Int × Int × Int × Int × Int → Option Rt_keep_inside),
      loopD (fun (s : Bool × Int) kn => keep_inside_4 N K b a (a.length : Int) i b (b.length : Int) r.1 r.2.1 r.2.2 s.1 s.2 (backE (b, a, (a.length : Int), i, b, (b.length : Int), r.1, r.2.1, r.2.2) kn)) N (false, (0 : Int)) =
        K (b, decide (r ∈ b), a, (a.length : Int), i, r.1, r.2.1, r.2.2) := fun r i K => by
    obtain ⟨s', hI, e⟩ := loopD_inv (g := fun (s : Bool × Int) kn => keep_inside_4 N K b a (a.length : Int) i b (b.length : Int) r.1 r.2.1 r.2.2 s.1 s.2 (backE (b, a, (a.length : Int), i, b, (b.length : Int), r.1, r.2.1, r.2.2) kn))
      (k := fun s : Bool × Int => K (b, s.1, a, (a.length : Int), i, r.1, r.2.1, r.2.2)) b.length (fun j s => s = (decide (r ∈ b.take j), (j : Int))) (N := N) (s := (false, (0 : Int)))
      (by
        rintro j _ hj rfl
        refine ⟨_, rfl, fun kn => ?_⟩
        simp only [keep_inside_4, lt_d hj, ge0_d, Int.toNat_natCast, Bool.and_self, cond_true, ix1 hj (by omega), eq3]
        rw [take_nth (z := ((0 : Int), (0 : Int), (0 : Int))) hj]
        by_cases q : r ∈ b.take j
        · rw [decide_eq_true q, cond_true, backE_eq, decide_eq_true (List.mem_append_left _ q)]; rfl
        · rw [decide_eq_false q, cond_false, backE_eq]
          have : decide (r ∈ b.take j ++ [nth ((0 : Int), (0 : Int), (0 : Int)) b j]) = decide (r = nth ((0 : Int), (0 : Int), (0 : Int)) b j) := bool_eq (by
            rw [decide_eq_true_eq, decide_eq_true_eq, List.mem_append, List.mem_singleton]
            exact ⟨fun h => h.resolve_left q, .inr⟩)
          rw [this, ← eq3 r]; rfl)
      (by
        rintro _ rfl kn
        simp only [keep_inside_4, lt_self, cond_false])
      hb (by simp)
    subst hI
    rw [e, List.take_length]
  have body : ∀ (K : Unit → _) (i : Nat), i < a.length → ∀ kn, keep_inside_5 N K b a (a.length : Int) (i : Int) (backE (b, a, (a.length : Int)) kn) = if nth ((0 : Int), (0 : Int), (0 : Int)) a i ∈ b then kn ((i : Int) + 1) else some (false, ()) := fun K i hi kn => by
    simp only [keep_inside_5, lt_d hi, ge0_d, Int.toNat_natCast, Bool.and_self, cond_true, joinD, loopE]
    refine (inner (nth ((0 : Int), (0 : Int), (0 : Int)) a i) (i : Int) _).trans ?_
    simp only [keep_inside_3]
    by_cases q : nth ((0 : Int), (0 : Int), (0 : Int)) a i ∈ b
    · rw [if_pos q, decide_eq_true q, Bool.not_true, cond_false, keep_inside_2, ix1 hi (by omega), backE_eq]
    · rw [if_neg q, decide_eq_false q, Bool.not_false, cond_true]
  by_cases hall : ∀ r ∈ a, r ∈ b
  · rw [decide_eq_true hall]
    refine loopD_path (n := a.length) (st := fun i => (i : Int)) (fun i hi kn => ?_) (fun kn => ?_) ha
    · rw [body _ i hi, if_pos (hall _ (by rw [nth_lt hi]; exact List.getElem_mem hi))]; rfl
    · simp only [keep_inside_5, lt_self, cond_false, keep_inside_1]
  · rw [decide_eq_false hall]
    have hex : ∃ i, i < a.length ∧ nth ((0 : Int), (0 : Int), (0 : Int)) a i ∉ b := by
      by_cases q : ∃ i, i < a.length ∧ nth ((0 : Int), (0 : Int), (0 : Int)) a i ∉ b
      · exact q
      · exfalso
        refine hall fun r hr => ?_
        obtain ⟨t, ht, e⟩ := mem_nth (z := ((0 : Int), (0 : Int), (0 : Int))) hr
        rw [← e]
        by_cases q2 : nth ((0 : Int), (0 : Int), (0 : Int)) a t ∈ b
        · exact q2
        · exact absurd ⟨t, ht, q2⟩ q
    obtain ⟨i0, ⟨a1, a2⟩, a3⟩ := least hex
    refine loopD_path (n := i0) (st := fun i => (i : Int)) (fun i hi kn => ?_) (fun kn => ?_) (by omega)
    · have : nth ((0 : Int), (0 : Int), (0 : Int)) a i ∈ b := by
        by_cases q2 : nth ((0 : Int), (0 : Int), (0 : Int)) a i ∈ b
        · exact q2
        · have := a3 i ⟨by omega, q2⟩; omega
      rw [body _ i (by omega), if_pos this]; rfl
    · rw [body _ i0 a1, if_neg a2]
theorem thr_out (l : List Row) : outG 7 l = thr l := by unfold outG thr; rw [if_pos rfl]
theorem once_eq {N : Nat} (hN : 1000 ≤ N) (a : List Row) : (a.length ≤ 128 ∧ ∃ t : List Row, IsBag (amt a) t ∧ t.length ≤ a.length ∧ D_keep_once N (a, ()) = some (thr t, 0, ())) ∨ (128 < a.length ∧ D_keep_once N (a, ()) = some ([], 1, ())) := by
  simp only [D_keep_once, keep_once_1]
  rcases One_agg hN 7 0 0 (by omega) (by omega) a with ⟨h1, t, h2, h3, h4⟩ | ⟨h1, h2⟩
  · exact .inl ⟨h1, t, h2, h3, by rw [h4, ← thr_out]; rfl⟩
  · exact .inr ⟨h1, by rw [h2]; rfl⟩
/-- Rows of sets, one in the other. -/
theorem sub_rows {l m : List Row} (hl : S1 l) (hm : S1 m) : (∀ r ∈ l, r ∈ m) ↔ ∀ k ∈ l.map ky, k ∈ m.map ky := by
  constructor
  · intro h k hk
    obtain ⟨r, hr, rfl⟩ := List.mem_map.1 hk
    exact List.mem_map.2 ⟨r, h r hr, rfl⟩
  · intro h r hr
    obtain ⟨z, hz, e⟩ := List.mem_map.1 (h (ky r) (List.mem_map.2 ⟨r, hr, rfl⟩))
    have h1 := hl.2 r hr
    have h2 := hm.2 z hz
    have : z = r := by
      unfold ky at e
      obtain ⟨a, b, c⟩ := z
      obtain ⟨a', b', c'⟩ := r
      simp only [Prod.mk.injEq] at e h1 h2 ⊢
      exact ⟨e.1, e.2, by rw [h1, h2]⟩
    rw [← this]; exact hz
/-- What a set makes that is not changed by a round holds all rounds from within it. -/
theorem itr_in {E X Y : List Row} (hXY : ∀ k ∈ X.map ky, k ∈ Y.map ky) (hY : nxt E Y = Y) : ∀ n, ∀ k ∈ (itr E X n).map ky, k ∈ Y.map ky
  | 0, k, hk => hXY k hk
  | n + 1, k, hk => by
    have ih := itr_in hXY hY n
    rw [← hY]
    rcases (nxt_mem k).1 hk with h | ⟨a, ha, g⟩
    · exact (nxt_mem k).2 (.inl (ih k h))
    · exact (nxt_mem k).2 (.inr ⟨a, ih a ha, g⟩)
theorem filter_le {P Q : List Key} {c : Int} (hsb : ∀ r : Row, (r.2.1, c) ∈ P → (r.2.1, c) ∈ Q) : (E : List Row) → (E.filter fun r => decide ((r.2.1, c) ∈ P)).length ≤ (E.filter fun r => decide ((r.2.1, c) ∈ Q)).length
  | [] => Nat.le_refl _
  | y :: E => by
    have ih := filter_le hsb E
    by_cases q1 : (y.2.1, c) ∈ P
    · rw [List.filter_cons_of_pos (by simpa using q1), List.filter_cons_of_pos (by simpa using hsb y q1)]; simp only [List.length_cons]; omega
    · rw [List.filter_cons_of_neg (by simpa using q1)]
      by_cases q2 : (y.2.1, c) ∈ Q
      · rw [List.filter_cons_of_pos (by simpa using q2)]; simp only [List.length_cons]; omega
      · rw [List.filter_cons_of_neg (by simpa using q2)]; exact ih
theorem filter_lt {P Q : List Key} {c : Int} (hsb : ∀ r : Row, (r.2.1, c) ∈ P → (r.2.1, c) ∈ Q) {r : Row} : {E : List Row} → r ∈ E → (r.2.1, c) ∈ Q → (r.2.1, c) ∉ P → (E.filter fun r => decide ((r.2.1, c) ∈ P)).length < (E.filter fun r => decide ((r.2.1, c) ∈ Q)).length
  | [], hr, _, _ => by cases hr
  | x :: E, hr, a2, a3 => by
    have hle := filter_le hsb E
    rcases List.mem_cons.1 hr with rfl | hr
    · rw [List.filter_cons_of_neg (by simpa using a3), List.filter_cons_of_pos (by simpa using a2)]; simp only [List.length_cons]; omega
    · have ih := filter_lt hsb hr a2 a3
      by_cases q1 : (x.2.1, c) ∈ P
      · rw [List.filter_cons_of_pos (by simpa using q1), List.filter_cons_of_pos (by simpa using hsb x q1)]; simp only [List.length_cons]; omega
      · rw [List.filter_cons_of_neg (by simpa using q1)]
        by_cases q2 : (x.2.1, c) ∈ Q
        · rw [List.filter_cons_of_pos (by simpa using q2)]; simp only [List.length_cons]; omega
        · rw [List.filter_cons_of_neg (by simpa using q2)]; exact ih
/-- What there is of a sum of two sets. -/
theorem sum_mem {l m s : List Row} (hl : S1 l) (hm : S1 m) (h : IsBag (fun e => 1 * amt l e + 1 * amt m e) s) (k : Key) : k ∈ (thr s).map ky ↔ k ∈ l.map ky ∨ k ∈ m.map ky := by
  have val : ∀ {l : List Row}, S1 l → ∀ k : Key, (k ∈ l.map ky ∧ amt l k = 1) ∨ (k ∉ l.map ky ∧ amt l k = 0) := fun {l} hl k => by
    by_cases q : k ∈ l.map ky
    · obtain ⟨r, hr, rfl⟩ := List.mem_map.1 q
      exact .inl ⟨q, by rw [amt_mem (rise_nodup hl.1) hr, hl.2 r hr]⟩
    · exact .inr ⟨q, amt_notin fun r hr he => q (List.mem_map.2 ⟨r, hr, he⟩)⟩
  rw [thr_mem]
  constructor
  · rintro ⟨r, hr, h1, rfl⟩
    obtain ⟨h2, h3⟩ := h.mem.1 hr
    replace h3 : w (1 * amt l (ky r) + 1 * amt m (ky r)) = r.2.2 := h3
    rcases val hl (ky r) with ⟨q, e⟩ | ⟨q, e⟩
    · exact .inl q
    · rcases val hm (ky r) with ⟨q', e'⟩ | ⟨q', e'⟩
      · exact .inr q'
      · rw [e, e'] at h3
        rw [show w (1 * 0 + 1 * 0) = 0 from by decide] at h3
        omega
  · intro hk
    have hv := h.val k
    have hpos : w (1 * amt l k + 1 * amt m k) = 1 ∨ w (1 * amt l k + 1 * amt m k) = 2 := by
      rcases val hl k with ⟨q, e⟩ | ⟨q, e⟩
      · rcases val hm k with ⟨q', e'⟩ | ⟨q', e'⟩
        · rw [e, e']; exact .inr (by decide)
        · rw [e, e']; exact .inl (by decide)
      · rcases val hm k with ⟨q', e'⟩ | ⟨q', e'⟩
        · rw [e, e']; exact .inl (by decide)
        · exact absurd hk (by rintro (h | h); exact q h; exact q' h)
    refine ⟨(k.1, k.2, w (1 * amt l k + 1 * amt m k)), h.mem.2 ⟨by rcases hpos with e | e <;> rw [e] <;> simp, rfl⟩, by rcases hpos with e | e <;> rw [e] <;> simp, rfl⟩
end Go.Proofs.Ytfcjibfkhmnolaa
