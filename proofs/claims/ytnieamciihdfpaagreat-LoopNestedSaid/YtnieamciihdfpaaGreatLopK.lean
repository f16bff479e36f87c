import Derived.Test.YtnieamciihdfpaaGreatLopL
namespace Go.Proofs.YtnieamciihdfpaaGreat
open Go.Abs Go.Bag
abbrev Ks_keep_once : List Kd := [.dat (.sl (.pair (.int .i64) (.pair (.int .i64) (.int .i64))))]
abbrev Rk_keep_once : List Kd := [.dat (.sl (.pair (.int .i64) (.pair (.int .i64) (.int .i64)))), .dat (.int .i64)]
abbrev Rt_keep_once : Type := Dens Rk_keep_once
noncomputable def C_keep_once (_N : Nat) : Ctx := { T := [(3, ⟨.int .i64, 1, 8, some (.int .i64), [.int .i64 (0 : Int)], false, []⟩), (23, ⟨.struct [(0, 3), (1, 2), (2, 2)], 3, 24, some (.pair (.int .i64) (.pair (.int .i64) (.int .i64))), [.int .i64 (0 : Int), .int .i64 (0 : Int), .int .i64 (0 : Int)], true, []⟩)], G := findE [mkQ 17 Ks_ops_One Rk_ops_One (D_ops_One _N)], I := findI [], N := _N, n := 9, fx := [], fl := 0, gs := [] }
noncomputable def keep_once_1 (_N : Nat) (_x1 : List (Int × Int × Int)) : Option Rt_keep_once :=
 ((D_ops_One _N (((7 : Int), ((0 : Int), (0 : Int))), _x1, ())).bind fun _y2 => (some (_y2.1, _y2.2.1, ())))
noncomputable def D_keep_once (_N : Nat) (_x : Dens Ks_keep_once) : Option Rt_keep_once := keep_once_1 _N _x.1
theorem sp_keep_once (_N : Nat) : SpecD Tryz.prog [] 20 Ks_keep_once Rk_keep_once (D_keep_once _N) := mkSpD (fn := Tryz.f20) (c := bodyOf Tryz.f20) (C := C_keep_once _N)
  (a := .none)
  (by kernel_rfl) rfl (by kernel_rfl) (by kernel_rfl) ⟨rfl, by unfold TOk; kernel_rfl, gOk_of rfl rfl (List.forall_mem_cons.2 ⟨qen_ops_One _N, (List.forall_mem_nil _)⟩), iOk_of rfl rfl (List.forall_mem_nil _), rfl⟩ (fun _x => by kernel_rfl)
theorem qen_keep_once (_N : Nat) : EntOk Tryz.prog [] (mkQ 20 Ks_keep_once Rk_keep_once (D_keep_once _N)) := entQ ⟨Tryz.f20, bodyOf Tryz.f20, by kernel_rfl, by kernel_rfl, rfl⟩ (sp_keep_once _N)
theorem thr_out (l : List Row) : outG 7 l = thr l := by unfold outG thr; rw [if_pos rfl]
theorem once_eq {N : Nat} (hN : 1000 ≤ N) (a : List Row) : (a.length ≤ 128 ∧ ∃ t : List Row, IsBag (amt a) t ∧ t.length ≤ a.length ∧ D_keep_once N (a, ()) = some (thr t, 0, ())) ∨ (128 < a.length ∧ D_keep_once N (a, ()) = some ([], 1, ())) := by
 simp only [D_keep_once, keep_once_1]
 rcases One_agg hN 7 0 0 (by omega) (by omega) a with ⟨h1, t, h2, h3, h4⟩ | ⟨h1, h2⟩
 ·exact .inl ⟨h1, t, h2, h3, by rw [h4, ← thr_out]; rfl⟩
 ·exact .inr ⟨h1, by rw [h2]; rfl⟩
theorem S1.bagA {l : List Row} (h : S1 l) : IsBag (amt l) l := by
 refine ⟨h.1, fun r hr => by rw [h.2 r hr]; decide, fun e => ?_⟩
 by_cases q : ∃ r ∈ l, ky r = e
 ·obtain ⟨r, hr, rfl⟩ := q
  rw [amt_mem (rise_nodup h.1) hr, h.2 r hr]; decide
 ·rw [amt_notin fun r hr he => q ⟨r, hr, he⟩]; decide
theorem bag_set {l b : List Row} (h : S1 l) (hb : IsBag (amt l) b) : b = l := hb.uniq h.bagA
theorem filter_le {P Q : List Key} {c : Int} (hsb : ∀ r : Row, (r.2.1, c) ∈ P → (r.2.1, c) ∈ Q) : (E : List Row) → (E.filter fun r => decide ((r.2.1, c) ∈ P)).length ≤ (E.filter fun r => decide ((r.2.1, c) ∈ Q)).length
 | [] => Nat.le_refl _
 | y :: E => by
  have ih := filter_le hsb E
  by_cases q1 : (y.2.1, c) ∈ P
  ·rw [List.filter_cons_of_pos (by simpa using q1), List.filter_cons_of_pos (by simpa using hsb y q1)]; simp only [List.length_cons]; omega
  ·rw [List.filter_cons_of_neg (by simpa using q1)]
   by_cases q2 : (y.2.1, c) ∈ Q
   ·rw [List.filter_cons_of_pos (by simpa using q2)]; simp only [List.length_cons]; omega
   ·rw [List.filter_cons_of_neg (by simpa using q2)]; exact ih
theorem filter_lt {P Q : List Key} {c : Int} (hsb : ∀ r : Row, (r.2.1, c) ∈ P → (r.2.1, c) ∈ Q) {r : Row} : {E : List Row} → r ∈ E → (r.2.1, c) ∈ Q → (r.2.1, c) ∉ P → (E.filter fun r => decide ((r.2.1, c) ∈ P)).length < (E.filter fun r => decide ((r.2.1, c) ∈ Q)).length
 | [], hr, _, _ => by cases hr
 | x :: E, hr, a2, a3 => by
  have hle := filter_le hsb E
  rcases List.mem_cons.1 hr with rfl | hr
  ·rw [List.filter_cons_of_neg (by simpa using a3), List.filter_cons_of_pos (by simpa using a2)]; simp only [List.length_cons]; omega
  ·have ih := filter_lt hsb hr a2 a3
   by_cases q1 : (x.2.1, c) ∈ P
   ·rw [List.filter_cons_of_pos (by simpa using q1), List.filter_cons_of_pos (by simpa using hsb x q1)]; simp only [List.length_cons]; omega
   ·rw [List.filter_cons_of_neg (by simpa using q1)]
    by_cases q2 : (x.2.1, c) ∈ Q
    ·rw [List.filter_cons_of_pos (by simpa using q2)]; simp only [List.length_cons]; omega
    ·rw [List.filter_cons_of_neg (by simpa using q2)]; exact ih
end Go.Proofs.YtnieamciihdfpaaGreat
