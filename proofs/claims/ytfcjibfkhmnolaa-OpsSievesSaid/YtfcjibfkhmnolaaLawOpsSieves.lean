/- To filter what a join makes is to join what was filtered; to filter twice is to filter once: the law answers true for any filter, any two numbers and any two lists of rows. No condition. -/
import Derived.Test.YtfcjibfkhmnolaaJoinU
import Derived.Test.YtfcjibfkhmnolaaFrame0
namespace Go.Proofs.Ytfcjibfkhmnolaa
open Go Go.ChangeShapes Go.WideShapes Go.ChangeAt Go.WideMaps Go.WideElems Go.RowKit Go.Abs Go.Bag
-- watershed/watershedkeep.OpsSieves
abbrev Ks_keep_OpsSieves : List Kd := [.dat (.int .i64), .dat (.int .i64), .dat (.int .i64), .dat (.int .i64), .dat (.sl (.pair (.int .i64) (.pair (.int .i64) (.int .i64)))), .dat (.sl (.pair (.int .i64) (.pair (.int .i64) (.int .i64))))]
abbrev Rk_keep_OpsSieves : List Kd := [.dat (.bool)]
abbrev Rt_keep_OpsSieves : Type := Dens Rk_keep_OpsSieves
noncomputable def C_keep_OpsSieves (_N : Nat) : Ctx := { T := [(2, ⟨.int .i64, 1, 8, some (.int .i64), [.int .i64 (0 : Int)], false, []⟩), (3, ⟨.int .i64, 1, 8, some (.int .i64), [.int .i64 (0 : Int)], false, []⟩), (46, ⟨.slice 51, 1, 24, some (.sl (.pair (.int .i64) (.pair (.int .i64) (.int .i64)))), [.nil], false, []⟩), (51, ⟨.struct [(0, 2), (1, 2), (2, 2)], 3, 24, some (.pair (.int .i64) (.pair (.int .i64) (.int .i64))), [.int .i64 (0 : Int), .int .i64 (0 : Int), .int .i64 (0 : Int)], true, []⟩), (71, ⟨.struct [(0, 3), (1, 2), (2, 2)], 3, 24, some (.pair (.int .i64) (.pair (.int .i64) (.int .i64))), [.int .i64 (0 : Int), .int .i64 (0 : Int), .int .i64 (0 : Int)], true, []⟩)], G := findE [mkQ 28 Ks_ops_Two Rk_ops_Two (D_ops_Two _N), mkQ 33 Ks_ops_One Rk_ops_One (D_ops_One _N), mkP 29 Ks_keep_total Rk_keep_total (D_keep_total _N), mkP 31 Ks_ref_BagsSame Rk_ref_BagsSame (D_ref_BagsSame _N)], I := findI [], N := _N, n := 111, fx := [], fl := 0, gs := [] }
noncomputable def keep_OpsSieves_1 (_N : Nat) (_v18 : List (Int × Int × Int)) (_v19 : List (Int × Int × Int)) (_v20 : List (Int × Int × Int)) (_v21 : Int) (_v22 : Int) (_v23 : Int) (_v24 : Int) (_v25 : Int) (_v26 : Int) (_v27 : Int) : Option Rt_keep_OpsSieves :=
  ((D_keep_total _N (_v20, ())).bind fun _y36 => (bif (_y36.1 != _v21) then (some (false, ())) else ((D_ops_One _N ((_v22, (_v23, _v24)), _v20, ())).bind fun _y37 => ((D_ops_One _N ((_v22, (_v23, _v24)), _v19, ())).bind fun _y38 => ((D_ops_Two _N ((_v25, (_v26, _v27)), _v20, _v18, ())).bind fun _y39 => (bif (_y37.2.1 == (0 : Int)) then (bif (_y38.2.1 == (0 : Int)) then (bif (_y39.2.1 == (0 : Int)) then ((D_ref_BagsSame _N (_y37.1, _v20, ())).bind fun _y40 => (bif _y40.1 then ((D_ref_BagsSame _N (_y38.1, _y39.1, ())).bind fun _y41 => (some (_y41.1, ()))) else (some (false, ())))) else (some (false, ()))) else (some (false, ()))) else (some (false, ()))))))))
noncomputable def keep_OpsSieves_2 (_N : Nat) (_k42 : ((List (Int × Int × Int)) × (List (Int × Int × Int)) × (List (Int × Int × Int)) × Int × Int × Int × Int × Int × Int × Int) → Option Rt_keep_OpsSieves) (_v3 : Int) (_v4 : Int) (_v5 : List (Int × Int × Int)) (_v6 : List (Int × Int × Int)) (_v7 : List (Int × Int × Int)) (_v9 : List (Int × Int × Int)) (_v10 : Int) (_v12 : Int) (_v13 : Int) (_v14 : Int) (_v15 : Int) (_v16 : Int) (_v17 : Int) (_v8 : Int) (_v11 : Int) (_kn43 : (Int × Int × (List (Int × Int × Int)) × (List (Int × Int × Int)) × (List (Int × Int × Int)) × (List (Int × Int × Int)) × Int × Int × Int × Int × Int × Int × Int) × (Int × Int) → Option Rt_keep_OpsSieves) : Option Rt_keep_OpsSieves :=
  (bif (decide (_v11 < _v10)) then (bif (decide (0 ≤ _v11) && decide (_v11 < (_v9.length : Int))) then (bif ((iand .i64 ((nth ((0 : Int), ((0 : Int), (0 : Int))) _v9 (_v11).toNat).1) _v3) == _v4) then (_kn43 ((_v3, _v4, _v5, _v6, _v7, _v9, _v10, _v12, _v13, _v14, _v15, _v16, _v17), ((IntKind.i64.wrap (_v8 + (((nth ((0 : Int), ((0 : Int), (0 : Int))) _v9 (_v11).toNat).2).2))), (IntKind.i64.wrap (_v11 + (1 : Int)))))) else (_kn43 ((_v3, _v4, _v5, _v6, _v7, _v9, _v10, _v12, _v13, _v14, _v15, _v16, _v17), (_v8, (IntKind.i64.wrap (_v11 + (1 : Int))))))) else none) else (_k42 (_v5, _v6, _v7, _v8, _v12, _v13, _v14, _v15, _v16, _v17)))
noncomputable def keep_OpsSieves_3 (_N : Nat) (_x1 : Int) (_x2 : Int) (_x3 : Int) (_x4 : Int) (_x5 : List (Int × Int × Int)) (_x6 : List (Int × Int × Int)) : Option Rt_keep_OpsSieves :=
  ((D_ops_Two _N (((10 : Int), (_x3, _x4)), _x5, _x6, ())).bind fun _y34 => ((D_ops_One _N (((3 : Int), (_x1, _x2)), _x5, ())).bind fun _y35 => (bif (_y34.2.1 != (0 : Int)) then (some (true, ())) else (bif (_y35.2.1 != (0 : Int)) then (some (true, ())) else (joinD (fun (_s : (List (Int × Int × Int)) × (List (Int × Int × Int)) × (List (Int × Int × Int)) × Int × Int × Int × Int × Int × Int × Int) => keep_OpsSieves_1 _N _s.1 _s.2.1 _s.2.2.1 _s.2.2.2.1 _s.2.2.2.2.1 _s.2.2.2.2.2.1 _s.2.2.2.2.2.2.1 _s.2.2.2.2.2.2.2.1 _s.2.2.2.2.2.2.2.2.1 _s.2.2.2.2.2.2.2.2.2) fun _k42 => (loopE (fun (_c : Int × Int × (List (Int × Int × Int)) × (List (Int × Int × Int)) × (List (Int × Int × Int)) × (List (Int × Int × Int)) × Int × Int × Int × Int × Int × Int × Int) (_s : Int × Int) _kn => keep_OpsSieves_2 _N _k42 _c.1 _c.2.1 _c.2.2.1 _c.2.2.2.1 _c.2.2.2.2.1 _c.2.2.2.2.2.1 _c.2.2.2.2.2.2.1 _c.2.2.2.2.2.2.2.1 _c.2.2.2.2.2.2.2.2.1 _c.2.2.2.2.2.2.2.2.2.1 _c.2.2.2.2.2.2.2.2.2.2.1 _c.2.2.2.2.2.2.2.2.2.2.2.1 _c.2.2.2.2.2.2.2.2.2.2.2.2 _s.1 _s.2 _kn) _N (_x1, _x2, _x6, _y34.1, _y35.1, _x5, (_x5.length : Int), (3 : Int), _x1, _x2, (10 : Int), _x3, _x4) ((0 : Int), (0 : Int))))))))
noncomputable def D_keep_OpsSieves (_N : Nat) (_x : Dens Ks_keep_OpsSieves) : Option Rt_keep_OpsSieves := keep_OpsSieves_3 _N _x.1 _x.2.1 _x.2.2.1 _x.2.2.2.1 _x.2.2.2.2.1 _x.2.2.2.2.2.1
theorem sp_keep_OpsSieves (_N : Nat) : SpecD Try.prog [] 12 Ks_keep_OpsSieves Rk_keep_OpsSieves (D_keep_OpsSieves _N) := mkSpD (fn := Try.f12) (c := bodyOf Try.f12) (C := C_keep_OpsSieves _N)
    (a := .two .none (.two .none (.two .none (.two .none (.two .none (.two .none (.two .none (.join 2 ⟨[(5, .sl (.pair (.int .i64) (.pair (.int .i64) (.int .i64)))), (13, .ptr 0 0), (14, .ptr 1 0), (15, .sl (.pair (.int .i64) (.pair (.int .i64) (.int .i64)))), (17, .sl (.pair (.int .i64) (.pair (.int .i64) (.int .i64)))), (19, .int .i64)], [.cells [.int .i64, .int .i64, .int .i64], .cells [.int .i64, .int .i64, .int .i64]]⟩ (.two .none (.one (.loop 2 ⟨[(0, .int .i64), (1, .int .i64), (5, .sl (.pair (.int .i64) (.pair (.int .i64) (.int .i64)))), (13, .ptr 0 0), (14, .ptr 1 0), (15, .sl (.pair (.int .i64) (.pair (.int .i64) (.int .i64)))), (17, .sl (.pair (.int .i64) (.pair (.int .i64) (.int .i64)))), (19, .int .i64), (51, .sl (.pair (.int .i64) (.pair (.int .i64) (.int .i64)))), (52, .int .i64), (53, .int .i64)], [.cells [.int .i64, .int .i64, .int .i64], .cells [.int .i64, .int .i64, .int .i64]]⟩ [5, 8] .none))) .none))))))))
    (by kernel_rfl) rfl (by kernel_rfl) (by kernel_rfl) ⟨rfl, by unfold TOk; kernel_rfl, gOk_of rfl rfl (List.forall_mem_cons.2 ⟨qen_ops_Two _N, (List.forall_mem_cons.2 ⟨qen_ops_One _N, (List.forall_mem_cons.2 ⟨en_keep_total _N, (List.forall_mem_cons.2 ⟨en_ref_BagsSame _N, (List.forall_mem_nil _)⟩)⟩)⟩)⟩), iOk_of rfl rfl (List.forall_mem_nil _), rfl⟩ (fun _x => by kernel_rfl)
theorem sv_eq (A B : Int) (l : List Row) : l.filterMap (rowF 3 A B) = l.filter fun r => (fun k => decide (iand .i64 k A = B)) r.1 := by
  induction l with
  | nil => rfl
  | cons r l ih =>
    by_cases q : iand .i64 r.1 A = B
    · rw [List.filterMap_cons_some (show rowF 3 A B r = some r from if_pos q), List.filter_cons_of_pos (by simpa using q), ih]
    · rw [List.filterMap_cons_none (show rowF 3 A B r = none from if_neg q), List.filter_cons_of_neg (by simpa using q), ih]
theorem sv_sv (A B : Int) (l : List Row) : (l.filterMap (rowF 3 A B)).filterMap (rowF 3 A B) = l.filterMap (rowF 3 A B) := by
  rw [sv_eq, sv_eq, List.filter_filter]
  congr 1
  funext r
  exact Bool.and_self _
theorem sieve_loop {N : Nat} (mask want m n : Int) (a b ab fa : List Row) (hN : a.length < N) (hl : a.length ≤ 1000000) (K : (List Row) × (List Row) × (List Row) × Int × Int × Int × Int × Int × Int × Int → Option Rt_keep_OpsSieves) :
    loopE (fun (c : Int × Int × (List Row) × (List Row) × (List Row) × (List Row) × Int × Int × Int × Int × Int × Int × Int) (s : Int × Int) kn => keep_OpsSieves_2 N K c.1 c.2.1 c.2.2.1 c.2.2.2.1 c.2.2.2.2.1 c.2.2.2.2.2.1 c.2.2.2.2.2.2.1 c.2.2.2.2.2.2.2.1 c.2.2.2.2.2.2.2.2.1 c.2.2.2.2.2.2.2.2.2.1 c.2.2.2.2.2.2.2.2.2.2.1 c.2.2.2.2.2.2.2.2.2.2.2.1 c.2.2.2.2.2.2.2.2.2.2.2.2 s.1 s.2 kn) N (mask, want, b, ab, fa, a, (a.length : Int), (3 : Int), mask, want, (10 : Int), m, n) ((0 : Int), (0 : Int)) = K (b, ab, fa, w (tot (a.filterMap (rowF 3 mask want))), (3 : Int), mask, want, (10 : Int), m, n) := by
  unfold loopE
  obtain ⟨s', hI, e⟩ := loopD_inv (g := fun (s : Int × Int) kn => keep_OpsSieves_2 N K mask want b ab fa a (a.length : Int) (3 : Int) mask want (10 : Int) m n s.1 s.2 (backE (mask, want, b, ab, fa, a, (a.length : Int), (3 : Int), mask, want, (10 : Int), m, n) kn)) (k := fun s : Int × Int => K (b, ab, fa, s.1, (3 : Int), mask, want, (10 : Int), m, n)) a.length
    (fun i s => s.2 = (i : Int) ∧ s.1 = w (tot ((a.take i).filterMap (rowF 3 mask want)))) (N := N) (s := ((0 : Int), (0 : Int)))
    (by
      rintro i ⟨_, _⟩ hi ⟨rfl, rfl⟩
      refine ⟨(w (tot ((a.take (i + 1)).filterMap (rowF 3 mask want))), (i : Int) + 1), ⟨by simp, rfl⟩, fun kn => ?_⟩
      rw [take_nth (z := ((0 : Int), (0 : Int), (0 : Int))) hi, List.filterMap_append, tot_append]
      simp only [keep_OpsSieves_2, lt_d hi, ge0_d, Int.toNat_natCast, Bool.and_self, cond_true, ix1 hi (show a.length ≤ 4611686018427387904 by omega), backE_eq]
      by_cases q : iand .i64 (nth ((0 : Int), (0 : Int), (0 : Int)) a i).1 mask = want
      · have h1 : IntKind.i64.wrap (w (tot ((a.take i).filterMap (rowF 3 mask want))) + (nth ((0 : Int), (0 : Int), (0 : Int)) a i).2.2) = w (tot ((a.take i).filterMap (rowF 3 mask want)) + tot [nth ((0 : Int), (0 : Int), (0 : Int)) a i]) := by
          simp only [tot, Int.add_zero]
          exact (cg_w _).add Cg.rfl
        rw [List.filterMap_cons_some (show rowF 3 mask want (nth ((0 : Int), (0 : Int), (0 : Int)) a i) = some _ from if_pos q), List.filterMap_nil, show (iand .i64 (nth ((0 : Int), (0 : Int), (0 : Int)) a i).1 mask == want) = true from beq_iff_eq.2 q, cond_true, h1]
      · rw [List.filterMap_cons_none (show rowF 3 mask want (nth ((0 : Int), (0 : Int), (0 : Int)) a i) = none from if_neg q), List.filterMap_nil, show (iand .i64 (nth ((0 : Int), (0 : Int), (0 : Int)) a i).1 mask == want) = false from beq_false_of_ne q, cond_false]
        simp only [tot, Int.add_zero])
    (by
      rintro ⟨_, _⟩ ⟨rfl, rfl⟩ kn
      simp only [keep_OpsSieves_2, lt_self, cond_false])
    hN ⟨rfl, by simp only [List.take_zero, List.filterMap_nil, tot, w_zero]⟩
  rw [e, hI.2, List.take_length]
theorem law_OpsSieves (mask want m n : Int) (a b : List Row) (_w1 : wfS (.int .i64) mask) (_w2 : wfS (.int .i64) want) (_wm : wfS (.int .i64) m) (_wn : wfS (.int .i64) n) (_wa : wfS (.sl (.pair (.int .i64) (.pair (.int .i64) (.int .i64)))) a) (_wb : wfS (.sl (.pair (.int .i64) (.pair (.int .i64) (.int .i64)))) b) :
    ∃ N, D_keep_OpsSieves N (mask, want, m, n, a, b, ()) = some (true, ()) := by
  obtain ⟨N, hN, hn0⟩ : ∃ N : Nat, 20000 ≤ N ∧ True := ⟨20000, Nat.le_refl _, trivial⟩
  refine ⟨N, ?_⟩
  obtain ⟨ab, e, o1, t1⟩ := Two_eq hN 10 m n (.inr rfl) a b
  obtain ⟨fa, x, o2, t2⟩ := One_lin (N := N) (by omega) 3 mask want (by omega) (by omega) a
  simp only [D_keep_OpsSieves, keep_OpsSieves_3, o1, o2, Option.bind_some]
  by_cases q1 : e = 0
  case neg => rw [show (e != 0) = true from bne_iff_ne.2 q1]; rfl
  subst q1
  obtain ⟨l1, l2, i1⟩ := t1.ok rfl
  rcases t2 with ⟨la, rfl, lf, i2⟩ | ⟨h, -⟩
  case inr => omega
  simp only [bne_self_eq_false, cond_false, joinD]
  refine (sieve_loop mask want m n a b ab fa (by omega) (by omega) _).trans ?_
  have ht : w (tot fa) = w (tot (a.filterMap (rowF 3 mask want))) := tot_cg' fun e => i2.amt_cg e
  obtain ⟨ag, e, o3, t3⟩ := One_lin (N := N) (by omega) 3 mask want (by omega) (by omega) fa
  obtain ⟨l, x, o4, t4⟩ := One_lin (N := N) (by omega) 3 mask want (by omega) (by omega) ab
  obtain ⟨k, y, o5, t5⟩ := Two_eq hN 10 m n (.inr rfl) fa b
  rcases t3 with ⟨-, rfl, lg, i3⟩ | ⟨h, -⟩
  case inr => omega
  rcases t4 with ⟨-, rfl, ll, i4⟩ | ⟨h, -⟩
  case inr => omega
  have hag : ag = fa := i3.same i2 fun e => by
    have := lin_cg 3 mask want (fun e => i2.amt_cg e) e
    rwa [sv_sv] at this
  have hcg : ∀ e, Cg (amt (ab.filterMap (rowF 3 mask want)) e) (amt (JL m n fa b) e) := fun e => by
    have h1 := lin_cg 3 mask want (fun e => i1.amt_cg e) e
    rw [twoF_join, sv_eq mask want (JL m n a b), JL_key m n (fun k => decide (iand .i64 k mask = want)) a b, ← sv_eq mask want a] at h1
    exact h1.trans (JL_cg m n (fun e => (i2.amt_cg e).symm) (fun e => Cg.rfl) e)
  have hy : y = 0 ∧ l = k := by
    rcases t5 with ⟨h1, h2, h3, h4⟩ | ⟨h1, h2, h3⟩
    · exact ⟨h1, i4.same h4 hcg⟩
    · rcases h3 with h3 | ⟨l', h3, h4⟩
      · omega
      · have := i4.same h3 hcg
        rw [this] at ll
        omega
  obtain ⟨rfl, rfl⟩ := hy
  subst hag
  simp only [keep_OpsSieves_1, total_eq (N := N) (l := ag) (by omega) (by omega), Option.bind_some, ht, bne_self_eq_false, cond_false, o3, o4, o5, beq_self_eq_true, cond_true, Same_eq (N := N) (a := ag) (b := ag) (by omega) (by omega), Same_eq (N := N) (a := l) (b := l) (by omega) (by omega)]
  simp
set_option maxRecDepth 100000 in
theorem lifted_OpsSieves (os : Os) (started : os.Started) (H : Type) (enc : TypeId × Value → H) :
    ReturnsInHanded {} Try.checked os 12 .any (Rows.opsSievesSpec.pre6 enc Try.prog Try.f12 Rows.opsSievesRow.domain false) (Rows.opsSievesSpec.post enc Try.prog Try.f12 false true false false) := by
  refine returnsInHanded_of_change_sized (C := Try.checked) own started (by kernel_rfl) Try.func12
    (ChangeSpec.witness6 (enc := enc) (C := Try.checked) false ⟨#[], #[.int .i64 0, .int .i64 0, .int .i64 0, .int .i64 0, .slice none 0 0, .slice none 0 0], []⟩ 8 (by kernel_rfl) (by kernel_rfl) (by kernel_rfl) (by kernel_rfl)) ?_
  intro W base args ds gs before hval0 hW _ hsz0 _
  have hgw : GW [] W := fun _ h => nomatch h
  have hval : ∀ (j : Nat) t v, Try.f12.params[j]? = some t → args[j]? = some v → Value.okWide Try.prog W .any base t v := hval0
  have hW' := hW
  obtain ⟨p, q, hA0, hV, rfl, _, _⟩ := hW
  have hA : DataW.TrodAll enc Try.prog W 0 (fun _ => true) true Try.f12.params.toList args.toList ds p := hA0
  rw [Try.params12] at hA hval
  obtain ⟨v0, vs0, d0, ds0, p0, q0, hargs, rfl, rfl, h0, r0⟩ := trodAll_cons hA
  obtain ⟨v1, vs1, d1, ds1, p1, q1, rfl, rfl, rfl, h1, r1⟩ := trodAll_cons r0
  obtain ⟨v2, vs2, d2, ds2, p2, q2, rfl, rfl, rfl, h2, r2⟩ := trodAll_cons r1
  obtain ⟨v3, vs3, d3, ds3, p3, q3, rfl, rfl, rfl, h3, r3⟩ := trodAll_cons r2
  obtain ⟨v4, vs4, d4, ds4, p4, q4, rfl, rfl, rfl, h4, r4⟩ := trodAll_cons r3
  obtain ⟨v5, vs5, d5, ds5, p5, q5, rfl, rfl, rfl, h5, r5⟩ := trodAll_cons r4
  obtain ⟨rfl, rfl, rfl⟩ := trodAll_nil r5
  obtain rfl : args = #[v0, v1, v2, v3, v4, v5] := by cases args; simp_all
  obtain ⟨rfl, rfl⟩ := trodVars_none hV
  have hall := List.all_eq_true.1 hsz0
  clear hA0 hval0 hsz0
  simp only [List.append_nil] at hW'
  have hlt0 : ∀ x ∈ p0, x.block < W.heap.size := fun x hx => hW'.lt x (by simp [hx])
  have hlt1 : ∀ x ∈ p1, x.block < W.heap.size := fun x hx => hW'.lt x (by simp [hx])
  have hlt2 : ∀ x ∈ p2, x.block < W.heap.size := fun x hx => hW'.lt x (by simp [hx])
  have hlt3 : ∀ x ∈ p3, x.block < W.heap.size := fun x hx => hW'.lt x (by simp [hx])
  have hlt4 : ∀ x ∈ p4, x.block < W.heap.size := fun x hx => hW'.lt x (by simp [hx])
  have hlt5 : ∀ x ∈ p5, x.block < W.heap.size := fun x hx => hW'.lt x (by simp [hx])
  obtain ⟨x0, g0, w0⟩ := open_kd (k := .dat (.int .i64)) (by kernel_rfl) (hval 0 2 v0 rfl rfl) h0
  obtain ⟨x1, g1, w1⟩ := open_kd (k := .dat (.int .i64)) (by kernel_rfl) (hval 1 2 v1 rfl rfl) h1
  obtain ⟨x2, g2, w2⟩ := open_kd (k := .dat (.int .i64)) (by kernel_rfl) (hval 2 2 v2 rfl rfl) h2
  obtain ⟨x3, g3, w3⟩ := open_kd (k := .dat (.int .i64)) (by kernel_rfl) (hval 3 2 v3 rfl rfl) h3
  obtain ⟨x4, g4, w4⟩ := open_kd (k := .dat (.sl (.pair (.int .i64) (.pair (.int .i64) (.int .i64))))) (by kernel_rfl) (hval 4 46 v4 rfl rfl) h4
  obtain ⟨x5, g5, w5⟩ := open_kd (k := .dat (.sl (.pair (.int .i64) (.pair (.int .i64) (.int .i64))))) (by kernel_rfl) (hval 5 46 v5 rfl rfl) h5
  obtain ⟨N, hN⟩ := law_OpsSieves x0 x1 x2 x3 x4 x5 w0 w1 w2 w3 w4 w5
  refine (sp_keep_OpsSieves N (fun _ => False) W (x0, x1, x2, x3, x4, x5, ()) (true, ()) [v0, v1, v2, v3, v4, v5] (fun _ h => h.elim) hgw ⟨v0, _, rfl, g0, ⟨v1, _, rfl, g1, ⟨v2, _, rfl, g2, ⟨v3, _, rfl, g3, ⟨v4, _, rfl, g4, ⟨v5, _, rfl, g5, rfl⟩⟩⟩⟩⟩⟩ hN).mono ?_
  rintro e W' ⟨v, rfl, hg, hr⟩
  replace hg := hg.old
  have hr : v = .bool true := by simpa only [kvals, retV, Kd.val, Go.Abs.enc, RV] using hr
  subst hr
  exact ⟨_, rfl, _, _, _, [], p0 ++ (p1 ++ (p2 ++ (p3 ++ (p4 ++ (p5 ++ []))))), [], hW', (trodAll_cons_mk (shut_bool (show Try.prog.underlying 4 = some .bool by kernel_rfl) _) trodAll_mk0), (trodAll_cons_mk (Below.trod laidOut (by kernel_rfl) (of_decide_eq_true (by kernel_rfl)) h0 hg hlt0) (trodAll_cons_mk (Below.trod laidOut (by kernel_rfl) (of_decide_eq_true (by kernel_rfl)) h1 hg hlt1) (trodAll_cons_mk (Below.trod laidOut (by kernel_rfl) (of_decide_eq_true (by kernel_rfl)) h2 hg hlt2) (trodAll_cons_mk (Below.trod laidOut (by kernel_rfl) (of_decide_eq_true (by kernel_rfl)) h3 hg hlt3) (trodAll_cons_mk (Below.trod laidOut (by kernel_rfl) (of_decide_eq_true (by kernel_rfl)) h4 hg hlt4) (trodAll_cons_mk (Below.trod laidOut (by kernel_rfl) (of_decide_eq_true (by kernel_rfl)) h5 hg hlt5) trodAll_mk0)))))), rfl, hg.frame _, fun h => by cases h⟩

/-- The statement: whatever the arguments, the law's function returns true and leaves them as they were. -/
theorem opsSieves_holds : Rows.OpsSievesSaid :=
  OpenClaim.holds_of_wide 12 Try.f12 rfl rfl rfl rfl rfl rfl rfl ⟨rfl, rfl, rfl, rfl, rfl⟩ rfl rfl rfl rfl rfl (by kernel_rfl) Try.func12 (by kernel_rfl)
    (of_decide_eq_true (by kernel_rfl)) (by unfold Func.isWrapper; first | (rw [if_pos (by decide +kernel)]; kernel_rfl) | (rw [if_neg (by decide +kernel)]; exact ⟨rfl, rfl⟩))
    (fun os started H enc _ => lifted_OpsSieves os started H enc)
end Go.Proofs.Ytfcjibfkhmnolaa
