/- Sums of bags hang neither on order nor on brackets, what is put and taken again is as it was, and so many times a sum is so many times each: the law answers true for all lists of rows and every number. No condition. -/
import Derived.Test.YtnlkjgfopenmnaaBagsS
import Derived.Test.YtnlkjgfopenmnaaFrame0
namespace Go.Proofs.Ytnlkjgfopenmnaa
open Go Go.ChangeShapes Go.WideShapes Go.ChangeAt Go.WideMaps Go.WideElems Go.RowKit Go.Abs Go.Bag
-- watershed/watershedkeep.BagsModule
abbrev Ks_keep_BagsModule : List Kd := [.dat (.sl (.pair (.int .i64) (.pair (.int .i64) (.int .i64)))), .dat (.sl (.pair (.int .i64) (.pair (.int .i64) (.int .i64)))), .dat (.sl (.pair (.int .i64) (.pair (.int .i64) (.int .i64)))), .dat (.int .i64)]
abbrev Rk_keep_BagsModule : List Kd := [.dat (.bool)]
abbrev Rt_keep_BagsModule : Type := Dens Rk_keep_BagsModule
noncomputable def C_keep_BagsModule (_N : Nat) : Ctx := { T := [], G := findE [mkQ 15 Ks_bags_Plus Rk_bags_Plus (D_bags_Plus _N), mkP 16 Ks_keep_same Rk_keep_same (D_keep_same _N), mkP 14 Ks_ref_BagsSame Rk_ref_BagsSame (D_ref_BagsSame _N), mkQ 12 Ks_bags_Tidy Rk_bags_Tidy (D_bags_Tidy _N), mkQ 17 Ks_bags_Minus Rk_bags_Minus (D_bags_Minus _N), mkQ 18 Ks_bags_Scale Rk_bags_Scale (D_bags_Scale _N), mkP 13 Ks_keep_total Rk_keep_total (D_keep_total _N)], I := findI [], N := _N, n := 150, fx := [], fl := 0, gs := [] }
noncomputable def keep_BagsModule_1 (_N : Nat) (_v8 : List (Int × Int × Int)) (_v9 : List (Int × Int × Int)) (_v10 : List (Int × Int × Int)) (_v11 : Int) (_v12 : List (Int × Int × Int)) (_v13 : Int) (_v14 : List (Int × Int × Int)) (_v15 : Int) : Option Rt_keep_BagsModule :=
  (bif (_v13 != (0 : Int)) then (some (true, ())) else (bif (_v15 != (0 : Int)) then (some (true, ())) else ((D_bags_Plus _N (_v12, _v10, ())).bind fun _y47 => ((D_bags_Plus _N (_v8, _v14, ())).bind fun _y48 => (bif (_y47.2.1 == (0 : Int)) then (bif (_y48.2.1 == (0 : Int)) then ((D_ref_BagsSame _N (_y47.1, _y48.1, ())).bind fun _y49 => (bif (!_y49.1) then (some (false, ())) else ((D_bags_Tidy _N (_v8, ())).bind fun _y50 => ((D_bags_Minus _N (_v12, _v9, ())).bind fun _y51 => ((D_keep_same _N (_y50.1, _y50.2.1, _y51.1, _y51.2.1, ())).bind fun _y52 => (bif (!_y52.1) then (some (false, ())) else ((D_bags_Scale _N (_v11, _v12, ())).bind fun _y53 => ((D_bags_Scale _N (_v11, _v8, ())).bind fun _y54 => ((D_bags_Scale _N (_v11, _v9, ())).bind fun _y55 => ((D_bags_Plus _N (_y54.1, _y55.1, ())).bind fun _y56 => (bif (_y53.2.1 == (0 : Int)) then (bif (_y54.2.1 == (0 : Int)) then (bif (_y55.2.1 == (0 : Int)) then (bif (_y56.2.1 != (0 : Int)) then (some (true, ())) else ((D_ref_BagsSame _N (_y53.1, _y56.1, ())).bind fun _y57 => (some (_y57.1, ())))) else (some (false, ()))) else (some (false, ()))) else (some (false, ()))))))))))))) else ((D_bags_Tidy _N (_v8, ())).bind fun _y58 => ((D_bags_Minus _N (_v12, _v9, ())).bind fun _y59 => ((D_keep_same _N (_y58.1, _y58.2.1, _y59.1, _y59.2.1, ())).bind fun _y60 => (bif (!_y60.1) then (some (false, ())) else ((D_bags_Scale _N (_v11, _v12, ())).bind fun _y61 => ((D_bags_Scale _N (_v11, _v8, ())).bind fun _y62 => ((D_bags_Scale _N (_v11, _v9, ())).bind fun _y63 => ((D_bags_Plus _N (_y62.1, _y63.1, ())).bind fun _y64 => (bif (_y61.2.1 == (0 : Int)) then (bif (_y62.2.1 == (0 : Int)) then (bif (_y63.2.1 == (0 : Int)) then (bif (_y64.2.1 != (0 : Int)) then (some (true, ())) else ((D_ref_BagsSame _N (_y61.1, _y64.1, ())).bind fun _y65 => (some (_y65.1, ())))) else (some (false, ()))) else (some (false, ()))) else (some (false, ())))))))))))) else ((D_bags_Tidy _N (_v8, ())).bind fun _y66 => ((D_bags_Minus _N (_v12, _v9, ())).bind fun _y67 => ((D_keep_same _N (_y66.1, _y66.2.1, _y67.1, _y67.2.1, ())).bind fun _y68 => (bif (!_y68.1) then (some (false, ())) else ((D_bags_Scale _N (_v11, _v12, ())).bind fun _y69 => ((D_bags_Scale _N (_v11, _v8, ())).bind fun _y70 => ((D_bags_Scale _N (_v11, _v9, ())).bind fun _y71 => ((D_bags_Plus _N (_y70.1, _y71.1, ())).bind fun _y72 => (bif (_y69.2.1 == (0 : Int)) then (bif (_y70.2.1 == (0 : Int)) then (bif (_y71.2.1 == (0 : Int)) then (bif (_y72.2.1 != (0 : Int)) then (some (true, ())) else ((D_ref_BagsSame _N (_y69.1, _y72.1, ())).bind fun _y73 => (some (_y73.1, ())))) else (some (false, ()))) else (some (false, ()))) else (some (false, ()))))))))))))))))
noncomputable def keep_BagsModule_2 (_N : Nat) (_x1 : List (Int × Int × Int)) (_x2 : List (Int × Int × Int)) (_x3 : List (Int × Int × Int)) (_x4 : Int) : Option Rt_keep_BagsModule :=
  ((D_bags_Plus _N (_x1, _x2, ())).bind fun _y43 => ((D_bags_Plus _N (_x2, _x1, ())).bind fun _y44 => ((D_keep_same _N (_y43.1, _y43.2.1, _y44.1, _y44.2.1, ())).bind fun _y45 => (bif (!_y45.1) then (some (false, ())) else ((D_bags_Plus _N (_x2, _x3, ())).bind fun _y46 => (joinD (fun (_s : (List (Int × Int × Int)) × (List (Int × Int × Int)) × (List (Int × Int × Int)) × Int × (List (Int × Int × Int)) × Int × (List (Int × Int × Int)) × Int) => keep_BagsModule_1 _N _s.1 _s.2.1 _s.2.2.1 _s.2.2.2.1 _s.2.2.2.2.1 _s.2.2.2.2.2.1 _s.2.2.2.2.2.2.1 _s.2.2.2.2.2.2.2) fun _k74 => (bif (_y43.2.1 == (0 : Int)) then ((D_keep_total _N (_y43.1, ())).bind fun _y75 => ((D_keep_total _N (_x1, ())).bind fun _y76 => ((D_keep_total _N (_x2, ())).bind fun _y77 => (bif (_y75.1 != (IntKind.i64.wrap (_y76.1 + _y77.1))) then (some (false, ())) else (_k74 (_x1, _x2, _x3, _x4, _y43.1, _y43.2.1, _y46.1, _y46.2.1)))))) else (_k74 (_x1, _x2, _x3, _x4, _y43.1, _y43.2.1, _y46.1, _y46.2.1)))))))))
noncomputable def D_keep_BagsModule (_N : Nat) (_x : Dens Ks_keep_BagsModule) : Option Rt_keep_BagsModule := keep_BagsModule_2 _N _x.1 _x.2.1 _x.2.2.1 _x.2.2.2.1
theorem sp_keep_BagsModule (_N : Nat) : SpecD Try.prog [] 4 Ks_keep_BagsModule Rk_keep_BagsModule (D_keep_BagsModule _N) := mkSpD (fn := Try.f4) (c := bodyOf Try.f4) (C := C_keep_BagsModule _N)
    (a := .two .none (.two .none (.two .none (.two .none (.two .none (.join 0 ⟨[(0, .sl (.pair (.int .i64) (.pair (.int .i64) (.int .i64)))), (1, .sl (.pair (.int .i64) (.pair (.int .i64) (.int .i64)))), (2, .sl (.pair (.int .i64) (.pair (.int .i64) (.int .i64)))), (3, .int .i64), (9, .sl (.pair (.int .i64) (.pair (.int .i64) (.int .i64)))), (10, .int .i64), (13, .sl (.pair (.int .i64) (.pair (.int .i64) (.int .i64)))), (14, .int .i64)], []⟩ .none .none))))))
    (by kernel_rfl) rfl (by kernel_rfl) (by kernel_rfl) ⟨rfl, by unfold TOk; kernel_rfl, gOk_of rfl rfl (List.forall_mem_cons.2 ⟨qen_bags_Plus _N, (List.forall_mem_cons.2 ⟨en_keep_same _N, (List.forall_mem_cons.2 ⟨en_ref_BagsSame _N, (List.forall_mem_cons.2 ⟨qen_bags_Tidy _N, (List.forall_mem_cons.2 ⟨qen_bags_Minus _N, (List.forall_mem_cons.2 ⟨qen_bags_Scale _N, (List.forall_mem_cons.2 ⟨en_keep_total _N, (List.forall_mem_nil _)⟩)⟩)⟩)⟩)⟩)⟩)⟩), iOk_of rfl rfl (List.forall_mem_nil _), rfl⟩ (fun _x => by kernel_rfl)
theorem en_keep_BagsModule (_N : Nat) : EntOk Try.prog [] (mkP 4 Ks_keep_BagsModule Rk_keep_BagsModule (D_keep_BagsModule _N)) := entP ⟨Try.f4, bodyOf Try.f4, by kernel_rfl, by kernel_rfl, rfl⟩ (by kernel_rfl) (sp_keep_BagsModule _N)
theorem law_BagsModule (a b c : List Row) (n : Int) (_wa : wfS (.sl (.pair (.int .i64) (.pair (.int .i64) (.int .i64)))) a) (_wb : wfS (.sl (.pair (.int .i64) (.pair (.int .i64) (.int .i64)))) b) (_wc : wfS (.sl (.pair (.int .i64) (.pair (.int .i64) (.int .i64)))) c) (_wn : wfS (.int .i64) n) :
    ∃ N, D_keep_BagsModule N (a, b, c, n, ()) = some (true, ()) := by
  refine ⟨1000, ?_⟩
  have hN : 1000 ≤ 1000 := Nat.le_refl _
  obtain ⟨ab, e, h1, t1⟩ := Plus_eq hN a b
  obtain ⟨ba, x, h2, t2⟩ := Plus_eq hN b a
  obtain ⟨e1, e2⟩ := t1.same t2 (fun k => .of_eq (by omega)) ⟨fun h => h.symm, fun h => h.symm⟩
  subst e1; subst e2
  obtain ⟨bc, y, h3, t3⟩ := Plus_eq hN b c
  have hs : D_keep_same 1000 (ab, e, ab, e, ()) = some (true, ()) := by
    have hl : ab.length ≤ 128 := by
      rcases t1 with t | t
      · exact t.2.1
      · rw [t.2.1]; simp
    rw [same_eq (by omega) (by omega)]; simp
  simp only [D_keep_BagsModule, keep_BagsModule_2, h1, h2, h3, hs, Option.bind_some, Bool.not_true, cond_false, joinD]
  by_cases q1 : e = 0
  case neg =>
    rw [show (e == 0) = false from beq_false_of_ne q1, cond_false]
    simp only [keep_BagsModule_1]
    rw [show (e != 0) = true from bne_iff_ne.2 q1]; rfl
  subst q1
  obtain ⟨l1, l2, i1⟩ := t1.ok rfl
  have ha : a.length ≤ 128 := by omega
  have hb : b.length ≤ 128 := by omega
  have htot : w (tot ab) = IntKind.i64.wrap (w (tot a) + w (tot b)) := by
    have e1 : Cg (tot ab) (tot (a ++ b)) := tot_cg fun k => (i1.amt_cg k).trans (.of_eq (by rw [amt_append]; omega))
    have e2 : Cg (w (tot a) + w (tot b)) (tot a + tot b) := (cg_w _).add (cg_w _)
    rw [tot_append] at e1
    exact e1.trans e2.symm
  rw [total_eq (by omega) (by omega), total_eq (by omega) (by omega), total_eq (by omega) (by omega)]
  simp only [beq_self_eq_true, cond_true, Option.bind_some, htot, bne_self_eq_false, cond_false, keep_BagsModule_1]
  by_cases q2 : y = 0
  case neg => rw [show (y != 0) = true from bne_iff_ne.2 q2]; rfl
  subst q2
  obtain ⟨l3, l4, i3⟩ := t3.ok rfl
  obtain ⟨l, el, h4, t4⟩ := Plus_eq hN ab c
  obtain ⟨m, em, h5, t5⟩ := Plus_eq hN a bc
  obtain ⟨t, et, h6, t6⟩ := Tidy_eq hN a
  obtain ⟨r, er, h7, t7⟩ := Minus_eq hN ab b
  obtain ⟨s, es, h8, t8⟩ := Scale_eq hN n ab
  obtain ⟨na, ena, h9, t9⟩ := Scale_eq hN n a
  obtain ⟨nb, enb, h10, t10⟩ := Scale_eq hN n b
  obtain ⟨d, ed, h11, t11⟩ := Plus_eq hN na nb
  obtain ⟨e3, e4⟩ := t6.same t7 (fun k => by
    have := (i1.amt_cg k).add (Cg.rfl (a := -amt b k))
    exact (Cg.of_eq (by omega)).trans (this.symm.trans (.of_eq (by omega)))) (by omega)
  subst e3; subst e4
  obtain rfl : et = 0 := t6.is0 (by omega) ha fun k hk => .of_eq (amt_notin hk)
  obtain rfl : es = 0 := t8.is0 (by simp; omega) l1 fun k hk => .of_eq (by rw [amt_notin hk]; simp [amt])
  obtain rfl : ena = 0 := t9.is0 (by simp; omega) ha fun k hk => .of_eq (by rw [amt_notin hk]; simp [amt])
  obtain rfl : enb = 0 := t10.is0 (by simp; omega) hb fun k hk => .of_eq (by rw [amt_notin hk]; simp [amt])
  obtain ⟨m6, -, i6⟩ := t6.ok rfl
  obtain ⟨m8, -, i8⟩ := t8.ok rfl
  obtain ⟨m9, -, i9⟩ := t9.ok rfl
  obtain ⟨m10, -, i10⟩ := t10.ok rfl
  have hs2 : D_keep_same 1000 (t, 0, t, 0, ()) = some (true, ()) := by rw [same_eq (by omega) (by omega)]; simp
  have hfin : ed = 0 → D_ref_BagsSame 1000 (s, d, ()) = some (true, ()) := fun hd => by
    obtain ⟨m11, -, i11⟩ := t11.ok hd
    have : s = d := i8.same i11 fun k => by
      have c1 : Cg (n * amt ab k + 0 * amt [] k) (n * (1 * amt a k + 1 * amt b k)) := (Cg.of_eq (by simp [amt])).trans ((Cg.rfl (a := n)).mul (i1.amt_cg k))
      have c2 := ((i9.amt_cg k).add (i10.amt_cg k)).symm
      refine c1.trans ((Cg.of_eq ?_).trans (c2.trans (.of_eq (by omega))))
      simp only [amt, Int.mul_zero, Int.add_zero, Int.one_mul, Int.mul_add]
    rw [Same_eq (by omega) (by omega)]; simp [this]
  have hlm : el = 0 → em = 0 → D_ref_BagsSame 1000 (l, m, ()) = some (true, ()) := fun g1 g2 => by
    obtain ⟨m4, -, i4⟩ := t4.ok g1
    obtain ⟨m5, -, i5⟩ := t5.ok g2
    have : l = m := i4.same i5 fun k => by
      have c1 : Cg (1 * amt ab k + 1 * amt c k) ((1 * amt a k + 1 * amt b k) + amt c k) := (Cg.of_eq (by omega)).trans ((i1.amt_cg k).add Cg.rfl)
      have c2 : Cg (1 * amt a k + 1 * amt bc k) (amt a k + (1 * amt b k + 1 * amt c k)) := (Cg.of_eq (by omega)).trans (Cg.rfl.add (i3.amt_cg k))
      exact c1.trans ((Cg.of_eq (by omega)).trans c2.symm)
    rw [Same_eq (by omega) (by omega)]; simp [this]
  simp only [h4, h5, h6, h7, h8, h9, h10, h11, hs2, Option.bind_some, bne_self_eq_false, cond_false, Bool.not_true, beq_self_eq_true, cond_true]
  have hend : (bif ed != 0 then some (true, ()) else (D_ref_BagsSame 1000 (s, d, ())).bind fun y => some (y.1, ())) = some (true, ()) := by
    by_cases q : ed = 0
    · rw [hfin q, q]; rfl
    · rw [show (ed != 0) = true from bne_iff_ne.2 q]; rfl
  rw [hend]
  by_cases g1 : el = 0
  · by_cases g2 : em = 0
    · rw [hlm g1 g2, g1, g2]; rfl
    · rw [g1, show (em == 0) = false from beq_false_of_ne g2]; rfl
  · rw [show (el == 0) = false from beq_false_of_ne g1]; rfl
set_option maxRecDepth 100000 in
theorem lifted_BagsModule (os : Os) (started : os.Started) (H : Type) (enc : TypeId × Value → H) :
    ReturnsInHanded {} Try.checked os 4 .any (Rows.bagsModuleSpec.pre6 enc Try.prog Try.f4 Rows.bagsModuleRow.domain false) (Rows.bagsModuleSpec.post enc Try.prog Try.f4 false true false false) := by
  refine returnsInHanded_of_change_sized (C := Try.checked) own started (by kernel_rfl) Try.func4
    (ChangeSpec.witness6 (enc := enc) (C := Try.checked) false ⟨#[], #[.slice none 0 0, .slice none 0 0, .slice none 0 0, .int .i64 0], []⟩ 8 (by kernel_rfl) (by kernel_rfl) (by kernel_rfl) (by kernel_rfl)) ?_
  intro W base args ds gs before hval0 hW _ hsz0 _
  have hgw : GW [] W := fun _ h => nomatch h
  have hval : ∀ (j : Nat) t v, Try.f4.params[j]? = some t → args[j]? = some v → Value.okWide Try.prog W .any base t v := hval0
  have hW' := hW
  obtain ⟨p, q, hA0, hV, rfl, _, _⟩ := hW
  have hA : DataW.TrodAll enc Try.prog W 0 (fun _ => true) true Try.f4.params.toList args.toList ds p := hA0
  rw [Try.params4] at hA hval
  obtain ⟨v0, vs0, d0, ds0, p0, q0, hargs, rfl, rfl, h0, r0⟩ := trodAll_cons hA
  obtain ⟨v1, vs1, d1, ds1, p1, q1, rfl, rfl, rfl, h1, r1⟩ := trodAll_cons r0
  obtain ⟨v2, vs2, d2, ds2, p2, q2, rfl, rfl, rfl, h2, r2⟩ := trodAll_cons r1
  obtain ⟨v3, vs3, d3, ds3, p3, q3, rfl, rfl, rfl, h3, r3⟩ := trodAll_cons r2
  obtain ⟨rfl, rfl, rfl⟩ := trodAll_nil r3
  obtain rfl : args = #[v0, v1, v2, v3] := by cases args; simp_all
  obtain ⟨rfl, rfl⟩ := trodVars_none hV
  have hall := List.all_eq_true.1 hsz0
  clear hA0 hval0 hsz0
  simp only [List.append_nil] at hW'
  have hlt0 : ∀ x ∈ p0, x.block < W.heap.size := fun x hx => hW'.lt x (by simp [hx])
  have hlt1 : ∀ x ∈ p1, x.block < W.heap.size := fun x hx => hW'.lt x (by simp [hx])
  have hlt2 : ∀ x ∈ p2, x.block < W.heap.size := fun x hx => hW'.lt x (by simp [hx])
  have hlt3 : ∀ x ∈ p3, x.block < W.heap.size := fun x hx => hW'.lt x (by simp [hx])
  obtain ⟨x0, g0, w0⟩ := open_kd (k := .dat (.sl (.pair (.int .i64) (.pair (.int .i64) (.int .i64))))) (by kernel_rfl) (hval 0 22 v0 rfl rfl) h0
  obtain ⟨x1, g1, w1⟩ := open_kd (k := .dat (.sl (.pair (.int .i64) (.pair (.int .i64) (.int .i64))))) (by kernel_rfl) (hval 1 22 v1 rfl rfl) h1
  obtain ⟨x2, g2, w2⟩ := open_kd (k := .dat (.sl (.pair (.int .i64) (.pair (.int .i64) (.int .i64))))) (by kernel_rfl) (hval 2 22 v2 rfl rfl) h2
  obtain ⟨x3, g3, w3⟩ := open_kd (k := .dat (.int .i64)) (by kernel_rfl) (hval 3 2 v3 rfl rfl) h3
  obtain ⟨N, hN⟩ := law_BagsModule x0 x1 x2 x3 w0 w1 w2 w3
  refine (sp_keep_BagsModule N (fun _ => False) W (x0, x1, x2, x3, ()) (true, ()) [v0, v1, v2, v3] (fun _ h => h.elim) hgw ⟨v0, _, rfl, g0, ⟨v1, _, rfl, g1, ⟨v2, _, rfl, g2, ⟨v3, _, rfl, g3, rfl⟩⟩⟩⟩ hN).mono ?_
  rintro e W' ⟨v, rfl, hg, hr⟩
  replace hg := hg.old
  have hr : v = .bool true := by simpa only [kvals, retV, Kd.val, Go.Abs.enc, RV] using hr
  subst hr
  exact ⟨_, rfl, _, _, _, [], p0 ++ (p1 ++ (p2 ++ (p3 ++ []))), [], hW', (trodAll_cons_mk (shut_bool (show Try.prog.underlying 4 = some .bool by kernel_rfl) _) trodAll_mk0), (trodAll_cons_mk (Below.trod laidOut (by kernel_rfl) (of_decide_eq_true (by kernel_rfl)) h0 hg hlt0) (trodAll_cons_mk (Below.trod laidOut (by kernel_rfl) (of_decide_eq_true (by kernel_rfl)) h1 hg hlt1) (trodAll_cons_mk (Below.trod laidOut (by kernel_rfl) (of_decide_eq_true (by kernel_rfl)) h2 hg hlt2) (trodAll_cons_mk (Below.trod laidOut (by kernel_rfl) (of_decide_eq_true (by kernel_rfl)) h3 hg hlt3) trodAll_mk0)))), rfl, hg.frame _, fun h => by cases h⟩

/-- The statement: whatever the arguments, the law's function returns true and leaves them as they were. -/
theorem bagsModule_holds : Rows.BagsModuleSaid :=
  OpenClaim.holds_of_wide 4 Try.f4 rfl rfl rfl rfl rfl rfl rfl ⟨rfl, rfl, rfl, rfl, rfl⟩ rfl rfl rfl rfl rfl (by kernel_rfl) Try.func4 (by kernel_rfl)
    (of_decide_eq_true (by kernel_rfl)) (by unfold Func.isWrapper; first | (rw [if_pos (by decide +kernel)]; kernel_rfl) | (rw [if_neg (by decide +kernel)]; exact ⟨rfl, rfl⟩))
    (fun os started H enc _ => lifted_BagsModule os started H enc)
end Go.Proofs.Ytnlkjgfopenmnaa
