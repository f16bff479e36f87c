/- A bag does not hang on where its rows begin, and is its own bag: the law answers true for every list of rows and every number. No condition. -/
import Derived.Test.YtnlkjgfopenmnaaBagsS
import Derived.Test.YtnlkjgfopenmnaaFrame0
namespace Go.Proofs.Ytnlkjgfopenmnaa
open Go Go.ChangeShapes Go.WideShapes Go.ChangeAt Go.WideMaps Go.WideElems Go.RowKit Go.Abs Go.Bag
-- watershed/watershedkeep.BagsAnyhow
abbrev Ks_keep_BagsAnyhow : List Kd := [.dat (.sl (.pair (.int .i64) (.pair (.int .i64) (.int .i64)))), .dat (.int .u8)]
abbrev Rk_keep_BagsAnyhow : List Kd := [.dat (.bool)]
abbrev Rt_keep_BagsAnyhow : Type := Dens Rk_keep_BagsAnyhow
noncomputable def C_keep_BagsAnyhow (_N : Nat) : Ctx := { T := [(3, ⟨.int .i64, 1, 8, some (.int .i64), [.int .i64 (0 : Int)], false⟩), (5, ⟨.int .u8, 1, 1, some (.int .u8), [.int .u8 (0 : Int)], false⟩), (22, ⟨.slice 28, 1, 24, some (.sl (.pair (.int .i64) (.pair (.int .i64) (.int .i64)))), [.nil], false⟩), (28, ⟨.struct [(0, 2), (1, 2), (2, 2)], 3, 24, some (.pair (.int .i64) (.pair (.int .i64) (.int .i64))), [.int .i64 (0 : Int), .int .i64 (0 : Int), .int .i64 (0 : Int)], true⟩)], G := findE [mkQ 12 Ks_bags_Tidy Rk_bags_Tidy (D_bags_Tidy _N), mkP 13 Ks_keep_total Rk_keep_total (D_keep_total _N), mkD 12 Ks_bags_Tidy Rk_bags_Tidy (D_bags_Tidy _N), mkP 14 Ks_ref_BagsSame Rk_ref_BagsSame (D_ref_BagsSame _N)], I := findI [], N := _N, n := 96, fx := [0], fl := 0, gs := [] }
noncomputable def keep_BagsAnyhow_1 (_N : Nat) (_v9 : List (Int × Int × Int)) (_v10 : List (Int × Int × Int)) : Option Rt_keep_BagsAnyhow :=
  ((D_bags_Tidy _N (_v10, ())).bind fun _y18 => ((D_bags_Tidy _N (_v9, ())).bind fun _y19 => (bif (_y18.2.1 == (0 : Int)) then (bif (_y19.2.1 == (0 : Int)) then ((D_ref_BagsSame _N (_v9, _y18.1, ())).bind fun _y20 => (bif _y20.1 then ((D_ref_BagsSame _N (_v9, _y19.1, ())).bind fun _y21 => (some (_y21.1, ()))) else (some (false, ())))) else (some (false, ()))) else (some (false, ())))))
noncomputable def keep_BagsAnyhow_2 (_N : Nat) (_k22 : ((List (Int × Int × Int)) × (List (Int × Int × Int))) → Option Rt_keep_BagsAnyhow) (_v4 : List (Int × Int × Int)) (_v5 : List (Int × Int × Int)) (_v6 : Int) (_v7 : Int) (_v8 : List (Int × Int × Int)) (_kn23 : ((List (Int × Int × Int)) × (List (Int × Int × Int)) × Int) × (Int × (List (Int × Int × Int))) → Option Rt_keep_BagsAnyhow) : Option Rt_keep_BagsAnyhow :=
  (bif (decide (_v7 < (_v4.length : Int))) then (bif ((_v4.length : Int) == 0) then none else (bif (decide (0 ≤ ((IntKind.i64.wrap ((IntKind.i64.wrap (_v6 + (_v4.length : Int))) - _v7)).tmod (_v4.length : Int))) && decide (((IntKind.i64.wrap ((IntKind.i64.wrap (_v6 + (_v4.length : Int))) - _v7)).tmod (_v4.length : Int)) < (_v4.length : Int))) then (bif (decide ((_v8.length + ([((nth ((0 : Int), ((0 : Int), (0 : Int))) _v4 ((IntKind.i64.wrap ((IntKind.i64.wrap (_v6 + (_v4.length : Int))) - _v7)).tmod (_v4.length : Int)).toNat).1, (((nth ((0 : Int), ((0 : Int), (0 : Int))) _v4 ((IntKind.i64.wrap ((IntKind.i64.wrap (_v6 + (_v4.length : Int))) - _v7)).tmod (_v4.length : Int)).toNat).2).1, ((nth ((0 : Int), ((0 : Int), (0 : Int))) _v4 ((IntKind.i64.wrap ((IntKind.i64.wrap (_v6 + (_v4.length : Int))) - _v7)).tmod (_v4.length : Int)).toNat).2).2))]).length) * 24 ≤ 140737488355328) && Nat.ble 1 24) then (_kn23 ((_v4, _v5, _v6), ((IntKind.i64.wrap (_v7 + (1 : Int))), (_v8 ++ [((nth ((0 : Int), ((0 : Int), (0 : Int))) _v4 ((IntKind.i64.wrap ((IntKind.i64.wrap (_v6 + (_v4.length : Int))) - _v7)).tmod (_v4.length : Int)).toNat).1, (((nth ((0 : Int), ((0 : Int), (0 : Int))) _v4 ((IntKind.i64.wrap ((IntKind.i64.wrap (_v6 + (_v4.length : Int))) - _v7)).tmod (_v4.length : Int)).toNat).2).1, ((nth ((0 : Int), ((0 : Int), (0 : Int))) _v4 ((IntKind.i64.wrap ((IntKind.i64.wrap (_v6 + (_v4.length : Int))) - _v7)).tmod (_v4.length : Int)).toNat).2).2))])))) else none) else none)) else (_k22 (_v5, _v8)))
noncomputable def keep_BagsAnyhow_3 (_N : Nat) (_x1 : List (Int × Int × Int)) (_x2 : Int) : Option Rt_keep_BagsAnyhow :=
  ((D_bags_Tidy _N (_x1, ())).bind fun _y15 => (bif (_y15.2.1 != (0 : Int)) then (bif ((_y15.1.length : Int) == (0 : Int)) then (bif (_y15.2.1 != (0 : Int)) then (some (true, ())) else (some (((_x1.length : Int) == (0 : Int)), ()))) else (some (false, ()))) else (bif ((_x1.length : Int) == (0 : Int)) then (bif ((_y15.1.length : Int) == (0 : Int)) then (bif (_y15.2.1 != (0 : Int)) then (some (true, ())) else (some (((_x1.length : Int) == (0 : Int)), ()))) else (some (false, ()))) else ((D_keep_total _N (_y15.1, ())).bind fun _y16 => ((D_keep_total _N (_x1, ())).bind fun _y17 => (bif (_y16.1 != _y17.1) then (bif ((_y15.1.length : Int) == (0 : Int)) then (bif (_y15.2.1 != (0 : Int)) then (some (true, ())) else (some (((_x1.length : Int) == (0 : Int)), ()))) else (some (false, ()))) else (bif ((_x1.length : Int) == 0) then none else (joinD (fun (_s : (List (Int × Int × Int)) × (List (Int × Int × Int))) => keep_BagsAnyhow_1 _N _s.1 _s.2) fun _k22 => (loopE (fun (_c : (List (Int × Int × Int)) × (List (Int × Int × Int)) × Int) (_s : Int × (List (Int × Int × Int))) _kn => keep_BagsAnyhow_2 _N _k22 _c.1 _c.2.1 _c.2.2 _s.1 _s.2 _kn) _N (_x1, _y15.1, ((IntKind.i64.wrap _x2).tmod (_x1.length : Int))) ((0 : Int), []))))))))))
noncomputable def D_keep_BagsAnyhow (_N : Nat) (_x : Dens Ks_keep_BagsAnyhow) : Option Rt_keep_BagsAnyhow := keep_BagsAnyhow_3 _N _x.1 _x.2.1
theorem sp_keep_BagsAnyhow (_N : Nat) : SpecD Try.prog [] 3 Ks_keep_BagsAnyhow Rk_keep_BagsAnyhow (D_keep_BagsAnyhow _N) := mkSpD (fn := Try.f3) (c := bodyOf Try.f3) (C := C_keep_BagsAnyhow _N)
    (a := .two .none (.two .none (.two .none (.two .none (.two .none (.join 1 ⟨[(5, .sl (.pair (.int .i64) (.pair (.int .i64) (.int .i64)))), (7, .slc 0 0)], [.row false 0 28 (.pair (.int .i64) (.pair (.int .i64) (.int .i64)))]⟩ (.two .none (.one (.obj 7 28 (.pair (.int .i64) (.pair (.int .i64) (.int .i64))) (.loop 1 ⟨[(0, .sl (.pair (.int .i64) (.pair (.int .i64) (.int .i64)))), (5, .sl (.pair (.int .i64) (.pair (.int .i64) (.int .i64)))), (7, .slc 0 0), (8, .int .i64), (9, .int .i64)], [.row false 0 28 (.pair (.int .i64) (.pair (.int .i64) (.int .i64)))]⟩ [3, 4] .none)))) .none))))))
    (by kernel_rfl) rfl (by kernel_rfl) (by kernel_rfl) ⟨rfl, by unfold TOk; kernel_rfl, gOk_of rfl rfl (List.forall_mem_cons.2 ⟨qen_bags_Tidy _N, (List.forall_mem_cons.2 ⟨en_keep_total _N, (List.forall_mem_cons.2 ⟨en_bags_Tidy _N, (List.forall_mem_cons.2 ⟨en_ref_BagsSame _N, (List.forall_mem_nil _)⟩)⟩)⟩)⟩), iOk_of rfl rfl (List.forall_mem_nil _), rfl⟩ (fun _x => by kernel_rfl)
theorem en_keep_BagsAnyhow (_N : Nat) : EntOk Try.prog [] (mkP 3 Ks_keep_BagsAnyhow Rk_keep_BagsAnyhow (D_keep_BagsAnyhow _N)) := entP ⟨Try.f3, bodyOf Try.f3, by kernel_rfl, by kernel_rfl, rfl⟩ (by kernel_rfl) (sp_keep_BagsAnyhow _N)
theorem turn_inj {n A i j : Nat} (hA : n ≤ A) (hi : i < n) (hj : j < n) (h : (A - i) % n = (A - j) % n) : i = j := by
  have key : ∀ {i j : Nat}, i < n → j < n → i ≤ j → (A - i) % n = (A - j) % n → i = j := fun {i j} hi hj hij h => by
    have h1 := Nat.sub_mod_eq_zero_of_mod_eq h
    rw [show A - i - (A - j) = j - i by omega, Nat.mod_eq_of_lt (by omega)] at h1
    omega
  rcases Nat.le_total i j with h' | h'
  · exact key hi hj h' h
  · exact (key hj hi h' h.symm).symm
theorem turn_sur {n A x : Nat} (hA : n ≤ A) (hx : x < n) : (A - (A - x) % n) % n = x := by
  have h1 := Nat.div_add_mod (A - x) n
  have h2 := Nat.mod_le (A - x) n
  have h3 : A - (A - x) % n = x + n * ((A - x) / n) := by omega
  rw [h3, Nat.add_mul_mod_self_left, Nat.mod_eq_of_lt hx]
/-- The places of a list, turned. -/
theorem turned_perm (a : List Row) (at_ : Nat) : ((List.range a.length).map fun i => nth (0, 0, 0) a ((at_ + a.length - i) % a.length)).Perm a := by
  have hp : ((List.range a.length).map fun i => (at_ + a.length - i) % a.length).Perm (List.range a.length) := by
    refine (List.perm_ext_iff_of_nodup ?_ List.nodup_range).2 fun x => ?_
    · unfold List.Nodup
      rw [List.pairwise_map]
      refine List.Pairwise.imp_of_mem (fun {i j} hi hj hne h => ?_) (List.nodup_range (n := a.length))
      exact hne (turn_inj (Nat.le_add_left _ _) (List.mem_range.1 hi) (List.mem_range.1 hj) h)
    · constructor
      · intro h
        obtain ⟨i, hi, rfl⟩ := List.mem_map.1 h
        have := List.mem_range.1 hi
        exact List.mem_range.2 (Nat.mod_lt _ (by omega))
      · intro h
        have hx := List.mem_range.1 h
        exact List.mem_map.2 ⟨(at_ + a.length - x) % a.length, List.mem_range.2 (Nat.mod_lt _ (by omega)), turn_sur (Nat.le_add_left _ _) hx⟩
  have := hp.map fun i => nth ((0 : Int), (0 : Int), (0 : Int)) a i
  rw [List.map_map] at this
  refine List.Perm.trans this ?_
  have : (List.range a.length).map (fun i => nth ((0 : Int), (0 : Int), (0 : Int)) a i) = a := by
    apply List.ext_getElem (by simp)
    intro i h1 h2
    simp [nth_lt h2]
  rw [this]
theorem turned_eq {N : Nat} (hN : 1000 ≤ N) {a t : List Row} (ha : a.length ≤ 128) {at_ : Nat} (hat : at_ < a.length) : ∀ k : _ → Option Rt_keep_BagsAnyhow,
    loopE (fun (c : List Row × List Row × Int) (s : Int × List Row) kn => keep_BagsAnyhow_2 N k c.1 c.2.1 c.2.2 s.1 s.2 kn) N (a, t, (at_ : Int)) ((0 : Int), []) = k (t, (List.range a.length).map fun i => nth (0, 0, 0) a ((at_ + a.length - i) % a.length)) := by
  simp only [loopE]
  obtain ⟨s', hI, e⟩ := loopD_invk (fun (k : _ → Option Rt_keep_BagsAnyhow) s kn => keep_BagsAnyhow_2 N k a t (at_ : Int) s.1 s.2 (backE (a, t, (at_ : Int)) kn)) (fun k (s : Int × List Row) => k (t, s.2)) a.length
    (fun i s => s.1 = (i : Int) ∧ s.2 = (List.range i).map fun i => nth (0, 0, 0) a ((at_ + a.length - i) % a.length)) (N := N) (s := ((0 : Int), []))
    (by
      rintro i ⟨_, _⟩ hi ⟨rfl, rfl⟩
      refine ⟨((i : Int) + 1, ((List.range i).map fun i => nth (0, 0, 0) a ((at_ + a.length - i) % a.length)) ++ [nth (0, 0, 0) a ((at_ + a.length - i) % a.length)]), ⟨by simp, by simp [List.range_succ]⟩, fun K kn => ?_⟩
      have h1 : IntKind.i64.wrap (IntKind.i64.wrap ((at_ : Int) + (a.length : Int)) - (i : Int)) = ((at_ + a.length - i : Nat) : Int) := by
        rw [w64 (n := (at_ : Int) + (a.length : Int)) (by omega) (by omega), w64 (by omega) (by omega)]; omega
      have h2 : (((at_ + a.length - i : Nat) : Int)).tmod (a.length : Int) = (((at_ + a.length - i) % a.length : Nat) : Int) := (Int.ofNat_tmod _ _).symm
      have h3 : (at_ + a.length - i) % a.length < a.length := Nat.mod_lt _ (by omega)
      have heta : ∀ x : Row, (x.1, x.2.1, x.2.2) = x := fun _ => rfl
      simp only [keep_BagsAnyhow_2, lt_d hi, cond_true, h1, h2, ge0_d, lt_d h3, Bool.and_self, Int.toNat_natCast, heta, ix1 hi (by omega), backE_eq, List.length_map, List.length_range, List.length_singleton]
      rw [show (((a.length : Nat) : Int) == 0) = false from beq_false_of_ne (by omega), d_true (show (i + 1) * 24 ≤ 140737488355328 by omega)]; rfl)
    (by
      rintro ⟨_, _⟩ ⟨rfl, rfl⟩ K kn
      simp only [keep_BagsAnyhow_2, lt_self, cond_false])
    (by omega) ⟨rfl, rfl⟩
  intro k
  rw [e k, hI.2]
theorem law_BagsAnyhow (a : List Row) (k : Int) (_wa : wfS (.sl (.pair (.int .i64) (.pair (.int .i64) (.int .i64)))) a) (wk : wfS (.int .u8) k) : ∃ N, D_keep_BagsAnyhow N (a, k, ()) = some (true, ()) := by
  refine ⟨1000, ?_⟩
  have hN : 1000 ≤ 1000 := Nat.le_refl _
  obtain ⟨t, e, h1, t1⟩ := Tidy_eq hN a
  simp only [D_keep_BagsAnyhow, keep_BagsAnyhow_3, h1, Option.bind_some]
  by_cases q1 : e = 0
  case neg =>
    have : t = [] := by
      rcases t1 with t1 | t1
      · exact absurd t1.1 q1
      · exact t1.2.1
    rw [show (e != 0) = true from bne_iff_ne.2 q1, this]; rfl
  subst q1
  obtain ⟨l1, l2, i1⟩ := t1.ok rfl
  rw [bne_self_eq_false]
  by_cases q2 : a = []
  · subst q2
    have : t = [] := i1.nil_iff fun e => .of_eq rfl
    rw [this]; rfl
  have hl0 : a.length ≠ 0 := by simpa using q2
  have hb0 : (((a.length : Nat) : Int) == 0) = false := beq_false_of_ne (by omega)
  have htot : w (tot t) = w (tot a) := tot_cg fun e => i1.amt_cg e
  rw [total_eq (by omega) (by omega), total_eq (by omega) (by omega)]
  have hk0 : 0 ≤ k ∧ k ≤ 255 := ⟨by have := wk.1; exact this, by have := wk.2; exact this⟩
  obtain ⟨m, rfl⟩ := Int.eq_ofNat_of_zero_le hk0.1
  have hat : (IntKind.i64.wrap (m : Int)).tmod (a.length : Int) = ((m % a.length : Nat) : Int) := by
    rw [w64 (by omega) (by omega)]; exact (Int.ofNat_tmod _ _).symm
  simp only [cond_false, hb0, Option.bind_some, htot, bne_self_eq_false, joinD, hat, turned_eq hN (t := t) (show a.length ≤ 128 by omega) (Nat.mod_lt m (by omega)), keep_BagsAnyhow_1]
  have hp := turned_perm a (m % a.length)
  generalize ((List.range a.length).map fun i => nth (0, 0, 0) a ((m % a.length + a.length - i) % a.length)) = u at hp
  obtain ⟨u', eu, h2, t2⟩ := Tidy_eq hN u
  obtain ⟨v, ev, h3, t3⟩ := Tidy_eq hN t
  obtain rfl : ev = 0 := t3.is0 (by omega) l1 fun k hk => .of_eq (amt_notin hk)
  obtain ⟨e1, e2⟩ := t1.same t2 (fun e => .of_eq (amt_perm hp e).symm) (by rw [hp.length_eq])
  subst e1; subst e2
  obtain ⟨-, -, i3⟩ := t3.ok rfl
  have e3 : t = v := i1.same i3 fun e => (i1.amt_cg e).symm
  subst e3
  rw [h2, h3]
  simp only [Option.bind_some, beq_self_eq_true, cond_true]
  rw [Same_eq (by omega) (by omega)]
  simp
set_option maxRecDepth 100000 in
theorem lifted_BagsAnyhow (os : Os) (started : os.Started) (H : Type) (enc : TypeId × Value → H) :
    ReturnsInHanded {} Try.checked os 3 .any (Rows.bagsAnyhowSpec.pre6 enc Try.prog Try.f3 Rows.bagsAnyhowRow.domain false) (Rows.bagsAnyhowSpec.post enc Try.prog Try.f3 false true false false) := by
  refine returnsInHanded_of_change_sized (C := Try.checked) own started (by kernel_rfl) Try.func3
    (ChangeSpec.witness6 (enc := enc) (C := Try.checked) false ⟨#[], #[.slice none 0 0, .int .u8 0], []⟩ 8 (by kernel_rfl) (by kernel_rfl) (by kernel_rfl) (by kernel_rfl)) ?_
  intro W base args ds gs before hval0 hW _ hsz0 _
  have hgw : GW [] W := fun _ h => nomatch h
  have hval : ∀ (j : Nat) t v, Try.f3.params[j]? = some t → args[j]? = some v → Value.okWide Try.prog W .any base t v := hval0
  have hW' := hW
  obtain ⟨p, q, hA0, hV, rfl, _, _⟩ := hW
  have hA : DataW.TrodAll enc Try.prog W 0 (fun _ => true) true Try.f3.params.toList args.toList ds p := hA0
  rw [Try.params3] at hA hval
  obtain ⟨v0, vs0, d0, ds0, p0, q0, hargs, rfl, rfl, h0, r0⟩ := trodAll_cons hA
  obtain ⟨v1, vs1, d1, ds1, p1, q1, rfl, rfl, rfl, h1, r1⟩ := trodAll_cons r0
  obtain ⟨rfl, rfl, rfl⟩ := trodAll_nil r1
  obtain rfl : args = #[v0, v1] := by cases args; simp_all
  obtain ⟨rfl, rfl⟩ := trodVars_none hV
  have hall := List.all_eq_true.1 hsz0
  clear hA0 hval0 hsz0
  simp only [List.append_nil] at hW'
  have hlt0 : ∀ x ∈ p0, x.block < W.heap.size := fun x hx => hW'.lt x (by simp [hx])
  have hlt1 : ∀ x ∈ p1, x.block < W.heap.size := fun x hx => hW'.lt x (by simp [hx])
  obtain ⟨x0, g0, w0⟩ := open_kd (k := .dat (.sl (.pair (.int .i64) (.pair (.int .i64) (.int .i64))))) (by kernel_rfl) (hval 0 22 v0 rfl rfl) h0
  obtain ⟨x1, g1, w1⟩ := open_kd (k := .dat (.int .u8)) (by kernel_rfl) (hval 1 5 v1 rfl rfl) h1
  obtain ⟨N, hN⟩ := law_BagsAnyhow x0 x1 w0 w1
  refine (sp_keep_BagsAnyhow N (fun _ => False) W (x0, x1, ()) (true, ()) [v0, v1] (fun _ h => h.elim) hgw ⟨v0, _, rfl, g0, ⟨v1, _, rfl, g1, rfl⟩⟩ hN).mono ?_
  rintro e W' ⟨v, rfl, hg, hr⟩
  replace hg := hg.old
  have hr : v = .bool true := by simpa only [kvals, retV, Kd.val, Go.Abs.enc, RV] using hr
  subst hr
  exact ⟨_, rfl, _, _, _, [], p0 ++ (p1 ++ []), [], hW', (trodAll_cons_mk (shut_bool (show Try.prog.underlying 4 = some .bool by kernel_rfl) _) trodAll_mk0), (trodAll_cons_mk (Below.trod laidOut (by kernel_rfl) (of_decide_eq_true (by kernel_rfl)) h0 hg hlt0) (trodAll_cons_mk (Below.trod laidOut (by kernel_rfl) (of_decide_eq_true (by kernel_rfl)) h1 hg hlt1) trodAll_mk0)), rfl, hg.frame _, fun h => by cases h⟩

/-- The statement: whatever the arguments, the law's function returns true and leaves them as they were. -/
theorem bagsAnyhow_holds : Rows.BagsAnyhowSaid :=
  OpenClaim.holds_of_wide 3 Try.f3 rfl rfl rfl rfl rfl rfl rfl ⟨rfl, rfl, rfl, rfl, rfl⟩ rfl rfl rfl rfl rfl (by kernel_rfl) Try.func3 (by kernel_rfl)
    (of_decide_eq_true (by kernel_rfl)) (by unfold Func.isWrapper; first | (rw [if_pos (by decide +kernel)]; kernel_rfl) | (rw [if_neg (by decide +kernel)]; exact ⟨rfl, rfl⟩))
    (fun os started H enc _ => lifted_BagsAnyhow os started H enc)
end Go.Proofs.Ytnlkjgfopenmnaa
