/- Aggregations act on each key separately: the law answers true for every operator, every list of rows and every key. No condition. -/
import Derived.Test.YtkijpiphgnnonaaOpsR
import Derived.Test.YtkijpiphgnnonaaOpsT
import Derived.Test.YtkijpiphgnnonaaOpsU
import Derived.Test.YtkijpiphgnnonaaFrame0
namespace Go.Proofs.Ytkijpiphgnnonaa
open Go Go.ChangeShapes Go.WideShapes Go.ChangeAt Go.WideMaps Go.WideElems Go.RowKit Go.Abs Go.Bag
-- watershed/watershedkeep.OpsKeys
abbrev Ks_keep_OpsKeys : List Kd := [.dat (.int .i64), .dat (.sl (.pair (.int .i64) (.pair (.int .i64) (.int .i64)))), .dat (.int .i64)]
abbrev Rk_keep_OpsKeys : List Kd := [.dat (.bool)]
abbrev Rt_keep_OpsKeys : Type := Dens Rk_keep_OpsKeys
noncomputable def C_keep_OpsKeys (_N : Nat) : Ctx := { T := [(2, ⟨.int .i64, 1, 8, some (.int .i64), [.int .i64 (0 : Int)], false, []⟩), (3, ⟨.int .i64, 1, 8, some (.int .i64), [.int .i64 (0 : Int)], false, []⟩), (4, ⟨.bool, 1, 1, some .bool, [.bool false], false, []⟩), (22, ⟨.slice 44, 1, 24, some (.sl (.pair (.int .i64) (.pair (.int .i64) (.int .i64)))), [.nil], false, []⟩), (40, ⟨.struct [(0, 3), (1, 2), (2, 2)], 3, 24, some (.pair (.int .i64) (.pair (.int .i64) (.int .i64))), [.int .i64 (0 : Int), .int .i64 (0 : Int), .int .i64 (0 : Int)], true, []⟩), (44, ⟨.struct [(0, 2), (1, 2), (2, 2)], 3, 24, some (.pair (.int .i64) (.pair (.int .i64) (.int .i64))), [.int .i64 (0 : Int), .int .i64 (0 : Int), .int .i64 (0 : Int)], true, []⟩)], G := findE [mkQ 24 Ks_ops_One Rk_ops_One (D_ops_One _N), mkQ 25 Ks_keep_keyed [.dat (.sl (.pair (.int .i64) (.pair (.int .i64) (.int .i64))))] (fun _x => (D_keep_keyed _N _x).map fun _y => (_y, ())), mkP 16 Ks_ref_BagsSame Rk_ref_BagsSame (D_ref_BagsSame _N), mkF 26 Ks_ref_Bag 44 (.pair (.int .i64) (.pair (.int .i64) (.int .i64))) (D_ref_Bag _N)], I := findI [], N := _N, n := 81, fx := [], fl := 0, gs := [] }
noncomputable def keep_OpsKeys_1 (_N : Nat) (_v17 : Int) (_v18 : List (Int × Int × Int)) (_v19 : List (Int × Int × Int)) (_v20 : Bool) : Option Rt_keep_OpsKeys :=
  (((fun _x => (D_keep_keyed _N _x).map fun _y => (_y, ())) (_v18, _v17, ())).bind fun _y30 => ((D_ref_BagsSame _N (_y30.1, _v19, ())).bind fun _y31 => (bif _y31.1 then (some ((_v20 == (decide ((_v19.length : Int) > (0 : Int)))), ())) else (some (false, ())))))
noncomputable def keep_OpsKeys_2 (_N : Nat) (_k32 : (Int × (List (Int × Int × Int)) × (List (Int × Int × Int)) × Bool × Int × Int × Int × (List (Int × Int × Int))) → Option Rt_keep_OpsKeys) (_v6 : Int) (_v7 : Int) (_v8 : List (Int × Int × Int)) (_v9 : List (Int × Int × Int)) (_v11 : Int) (_v13 : Int) (_v14 : Int) (_v15 : Int) (_v16 : List (Int × Int × Int)) (_v10 : Bool) (_v12 : Int) (_kn35 : (Int × Int × (List (Int × Int × Int)) × (List (Int × Int × Int)) × Int × Int × Int × Int × (List (Int × Int × Int))) × (Bool × Int) → Option Rt_keep_OpsKeys) : Option Rt_keep_OpsKeys :=
  (bif (decide (_v12 < _v11)) then (bif (decide (0 ≤ _v12) && decide (_v12 < (_v16.length : Int))) then (bif _v10 then (_kn35 ((_v6, _v7, _v8, _v9, _v11, _v13, _v14, _v15, _v16), (true, (IntKind.i64.wrap (_v12 + (1 : Int)))))) else (bif (decide ((((nth ((0 : Int), ((0 : Int), (0 : Int))) _v16 ((_v12).toNat)).2).2) > (0 : Int))) then (_kn35 ((_v6, _v7, _v8, _v9, _v11, _v13, _v14, _v15, _v16), (true, (IntKind.i64.wrap (_v12 + (1 : Int)))))) else (bif (_v6 == (5 : Int)) then (_kn35 ((_v6, _v7, _v8, _v9, _v11, _v13, _v14, _v15, _v16), (true, (IntKind.i64.wrap (_v12 + (1 : Int)))))) else (_kn35 ((_v6, _v7, _v8, _v9, _v11, _v13, _v14, _v15, _v16), ((_v6 == (6 : Int)), (IntKind.i64.wrap (_v12 + (1 : Int))))))))) else none) else (_k32 (_v7, _v8, _v9, _v10, _v13, _v14, _v15, _v16)))
noncomputable def keep_OpsKeys_3 (_N : Nat) (_x1 : Int) (_x2 : List (Int × Int × Int)) (_x3 : Int) : Option Rt_keep_OpsKeys :=
  (bif (decide (_x1 < (5 : Int))) then (some (true, ())) else (bif (decide (_x1 > (8 : Int))) then (some (true, ())) else ((D_ops_One _N ((_x1, ((0 : Int), (0 : Int))), _x2, ())).bind fun _y27 => (((fun _x => (D_keep_keyed _N _x).map fun _y => (_y, ())) (_x2, _x3, ())).bind fun _y28 => ((D_ops_One _N ((_x1, ((0 : Int), (0 : Int))), _y28.1, ())).bind fun _y29 => (bif (_y27.2.1 != (0 : Int)) then (some ((_y27.2.1 == (1 : Int)), ())) else (bif (_y29.2.1 != (0 : Int)) then (some ((_y27.2.1 == (1 : Int)), ())) else (joinD (fun (_s : Int × (List (Int × Int × Int)) × (List (Int × Int × Int)) × Bool × Int × Int × Int × (List (Int × Int × Int))) => keep_OpsKeys_1 _N _s.1 _s.2.1 _s.2.2.1 _s.2.2.2.1) fun _k32 => (((fun _x => (D_keep_keyed _N _x).map fun _y => (_y, ())) (_x2, _x3, ())).bind fun _y33 => ((D_ref_Bag _N (_y33.1, ())).bind fun _y34 => (loopE (fun (_c : Int × Int × (List (Int × Int × Int)) × (List (Int × Int × Int)) × Int × Int × Int × Int × (List (Int × Int × Int))) (_s : Bool × Int) _kn => keep_OpsKeys_2 _N _k32 _c.1 _c.2.1 _c.2.2.1 _c.2.2.2.1 _c.2.2.2.2.1 _c.2.2.2.2.2.1 _c.2.2.2.2.2.2.1 _c.2.2.2.2.2.2.2.1 _c.2.2.2.2.2.2.2.2 _s.1 _s.2 _kn) _N (_x1, _x3, _y27.1, _y29.1, (_y34.length : Int), _x1, (0 : Int), (0 : Int), _y34) (false, (0 : Int)))))))))))))
noncomputable def D_keep_OpsKeys (_N : Nat) (_x : Dens Ks_keep_OpsKeys) : Option Rt_keep_OpsKeys := keep_OpsKeys_3 _N _x.1 _x.2.1 _x.2.2.1
theorem sp_keep_OpsKeys (_N : Nat) : SpecD Try.prog [] 7 Ks_keep_OpsKeys Rk_keep_OpsKeys (D_keep_OpsKeys _N) := mkSpD (fn := Try.f7) (c := bodyOf Try.f7) (C := C_keep_OpsKeys _N)
    (a := .two .none (.two .none (.two .none (.two .none (.two (.draw 0 [.rd [0], .pure, .pure, .pure, .pure, .pure, .pure, .pure, .pure, .pure]) (.two .none (.two .none (.join 2 ⟨[(2, .int .i64), (8, .sl (.pair (.int .i64) (.pair (.int .i64) (.int .i64)))), (10, .sl (.pair (.int .i64) (.pair (.int .i64) (.int .i64)))), (12, .bool)], [.cells [.int .i64, .int .i64, .int .i64], .row false 0 44 (.pair (.int .i64) (.pair (.int .i64) (.int .i64)))]⟩ (.two .none (.one (.loop 2 ⟨[(0, .int .i64), (2, .int .i64), (8, .sl (.pair (.int .i64) (.pair (.int .i64) (.int .i64)))), (10, .sl (.pair (.int .i64) (.pair (.int .i64) (.int .i64)))), (12, .bool), (48, .slc 1 0), (49, .int .i64), (50, .int .i64)], [.cells [.int .i64, .int .i64, .int .i64], .row false 0 44 (.pair (.int .i64) (.pair (.int .i64) (.int .i64)))]⟩ [4, 6] .none))) .none))))))))
    (by kernel_rfl) rfl (by kernel_rfl) (by kernel_rfl) ⟨rfl, by unfold TOk; kernel_rfl, gOk_of rfl rfl (List.forall_mem_cons.2 ⟨qen_ops_One _N, (List.forall_mem_cons.2 ⟨qen_keep_keyed _N, (List.forall_mem_cons.2 ⟨en_ref_BagsSame _N, (List.forall_mem_cons.2 ⟨en_ref_Bag _N, (List.forall_mem_nil _)⟩)⟩)⟩)⟩), iOk_of rfl rfl (List.forall_mem_nil _), rfl⟩ (fun _x => by kernel_rfl)
theorem en_keep_OpsKeys (_N : Nat) : EntOk Try.prog [] (mkP 7 Ks_keep_OpsKeys Rk_keep_OpsKeys (D_keep_OpsKeys _N)) := entP ⟨Try.f7, bodyOf Try.f7, by kernel_rfl, by kernel_rfl, rfl⟩ (by kernel_rfl) (sp_keep_OpsKeys _N)
theorem some_take {P : Row → Prop} [DecidablePred P] (l : List Row) {i : Nat} (hi : i < l.length) : (l.take (i + 1)).any (fun r => decide (P r)) = ((l.take i).any (fun r => decide (P r)) || decide (P (nth (0, 0, 0) l i))) := by
  rw [take_nth (z := ((0 : Int), (0 : Int), (0 : Int))) hi, List.any_append]; simp
theorem law_OpsKeys (kind : Int) (a : List Row) (key : Int) (_wk : wfS (.int .i64) kind) (_wa : wfS (.sl (.pair (.int .i64) (.pair (.int .i64) (.int .i64)))) a) (_we : wfS (.int .i64) key) (z : a.length * 24 ≤ reachBytes) :
    ∃ N, D_keep_OpsKeys N (kind, a, key, ()) = some (true, ()) := by
  refine ⟨1000 + a.length, ?_⟩
  generalize hNd : 1000 + a.length = N
  have hN : 1000 ≤ N := by omega
  have hz : a.length * 24 ≤ 140737488351232 := z
  simp only [D_keep_OpsKeys, keep_OpsKeys_3]
  by_cases q5 : kind < 5
  · rw [decide_eq_true q5, cond_true]
  rw [decide_eq_false q5, cond_false]
  by_cases q8 : kind > 8
  · rw [decide_eq_true q8, cond_true]
  rw [decide_eq_false q8, cond_false, keyed_eq (N := N) a key (by omega) (by omega)]
  have hlk : (keyF a key).length ≤ a.length := List.length_filter_le _ _
  show (D_ops_One N ((kind, 0, 0), a, ())).bind _ = _
  have hk : ((a.filter fun r => decide (r.1 = key))) = keyF a key := rfl
  simp only [hk, Option.map_some, Option.bind_some]
  rcases One_agg hN kind 0 0 (by omega) (by omega) a with ⟨la, t, t1, t2, t3⟩ | ⟨la, t3⟩
  case inr =>
    rcases One_agg hN kind 0 0 (by omega) (by omega) (keyF a key) with ⟨-, u, -, -, u3⟩ | ⟨-, u3⟩ <;> rw [t3, Option.bind_some, u3, Option.bind_some] <;> rfl
  rcases One_agg hN kind 0 0 (by omega) (by omega) (keyF a key) with ⟨-, u, u1, u2, u3⟩ | ⟨lb, -⟩
  case inr => omega
  obtain rfl := u1.uniq (keyF_bag t1 key)
  obtain ⟨bag, b1, b2, b3⟩ := Bag_eq hN (keyF a key) (by omega) fun r hr => by
    obtain ⟨g1, g2, g3⟩ := _wa.2 r (List.mem_filter.1 hr).1
    exact w_in' g3
  obtain rfl := b2.uniq (keyF_bag t1 key)
  rw [t3, Option.bind_some, u3, Option.bind_some]
  simp only [bne_self_eq_false, cond_false, b1, Option.bind_some]
  unfold joinD loopE
  have hlo : (outG kind t).length ≤ t.length := outG_len t1.rise
  have hfin : ∀ v, keep_OpsKeys_1 N key (outG kind t) (outG kind (keyF t key)) v = some (v == decide (((outG kind (keyF t key)).length : Int) > 0), ()) := fun v => by
    simp only [keep_OpsKeys_1, keyed_eq (N := N) (outG kind t) key (by omega) (by omega), Option.map_some, Option.bind_some]
    have h1 : ((outG kind t).filter fun r => decide (r.1 = key)) = outG kind (keyF t key) := outG_keyF t1.rise key
    have h2 : (outG kind (keyF t key)).length ≤ (outG kind t).length := by rw [← h1]; exact List.length_filter_le _ _
    rw [h1, Same_eq (by omega) (by omega), Option.bind_some, decide_eq_true rfl, cond_true]
  generalize hl : keyF t key = l at *
  have hany : (l.any fun r => decide (r.2.2 > 0 ∨ kind = 5 ∨ kind = 6)) = decide (((outG kind l).length : Int) > 0) := by
    have h := outG_some (kind := kind) (by omega) (by omega) t1.rise key
    rw [hl] at h
    rw [Bool.eq_iff_iff, List.any_eq_true, decide_eq_true_iff]
    have h3 : ((outG kind l).length : Int) > 0 ↔ outG kind l ≠ [] := by
      cases outG kind l with
      | nil => simp
      | cons x y => simp only [List.length_cons, ne_eq, reduceCtorEq, not_false_eq_true, iff_true]; omega
    rw [h3, h]
    simp only [decide_eq_true_iff]
  refine loopD_path (g := fun (s : Bool × Int) kn => keep_OpsKeys_2 N (fun s => keep_OpsKeys_1 N s.1 s.2.1 s.2.2.1 s.2.2.2.1) kind key (outG kind t) (outG kind l) (l.length : Int) kind 0 0 l s.1 s.2 (backE (kind, key, outG kind t, outG kind l, (l.length : Int), kind, 0, 0, l) kn)) l.length (fun i => ((l.take i).any fun r => decide (r.2.2 > 0 ∨ kind = 5 ∨ kind = 6), (i : Int))) (fun i hi kn => ?_) (fun kn => ?_) (by omega)
  · simp only [keep_OpsKeys_2, lt_d hi, ge0_d, Bool.and_self, cond_true, Int.toNat_natCast, backE_eq, w64 (n := (i : Int) + 1) (by omega) (by omega), some_take l hi]
    cases (l.take i).any fun r => decide (r.2.2 > 0 ∨ kind = 5 ∨ kind = 6)
    case true => rfl
    rw [cond_false, Bool.false_or]
    by_cases g1 : (nth ((0 : Int), (0 : Int), (0 : Int)) l i).2.2 > 0
    · rw [decide_eq_true g1, cond_true, decide_eq_true (.inl g1)]; rfl
    rw [decide_eq_false g1, cond_false]
    by_cases g5 : kind = 5
    · rw [show (kind == 5) = true from beq_iff_eq.2 g5, cond_true, decide_eq_true (.inr (.inl g5))]; rfl
    rw [show (kind == 5) = false from beq_false_of_ne g5, cond_false]
    by_cases g6 : kind = 6
    · rw [show (kind == 6) = true from beq_iff_eq.2 g6, decide_eq_true (.inr (.inr g6))]; rfl
    · rw [show (kind == 6) = false from beq_false_of_ne g6, decide_eq_false (fun h => by rcases h with h | h | h <;> contradiction)]; rfl
  · simp only [keep_OpsKeys_2, lt_self, cond_false, List.take_length, hfin, hany, beq_self_eq_true]
set_option maxRecDepth 100000 in
theorem lifted_OpsKeys (os : Os) (started : os.Started) (H : Type) (enc : TypeId × Value → H) :
    ReturnsInHanded {} Try.checked os 7 .any (Rows.opsKeysSpec.pre6 enc Try.prog Try.f7 Rows.opsKeysRow.domain false) (Rows.opsKeysSpec.post enc Try.prog Try.f7 false true false false) := by
  refine returnsInHanded_of_change_sized (C := Try.checked) own started (by kernel_rfl) Try.func7
    (ChangeSpec.witness6 (enc := enc) (C := Try.checked) false ⟨#[], #[.int .i64 0, .slice none 0 0, .int .i64 0], []⟩ 8 (by kernel_rfl) (by kernel_rfl) (by kernel_rfl) (by kernel_rfl)) ?_
  intro W base args ds gs before hval0 hW _ hsz0 _
  have hgw : GW [] W := fun _ h => nomatch h
  have hval : ∀ (j : Nat) t v, Try.f7.params[j]? = some t → args[j]? = some v → Value.okWide Try.prog W .any base t v := hval0
  have hW' := hW
  obtain ⟨p, q, hA0, hV, rfl, _, _⟩ := hW
  have hA : DataW.TrodAll enc Try.prog W 0 (fun _ => true) true Try.f7.params.toList args.toList ds p := hA0
  rw [Try.params7] at hA hval
  obtain ⟨v0, vs0, d0, ds0, p0, q0, hargs, rfl, rfl, h0, r0⟩ := trodAll_cons hA
  obtain ⟨v1, vs1, d1, ds1, p1, q1, rfl, rfl, rfl, h1, r1⟩ := trodAll_cons r0
  obtain ⟨v2, vs2, d2, ds2, p2, q2, rfl, rfl, rfl, h2, r2⟩ := trodAll_cons r1
  obtain ⟨rfl, rfl, rfl⟩ := trodAll_nil r2
  obtain rfl : args = #[v0, v1, v2] := by cases args; simp_all
  obtain ⟨rfl, rfl⟩ := trodVars_none hV
  have hall := List.all_eq_true.1 hsz0
  clear hA0 hval0 hsz0
  simp only [List.append_nil] at hW'
  have hlt0 : ∀ x ∈ p0, x.block < W.heap.size := fun x hx => hW'.lt x (by simp [hx])
  have hlt1 : ∀ x ∈ p1, x.block < W.heap.size := fun x hx => hW'.lt x (by simp [hx])
  have hlt2 : ∀ x ∈ p2, x.block < W.heap.size := fun x hx => hW'.lt x (by simp [hx])
  obtain ⟨x0, g0, w0⟩ := open_kd (k := .dat (.int .i64)) (by kernel_rfl) (hval 0 3 v0 rfl rfl) h0
  obtain ⟨x1, g1, w1⟩ := open_kd (k := .dat (.sl (.pair (.int .i64) (.pair (.int .i64) (.int .i64))))) (by kernel_rfl) (hval 1 22 v1 rfl rfl) h1
  obtain ⟨x2, g2, w2⟩ := open_kd (k := .dat (.int .i64)) (by kernel_rfl) (hval 2 2 v2 rfl rfl) h2
  have z1 : x1.length * Try.prog.bytesOf 44 ≤ reachBytes := open_room (t := 22) (r1 := []) (by kernel_rfl) g1 h1 fun n hn => by
    refine of_decide_eq_true (hall n ?_)
    rw [Try.params7]
    change n ∈ DataW.weightsEach Try.prog [3, 22, 2] [d0, d1, d2]
    simp only [DataW.weightsEach]
    exact List.mem_append_right _ (List.mem_append_left _ (by simpa using hn))
  obtain ⟨N, hN⟩ := law_OpsKeys x0 x1 x2 w0 w1 w2 (by simpa only [show Try.prog.bytesOf 44 = 24 by kernel_rfl] using z1)
  refine (sp_keep_OpsKeys N (fun _ => False) W (x0, x1, x2, ()) (true, ()) [v0, v1, v2] (fun _ h => h.elim) hgw ⟨v0, _, rfl, g0, ⟨v1, _, rfl, g1, ⟨v2, _, rfl, g2, rfl⟩⟩⟩ hN).mono ?_
  rintro e W' ⟨v, rfl, hg, hr⟩
  replace hg := hg.old
  have hr : v = .bool true := by simpa only [kvals, retV, Kd.val, Go.Abs.enc, RV] using hr
  subst hr
  exact ⟨_, rfl, _, _, _, [], p0 ++ (p1 ++ (p2 ++ [])), [], hW', (trodAll_cons_mk (shut_bool (show Try.prog.underlying 4 = some .bool by kernel_rfl) _) trodAll_mk0), (trodAll_cons_mk (Below.trod laidOut (by kernel_rfl) (of_decide_eq_true (by kernel_rfl)) h0 hg hlt0) (trodAll_cons_mk (Below.trod laidOut (by kernel_rfl) (of_decide_eq_true (by kernel_rfl)) h1 hg hlt1) (trodAll_cons_mk (Below.trod laidOut (by kernel_rfl) (of_decide_eq_true (by kernel_rfl)) h2 hg hlt2) trodAll_mk0))), rfl, hg.frame _, fun h => by cases h⟩

/-- The statement: whatever the arguments, the law's function returns true and leaves them as they were. -/
theorem opsKeys_holds : Rows.OpsKeysSaid :=
  OpenClaim.holds_of_wide 7 Try.f7 rfl rfl rfl rfl rfl rfl rfl ⟨rfl, rfl, rfl, rfl, rfl⟩ rfl rfl rfl rfl rfl (by kernel_rfl) Try.func7 (by kernel_rfl)
    (of_decide_eq_true (by kernel_rfl)) (by unfold Func.isWrapper; first | (rw [if_pos (by decide +kernel)]; kernel_rfl) | (rw [if_neg (by decide +kernel)]; exact ⟨rfl, rfl⟩))
    (fun os started H enc _ => lifted_OpsKeys os started H enc)
end Go.Proofs.Ytkijpiphgnnonaa
