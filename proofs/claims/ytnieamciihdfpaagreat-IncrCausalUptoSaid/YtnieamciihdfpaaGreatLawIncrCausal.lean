/- What comes later, or beside, changes nothing of what stands at a time: the law answers true for every operator, any two histories and every time of bulk at most 1048576. (Beyond all room the two, one behind the other, do not fit: REPORT.) -/
import Derived.Test.YtnieamciihdfpaaGreatIncT
import Derived.Test.YtnieamciihdfpaaGreatFrameU
namespace Go.Proofs.YtnieamciihdfpaaGreat
open Go Go.ChangeShapes Go.WideShapes Go.ChangeAt Go.WideMaps Go.WideElems Go.RowKit Go.Abs Go.Bag Go.His
-- watershed/watershedkeep.IncrCausal
abbrev Ks_keep_IncrCausal : List Kd := [.dat (.pair (.int .i64) (.pair (.int .i64) (.int .i64))), .dat (.sl (.pair (.sl (.int .i64)) (.sl (.pair (.int .i64) (.pair (.int .i64) (.int .i64)))))), .dat (.sl (.pair (.sl (.int .i64)) (.sl (.pair (.int .i64) (.pair (.int .i64) (.int .i64)))))), .dat (.sl (.int .i64))]
abbrev Rk_keep_IncrCausal : List Kd := [.dat (.bool)]
abbrev Rt_keep_IncrCausal : Type := Dens Rk_keep_IncrCausal
noncomputable def C_keep_IncrCausal (_N : Nat) : Ctx := { T := [(23, ⟨.struct [(0, 3), (1, 2), (2, 2)], 3, 24, some (.pair (.int .i64) (.pair (.int .i64) (.int .i64))), [.int .i64 (0 : Int), .int .i64 (0 : Int), .int .i64 (0 : Int)], true, []⟩), (24, ⟨.slice 28, 1, 24, some (.sl (.pair (.sl (.int .i64)) (.sl (.pair (.int .i64) (.pair (.int .i64) (.int .i64)))))), [.nil], false, []⟩), (25, ⟨.slice 3, 1, 24, some (.sl (.int .i64)), [.nil], false, []⟩), (28, ⟨.struct [(0, 25), (1, 26)], 2, 48, some (.pair (.sl (.int .i64)) (.sl (.pair (.int .i64) (.pair (.int .i64) (.int .i64))))), [.nil, .nil], false, []⟩)], G := findE [mkQ 9 Ks_diffs_At Rk_diffs_At (D_diffs_At _N), mkP 10 Ks_keep_total Rk_keep_total (D_keep_total _N), mkP 11 Ks_keep_totalAt Rk_keep_totalAt (D_keep_totalAt _N), mkQ 12 Ks_incr_One Rk_incr_One (D_incr_One _N), mkQ 13 Ks_keep_both [.dat (.sl (.pair (.sl (.int .i64)) (.sl (.pair (.int .i64) (.pair (.int .i64) (.int .i64))))))] (fun _x => (D_keep_both _N _x).map fun _y => (_y, ())), mkP 14 Ks_ref_BagsSame Rk_ref_BagsSame (D_ref_BagsSame _N), mkP 8 Ks_ref_TimesLeq Rk_ref_TimesLeq (D_ref_TimesLeq _N)], I := findI [], N := _N, n := 89, fx := [], fl := 0, gs := [] }
noncomputable def keep_IncrCausal_1 (_N : Nat) (_v12 : List (List Int × List (Int × Int × Int))) (_v13 : List (List Int × List (Int × Int × Int))) (_v14 : List Int) (_v15 : Int) (_v16 : Int) (_v17 : Int) : Option Rt_keep_IncrCausal :=
  ((D_diffs_At _N (_v12, _v14, ())).bind fun _y33 => (bif (_y33.2.1 == (0 : Int)) then ((D_keep_total _N (_y33.1, ())).bind fun _y34 => ((D_keep_totalAt _N (_v12, _v14, ())).bind fun _y35 => (bif (_y34.1 != _y35.1) then (some (false, ())) else ((D_incr_One _N ((_v15, (_v16, _v17)), _v12, ())).bind fun _y36 => (((fun _x => (D_keep_both _N _x).map fun _y => (_y, ())) (_v12, _v13, ())).bind fun _y37 => ((D_incr_One _N ((_v15, (_v16, _v17)), _y37.1, ())).bind fun _y38 => (bif (_y36.2.1 != (0 : Int)) then (some (true, ())) else (bif (_y38.2.1 != (0 : Int)) then (some (true, ())) else ((D_diffs_At _N (_y36.1, _v14, ())).bind fun _y39 => ((D_diffs_At _N (_y38.1, _v14, ())).bind fun _y40 => (bif (_y39.2.1 != (0 : Int)) then (some (true, ())) else (bif (_y40.2.1 != (0 : Int)) then (some (true, ())) else ((D_ref_BagsSame _N (_y39.1, _y40.1, ())).bind fun _y41 => (some (_y41.1, ()))))))))))))))) else ((D_incr_One _N ((_v15, (_v16, _v17)), _v12, ())).bind fun _y42 => (((fun _x => (D_keep_both _N _x).map fun _y => (_y, ())) (_v12, _v13, ())).bind fun _y43 => ((D_incr_One _N ((_v15, (_v16, _v17)), _y43.1, ())).bind fun _y44 => (bif (_y42.2.1 != (0 : Int)) then (some (true, ())) else (bif (_y44.2.1 != (0 : Int)) then (some (true, ())) else ((D_diffs_At _N (_y42.1, _v14, ())).bind fun _y45 => ((D_diffs_At _N (_y44.1, _v14, ())).bind fun _y46 => (bif (_y45.2.1 != (0 : Int)) then (some (true, ())) else (bif (_y46.2.1 != (0 : Int)) then (some (true, ())) else ((D_ref_BagsSame _N (_y45.1, _y46.1, ())).bind fun _y47 => (some (_y47.1, ()))))))))))))))
noncomputable def keep_IncrCausal_2 (_N : Nat) (_k48 : ((List (List Int × List (Int × Int × Int))) × (List (List Int × List (Int × Int × Int))) × List Int × Int × Int × Int) → Option Rt_keep_IncrCausal) (_v1 : List (List Int × List (Int × Int × Int))) (_v2 : List (List Int × List (Int × Int × Int))) (_v3 : List Int) (_v4 : List (List Int × List (Int × Int × Int))) (_v5 : Int) (_v7 : Int) (_v8 : Int) (_v9 : Int) (_v6 : Int) (_kn49 : ((List (List Int × List (Int × Int × Int))) × (List (List Int × List (Int × Int × Int))) × List Int × (List (List Int × List (Int × Int × Int))) × Int × Int × Int × Int) × Int → Option Rt_keep_IncrCausal) : Option Rt_keep_IncrCausal :=
  (bif (decide (_v6 < _v5)) then (bif (decide (0 ≤ _v6) && decide (_v6 < (_v4.length : Int))) then ((D_ref_TimesLeq _N ((nth ([], []) _v4 (_v6).toNat).1, _v3, ())).bind fun _y50 => (bif _y50.1 then (some (true, ())) else (_kn49 ((_v1, _v2, _v3, _v4, _v5, _v7, _v8, _v9), (IntKind.i64.wrap (_v6 + (1 : Int))))))) else none) else (_k48 (_v1, _v2, _v3, _v7, _v8, _v9)))
noncomputable def keep_IncrCausal_3 (_N : Nat) (_x1 : Int × Int × Int) (_x2 : List (List Int × List (Int × Int × Int))) (_x3 : List (List Int × List (Int × Int × Int))) (_x4 : List Int) : Option Rt_keep_IncrCausal :=
  (joinD (fun (_s : (List (List Int × List (Int × Int × Int))) × (List (List Int × List (Int × Int × Int))) × List Int × Int × Int × Int) => keep_IncrCausal_1 _N _s.1 _s.2.1 _s.2.2.1 _s.2.2.2.1 _s.2.2.2.2.1 _s.2.2.2.2.2) fun _k48 => (loopE (fun (_c : (List (List Int × List (Int × Int × Int))) × (List (List Int × List (Int × Int × Int))) × List Int × (List (List Int × List (Int × Int × Int))) × Int × Int × Int × Int) (_s : Int) _kn => keep_IncrCausal_2 _N _k48 _c.1 _c.2.1 _c.2.2.1 _c.2.2.2.1 _c.2.2.2.2.1 _c.2.2.2.2.2.1 _c.2.2.2.2.2.2.1 _c.2.2.2.2.2.2.2 _s _kn) _N (_x2, _x3, _x4, _x3, (_x3.length : Int), _x1.1, _x1.2.1, _x1.2.2) (0 : Int)))
noncomputable def D_keep_IncrCausal (_N : Nat) (_x : Dens Ks_keep_IncrCausal) : Option Rt_keep_IncrCausal := keep_IncrCausal_3 _N _x.1 _x.2.1 _x.2.2.1 _x.2.2.2.1
theorem sp_keep_IncrCausal (_N : Nat) : SpecD Tryz.prog [] 3 Ks_keep_IncrCausal Rk_keep_IncrCausal (D_keep_IncrCausal _N) := mkSpD (fn := Tryz.f3) (c := bodyOf Tryz.f3) (C := C_keep_IncrCausal _N)
    (a := .two .none (.join 1 ⟨[(1, .sl (.pair (.sl (.int .i64)) (.sl (.pair (.int .i64) (.pair (.int .i64) (.int .i64)))))), (2, .sl (.pair (.sl (.int .i64)) (.sl (.pair (.int .i64) (.pair (.int .i64) (.int .i64)))))), (3, .sl (.int .i64)), (4, .ptr 0 0)], [.cells [.int .i64, .int .i64, .int .i64]]⟩ (.two .none (.one (.loop 1 ⟨[(1, .sl (.pair (.sl (.int .i64)) (.sl (.pair (.int .i64) (.pair (.int .i64) (.int .i64)))))), (2, .sl (.pair (.sl (.int .i64)) (.sl (.pair (.int .i64) (.pair (.int .i64) (.int .i64)))))), (3, .sl (.int .i64)), (4, .ptr 0 0), (19, .sl (.pair (.sl (.int .i64)) (.sl (.pair (.int .i64) (.pair (.int .i64) (.int .i64)))))), (20, .int .i64), (21, .int .i64)], [.cells [.int .i64, .int .i64, .int .i64]]⟩ [5] .none))) (.two .none (.two .none (.two .none (.two (.draw 0 [.rd [0], .pure, .pure, .pure, .pure, .pure, .pure, .pure, .pure, .pure]) .none))))))
    (by kernel_rfl) rfl (by kernel_rfl) (by kernel_rfl) ⟨rfl, by unfold TOk; kernel_rfl, gOk_of rfl rfl (List.forall_mem_cons.2 ⟨qen_diffs_At _N, (List.forall_mem_cons.2 ⟨en_keep_total _N, (List.forall_mem_cons.2 ⟨en_keep_totalAt _N, (List.forall_mem_cons.2 ⟨qen_incr_One _N, (List.forall_mem_cons.2 ⟨qen_keep_both _N, (List.forall_mem_cons.2 ⟨en_ref_BagsSame _N, (List.forall_mem_cons.2 ⟨en_ref_TimesLeq _N, (List.forall_mem_nil _)⟩)⟩)⟩)⟩)⟩)⟩)⟩), iOk_of rfl rfl (List.forall_mem_nil _), rfl⟩ (fun _x => by kernel_rfl)
theorem law_IncrCausal (op : Int × Int × Int) (h k : List Df) (t : List Int) (_wo : wfS (.pair (.int .i64) (.pair (.int .i64) (.int .i64))) op) (_wh : wfS (.sl (.pair (.sl (.int .i64)) (.sl (.pair (.int .i64) (.pair (.int .i64) (.int .i64)))))) h) (_wk : wfS (.sl (.pair (.sl (.int .i64)) (.sl (.pair (.int .i64) (.pair (.int .i64) (.int .i64)))))) k) (_wt : wfS (.sl (.int .i64)) t) (hz : h.length ≤ 1048576) (kz : k.length ≤ 1048576) :
    ∃ N, D_keep_IncrCausal N (op, h, k, t, ()) = some (true, ()) := by
  obtain ⟨N, hN⟩ : ∃ N, N = 10000000 := ⟨_, rfl⟩
  refine ⟨N, ?_⟩
  obtain ⟨n, A, B⟩ := op
  have hlen : (h ++ k).length ≤ 2097152 := by rw [List.length_append]; omega
  simp only [D_keep_IncrCausal, keep_IncrCausal_3, joinD, loopE]
  have hbody : ∀ (K : _ → Option Rt_keep_IncrCausal) (i : Nat), i < k.length → ∀ kn, keep_IncrCausal_2 N K h k t k (k.length : Int) n A B (i : Int) (backE (h, k, t, k, (k.length : Int), n, A, B) kn) = if leqT (nth zd k i).1 t = true then some (true, ()) else kn ((i : Int) + 1) := fun K i hi kn => by
    simp only [keep_IncrCausal_2, lt_d hi, ge0_d, Bool.and_self, cond_true, Int.toNat_natCast, RLeq_eq (N := N) (by omega), Option.bind_some, backE_eq, ix1 hi (show k.length ≤ 4611686018427387904 by omega)]
    cases leqT (nth zd k i).1 t with
    | true => rfl
    | false => rfl
  by_cases hg : ∃ i, i < k.length ∧ leqT (nth zd k i).1 t = true
  · exact loopD_hit (n := k.length) (by omega) (fun i => leqT (nth zd k i).1 t = true) (fun i hi hb kn => by rw [hbody _ i hi, if_pos hb]) (fun i hi hb kn => by rw [hbody _ i hi, if_neg hb]) (by omega) hg
  have hnot : ∀ d ∈ k, ¬ leqT d.1 t = true := fun d hd hh => by
    obtain ⟨i, hi, rfl⟩ := mem_nth (z := zd) hd
    exact hg ⟨i, hi, hh⟩
  refine (loopD_pass (n := k.length) (k := keep_IncrCausal_1 N h k t n A B) (by omega) (fun i hi kn => by rw [hbody _ i hi, if_neg fun h => hg ⟨i, hi, h⟩]) (fun kn => by simp only [keep_IncrCausal_2, lt_self, cond_false]) (by omega)).trans ?_
  obtain ⟨s, y, s1, s2⟩ := At_eq (N := N) (by omega) (h := h) (by omega) (by omega) t
  obtain ⟨a, e, a1, a2⟩ := incOne_eq (N := N) (by omega) n A B (h := h) (by omega) (by omega)
  obtain ⟨b, x, b1, b2⟩ := incOne_eq (N := N) (by omega) n A B (h := h ++ k) (by omega) (by omega)
  simp only [keep_IncrCausal_1, s1, a1, b1, both_eq (N := N) (h := h) (k := k) (by omega) (by omega) hz kz, Option.map_some, Option.bind_some]
  have hfin : (bif e != 0 then (some (true, ()) : Option Rt_keep_IncrCausal) else (bif x != 0 then (some (true, ())) else ((D_diffs_At N (a, t, ())).bind fun y45 => ((D_diffs_At N (b, t, ())).bind fun y46 => (bif (y45.2.1 != 0) then (some (true, ())) else (bif (y46.2.1 != 0) then (some (true, ())) else ((D_ref_BagsSame N (y45.1, y46.1, ())).bind fun y47 => (some (y47.1, ()))))))))) = some (true, ()) := by
    rcases a2 with ⟨rfl, I⟩ | ⟨he, -⟩
    case inr => rw [bne_iff_ne.2 he, cond_true]
    rcases b2 with ⟨rfl, J⟩ | ⟨he, -⟩
    case inr => rw [bne_self_eq_false, cond_false, bne_iff_ne.2 he, cond_true]
    have la := I.out.len
    have lb := J.out.len
    obtain ⟨c, p, c1, c2⟩ := At_eq (N := N) (by omega) (h := a) (by omega) (by omega) t
    obtain ⟨d, q, d1, d2⟩ := At_eq (N := N) (by omega) (h := b) (by omega) (by omega) t
    simp only [bne_self_eq_false, cond_false, c1, d1, Option.bind_some]
    by_cases qp : p = 0
    case neg => rw [bne_iff_ne.2 qp, cond_true]
    by_cases qq : q = 0
    case neg => rw [qp, bne_self_eq_false, cond_false, bne_iff_ne.2 qq, cond_true]
    obtain ⟨Hc, ic, lc⟩ := c2 qp
    obtain ⟨Hd, id, ld⟩ := d2 qq
    have hcd : c = d := by
      by_cases hone : ∀ d ∈ h ++ k, d.1.length = t.length
      · obtain ⟨u, u1, u2, u3⟩ := I.st t Hc.tt fun d hd => hone d (by simp [hd])
        obtain ⟨v, v1, v2, v3⟩ := J.st t Hc.tt hone
        have hk0 : stL k t = [] := by
          have key : ∀ g : List Df, (∀ d ∈ g, d ∈ k) → stL g t = [] := fun g => by
            induction g with
            | nil => intro _; rfl
            | cons d g ih =>
              intro hgg
              have hd := hgg d (by simp)
              have hno : ¬ undr d.1 t = true := fun hu => hnot d hd (by
                have h1 := hone d (by simp [hd])
                have h2 := J.his.tok (d := d) (by simp [hd])
                simp [leqT, alk, h1, h2, Hc.tt, hu])
              have h3 := ih fun x hx => hgg x (by simp [hx])
              unfold stL at h3 ⊢
              rw [List.flatMap_cons, h3, if_neg hno]; rfl
          exact key k fun d hd => hd
        rw [stL_app, hk0, List.append_nil] at v1
        obtain rfl := u1.uniq v1
        exact ic.same id fun z => (u3 z).trans (v3 z).symm
      · have ha : a = [] := by
          cases a with
          | nil => rfl
          | cons d0 a =>
            refine absurd (fun d hd => ?_) hone
            cases h with
            | nil => have := I.nil rfl; cases this
            | cons h0 h =>
              have e1 := I.one d0 (by simp) h0 (by simp)
              have e2 := Hc.one d0 (by simp)
              have e3 := J.his.one hd (show h0 ∈ h0 :: h ++ k by simp)
              omega
        have hb : b = [] := by
          cases b with
          | nil => rfl
          | cons d0 b =>
            refine absurd (fun d hd => ?_) hone
            have e1 := J.one d0 (by simp) d hd
            have e2 := Hd.one d0 (by simp)
            omega
        subst ha; subst hb
        exact ic.uniq id
    subst hcd
    rw [qp, qq, bne_self_eq_false, cond_false, cond_false, Same_eq (by omega) (by omega)]
    simp
  by_cases qy : y = 0
  · obtain ⟨HO, is, ls⟩ := s2 qy
    have hr : ∀ d ∈ h, d.2.length < N := fun d hd => by
      have h1 := HO.rows
      have key : ∀ g : List Df, d ∈ g → d.2.length ≤ cntR g := fun g => by
        unfold cntR
        induction g with
        | nil => intro h; cases h
        | cons c g ih =>
          intro h
          simp only [List.map_cons, List.sum_cons]
          rcases List.mem_cons.1 h with rfl | h
          · omega
          · have := ih h; omega
      have := key h hd
      omega
    have htot : w (tot s) = w (tot (stL h t)) := tot_cg fun z => is.amt_cg z
    rw [qy, beq_self_eq_true, cond_true, total_eq (by omega) (by omega), Option.bind_some, totalAt_eq (N := N) (by omega) (by omega) hr (by omega), Option.bind_some, sel_leq HO, htot]
    simp only [bne_self_eq_false, cond_false]
    exact hfin
  · rw [show (y == 0) = false from beq_false_of_ne qy, cond_false]
    exact hfin
set_option maxRecDepth 100000 in
theorem contract_IncrCausal (H : Type) (enc : TypeId × Value → H) (W : World) (base : Nat) (args : Array Value) (ds gs : List (DataW H)) (before : List MemPlace)
    (hval0 : ∀ (j : Nat) t v, Tryz.f3.params[j]? = some t → args[j]? = some v → Value.okWide Tryz.prog W .any base t v)
    (hW : DataW.Whole enc Tryz.prog Tryz.f3.params.toList Rows.incrCausalSpec.vars false W args.toList ds gs before) (hk : Rows.uptoSmall H (ds ++ gs) = true) :
    Calls Tryz.prog 3 args W fun e W' => ∃ v, e = .returned v ∧ Rows.incrCausalSpec.post enc Tryz.prog Tryz.f3 false true false false W args v W' := by
  have hgw : GW [] W := fun _ h => nomatch h
  have hval : ∀ (j : Nat) t v, Tryz.f3.params[j]? = some t → args[j]? = some v → Value.okWide Tryz.prog W .any base t v := hval0
  have hW' := hW
  obtain ⟨p, q, hA0, hV, rfl, _, _⟩ := hW
  have hA : DataW.TrodAll enc Tryz.prog W 0 (fun _ => true) true Tryz.f3.params.toList args.toList ds p := hA0
  rw [Tryz.params3] at hA hval
  obtain ⟨v0, vs0, d0, ds0, p0, q0, hargs, rfl, rfl, h0, r0⟩ := trodAll_cons hA
  obtain ⟨v1, vs1, d1, ds1, p1, q1, rfl, rfl, rfl, h1, r1⟩ := trodAll_cons r0
  obtain ⟨v2, vs2, d2, ds2, p2, q2, rfl, rfl, rfl, h2, r2⟩ := trodAll_cons r1
  obtain ⟨v3, vs3, d3, ds3, p3, q3, rfl, rfl, rfl, h3, r3⟩ := trodAll_cons r2
  obtain ⟨rfl, rfl, rfl⟩ := trodAll_nil r3
  obtain rfl : args = #[v0, v1, v2, v3] := by cases args; simp_all
  obtain ⟨rfl, rfl⟩ := trodVars_none hV
  have hall : Rows.uptoBulkAll [d0, d1, d2, d3] ≤ 1048576 := of_decide_eq_true hk
  simp only [Rows.uptoBulkAll] at hall
  clear hA0 hval0 hk
  simp only [List.append_nil] at hW'
  have hlt0 : ∀ x ∈ p0, x.block < W.heap.size := fun x hx => hW'.lt x (by simp [hx])
  have hlt1 : ∀ x ∈ p1, x.block < W.heap.size := fun x hx => hW'.lt x (by simp [hx])
  have hlt2 : ∀ x ∈ p2, x.block < W.heap.size := fun x hx => hW'.lt x (by simp [hx])
  have hlt3 : ∀ x ∈ p3, x.block < W.heap.size := fun x hx => hW'.lt x (by simp [hx])
  obtain ⟨x0, g0, w0⟩ := open_kd (k := .dat (.pair (.int .i64) (.pair (.int .i64) (.int .i64)))) (by kernel_rfl) (hval 0 23 v0 rfl rfl) h0
  obtain ⟨x1, g1, w1⟩ := open_kd (k := .dat (.sl (.pair (.sl (.int .i64)) (.sl (.pair (.int .i64) (.pair (.int .i64) (.int .i64))))))) (by kernel_rfl) (hval 1 24 v1 rfl rfl) h1
  obtain ⟨x2, g2, w2⟩ := open_kd (k := .dat (.sl (.pair (.sl (.int .i64)) (.sl (.pair (.int .i64) (.pair (.int .i64) (.int .i64))))))) (by kernel_rfl) (hval 2 24 v2 rfl rfl) h2
  obtain ⟨x3, g3, w3⟩ := open_kd (k := .dat (.sl (.int .i64))) (by kernel_rfl) (hval 3 25 v3 rfl rfl) h3
  have z1 : x1.length ≤ 1048576 := Nat.le_trans (bulk_sl (t := 24) (e := 28) (by kernel_rfl) g1 h1) (by omega)
  have z2 : x2.length ≤ 1048576 := Nat.le_trans (bulk_sl (t := 24) (e := 28) (by kernel_rfl) g2 h2) (by omega)
  obtain ⟨N, hN⟩ := law_IncrCausal x0 x1 x2 x3 w0 w1 w2 w3 z1 z2
  refine (sp_keep_IncrCausal N (fun _ => False) W (x0, x1, x2, x3, ()) (true, ()) [v0, v1, v2, v3] (fun _ h => h.elim) hgw ⟨v0, _, rfl, g0, ⟨v1, _, rfl, g1, ⟨v2, _, rfl, g2, ⟨v3, _, rfl, g3, rfl⟩⟩⟩⟩ hN).mono ?_
  rintro e W' ⟨v, rfl, hg, hr⟩
  replace hg := hg.old
  have hr : v = .bool true := by simpa only [kvals, retV, Kd.val, Go.Abs.enc, RV] using hr
  subst hr
  exact ⟨_, rfl, _, _, _, [], p0 ++ (p1 ++ (p2 ++ (p3 ++ []))), [], hW', (trodAll_cons_mk (shut_bool (show Tryz.prog.underlying 4 = some .bool by kernel_rfl) _) trodAll_mk0), (trodAll_cons_mk (Below.trod laidOut (by kernel_rfl) (of_decide_eq_true (by kernel_rfl)) h0 hg hlt0) (trodAll_cons_mk (Below.trod laidOut (by kernel_rfl) (of_decide_eq_true (by kernel_rfl)) h1 hg hlt1) (trodAll_cons_mk (Below.trod laidOut (by kernel_rfl) (of_decide_eq_true (by kernel_rfl)) h2 hg hlt2) (trodAll_cons_mk (Below.trod laidOut (by kernel_rfl) (of_decide_eq_true (by kernel_rfl)) h3 hg hlt3) trodAll_mk0)))), rfl, hg.frame _, fun h => by cases h⟩
set_option maxRecDepth 100000 in
theorem lifted_IncrCausal (os : Os) (started : os.Started) (H : Type) (enc : TypeId × Value → H) (F : Stop.Interp) :
    ReturnsInHanded {} Tryz.checked os 3 .any ((Rows.OpenSpec.upto Rows.incrCausalSpec).pre6 enc Tryz.prog Tryz.f3 Rows.incrCausalUptoRow.domain false) (((Rows.OpenSpec.upto Rows.incrCausalSpec).at F).post enc Tryz.prog Tryz.f3 false true false false) := by
  refine returnsInHanded_of_cond (C := Tryz.checked) (s := Rows.OpenSpec.upto Rows.incrCausalSpec) (k := Rows.uptoSmall) rfl own started (by kernel_rfl) Tryz.func3
    (OpenSpec.witness (enc := enc) (C := Tryz.checked) (s := Rows.OpenSpec.upto Rows.incrCausalSpec) (k := Rows.uptoSmall) rfl false ⟨#[], #[.agg #[.int .i64 0, .int .i64 0, .int .i64 0], .slice none 0 0, .slice none 0 0, .slice none 0 0], []⟩ 8 (by kernel_rfl) (by kernel_rfl) (by kernel_rfl)
      (x := ([.agg [(.lit (.int .i64 0)), (.lit (.int .i64 0)), (.lit (.int .i64 0))], .nil, .nil, .nil], [], [])) (by kernel_rfl) rfl (by kernel_rfl)) ?_
  intro W base args ds gs before hval hW _ hk _
  exact contract_IncrCausal H enc W base args ds gs before hval hW hk

/-- The statement, of what is of bulk at most 1048576: the law's function returns true and leaves its arguments as they were. -/
theorem incrCausal_holds : Rows.IncrCausalUptoSaid :=
  OpenClaim.holds_of_cond 3 Tryz.f3 rfl rfl rfl rfl rfl rfl rfl ⟨rfl, rfl, rfl, rfl, rfl⟩ rfl rfl rfl rfl rfl (by kernel_rfl) Tryz.func3 (by kernel_rfl)
    (of_decide_eq_true (by kernel_rfl)) (by unfold Func.isWrapper; first | (rw [if_pos (by decide +kernel)]; kernel_rfl) | (rw [if_neg (by decide +kernel)]; exact ⟨rfl, rfl⟩))
    (fun os started H enc _ F => lifted_IncrCausal os started H enc F)
end Go.Proofs.YtnieamciihdfpaaGreat
