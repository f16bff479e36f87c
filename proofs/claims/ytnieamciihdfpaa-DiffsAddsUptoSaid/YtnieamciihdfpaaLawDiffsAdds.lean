/- Of two histories together that stands which stands of each, in sum: the law answers true for any two histories and every time of bulk at most 1048576. (Beyond all room the two, one behind the other, do not fit: REPORT.) -/
import Derived.Test.YtnieamciihdfpaaHisV
import Derived.Test.YtnieamciihdfpaaFrameU
namespace Go.Proofs.Ytnieamciihdfpaa
open Go Go.ChangeShapes Go.WideShapes Go.ChangeAt Go.WideMaps Go.WideElems Go.RowKit Go.Abs Go.Bag Go.His
-- watershed/watershedkeep.DiffsAdds
abbrev Ks_keep_DiffsAdds : List Kd := [.dat (.sl (.pair (.sl (.int .i64)) (.sl (.pair (.int .i64) (.pair (.int .i64) (.int .i64)))))), .dat (.sl (.pair (.sl (.int .i64)) (.sl (.pair (.int .i64) (.pair (.int .i64) (.int .i64)))))), .dat (.sl (.int .i64))]
abbrev Rk_keep_DiffsAdds : List Kd := [.dat (.bool)]
abbrev Rt_keep_DiffsAdds : Type := Dens Rk_keep_DiffsAdds
noncomputable def C_keep_DiffsAdds (_N : Nat) : Ctx := { T := [], G := findE [mkQ 17 Ks_diffs_At Rk_diffs_At (D_diffs_At _N), mkG 19 Ks_keep_both 64 (.pair (.sl (.int .i64)) (.sl (.pair (.int .i64) (.pair (.int .i64) (.int .i64))))) (D_keep_both _N), mkD 17 Ks_diffs_At Rk_diffs_At (D_diffs_At _N), mkQ 20 Ks_bags_Plus Rk_bags_Plus (D_bags_Plus _N), mkP 18 Ks_ref_BagsSame Rk_ref_BagsSame (D_ref_BagsSame _N), mkP 21 Ks_keep_total Rk_keep_total (D_keep_total _N), mkP 22 Ks_keep_totalAt Rk_keep_totalAt (D_keep_totalAt _N)], I := findI [], N := _N, n := 69, fx := [], fl := 0, gs := [] }
noncomputable def keep_DiffsAdds_1 (_N : Nat) (_x1 : List (List Int × List (Int × Int × Int))) (_x2 : List (List Int × List (Int × Int × Int))) (_x3 : List Int) : Option Rt_keep_DiffsAdds :=
  ((D_diffs_At _N (_x1, _x3, ())).bind fun _y10 => ((D_diffs_At _N (_x2, _x3, ())).bind fun _y11 => ((D_keep_both _N (_x1, _x2, ())).bind fun _y12 => ((D_diffs_At _N (_y12, _x3, ())).bind fun _y13 => (bif (_y10.2.1 != (0 : Int)) then (some (true, ())) else (bif (_y11.2.1 != (0 : Int)) then (some (true, ())) else (bif (_y13.2.1 != (0 : Int)) then (some (true, ())) else ((D_bags_Plus _N (_y10.1, _y11.1, ())).bind fun _y14 => (bif (_y14.2.1 == (0 : Int)) then ((D_ref_BagsSame _N (_y13.1, _y14.1, ())).bind fun _y15 => (bif _y15.1 then ((D_keep_total _N (_y13.1, ())).bind fun _y16 => ((D_keep_totalAt _N (_x1, _x3, ())).bind fun _y17 => ((D_keep_totalAt _N (_x2, _x3, ())).bind fun _y18 => (some ((_y16.1 == (IntKind.i64.wrap (_y17.1 + _y18.1))), ()))))) else (some (false, ())))) else (some (false, ())))))))))))
noncomputable def D_keep_DiffsAdds (_N : Nat) (_x : Dens Ks_keep_DiffsAdds) : Option Rt_keep_DiffsAdds := keep_DiffsAdds_1 _N _x.1 _x.2.1 _x.2.2.1
theorem sp_keep_DiffsAdds (_N : Nat) : SpecD Try.prog [] 5 Ks_keep_DiffsAdds Rk_keep_DiffsAdds (D_keep_DiffsAdds _N) := mkSpD (fn := Try.f5) (c := bodyOf Try.f5) (C := C_keep_DiffsAdds _N)
    (a := .none)
    (by kernel_rfl) rfl (by kernel_rfl) (by kernel_rfl) ⟨rfl, by unfold TOk; kernel_rfl, gOk_of rfl rfl (List.forall_mem_cons.2 ⟨qen_diffs_At _N, (List.forall_mem_cons.2 ⟨en_keep_both _N, (List.forall_mem_cons.2 ⟨en_diffs_At _N, (List.forall_mem_cons.2 ⟨qen_bags_Plus _N, (List.forall_mem_cons.2 ⟨en_ref_BagsSame _N, (List.forall_mem_cons.2 ⟨en_keep_total _N, (List.forall_mem_cons.2 ⟨en_keep_totalAt _N, (List.forall_mem_nil _)⟩)⟩)⟩)⟩)⟩)⟩)⟩), iOk_of rfl rfl (List.forall_mem_nil _), rfl⟩ (fun _x => by kernel_rfl)
theorem law_DiffsAdds (h k : List Df) (t : List Int) (_wh : wfS (.sl (.pair (.sl (.int .i64)) (.sl (.pair (.int .i64) (.pair (.int .i64) (.int .i64)))))) h) (_wk : wfS (.sl (.pair (.sl (.int .i64)) (.sl (.pair (.int .i64) (.pair (.int .i64) (.int .i64)))))) k) (_wt : wfS (.sl (.int .i64)) t) (hz : h.length ≤ 1048576) (kz : k.length ≤ 1048576) :
    ∃ N, D_keep_DiffsAdds N (h, k, t, ()) = some (true, ()) := by
  obtain ⟨N, hN⟩ : ∃ N, N = 10000000 := ⟨_, rfl⟩
  refine ⟨N, ?_⟩
  have hlen : (h ++ k).length ≤ 2097152 := by rw [List.length_append]; omega
  obtain ⟨a, e, a1, a2⟩ := At_eq (N := N) (by omega) (h := h) (by omega) (by omega) t
  obtain ⟨b, x, b1, b2⟩ := At_eq (N := N) (by omega) (h := k) (by omega) (by omega) t
  obtain ⟨c, y, c1, c2⟩ := At_eq (N := N) (by omega) (h := h ++ k) (by omega) (by omega) t
  simp only [D_keep_DiffsAdds, keep_DiffsAdds_1, a1, b1, c1, both_eq (N := N) (h := h) (k := k) (by omega) (by omega) hz kz, Option.bind_some]
  by_cases qe : e = 0
  case neg => rw [bne_iff_ne.2 qe, cond_true]
  by_cases qx : x = 0
  case neg => rw [qe, bne_self_eq_false, cond_false, bne_iff_ne.2 qx, cond_true]
  by_cases qy : y = 0
  case neg => rw [qe, qx, bne_self_eq_false, cond_false, cond_false, bne_iff_ne.2 qy, cond_true]
  obtain ⟨Ha, ia, la⟩ := a2 qe
  obtain ⟨Hb, ib, lb⟩ := b2 qx
  obtain ⟨Hc, ic, lc⟩ := c2 qy
  obtain ⟨d, z, d1, d2⟩ := Plus_eq (N := N) (by omega) a b
  have hsum : ∀ v, Cg (amt c v) (1 * amt a v + 1 * amt b v) := fun v => by
    refine (ic.amt_cg v).trans ?_
    rw [stL_app, amt_append]
    refine Cg.trans (((ia.amt_cg v).add (ib.amt_cg v)).symm) (Cg.of_eq (by omega))
  obtain rfl : z = 0 := d2.is0 (by omega) lc fun v hv => (hsum v).symm.trans (Cg.of_eq (amt_notin hv))
  obtain ⟨-, -, id⟩ := d2.ok rfl
  have hcd : c = d := (isbag_self ic).same id hsum
  subst hcd
  have hra : ∀ {g : List Df}, HOk g t → ∀ d ∈ g, d.2.length < N := fun {g} G d hd => by
    have h1 := G.rows
    have key : ∀ g : List Df, d ∈ g → d.2.length ≤ cntR g := fun g => by
      unfold cntR
      induction g with
      | nil => intro h; cases h
      | cons c g ih =>
        intro h
        simp only [List.map_cons, List.sum_cons]
        rcases List.mem_cons.1 h with rfl | h
        · omega
        · have := ih h; omega
    have := key g hd
    omega
  have htot : w (tot c) = IntKind.i64.wrap (w (tot (stL h t)) + w (tot (stL k t))) := by
    have h1 : Cg (tot c) (tot (stL (h ++ k) t)) := tot_cg fun z => ic.amt_cg z
    rw [stL_app, tot_append] at h1
    exact Cg.trans h1 ((cg_w _).add (cg_w _)).symm
  simp only [qe, qx, qy, bne_self_eq_false, cond_false, d1, Option.bind_some, beq_self_eq_true, cond_true, Same_eq (N := N) (a := c) (b := c) (by omega) (by omega), decide_true, total_eq (N := N) (l := c) (by omega) (by omega), totalAt_eq (N := N) (by omega) (t := t) (show h.length < N by omega) (hra Ha) (by omega), totalAt_eq (N := N) (by omega) (t := t) (show k.length < N by omega) (hra Hb) (by omega), sel_leq Ha, sel_leq Hb, htot]
set_option maxRecDepth 100000 in
theorem contract_DiffsAdds (H : Type) (enc : TypeId × Value → H) (W : World) (base : Nat) (args : Array Value) (ds gs : List (DataW H)) (before : List MemPlace)
    (hval0 : ∀ (j : Nat) t v, Try.f5.params[j]? = some t → args[j]? = some v → Value.okWide Try.prog W .any base t v)
    (hW : DataW.Whole enc Try.prog Try.f5.params.toList Rows.diffsAddsSpec.vars false W args.toList ds gs before) (hk : Rows.uptoSmall H (ds ++ gs) = true) :
    Calls Try.prog 5 args W fun e W' => ∃ v, e = .returned v ∧ Rows.diffsAddsSpec.post enc Try.prog Try.f5 false true false false W args v W' := by
  have hgw : GW [] W := fun _ h => nomatch h
  have hval : ∀ (j : Nat) t v, Try.f5.params[j]? = some t → args[j]? = some v → Value.okWide Try.prog W .any base t v := hval0
  have hW' := hW
  obtain ⟨p, q, hA0, hV, rfl, _, _⟩ := hW
  have hA : DataW.TrodAll enc Try.prog W 0 (fun _ => true) true Try.f5.params.toList args.toList ds p := hA0
  rw [Try.params5] at hA hval
  obtain ⟨v0, vs0, d0, ds0, p0, q0, hargs, rfl, rfl, h0, r0⟩ := trodAll_cons hA
  obtain ⟨v1, vs1, d1, ds1, p1, q1, rfl, rfl, rfl, h1, r1⟩ := trodAll_cons r0
  obtain ⟨v2, vs2, d2, ds2, p2, q2, rfl, rfl, rfl, h2, r2⟩ := trodAll_cons r1
  obtain ⟨rfl, rfl, rfl⟩ := trodAll_nil r2
  obtain rfl : args = #[v0, v1, v2] := by cases args; simp_all
  obtain ⟨rfl, rfl⟩ := trodVars_none hV
  have hall : Rows.uptoBulkAll [d0, d1, d2] ≤ 1048576 := of_decide_eq_true hk
  simp only [Rows.uptoBulkAll] at hall
  clear hA0 hval0 hk
  simp only [List.append_nil] at hW'
  have hlt0 : ∀ x ∈ p0, x.block < W.heap.size := fun x hx => hW'.lt x (by simp [hx])
  have hlt1 : ∀ x ∈ p1, x.block < W.heap.size := fun x hx => hW'.lt x (by simp [hx])
  have hlt2 : ∀ x ∈ p2, x.block < W.heap.size := fun x hx => hW'.lt x (by simp [hx])
  obtain ⟨x0, g0, w0⟩ := open_kd (k := .dat (.sl (.pair (.sl (.int .i64)) (.sl (.pair (.int .i64) (.pair (.int .i64) (.int .i64))))))) (by kernel_rfl) (hval 0 22 v0 rfl rfl) h0
  obtain ⟨x1, g1, w1⟩ := open_kd (k := .dat (.sl (.pair (.sl (.int .i64)) (.sl (.pair (.int .i64) (.pair (.int .i64) (.int .i64))))))) (by kernel_rfl) (hval 1 22 v1 rfl rfl) h1
  obtain ⟨x2, g2, w2⟩ := open_kd (k := .dat (.sl (.int .i64))) (by kernel_rfl) (hval 2 32 v2 rfl rfl) h2
  have z0 : x0.length ≤ 1048576 := Nat.le_trans (bulk_sl (t := 22) (e := 64) (by kernel_rfl) g0 h0) (by omega)
  have z1 : x1.length ≤ 1048576 := Nat.le_trans (bulk_sl (t := 22) (e := 64) (by kernel_rfl) g1 h1) (by omega)
  obtain ⟨N, hN⟩ := law_DiffsAdds x0 x1 x2 w0 w1 w2 z0 z1
  refine (sp_keep_DiffsAdds N (fun _ => False) W (x0, x1, x2, ()) (true, ()) [v0, v1, v2] (fun _ h => h.elim) hgw ⟨v0, _, rfl, g0, ⟨v1, _, rfl, g1, ⟨v2, _, rfl, g2, rfl⟩⟩⟩ hN).mono ?_
  rintro e W' ⟨v, rfl, hg, hr⟩
  replace hg := hg.old
  have hr : v = .bool true := by simpa only [kvals, retV, Kd.val, Go.Abs.enc, RV] using hr
  subst hr
  exact ⟨_, rfl, _, _, _, [], p0 ++ (p1 ++ (p2 ++ [])), [], hW', (trodAll_cons_mk (shut_bool (show Try.prog.underlying 4 = some .bool by kernel_rfl) _) trodAll_mk0), (trodAll_cons_mk (Below.trod laidOut (by kernel_rfl) (of_decide_eq_true (by kernel_rfl)) h0 hg hlt0) (trodAll_cons_mk (Below.trod laidOut (by kernel_rfl) (of_decide_eq_true (by kernel_rfl)) h1 hg hlt1) (trodAll_cons_mk (Below.trod laidOut (by kernel_rfl) (of_decide_eq_true (by kernel_rfl)) h2 hg hlt2) trodAll_mk0))), rfl, hg.frame _, fun h => by cases h⟩
set_option maxRecDepth 100000 in
theorem lifted_DiffsAdds (os : Os) (started : os.Started) (H : Type) (enc : TypeId × Value → H) (F : Stop.Interp) :
    ReturnsInHanded {} Try.checked os 5 .any ((Rows.OpenSpec.upto Rows.diffsAddsSpec).pre6 enc Try.prog Try.f5 Rows.diffsAddsUptoRow.domain false) (((Rows.OpenSpec.upto Rows.diffsAddsSpec).at F).post enc Try.prog Try.f5 false true false false) := by
  refine returnsInHanded_of_cond (C := Try.checked) (s := Rows.OpenSpec.upto Rows.diffsAddsSpec) (k := Rows.uptoSmall) rfl own started (by kernel_rfl) Try.func5
    (OpenSpec.witness (enc := enc) (C := Try.checked) (s := Rows.OpenSpec.upto Rows.diffsAddsSpec) (k := Rows.uptoSmall) rfl false ⟨#[], #[.slice none 0 0, .slice none 0 0, .slice none 0 0], []⟩ 8 (by kernel_rfl) (by kernel_rfl) (by kernel_rfl)
      (x := ([.nil, .nil, .nil], [], [])) (by kernel_rfl) rfl (by kernel_rfl)) ?_
  intro W base args ds gs before hval hW _ hk _
  exact contract_DiffsAdds H enc W base args ds gs before hval hW hk

/-- The statement, of what is of bulk at most 1048576: the law's function returns true and leaves its arguments as they were. -/
theorem diffsAdds_holds : Rows.DiffsAddsUptoSaid :=
  OpenClaim.holds_of_cond 5 Try.f5 rfl rfl rfl rfl rfl rfl rfl ⟨rfl, rfl, rfl, rfl, rfl⟩ rfl rfl rfl rfl rfl (by kernel_rfl) Try.func5 (by kernel_rfl)
    (of_decide_eq_true (by kernel_rfl)) (by unfold Func.isWrapper; first | (rw [if_pos (by decide +kernel)]; kernel_rfl) | (rw [if_neg (by decide +kernel)]; exact ⟨rfl, rfl⟩))
    (fun os started H enc _ F => lifted_DiffsAdds os started H enc F)
end Go.Proofs.Ytnieamciihdfpaa
