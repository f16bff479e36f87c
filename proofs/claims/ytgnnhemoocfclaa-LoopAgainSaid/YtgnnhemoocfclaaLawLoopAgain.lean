/- The limit's limit is itself, come to without a round, and of more edges it has no less: the law answers true for any edges and any rows. No condition. -/
import Derived.Test.YtgnnhemoocfclaaLopK
import Derived.Test.YtgnnhemoocfclaaFrame0
namespace Go.Proofs.Ytgnnhemoocfclaa
open Go Go.ChangeShapes Go.WideShapes Go.ChangeAt Go.WideMaps Go.WideElems Go.RowKit Go.Abs Go.Bag
-- watershed/watershedkeep.LoopAgain
abbrev Ks_keep_LoopAgain : List Kd := [.dat (.sl (.pair (.int .i64) (.pair (.int .i64) (.int .i64)))), .dat (.sl (.pair (.int .i64) (.pair (.int .i64) (.int .i64)))), .dat (.sl (.pair (.int .i64) (.pair (.int .i64) (.int .i64))))]
abbrev Rk_keep_LoopAgain : List Kd := [.dat (.bool)]
abbrev Rt_keep_LoopAgain : Type := Dens Rk_keep_LoopAgain
noncomputable def C_keep_LoopAgain (_N : Nat) : Ctx := { T := [], G := findE [mkQ 4 Ks_loop_Limit Rk_loop_Limit (D_loop_Limit _N), mkP 5 Ks_ref_BagsSame Rk_ref_BagsSame (D_ref_BagsSame _N), mkF 7 Ks_ref_There 40 (.pair (.int .i64) (.pair (.int .i64) (.int .i64))) (D_ref_There _N), mkP 6 Ks_keep_inside Rk_keep_inside (D_keep_inside _N), mkQ 8 Ks_keep_once Rk_keep_once (D_keep_once _N), mkQ 9 Ks_bags_Plus Rk_bags_Plus (D_bags_Plus _N)], I := findI [], N := _N, n := 94, fx := [], fl := 0, gs := [] }
noncomputable def keep_LoopAgain_1 (_N : Nat) (_x1 : List (Int × Int × Int)) (_x2 : List (Int × Int × Int)) (_x3 : List (Int × Int × Int)) : Option Rt_keep_LoopAgain :=
  ((D_loop_Limit _N (_x1, _x3, ())).bind fun _y11 => (bif (_y11.2.2.1 != (0 : Int)) then (some (true, ())) else ((D_loop_Limit _N (_x1, _y11.1, ())).bind fun _y12 => (bif (_y12.2.2.1 != (0 : Int)) then (some (false, ())) else (bif (_y12.2.1 != (0 : Int)) then (some (false, ())) else ((D_ref_BagsSame _N (_y12.1, _y11.1, ())).bind fun _y13 => (bif (!_y13.1) then (some (false, ())) else ((D_ref_There _N (_x3, ())).bind fun _y14 => ((D_keep_inside _N (_y14, _y11.1, ())).bind fun _y15 => (bif (!_y15.1) then (some (false, ())) else ((D_keep_once _N (_x1, ())).bind fun _y16 => ((D_keep_once _N (_x2, ())).bind fun _y17 => ((D_bags_Plus _N (_y16.1, _y17.1, ())).bind fun _y18 => (bif (_y16.2.1 != (0 : Int)) then (some (true, ())) else (bif (_y17.2.1 != (0 : Int)) then (some (true, ())) else (bif (_y18.2.1 != (0 : Int)) then (some (true, ())) else ((D_loop_Limit _N (_y18.1, _x3, ())).bind fun _y19 => (bif (_y19.2.2.1 != (0 : Int)) then (some (true, ())) else ((D_keep_inside _N (_y11.1, _y19.1, ())).bind fun _y20 => (some (_y20.1, ())))))))))))))))))))))
noncomputable def D_keep_LoopAgain (_N : Nat) (_x : Dens Ks_keep_LoopAgain) : Option Rt_keep_LoopAgain := keep_LoopAgain_1 _N _x.1 _x.2.1 _x.2.2.1
theorem sp_keep_LoopAgain (_N : Nat) : SpecD Try.prog [] 3 Ks_keep_LoopAgain Rk_keep_LoopAgain (D_keep_LoopAgain _N) := mkSpD (fn := Try.f3) (c := bodyOf Try.f3) (C := C_keep_LoopAgain _N)
    (a := .none)
    (by kernel_rfl) rfl (by kernel_rfl) (by kernel_rfl) ⟨rfl, by unfold TOk; kernel_rfl, gOk_of rfl rfl (List.forall_mem_cons.2 ⟨qen_loop_Limit _N, (List.forall_mem_cons.2 ⟨en_ref_BagsSame _N, (List.forall_mem_cons.2 ⟨en_ref_There _N, (List.forall_mem_cons.2 ⟨en_keep_inside _N, (List.forall_mem_cons.2 ⟨qen_keep_once _N, (List.forall_mem_cons.2 ⟨qen_bags_Plus _N, (List.forall_mem_nil _)⟩)⟩)⟩)⟩)⟩)⟩), iOk_of rfl rfl (List.forall_mem_nil _), rfl⟩ (fun _x => by kernel_rfl)
theorem law_LoopAgain (edges more x : List Row) (_we : wfS (.sl (.pair (.int .i64) (.pair (.int .i64) (.int .i64)))) edges) (_wm : wfS (.sl (.pair (.int .i64) (.pair (.int .i64) (.int .i64)))) more) (_wx : wfS (.sl (.pair (.int .i64) (.pair (.int .i64) (.int .i64)))) x) :
    ∃ N, D_keep_LoopAgain N (edges, more, x, ()) = some (true, ()) := by
  refine ⟨1000, ?_⟩
  generalize hNd : 1000 = N
  have hN : 1000 ≤ N := by omega
  simp only [D_keep_LoopAgain, keep_LoopAgain_1]
  rcases Limit_eq hN edges x with ⟨h, -⟩ | ⟨l1, l2, be, bx, b1, b2, b3, b4, hc⟩
  · simp only [h, Option.bind_some]; rfl
  rcases hc with ⟨h, -⟩ | ⟨m, h, hfix, hlen, -⟩
  · simp only [h, Option.bind_some]; rfl
  have sE := thr_bag b1
  have sX := thr_bag b2
  obtain ⟨bx', c1, -, c3⟩ := There_eq hN x l2 fun r hr => by
    obtain ⟨g1, g2, g3⟩ := _wx.2 r hr
    exact w_in' g3
  obtain rfl := c1.uniq b2
  have c3 : D_ref_There N (x, ()) = some (thr bx') := c3
  have sM := itr_s (E := thr be) sX m
  have hin : ∀ r ∈ thr bx', r ∈ itr (thr be) (thr bx') m := (sub_rows sX sM).2 fun k hk => itr_mono (Nat.zero_le m) hk
  have hX := thr_len bx'
  generalize hM : itr (thr be) (thr bx') m = M at *
  -- the limit of the limit
  rcases Limit_eq hN edges M with ⟨-, h9⟩ | ⟨-, -, be2, bM, d1, d2, -, -, hl⟩
  · omega
  obtain rfl := d1.uniq b1
  obtain rfl := bag_set sM d2
  rw [sM.t] at hl
  have stay : ∀ i, itr (thr be2) bM i = bM := fun i => itr_stay (E := thr be2) (X := bM) (i := 0) hfix (Nat.zero_le i)
  rcases hl with ⟨-, i, hi⟩ | ⟨p, hp, fp, np, hq⟩
  · rw [stay i] at hi; omega
  have hp0 : p = 0 := by
    cases p with
    | zero => rfl
    | succ p => exact absurd (by rw [stay 0]; exact hfix) (hq 0 (by omega))
  subst hp0
  rw [stay 0] at hp
  simp only [h, hp, c3, Option.bind_some, bne_self_eq_false, cond_false, Same_eq (N := N) (a := bM) (b := bM) (by omega) (by omega), decide_true, Bool.not_true, inside_eq (N := N) (a := thr bx') (b := bM) (by omega) (by omega) (by omega) (by omega), decide_eq_true hin,
    show (((0 : Nat) : Int) != 0) = false from rfl]
  rcases once_eq hN edges with ⟨-, te, e1, -, e3⟩ | ⟨h9, -⟩
  case inr => omega
  obtain rfl := e1.uniq d1
  rcases once_eq hN more with ⟨lm, tm, t1, -, t3⟩ | ⟨lm, t3⟩
  case inr =>
    obtain ⟨ab, ca, p1, p2⟩ := Plus_eq hN (thr te) []
    simp only [e3, t3, p1, Option.bind_some, bne_self_eq_false, cond_false]; rfl
  obtain ⟨ab, ca, p1, p2⟩ := Plus_eq hN (thr te) (thr tm)
  simp only [e3, t3, p1, Option.bind_some, bne_self_eq_false, cond_false]
  by_cases qa : ca = 0
  case neg => rw [show (ca != 0) = true from bne_iff_ne.2 qa]; rfl
  obtain ⟨q1, -, q2⟩ := p2.ok qa
  subst qa
  simp only [bne_self_eq_false, cond_false]
  have sT := thr_bag t1
  have sV : S1 (thr ab) := thr_s q2.rise
  have hsub : ∀ r ∈ thr te, r ∈ thr ab := (sub_rows sE sV).2 fun k hk => (sum_mem sE sT q2 k).2 (.inl hk)
  rcases Limit_eq hN ab x with ⟨hk, -⟩ | ⟨-, -, bab, bx2, w1, w2, -, -, hl⟩
  · simp only [hk, Option.bind_some]; rfl
  have hbab : bab = ab := (w1.cg fun e => q2.amt_cg e).uniq q2
  obtain rfl := hbab
  obtain rfl := w2.uniq c1
  rcases hl with ⟨hk, -⟩ | ⟨p, hk, fp, np, -⟩
  · simp only [hk, Option.bind_some]; rfl
  have sP := itr_s (E := thr bab) sX p
  have hfin : ∀ r ∈ bM, r ∈ itr (thr bab) (thr bx2) p := (sub_rows sM sP).2 fun k hk => by
    rw [← hM] at hk
    have h1 := itr_le (E := thr te) (F := thr bab) (X := thr bx2) (Y := thr bx2) hsub (fun k hk => hk) m k hk
    rcases Nat.le_total m p with hmp | hmp
    · exact itr_mono hmp h1
    · rw [← itr_stay (E := thr bab) (X := thr bx2) fp hmp]; exact h1
  simp only [hk, Option.bind_some, bne_self_eq_false, cond_false, inside_eq (N := N) (a := bM) (b := itr (thr bab) (thr bx2) p) (by omega) (by omega) (by omega) (by omega), decide_eq_true hfin]
set_option maxRecDepth 100000 in
theorem lifted_LoopAgain (os : Os) (started : os.Started) (H : Type) (enc : TypeId × Value → H) :
    ReturnsInHanded {} Try.checked os 3 .any (Rows.loopAgainSpec.pre6 enc Try.prog Try.f3 Rows.loopAgainRow.domain false) (Rows.loopAgainSpec.post enc Try.prog Try.f3 false true false false) := by
  refine returnsInHanded_of_change_sized (C := Try.checked) own started (by kernel_rfl) Try.func3
    (ChangeSpec.witness6 (enc := enc) (C := Try.checked) false ⟨#[], #[.slice none 0 0, .slice none 0 0, .slice none 0 0], []⟩ 8 (by kernel_rfl) (by kernel_rfl) (by kernel_rfl) (by kernel_rfl)) ?_
  intro W base args ds gs before hval0 hW _ hsz0 _
  have hgw : GW [] W := fun _ h => nomatch h
  have hval : ∀ (j : Nat) t v, Try.f3.params[j]? = some t → args[j]? = some v → Value.okWide Try.prog W .any base t v := hval0
  have hW' := hW
  obtain ⟨p, q, hA0, hV, rfl, _, _⟩ := hW
  have hA : DataW.TrodAll enc Try.prog W 0 (fun _ => true) true Try.f3.params.toList args.toList ds p := hA0
  rw [Try.params3] at hA hval
  obtain ⟨v0, vs0, d0, ds0, p0, q0, hargs, rfl, rfl, h0, r0⟩ := trodAll_cons hA
  obtain ⟨v1, vs1, d1, ds1, p1, q1, rfl, rfl, rfl, h1, r1⟩ := trodAll_cons r0
  obtain ⟨v2, vs2, d2, ds2, p2, q2, rfl, rfl, rfl, h2, r2⟩ := trodAll_cons r1
  obtain ⟨rfl, rfl, rfl⟩ := trodAll_nil r2
  obtain rfl : args = #[v0, v1, v2] := by cases args; simp_all
  obtain ⟨rfl, rfl⟩ := trodVars_none hV
  have hall := List.all_eq_true.1 hsz0
  clear hA0 hval0 hsz0
  simp only [List.append_nil] at hW'
  have hlt0 : ∀ x ∈ p0, x.block < W.heap.size := fun x hx => hW'.lt x (by simp [hx])
  have hlt1 : ∀ x ∈ p1, x.block < W.heap.size := fun x hx => hW'.lt x (by simp [hx])
  have hlt2 : ∀ x ∈ p2, x.block < W.heap.size := fun x hx => hW'.lt x (by simp [hx])
  obtain ⟨x0, g0, w0⟩ := open_kd (k := .dat (.sl (.pair (.int .i64) (.pair (.int .i64) (.int .i64))))) (by kernel_rfl) (hval 0 22 v0 rfl rfl) h0
  obtain ⟨x1, g1, w1⟩ := open_kd (k := .dat (.sl (.pair (.int .i64) (.pair (.int .i64) (.int .i64))))) (by kernel_rfl) (hval 1 22 v1 rfl rfl) h1
  obtain ⟨x2, g2, w2⟩ := open_kd (k := .dat (.sl (.pair (.int .i64) (.pair (.int .i64) (.int .i64))))) (by kernel_rfl) (hval 2 22 v2 rfl rfl) h2
  obtain ⟨N, hN⟩ := law_LoopAgain x0 x1 x2 w0 w1 w2
  refine (sp_keep_LoopAgain N (fun _ => False) W (x0, x1, x2, ()) (true, ()) [v0, v1, v2] (fun _ h => h.elim) hgw ⟨v0, _, rfl, g0, ⟨v1, _, rfl, g1, ⟨v2, _, rfl, g2, rfl⟩⟩⟩ hN).mono ?_
  rintro e W' ⟨v, rfl, hg, hr⟩
  replace hg := hg.old
  have hr : v = .bool true := by simpa only [kvals, retV, Kd.val, Go.Abs.enc, RV] using hr
  subst hr
  exact ⟨_, rfl, _, _, _, [], p0 ++ (p1 ++ (p2 ++ [])), [], hW', (trodAll_cons_mk (shut_bool (show Try.prog.underlying 4 = some .bool by kernel_rfl) _) trodAll_mk0), (trodAll_cons_mk (Below.trod laidOut (by kernel_rfl) (of_decide_eq_true (by kernel_rfl)) h0 hg hlt0) (trodAll_cons_mk (Below.trod laidOut (by kernel_rfl) (of_decide_eq_true (by kernel_rfl)) h1 hg hlt1) (trodAll_cons_mk (Below.trod laidOut (by kernel_rfl) (of_decide_eq_true (by kernel_rfl)) h2 hg hlt2) trodAll_mk0))), rfl, hg.frame _, fun h => by cases h⟩

/-- The statement: whatever the arguments, the law's function returns true and leaves them as they were. -/
theorem loopAgain_holds : Rows.LoopAgainSaid :=
  OpenClaim.holds_of_wide 3 Try.f3 rfl rfl rfl rfl rfl rfl rfl ⟨rfl, rfl, rfl, rfl, rfl⟩ rfl rfl rfl rfl rfl (by kernel_rfl) Try.func3 (by kernel_rfl)
    (of_decide_eq_true (by kernel_rfl)) (by unfold Func.isWrapper; first | (rw [if_pos (by decide +kernel)]; kernel_rfl) | (rw [if_neg (by decide +kernel)]; exact ⟨rfl, rfl⟩))
    (fun os started H enc _ => lifted_LoopAgain os started H enc)
end Go.Proofs.Ytgnnhemoocfclaa
