/- LabelsLeast. No condition. -/
import Derived.Test.YtgnhcmdmlcjpkaaDoorLabS
import Derived.Test.YtgnhcmdmlcjpkaaDoorFrame
namespace Go.Proofs.YtgnhcmdmlcjpkaaDoor
open Go Go.ChangeShapes Go.WideShapes Go.ChangeAt Go.WideMaps Go.WideElems Go.RowKit Go.Abs Go.Gr
-- watershed/watershedkeep.LabelsLeast
abbrev Ks_keep_LabelsLeast : List Kd := [.dat (.pair (.int .i64) (.sl (.int .u32))), .dat (.pair (.sl (.pair (.int .i64) (.pair (.int .i64) (.pair (.int .i64) (.pair (.int .i64) (.int .i64)))))) (.sl (.pair (.int .i64) (.pair (.int .i64) (.int .i64))))), .dat (.sl (.int .i64)), .dat (.sl (.int .i64))]
abbrev Rk_keep_LabelsLeast : List Kd := [.dat (.bool)]
abbrev Rt_keep_LabelsLeast : Type := Dens Rk_keep_LabelsLeast
noncomputable def C_keep_LabelsLeast (_N : Nat) : Ctx := { T := [(24, ⟨.struct [(0, 3), (1, 22)], 2, 32, some (.pair (.int .i64) (.sl (.int .u32))), [.int .i64 (0 : Int), .nil], false, []⟩), (28, ⟨.struct [(0, 25), (1, 26)], 2, 48, some (.pair (.sl (.pair (.int .i64) (.pair (.int .i64) (.pair (.int .i64) (.pair (.int .i64) (.int .i64)))))) (.sl (.pair (.int .i64) (.pair (.int .i64) (.int .i64))))), [.nil, .nil], false, []⟩), (29, ⟨.slice 3, 1, 24, some (.sl (.int .i64)), [.nil], false, []⟩), (30, ⟨.int .i64, 1, 8, some (.int .i64), [.int .i64 (0 : Int)], false, []⟩), (32, ⟨.struct [(0, 30), (1, 3)], 2, 16, some (.pair (.int .i64) (.int .i64)), [.int .i64 (0 : Int), .int .i64 (0 : Int)], true, []⟩)], G := findE [mkP 13 Ks_ref_LabelsCheck Rk_ref_LabelsCheck (D_ref_LabelsCheck _N), mkP 19 Ks_labels_Legal Rk_labels_Legal (D_labels_Legal _N), mkQ 11 Ks_labels_Infer Rk_labels_Infer (D_labels_Infer _N), mkP 20 Ks_keep_rises Rk_keep_rises (D_keep_rises _N)], I := findI [], N := _N, n := 68, fx := [], fl := 0, gs := Gs }
noncomputable def keep_LabelsLeast_1 (_N : Nat) (_x1 : Int × List Int) (_x2 : List (Int × Int × Int × Int × Int) × List (Int × Int × Int)) (_x3 : List Int) (_x4 : List Int) : Option Rt_keep_LabelsLeast :=
  ((D_ref_LabelsCheck _N ((_x1.1, _x1.2), (_x2.1, _x2.2), _x3, ())).bind fun _y9 => (bif (_y9.1.1 != (0 : Int)) then ((D_labels_Legal _N ((_x1.1, _x1.2), (_x2.1, _x2.2), _x3, ())).bind fun _y10 => (some ((_y10.1.1 != (0 : Int)), ()))) else ((D_labels_Infer _N ((_x1.1, _x1.2), (_x2.1, _x2.2), _x3, ())).bind fun _y11 => (bif (_y11.2.1.1 != (0 : Int)) then (some (((_y11.1.length : Int) == (0 : Int)), ())) else ((D_labels_Legal _N ((_x1.1, _x1.2), (_x2.1, _x2.2), _y11.1, ())).bind fun _y12 => (bif (_y12.1.1 != (0 : Int)) then (some (false, ())) else ((D_keep_rises _N ((_x1.1, _x1.2), _x3, _y11.1, ())).bind fun _y13 => (bif (!_y13.1) then (some (false, ())) else ((D_labels_Legal _N ((_x1.1, _x1.2), (_x2.1, _x2.2), _x4, ())).bind fun _y14 => (bif (_y14.1.1 != (0 : Int)) then (some (true, ())) else ((D_keep_rises _N ((_x1.1, _x1.2), _x3, _x4, ())).bind fun _y15 => (bif (!_y15.1) then (some (true, ())) else ((D_keep_rises _N ((_x1.1, _x1.2), _y11.1, _x4, ())).bind fun _y16 => (some (_y16.1, ())))))))))))))))
noncomputable def D_keep_LabelsLeast (_N : Nat) (_x : Dens Ks_keep_LabelsLeast) : Option Rt_keep_LabelsLeast := keep_LabelsLeast_1 _N _x.1 _x.2.1 _x.2.2.1 _x.2.2.2.1
theorem sp_keep_LabelsLeast (_N : Nat) : SpecD Tryd.prog Gs 5 Ks_keep_LabelsLeast Rk_keep_LabelsLeast (D_keep_LabelsLeast _N) := mkSpD (fn := Tryd.f5) (c := bodyOf Tryd.f5) (C := C_keep_LabelsLeast _N)
    (a := .none)
    (by kernel_rfl) rfl (by kernel_rfl) (by kernel_rfl) ⟨rfl, by unfold TOk; kernel_rfl, gOk_of rfl rfl (List.forall_mem_cons.2 ⟨en_ref_LabelsCheck _N, (List.forall_mem_cons.2 ⟨en_labels_Legal _N, (List.forall_mem_cons.2 ⟨qen_labels_Infer _N, (List.forall_mem_cons.2 ⟨en_keep_rises _N, (List.forall_mem_nil _)⟩)⟩)⟩)⟩), iOk_of rfl rfl (List.forall_mem_nil _), rfl⟩ (fun _x => by kernel_rfl)
theorem en_keep_LabelsLeast (_N : Nat) : EntOk Tryd.prog Gs (mkP 5 Ks_keep_LabelsLeast Rk_keep_LabelsLeast (D_keep_LabelsLeast _N)) := entP ⟨Tryd.f5, bodyOf Tryd.f5, by kernel_rfl, by kernel_rfl, rfl⟩ (by kernel_rfl) (sp_keep_LabelsLeast _N)
namespace Gh
theorem lab_least {N : Nat} (hN : 1000 ≤ N) {up : List Int} (hw : WL up) (n : Int) (ns : List Nd) (es : List Ed) (fl l : List Int) (hf : fl.length < N) (hl : l.length < N) (hl2 : l.length ≤ 100000 ∨ True) :
    D_keep_LabelsLeast N ((n, up), (ns, es), fl, l, ()) = some (true, ()) := by
  obtain ⟨c, p, e1, e2⟩ := LabelsCheck_eq hN hw n ns es fl hf
  obtain ⟨c2, p2, e3, e4⟩ := Legal_eq hN hw n ns es fl hf
  simp only [D_keep_LabelsLeast, keep_LabelsLeast_1, e1, e3, Option.bind_some]
  by_cases h : LabOk n up ns es fl
  case neg =>
    rw [show (c != 0) = true from bne_iff_ne.2 fun h' => h (e2.1 h'), cond_true, show (c2 != 0) = true from bne_iff_ne.2 fun h' => h (e4.1 h').1]
  rw [e2.2 h, bne_self_eq_false, cond_false]
  rcases Infer_eq hN hw n ns es fl hf with ⟨h', _⟩ | ⟨_, ms, hI, e5⟩
  · exact absurd h h'
  have hn := h.gr.n12
  obtain ⟨m, rfl⟩ : ∃ m : Nat, n = (m : Int) := ⟨n.toNat, by have := h.ord.h0; omega⟩
  have hm : m ≤ 16 := by have := h.ord.h1; omega
  have hul : up.length = m := by have := h.ord.len; omega
  simp only [Int.toNat_natCast] at hI
  have hlab : LOk m ns.length fl := by simpa using h.lab
  have hml := hI.ok.len
  have hfl := hlab.len
  obtain ⟨c3, p3, e6, e7⟩ := Legal_eq hN hw (m : Int) ns es ms (by omega)
  obtain ⟨r1, e8, e9⟩ := rises_eq (N := N) hw hul hm (a := fl) (b := ms) hf (by omega) (by omega) (by omega)
  obtain ⟨c4, p4, e10, e11⟩ := Legal_eq hN hw (m : Int) ns es l hl
  have hm3 : LabOk (m : Int) up ns es ms := ⟨h.ord, h.lat, h.gr, by simpa using hI.ok⟩
  simp only [e5, Option.bind_some, bne_self_eq_false, cond_false, e6, e7.2 ⟨hm3, hI.lgl⟩, e8, e9.2 ⟨by rw [hml]; exact hlab, by rw [hfl]; exact hI.ok, by rw [hfl]; exact hI.rise⟩, Bool.not_true, e10]
  by_cases q : LabOk (m : Int) up ns es l ∧ Lgl up es l
  case neg => rw [show (c4 != 0) = true from bne_iff_ne.2 fun h' => q (e11.1 h')]; rfl
  have hlk : LOk m ns.length l := by simpa using q.1.lab
  have hll := hlk.len
  obtain ⟨r2, e12, e13⟩ := rises_eq (N := N) hw hul hm (a := fl) (b := l) hf hl (by omega) (by omega)
  obtain ⟨r3, e14, e15⟩ := rises_eq (N := N) hw hul hm (a := ms) (b := l) (by omega) hl (by omega) (by omega)
  simp only [e11.2 q, bne_self_eq_false, cond_false, e12, Option.bind_some, e14]
  cases r2 with
  | false => rfl
  | true =>
    have := (e13.1 rfl).2.2
    rw [hfl] at this
    simp only [Bool.not_true, cond_false]
    rw [e15.2 ⟨by rw [hll]; exact hI.ok, by rw [hml]; exact hlk, by rw [hml]; exact hI.least l hlk q.2 this⟩]
end Gh
theorem law_LabelsLeast (o : Int × List Int) (g : List (Int × Int × Int × Int × Int) × List (Int × Int × Int)) (fl l : List Int) (wo : wfS (.pair (.int .i64) (.sl (.int .u32))) o) (_wg : wfS (.pair (.sl (.pair (.int .i64) (.pair (.int .i64) (.pair (.int .i64) (.pair (.int .i64) (.int .i64)))))) (.sl (.pair (.int .i64) (.pair (.int .i64) (.int .i64))))) g) (_wf : wfS (.sl (.int .i64)) fl) (_wl : wfS (.sl (.int .i64)) l) : ∃ N, D_keep_LabelsLeast N (o, g, fl, l, ()) = some (true, ()) :=
  ⟨1000 + fl.length + l.length, Gh.lab_least (by omega) wo.2.2 o.1 g.1 g.2 fl l (by omega) (by omega) (.inr trivial)⟩
set_option maxRecDepth 100000 in
theorem lifted_LabelsLeast (os : Os) (started : os.Started) (H : Type) (enc : TypeId × Value → H) :
    ReturnsInHanded {} Tryd.checked os 5 .any (fun w args => (Rows.labelsLeastSpec.pre enc Tryd.prog Tryd.f5 [] false w args ∧ laidMetH Tryd.prog Rows.labelsLeastRow.laid w) ∧ sizedMet enc Tryd.prog Tryd.f5 (OpenSpec.ofChange Rows.labelsLeastSpec) false w args) (Rows.labelsLeastSpec.post enc Tryd.prog Tryd.f5 false true false false) := by
  refine returnsInHanded_of_change_and (C := Tryd.checked) (X := fun w _ => laidMetH Tryd.prog Rows.labelsLeastRow.laid w) (fun _ _ _ hh h => h.of_heap hh) own started (by kernel_rfl) Tryd.func5
    (ChangeSpec.witness_shaped (enc := enc) (C := Tryd.checked) (os := os) (X := fun w _ => laidMetH Tryd.prog Rows.labelsLeastRow.laid w) false (World.doorLaid Tryd.prog 400 os) #[.agg #[.int .i64 0, .slice none 0 0], .agg #[.slice none 0 0, .slice none 0 0], .slice none 0 0, .slice none 0 0] 8 rfl (World.shaped_of_RefB (by kernel_rfl) (by kernel_rfl)) (by kernel_rfl) (by kernel_rfl) (by kernel_rfl) (door_met os _)) ?_
  intro W base args ds gs before hval0 hW _ hsz0 hL _
  have hgw : GW Gs W := gw_of hL
  have hval : ∀ (j : Nat) t v, Tryd.f5.params[j]? = some t → args[j]? = some v → Value.okWide Tryd.prog W .any base t v := hval0
  have hW' := hW
  obtain ⟨p, q, hA0, hV, rfl, _, _⟩ := hW
  have hA : DataW.TrodAll enc Tryd.prog W 0 (fun _ => true) true Tryd.f5.params.toList args.toList ds p := hA0
  rw [Tryd.params5] at hA hval
  obtain ⟨v0, vs0, d0, ds0, p0, q0, hargs, rfl, rfl, h0, r0⟩ := trodAll_cons hA
  obtain ⟨v1, vs1, d1, ds1, p1, q1, rfl, rfl, rfl, h1, r1⟩ := trodAll_cons r0
  obtain ⟨v2, vs2, d2, ds2, p2, q2, rfl, rfl, rfl, h2, r2⟩ := trodAll_cons r1
  obtain ⟨v3, vs3, d3, ds3, p3, q3, rfl, rfl, rfl, h3, r3⟩ := trodAll_cons r2
  obtain ⟨rfl, rfl, rfl⟩ := trodAll_nil r3
  obtain rfl : args = #[v0, v1, v2, v3] := by cases args; simp_all
  obtain ⟨rfl, rfl⟩ := trodVars_none hV
  have hall := List.all_eq_true.1 hsz0
  clear hA0 hval0 hsz0
  simp only [List.append_nil] at hW'
  have hlt0 : ∀ x ∈ p0, x.block < W.heap.size := fun x hx => hW'.lt x (by simp [hx])
  have hlt1 : ∀ x ∈ p1, x.block < W.heap.size := fun x hx => hW'.lt x (by simp [hx])
  have hlt2 : ∀ x ∈ p2, x.block < W.heap.size := fun x hx => hW'.lt x (by simp [hx])
  have hlt3 : ∀ x ∈ p3, x.block < W.heap.size := fun x hx => hW'.lt x (by simp [hx])
  obtain ⟨x0, g0, w0⟩ := open_kd (k := .dat (.pair (.int .i64) (.sl (.int .u32)))) (by kernel_rfl) (hval 0 24 v0 rfl rfl) h0
  obtain ⟨x1, g1, w1⟩ := open_kd (k := .dat (.pair (.sl (.pair (.int .i64) (.pair (.int .i64) (.pair (.int .i64) (.pair (.int .i64) (.int .i64)))))) (.sl (.pair (.int .i64) (.pair (.int .i64) (.int .i64)))))) (by kernel_rfl) (hval 1 28 v1 rfl rfl) h1
  obtain ⟨x2, g2, w2⟩ := open_kd (k := .dat (.sl (.int .i64))) (by kernel_rfl) (hval 2 29 v2 rfl rfl) h2
  obtain ⟨x3, g3, w3⟩ := open_kd (k := .dat (.sl (.int .i64))) (by kernel_rfl) (hval 3 29 v3 rfl rfl) h3
  obtain ⟨N, hN⟩ := law_LabelsLeast x0 x1 x2 x3 w0 w1 w2 w3
  refine (sp_keep_LabelsLeast N (fun _ => False) W (x0, x1, x2, x3, ()) (true, ()) [v0, v1, v2, v3] (fun _ h => h.elim) hgw ⟨v0, _, rfl, g0, ⟨v1, _, rfl, g1, ⟨v2, _, rfl, g2, ⟨v3, _, rfl, g3, rfl⟩⟩⟩⟩ hN).mono ?_
  rintro e W' ⟨v, rfl, hg, hr⟩
  replace hg := hg.old
  have hr : v = .bool true := by simpa only [kvals, retV, Kd.val, Go.Abs.enc, RV] using hr
  subst hr
  exact ⟨_, rfl, _, _, _, [], p0 ++ (p1 ++ (p2 ++ (p3 ++ []))), [], hW', (trodAll_cons_mk (shut_bool (show Tryd.prog.underlying 4 = some .bool by kernel_rfl) _) trodAll_mk0), (trodAll_cons_mk (Below.trod laidOut (by kernel_rfl) (of_decide_eq_true (by kernel_rfl)) h0 hg hlt0) (trodAll_cons_mk (Below.trod laidOut (by kernel_rfl) (of_decide_eq_true (by kernel_rfl)) h1 hg hlt1) (trodAll_cons_mk (Below.trod laidOut (by kernel_rfl) (of_decide_eq_true (by kernel_rfl)) h2 hg hlt2) (trodAll_cons_mk (Below.trod laidOut (by kernel_rfl) (of_decide_eq_true (by kernel_rfl)) h3 hg hlt3) trodAll_mk0)))), rfl, hg.frame _, fun h => by cases h⟩

/-- The statement: whatever the arguments, the law's function returns true and leaves them as they were. -/
theorem labelsLeast_holds : Rows.LabelsLeastSaid :=
  OpenClaim.holds_of_wide 5 Tryd.f5 rfl rfl rfl rfl rfl rfl rfl ⟨rfl, rfl, rfl, rfl, rfl⟩ rfl rfl rfl rfl rfl (by kernel_rfl) Tryd.func5 (by kernel_rfl)
    (of_decide_eq_true (by kernel_rfl)) (by unfold Func.isWrapper; first | (rw [if_pos (by decide +kernel)]; kernel_rfl) | (rw [if_neg (by decide +kernel)]; exact ⟨rfl, rfl⟩))
    (fun os started H enc _ => lifted_LabelsLeast os started H enc)
/-- The statement's card: the variable that the road reads is tied to the program's text. -/
theorem labelsLeast_card : Rows.LabelsLeastCardSaid :=
  Claim7.holds_tied_plain_at .later [] [.data] true (true, "65abc2aaf7183d6748ea4ca63c5ffe01ee343b6a2ad66bd6fe5683088795bba2") true labelsLeast_holds (fun _ h => by cases h) (by kernel_rfl) (fun _ h => by cases h) labelsLeast_row_tie rfl ⟨rfl, rfl⟩ (by kernel_rfl) rfl
    (fun f fn hf hfn => by
      obtain rfl : f = 5 := Option.some.inj ((show Tryd.prog.funcNamed "watershed/watershedkeep.LabelsLeast" = some 5 by kernel_rfl).symm.trans hf) |>.symm
      obtain rfl : fn = Tryd.f5 := (Option.some.inj (Tryd.func5.symm.trans hfn)).symm
      exact ⟨by kernel_rfl, fun j t ht => by
        have h3 := List.all_eq_true.1 (show (Tryd.f5.params.toList.all fun t => !(Tryd.prog.wantsStandIn t)) = true by kernel_rfl) t (by rw [← Array.getElem?_toList] at ht; exact List.mem_of_getElem? ht)
        have h4 : Tryd.prog.wantsStandIn t = false := by simpa using h3
        exact h4⟩)
    (by kernel_rfl)
end Go.Proofs.YtgnhcmdmlcjpkaaDoor
