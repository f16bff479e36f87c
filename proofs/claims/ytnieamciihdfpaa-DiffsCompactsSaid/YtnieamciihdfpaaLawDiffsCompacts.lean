/- What stands at an open time stands there behind the front: the law answers true for every history, every list of times and every time. -/
import Derived.Test.YtnieamciihdfpaaHisU
import Derived.Test.YtnieamciihdfpaaFrame0
namespace Go.Proofs.Ytnieamciihdfpaa
open Go Go.ChangeShapes Go.WideShapes Go.ChangeAt Go.WideMaps Go.WideElems Go.RowKit Go.Abs Go.Bag Go.His
-- watershed/watershedkeep.DiffsCompacts
abbrev Ks_keep_DiffsCompacts : List Kd := [.dat (.sl (.pair (.sl (.int .i64)) (.sl (.pair (.int .i64) (.pair (.int .i64) (.int .i64)))))), .dat (.sl (.sl (.int .i64))), .dat (.sl (.int .i64))]
abbrev Rk_keep_DiffsCompacts : List Kd := [.dat (.bool)]
abbrev Rt_keep_DiffsCompacts : Type := Dens Rk_keep_DiffsCompacts
noncomputable def C_keep_DiffsCompacts (_N : Nat) : Ctx := { T := [(22, ⟨.slice 64, 1, 24, some (.sl (.pair (.sl (.int .i64)) (.sl (.pair (.int .i64) (.pair (.int .i64) (.int .i64)))))), [.nil], false, []⟩)], G := findE [mkQ 15 Ks_diffs_Advance Rk_diffs_Advance (D_diffs_Advance _N), mkP 11 Ks_keep_totals Rk_keep_totals (D_keep_totals _N), mkP 16 Ks_ref_TimesOpen Rk_ref_TimesOpen (D_ref_TimesOpen _N), mkQ 17 Ks_diffs_At Rk_diffs_At (D_diffs_At _N), mkP 18 Ks_ref_BagsSame Rk_ref_BagsSame (D_ref_BagsSame _N)], I := findI [], N := _N, n := 65, fx := [], fl := 0, gs := [] }
noncomputable def keep_DiffsCompacts_1 (_N : Nat) (_x1 : List (List Int × List (Int × Int × Int))) (_x2 : List (List Int)) (_x3 : List Int) : Option Rt_keep_DiffsCompacts :=
  ((D_diffs_Advance _N (_x1, _x2, ())).bind fun _y12 => (bif (_y12.2.1 == (0 : Int)) then ((D_keep_totals _N (_y12.1, ())).bind fun _y13 => ((D_keep_totals _N (_x1, ())).bind fun _y14 => (bif (_y13.1 != _y14.1) then (some (false, ())) else (bif (_y12.2.1 != (0 : Int)) then (bif (_y12.2.1 == (0 : Int)) then (some (true, ())) else (some (((_y12.1.length : Int) == (0 : Int)), ()))) else ((D_ref_TimesOpen _N (_x2, _x3, ())).bind fun _y15 => (bif (!_y15.1) then (bif (_y12.2.1 == (0 : Int)) then (some (true, ())) else (some (((_y12.1.length : Int) == (0 : Int)), ()))) else ((D_diffs_At _N (_x1, _x3, ())).bind fun _y16 => ((D_diffs_At _N (_y12.1, _x3, ())).bind fun _y17 => (bif (_y16.2.1 == (0 : Int)) then (bif (_y17.2.1 == (0 : Int)) then ((D_ref_BagsSame _N (_y16.1, _y17.1, ())).bind fun _y18 => (some (_y18.1, ()))) else (some (false, ()))) else (some (false, ()))))))))))) else (bif (_y12.2.1 != (0 : Int)) then (bif (_y12.2.1 == (0 : Int)) then (some (true, ())) else (some (((_y12.1.length : Int) == (0 : Int)), ()))) else ((D_ref_TimesOpen _N (_x2, _x3, ())).bind fun _y19 => (bif (!_y19.1) then (bif (_y12.2.1 == (0 : Int)) then (some (true, ())) else (some (((_y12.1.length : Int) == (0 : Int)), ()))) else ((D_diffs_At _N (_x1, _x3, ())).bind fun _y20 => ((D_diffs_At _N (_y12.1, _x3, ())).bind fun _y21 => (bif (_y20.2.1 == (0 : Int)) then (bif (_y21.2.1 == (0 : Int)) then ((D_ref_BagsSame _N (_y20.1, _y21.1, ())).bind fun _y22 => (some (_y22.1, ()))) else (some (false, ()))) else (some (false, ()))))))))))
noncomputable def D_keep_DiffsCompacts (_N : Nat) (_x : Dens Ks_keep_DiffsCompacts) : Option Rt_keep_DiffsCompacts := keep_DiffsCompacts_1 _N _x.1 _x.2.1 _x.2.2.1
theorem sp_keep_DiffsCompacts (_N : Nat) : SpecD Try.prog [] 4 Ks_keep_DiffsCompacts Rk_keep_DiffsCompacts (D_keep_DiffsCompacts _N) := mkSpD (fn := Try.f4) (c := bodyOf Try.f4) (C := C_keep_DiffsCompacts _N)
    (a := .none)
    (by kernel_rfl) rfl (by kernel_rfl) (by kernel_rfl) ⟨rfl, by unfold TOk; kernel_rfl, gOk_of rfl rfl (List.forall_mem_cons.2 ⟨qen_diffs_Advance _N, (List.forall_mem_cons.2 ⟨en_keep_totals _N, (List.forall_mem_cons.2 ⟨en_ref_TimesOpen _N, (List.forall_mem_cons.2 ⟨qen_diffs_At _N, (List.forall_mem_cons.2 ⟨en_ref_BagsSame _N, (List.forall_mem_nil _)⟩)⟩)⟩)⟩)⟩), iOk_of rfl rfl (List.forall_mem_nil _), rfl⟩ (fun _x => by kernel_rfl)
theorem en_keep_DiffsCompacts (_N : Nat) : EntOk Try.prog [] (mkP 4 Ks_keep_DiffsCompacts Rk_keep_DiffsCompacts (D_keep_DiffsCompacts _N)) := entP ⟨Try.f4, bodyOf Try.f4, by kernel_rfl, by kernel_rfl, rfl⟩ (by kernel_rfl) (sp_keep_DiffsCompacts _N)
theorem law_DiffsCompacts (h : List Df) (f : List (List Int)) (t : List Int) (_wh : wfS (.sl (.pair (.sl (.int .i64)) (.sl (.pair (.int .i64) (.pair (.int .i64) (.int .i64)))))) h) (_wf : wfS (.sl (.sl (.int .i64))) f) (_wt : wfS (.sl (.int .i64)) t) (hz : h.length * 48 ≤ reachBytes) : ∃ N, D_keep_DiffsCompacts N (h, f, t, ()) = some (true, ()) := by
  have hw : h.length < 4611686018427387904 := by unfold reachBytes at hz; omega
  obtain ⟨N, hN⟩ : ∃ N, N = h.length + 100000 := ⟨_, rfl⟩
  refine ⟨N, ?_⟩
  obtain ⟨l, e, a1, a2⟩ := Advance_eq (N := N) (by omega) (h := h) (by omega) (by omega) f
  simp only [D_keep_DiffsCompacts, keep_DiffsCompacts_1, a1, Option.bind_some]
  rcases a2 with ⟨rfl, A, i1, O1⟩ | ⟨he, -, rfl⟩
  case inr =>
    rw [show (e == 0) = false from beq_false_of_ne he, bne_iff_ne.2 he]
    rfl
  have hh := A.his.len
  have hl := O1.len
  have hf := A.frt.len
  have htot : w (tots l) = w (tots h) := by
    have h1 : His.HEq l (advD f h) := fun t z => i1.rows t z
    have := h1.tots
    unfold advD at this
    rw [tots_map] at this
    exact this
  rw [totals_eq (N := N) (by omega) (fun d hd => by have := O1.row hd; omega) (by omega), totals_eq (N := N) (by omega) (fun d hd => by have := A.his.row hd; omega) (by omega), ROpen_eq (N := N) (by omega) (by omega) (by omega)]
  simp only [Option.bind_some, htot, bne_self_eq_false, cond_false, beq_self_eq_true, cond_true]
  cases q : f.any (fun u => leqT u t) with
  | false => rfl
  | true =>
    obtain ⟨u, hu, hle⟩ := List.any_eq_true.1 q
    unfold leqT at hle
    rw [Bool.and_eq_true] at hle
    obtain ⟨h1, h2, h3⟩ := alk_iff.1 hle.1
    have hone : ∀ d ∈ h, d.1.length = t.length := fun d hd => by have := A.one d hd u hu; omega
    have honel : ∀ d ∈ l, d.1.length = t.length := fun d hd => by
      obtain ⟨x, hx, e1⟩ := i1.times d hd
      obtain ⟨y, hy, rfl⟩ := List.mem_map.1 hx
      rw [← e1]
      show (adv f y.1).length = _
      rw [adv_len (A.fr hy)]; exact hone y hy
    obtain ⟨a, a3, a4, a5⟩ := At_ok (N := N) (by omega) A.his h3 hone (by omega)
    obtain ⟨b, b3, b4, b5⟩ := At_ok (N := N) (by omega) O1 h3 honel (by omega)
    have hab : a = b := by
      refine a4.same b4 fun z => ?_
      have e1 : Cg (amt (stL l t) z) (amt (stL (advD f h) t) z) := His.HEq.sel (fun t z => i1.rows t z) (fun u => undr u t) z
      have e2 : stL (advD f h) t = stL h t := by
        unfold stL advD
        rw [List.flatMap_map]
        have key : ∀ g : List Df, (∀ d ∈ g, d ∈ h) → (g.flatMap fun d : Df => if undr (adv f d.1, d.2).1 t = true then (adv f d.1, d.2).2 else []) = g.flatMap fun d => if undr d.1 t = true then d.2 else [] := fun g => by
          induction g with
          | nil => intro _; rfl
          | cons d g ih =>
            intro hg
            rw [List.flatMap_cons, List.flatMap_cons, ih fun x hx => hg x (by simp [hx])]
            have hd := hg d (by simp)
            rw [show undr (adv f d.1, d.2).1 t = undr d.1 t from adv_open (A.fr hd) (hone d hd).symm ⟨u, hu, hle.2⟩]
        exact key h fun d hd => hd
      rw [e2] at e1
      exact e1.symm
    subst hab
    rw [a3, b3]
    simp only [Bool.not_true, cond_false, Option.bind_some, beq_self_eq_true, cond_true]
    rw [Same_eq (by omega) (by omega)]
    simp
set_option maxRecDepth 100000 in
theorem lifted_DiffsCompacts (os : Os) (started : os.Started) (H : Type) (enc : TypeId × Value → H) :
    ReturnsInHanded {} Try.checked os 4 .any (Rows.diffsCompactsSpec.pre6 enc Try.prog Try.f4 Rows.diffsCompactsRow.domain false) (Rows.diffsCompactsSpec.post enc Try.prog Try.f4 false true false false) := by
  refine returnsInHanded_of_change_sized (C := Try.checked) own started (by kernel_rfl) Try.func4
    (ChangeSpec.witness6 (enc := enc) (C := Try.checked) false ⟨#[], #[.slice none 0 0, .slice none 0 0, .slice none 0 0], []⟩ 8 (by kernel_rfl) (by kernel_rfl) (by kernel_rfl) (by kernel_rfl)) ?_
  intro W base args ds gs before hval0 hW _ hsz0 _
  have hgw : GW [] W := fun _ h => nomatch h
  have hval : ∀ (j : Nat) t v, Try.f4.params[j]? = some t → args[j]? = some v → Value.okWide Try.prog W .any base t v := hval0
  have hW' := hW
  obtain ⟨p, q, hA0, hV, rfl, _, _⟩ := hW
  have hA : DataW.TrodAll enc Try.prog W 0 (fun _ => true) true Try.f4.params.toList args.toList ds p := hA0
  rw [Try.params4] at hA hval
  obtain ⟨v0, vs0, d0, ds0, p0, q0, hargs, rfl, rfl, h0, r0⟩ := trodAll_cons hA
  obtain ⟨v1, vs1, d1, ds1, p1, q1, rfl, rfl, rfl, h1, r1⟩ := trodAll_cons r0
  obtain ⟨v2, vs2, d2, ds2, p2, q2, rfl, rfl, rfl, h2, r2⟩ := trodAll_cons r1
  obtain ⟨rfl, rfl, rfl⟩ := trodAll_nil r2
  obtain rfl : args = #[v0, v1, v2] := by cases args; simp_all
  obtain ⟨rfl, rfl⟩ := trodVars_none hV
  have hall := List.all_eq_true.1 hsz0
  clear hA0 hval0 hsz0
  simp only [List.append_nil] at hW'
  have hlt0 : ∀ x ∈ p0, x.block < W.heap.size := fun x hx => hW'.lt x (by simp [hx])
  have hlt1 : ∀ x ∈ p1, x.block < W.heap.size := fun x hx => hW'.lt x (by simp [hx])
  have hlt2 : ∀ x ∈ p2, x.block < W.heap.size := fun x hx => hW'.lt x (by simp [hx])
  obtain ⟨x0, g0, w0⟩ := open_kd (k := .dat (.sl (.pair (.sl (.int .i64)) (.sl (.pair (.int .i64) (.pair (.int .i64) (.int .i64))))))) (by kernel_rfl) (hval 0 22 v0 rfl rfl) h0
  obtain ⟨x1, g1, w1⟩ := open_kd (k := .dat (.sl (.sl (.int .i64)))) (by kernel_rfl) (hval 1 31 v1 rfl rfl) h1
  obtain ⟨x2, g2, w2⟩ := open_kd (k := .dat (.sl (.int .i64))) (by kernel_rfl) (hval 2 32 v2 rfl rfl) h2
  have z0 : x0.length * Try.prog.bytesOf 64 ≤ reachBytes := open_room (t := 22) (r1 := []) (by kernel_rfl) g0 h0 fun n hn => by
    refine of_decide_eq_true (hall n ?_)
    rw [Try.params4]
    change n ∈ DataW.weightsEach Try.prog [22, 31, 32] [d0, d1, d2]
    simp only [DataW.weightsEach]
    exact List.mem_append_left _ (by simpa using hn)
  obtain ⟨N, hN⟩ := law_DiffsCompacts x0 x1 x2 w0 w1 w2 (by simpa only [show Try.prog.bytesOf 64 = 48 by kernel_rfl] using z0)
  refine (sp_keep_DiffsCompacts N (fun _ => False) W (x0, x1, x2, ()) (true, ()) [v0, v1, v2] (fun _ h => h.elim) hgw ⟨v0, _, rfl, g0, ⟨v1, _, rfl, g1, ⟨v2, _, rfl, g2, rfl⟩⟩⟩ hN).mono ?_
  rintro e W' ⟨v, rfl, hg, hr⟩
  replace hg := hg.old
  have hr : v = .bool true := by simpa only [kvals, retV, Kd.val, Go.Abs.enc, RV] using hr
  subst hr
  exact ⟨_, rfl, _, _, _, [], p0 ++ (p1 ++ (p2 ++ [])), [], hW', (trodAll_cons_mk (shut_bool (show Try.prog.underlying 4 = some .bool by kernel_rfl) _) trodAll_mk0), (trodAll_cons_mk (Below.trod laidOut (by kernel_rfl) (of_decide_eq_true (by kernel_rfl)) h0 hg hlt0) (trodAll_cons_mk (Below.trod laidOut (by kernel_rfl) (of_decide_eq_true (by kernel_rfl)) h1 hg hlt1) (trodAll_cons_mk (Below.trod laidOut (by kernel_rfl) (of_decide_eq_true (by kernel_rfl)) h2 hg hlt2) trodAll_mk0))), rfl, hg.frame _, fun h => by cases h⟩

/-- The statement: whatever the arguments, the law's function returns true and leaves them as they were. -/
theorem diffsCompacts_holds : Rows.DiffsCompactsSaid :=
  OpenClaim.holds_of_wide 4 Try.f4 rfl rfl rfl rfl rfl rfl rfl ⟨rfl, rfl, rfl, rfl, rfl⟩ rfl rfl rfl rfl rfl (by kernel_rfl) Try.func4 (by kernel_rfl)
    (of_decide_eq_true (by kernel_rfl)) (by unfold Func.isWrapper; first | (rw [if_pos (by decide +kernel)]; kernel_rfl) | (rw [if_neg (by decide +kernel)]; exact ⟨rfl, rfl⟩))
    (fun os started H enc _ => lifted_DiffsCompacts os started H enc)
end Go.Proofs.Ytnieamciihdfpaa
