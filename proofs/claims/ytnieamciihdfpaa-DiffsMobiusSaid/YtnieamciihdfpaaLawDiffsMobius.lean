/- Undo and what stands are inverse to each other: the law answers true for every history. -/
import Derived.Test.YtnieamciihdfpaaHisD
import Derived.Test.YtnieamciihdfpaaFrame0
namespace Go.Proofs.Ytnieamciihdfpaa
open Go Go.ChangeShapes Go.WideShapes Go.ChangeAt Go.WideMaps Go.WideElems Go.RowKit Go.Abs Go.Bag Go.His
-- watershed/watershedkeep.DiffsMobius
abbrev Ks_keep_DiffsMobius : List Kd := [.dat (.sl (.pair (.sl (.int .i64)) (.sl (.pair (.int .i64) (.pair (.int .i64) (.int .i64))))))]
abbrev Rk_keep_DiffsMobius : List Kd := [.dat (.bool)]
abbrev Rt_keep_DiffsMobius : Type := Dens Rk_keep_DiffsMobius
noncomputable def C_keep_DiffsMobius (_N : Nat) : Ctx := { T := [(22, ⟨.slice 64, 1, 24, some (.sl (.pair (.sl (.int .i64)) (.sl (.pair (.int .i64) (.pair (.int .i64) (.int .i64)))))), [.nil], false, []⟩)], G := findE [mkQ 10 Ks_diffs_Tidy Rk_diffs_Tidy (D_diffs_Tidy _N), mkP 11 Ks_keep_totals Rk_keep_totals (D_keep_totals _N), mkQ 12 Ks_keep_standing Rk_keep_standing (D_keep_standing _N), mkQ 13 Ks_diffs_Undo Rk_diffs_Undo (D_diffs_Undo _N), mkP 14 Ks_ref_DiffsSame Rk_ref_DiffsSame (D_ref_DiffsSame _N)], I := findI [], N := _N, n := 73, fx := [], fl := 0, gs := [] }
noncomputable def keep_DiffsMobius_1 (_N : Nat) (_x1 : List (List Int × List (Int × Int × Int))) : Option Rt_keep_DiffsMobius :=
  ((D_diffs_Tidy _N (_x1, ())).bind fun _y13 => (bif (_y13.2.1 != (0 : Int)) then (bif (_y13.2.1 != (0 : Int)) then (some (((_y13.1.length : Int) == (0 : Int)), ())) else (some (false, ()))) else ((D_keep_totals _N (_y13.1, ())).bind fun _y14 => ((D_keep_totals _N (_x1, ())).bind fun _y15 => (bif (_y14.1 != _y15.1) then (bif (_y13.2.1 != (0 : Int)) then (some (((_y13.1.length : Int) == (0 : Int)), ())) else (some (false, ()))) else ((D_keep_standing _N (_x1, _x1, ())).bind fun _y16 => ((D_diffs_Undo _N (_y16.1, ())).bind fun _y17 => (bif (!_y16.2.1) then (some (false, ())) else (bif (_y17.2.1 == (0 : Int)) then ((D_ref_DiffsSame _N (_y17.1, _y13.1, ())).bind fun _y18 => (bif (!_y18.1) then (some (false, ())) else ((D_diffs_Undo _N (_y13.1, ())).bind fun _y19 => (bif (_y19.2.1 != (0 : Int)) then (some ((_y19.2.1 == (1 : Int)), ())) else ((D_keep_standing _N (_y13.1, _y19.1, ())).bind fun _y20 => (bif _y20.2.1 then ((D_ref_DiffsSame _N (_y20.1, _y13.1, ())).bind fun _y21 => (some (_y21.1, ()))) else (some (false, ())))))))) else ((D_diffs_Undo _N (_y13.1, ())).bind fun _y22 => (bif (_y22.2.1 != (0 : Int)) then (some ((_y22.2.1 == (1 : Int)), ())) else ((D_keep_standing _N (_y13.1, _y22.1, ())).bind fun _y23 => (bif _y23.2.1 then ((D_ref_DiffsSame _N (_y23.1, _y13.1, ())).bind fun _y24 => (some (_y24.1, ()))) else (some (false, ())))))))))))))))
noncomputable def D_keep_DiffsMobius (_N : Nat) (_x : Dens Ks_keep_DiffsMobius) : Option Rt_keep_DiffsMobius := keep_DiffsMobius_1 _N _x.1
theorem sp_keep_DiffsMobius (_N : Nat) : SpecD Try.prog [] 3 Ks_keep_DiffsMobius Rk_keep_DiffsMobius (D_keep_DiffsMobius _N) := mkSpD (fn := Try.f3) (c := bodyOf Try.f3) (C := C_keep_DiffsMobius _N)
    (a := .none)
    (by kernel_rfl) rfl (by kernel_rfl) (by kernel_rfl) ⟨rfl, by unfold TOk; kernel_rfl, gOk_of rfl rfl (List.forall_mem_cons.2 ⟨qen_diffs_Tidy _N, (List.forall_mem_cons.2 ⟨en_keep_totals _N, (List.forall_mem_cons.2 ⟨qen_keep_standing _N, (List.forall_mem_cons.2 ⟨qen_diffs_Undo _N, (List.forall_mem_cons.2 ⟨en_ref_DiffsSame _N, (List.forall_mem_nil _)⟩)⟩)⟩)⟩)⟩), iOk_of rfl rfl (List.forall_mem_nil _), rfl⟩ (fun _x => by kernel_rfl)
theorem en_keep_DiffsMobius (_N : Nat) : EntOk Try.prog [] (mkP 3 Ks_keep_DiffsMobius Rk_keep_DiffsMobius (D_keep_DiffsMobius _N)) := entP ⟨Try.f3, bodyOf Try.f3, by kernel_rfl, by kernel_rfl, rfl⟩ (by kernel_rfl) (sp_keep_DiffsMobius _N)
theorem law_DiffsMobius (h : List Df) (_wh : wfS (.sl (.pair (.sl (.int .i64)) (.sl (.pair (.int .i64) (.pair (.int .i64) (.int .i64)))))) h) (hz : h.length * 48 ≤ reachBytes) : ∃ N, D_keep_DiffsMobius N (h, ()) = some (true, ()) := by
  have hw : h.length < 4611686018427387904 := by unfold reachBytes at hz; omega
  obtain ⟨N, hN⟩ : ∃ N, N = h.length + 100000 := ⟨_, rfl⟩
  refine ⟨N, ?_⟩
  obtain ⟨l, e, a1, a2⟩ := dTidy_eq (N := N) (by omega) (h := h) (by omega) (by omega)
  simp only [D_keep_DiffsMobius, keep_DiffsMobius_1, a1, Option.bind_some]
  rcases a2 with ⟨rfl, H, i1, O1⟩ | ⟨he, -, rfl⟩
  case inr => rw [bne_iff_ne.2 he]; rfl
  have hh := H.len
  have hl := O1.len
  have hq : His.HEq l h := fun t z => i1.rows t z
  have htot : w (tots l) = w (tots h) := hq.tots
  have hone : ∀ d ∈ l, ∀ e ∈ h, e.1.length = d.1.length := fun d hd e he => by
    obtain ⟨x, hx, ex⟩ := i1.times d hd
    rw [← ex]; exact H.one he hx
  -- any history with the states of a told one at its times
  have uniq : ∀ {s hF : List Df}, MovOf s hF → s.map Prod.fst = l.map Prod.fst → (∀ d ∈ l, ∀ z, Cg (amt (stL hF d.1) z) (amt (stL l d.1) z)) → His.HEq hF l := fun {s hF} M hs hst t z => by
    have hin : ∀ d, d ∈ hF ∨ d ∈ l → ∃ e ∈ l, e.1 = d.1 := fun d hd => by
      rcases hd with hd | hd
      · obtain ⟨e, he, e1⟩ := (M.tm d.1).1 ⟨d, hd, rfl⟩
        have : d.1 ∈ s.map Prod.fst := List.mem_map.2 ⟨e, he, e1⟩
        rw [hs] at this
        obtain ⟨x, hx, ex⟩ := List.mem_map.1 this
        exact ⟨x, hx, ex⟩
      · exact ⟨d, hd, rfl⟩
    by_cases hne : l = []
    · subst hne
      have : rowsAt hF t = [] := rowsAt_no fun d hd _ => by
        obtain ⟨e, he, -⟩ := hin d (.inl hd)
        cases he
      rw [this]; exact Cg.rfl
    obtain ⟨d0, hd0⟩ := List.exists_mem_of_ne_nil l hne
    refine st_uniq (k := d0.1.length) (fun d hd => ?_) z (fun d hd => ?_) t
    · obtain ⟨e, he, e1⟩ := hin d hd
      rw [← e1]
      refine ⟨O1.one he hd0, fun x hx => ?_⟩
      obtain ⟨j, hj, rfl⟩ := mem_nth (z := (0 : Int)) hx
      exact ((tok_iff.1 (O1.tok he)).2 j hj).1
    · obtain ⟨e, he, e1⟩ := hin d hd
      rw [← e1]
      exact hst e he z
  rw [totals_eq (N := N) (by omega) (fun d hd => by have := O1.row hd; omega) (by omega), totals_eq (N := N) (by omega) (fun d hd => by have := H.row hd; omega) (by omega)]
  obtain ⟨s, s1, s2, s3⟩ := standing_eq (N := N) (by omega) (by omega) (by omega) H H i1 (fun d hd e he => H.one he hd)
  have hsl : s.length = l.length := by simpa using congrArg List.length s2
  obtain ⟨k, e, b1, b2⟩ := Undo_eq (N := N) (by omega) (s := s) (by omega) (by omega) (by rw [s2]; exact i1.nd)
  obtain ⟨k', e', c1, c2⟩ := Undo_eq (N := N) (by omega) (s := l) (by omega) (by omega) i1.nd
  simp only [Option.bind_some, htot, bne_self_eq_false, cond_false, s1, b1, c1, Bool.not_true]
  -- what was undone is what it was made of
  have hfirst : e = 0 → k = l := fun he => by
    rcases b2 with ⟨hne, -⟩ | ⟨Hs, hF, M, hh⟩
    · exact absurd he hne
    rcases hh with ⟨-, i2, -⟩ | hh
    case inr => rw [he] at hh; cases hh
    refine i2.same i1 fun t z => ?_
    refine (uniq M s2 (fun d hd z => ?_) t z).trans (hq t z)
    have hd' : d.1 ∈ s.map Prod.fst := by rw [s2]; exact List.mem_map.2 ⟨d, hd, rfl⟩
    obtain ⟨x, hx, ex⟩ := List.mem_map.1 hd'
    have h1 := M.st x hx z
    have h2 := (s3 x hx).amt_cg z
    rw [ex] at h1 h2
    exact (h1.trans h2).trans (hq.symm.sel (fun u => undr u d.1) z)
  -- the states of what is undone
  have hlast : (bif e' != 0 then some ((e' == 1), ()) else (D_keep_standing N (l, k', ())).bind fun y => bif y.2.1 then (D_ref_DiffsSame N (y.1, l, ())).bind fun y2 => some (y2.1, ()) else some (false, ())) = some (true, ()) := by
    rcases c2 with ⟨-, hno⟩ | ⟨-, hF, M, hh⟩
    · exact absurd O1 hno
    rcases hh with ⟨rfl, i2, O2⟩ | rfl
    case inr => rfl
    have honek : ∀ d ∈ l, ∀ e ∈ k', e.1.length = d.1.length := fun d hd e he => by
      obtain ⟨x, hx, ex⟩ := i2.times e he
      obtain ⟨y, hy, ey⟩ := (M.tm x.1).1 ⟨x, hx, rfl⟩
      rw [← ex, ← ey]; exact O1.one hy hd
    have hk64 := O2.len
    obtain ⟨r, r1, r2, r3⟩ := standing_eq (N := N) (by omega) (by omega) (by omega) O1 O2 i1.self honek
    have hrl : r.length = l.length := by simpa using congrArg List.length r2
    have hr : r = l := by
      apply List.ext_getElem hrl
      intro i h1 h2
      have e1 : r[i].1 = l[i].1 := by
        have : (r.map Prod.fst)[i]? = (l.map Prod.fst)[i]? := by rw [r2]
        rw [List.getElem?_map, List.getElem?_map, List.getElem?_eq_getElem h1, List.getElem?_eq_getElem h2] at this
        simpa using this
      refine Prod.ext e1 ?_
      have b1 := r3 r[i] (List.getElem_mem h1)
      rw [e1] at b1
      have b2 := i1.self.bag l[i] (List.getElem_mem h2)
      refine b1.same b2 fun z => ?_
      have h3 := M.st l[i] (List.getElem_mem h2) z
      have h4 : Cg (amt (stL k' l[i].1) z) (amt (stL hF l[i].1) z) := His.HEq.sel (fun t z => i2.rows t z) (fun u => undr u l[i].1) z
      show Cg (amt (stL k' l[i].1) z) (amt (rowsAt l l[i].1) z)
      rw [rowsAt_mem i1.nd (List.getElem_mem h2)]
      exact h4.trans h3
    subst hr
    rw [bne_self_eq_false, cond_false, r1, Option.bind_some, cond_true, DSame_eq (N := N) (by show r.length < N; omega) (fun d hd => by have := tok4 (O1.tok hd); omega) (fun d hd => by have := O1.row hd; omega) (by omega)]
    simp
  by_cases q : e = 0
  · have hkl := hfirst q
    subst hkl
    rw [q, beq_self_eq_true, cond_true, DSame_eq (N := N) (by omega) (fun d hd => by have := tok4 (O1.tok hd); omega) (fun d hd => by have := O1.row hd; omega) (by omega), Option.bind_some]
    simp only [decide_true, Bool.not_true, cond_false]
    exact hlast
  · rw [show (e == 0) = false from beq_false_of_ne q, cond_false]
    exact hlast
set_option maxRecDepth 100000 in
theorem lifted_DiffsMobius (os : Os) (started : os.Started) (H : Type) (enc : TypeId × Value → H) :
    ReturnsInHanded {} Try.checked os 3 .any (Rows.diffsMobiusSpec.pre6 enc Try.prog Try.f3 Rows.diffsMobiusRow.domain false) (Rows.diffsMobiusSpec.post enc Try.prog Try.f3 false true false false) := by
  refine returnsInHanded_of_change_sized (C := Try.checked) own started (by kernel_rfl) Try.func3
    (ChangeSpec.witness6 (enc := enc) (C := Try.checked) false ⟨#[], #[.slice none 0 0], []⟩ 8 (by kernel_rfl) (by kernel_rfl) (by kernel_rfl) (by kernel_rfl)) ?_
  intro W base args ds gs before hval0 hW _ hsz0 _
  have hgw : GW [] W := fun _ h => nomatch h
  have hval : ∀ (j : Nat) t v, Try.f3.params[j]? = some t → args[j]? = some v → Value.okWide Try.prog W .any base t v := hval0
  have hW' := hW
  obtain ⟨p, q, hA0, hV, rfl, _, _⟩ := hW
  have hA : DataW.TrodAll enc Try.prog W 0 (fun _ => true) true Try.f3.params.toList args.toList ds p := hA0
  rw [Try.params3] at hA hval
  obtain ⟨v0, vs0, d0, ds0, p0, q0, hargs, rfl, rfl, h0, r0⟩ := trodAll_cons hA
  obtain ⟨rfl, rfl, rfl⟩ := trodAll_nil r0
  obtain rfl : args = #[v0] := by cases args; simp_all
  obtain ⟨rfl, rfl⟩ := trodVars_none hV
  have hall := List.all_eq_true.1 hsz0
  clear hA0 hval0 hsz0
  simp only [List.append_nil] at hW'
  have hlt0 : ∀ x ∈ p0, x.block < W.heap.size := fun x hx => hW'.lt x (by simp [hx])
  obtain ⟨x0, g0, w0⟩ := open_kd (k := .dat (.sl (.pair (.sl (.int .i64)) (.sl (.pair (.int .i64) (.pair (.int .i64) (.int .i64))))))) (by kernel_rfl) (hval 0 22 v0 rfl rfl) h0
  have z0 : x0.length * Try.prog.bytesOf 64 ≤ reachBytes := open_room (t := 22) (r1 := []) (by kernel_rfl) g0 h0 fun n hn => by
    refine of_decide_eq_true (hall n ?_)
    rw [Try.params3]
    change n ∈ DataW.weightsEach Try.prog [22] [d0]
    simp only [DataW.weightsEach]
    exact List.mem_append_left _ (by simpa using hn)
  obtain ⟨N, hN⟩ := law_DiffsMobius x0 w0 (by simpa only [show Try.prog.bytesOf 64 = 48 by kernel_rfl] using z0)
  refine (sp_keep_DiffsMobius N (fun _ => False) W (x0, ()) (true, ()) [v0] (fun _ h => h.elim) hgw ⟨v0, _, rfl, g0, rfl⟩ hN).mono ?_
  rintro e W' ⟨v, rfl, hg, hr⟩
  replace hg := hg.old
  have hr : v = .bool true := by simpa only [kvals, retV, Kd.val, Go.Abs.enc, RV] using hr
  subst hr
  exact ⟨_, rfl, _, _, _, [], p0 ++ [], [], hW', (trodAll_cons_mk (shut_bool (show Try.prog.underlying 4 = some .bool by kernel_rfl) _) trodAll_mk0), (trodAll_cons_mk (Below.trod laidOut (by kernel_rfl) (of_decide_eq_true (by kernel_rfl)) h0 hg hlt0) trodAll_mk0), rfl, hg.frame _, fun h => by cases h⟩

/-- The statement: whatever the arguments, the law's function returns true and leaves them as they were. -/
theorem diffsMobius_holds : Rows.DiffsMobiusSaid :=
  OpenClaim.holds_of_wide 3 Try.f3 rfl rfl rfl rfl rfl rfl rfl ⟨rfl, rfl, rfl, rfl, rfl⟩ rfl rfl rfl rfl rfl (by kernel_rfl) Try.func3 (by kernel_rfl)
    (of_decide_eq_true (by kernel_rfl)) (by unfold Func.isWrapper; first | (rw [if_pos (by decide +kernel)]; kernel_rfl) | (rw [if_neg (by decide +kernel)]; exact ⟨rfl, rfl⟩))
    (fun os started H enc _ => lifted_DiffsMobius os started H enc)
end Go.Proofs.Ytnieamciihdfpaa
