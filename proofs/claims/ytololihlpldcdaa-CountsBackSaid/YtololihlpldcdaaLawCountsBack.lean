/- So many more of a time, and so many fewer again, is the tally that it was: the law answers true for every tally, time and number. No condition. -/
import Derived.Test.YtololihlpldcdaaCountsV
import Derived.Test.YtololihlpldcdaaFrame0
namespace Go.Proofs.Ytololihlpldcdaa
open Go Go.ChangeShapes Go.WideShapes Go.ChangeAt Go.WideMaps Go.WideElems Go.RowKit Go.Abs
-- watershed/watershedkeep.CountsBack
abbrev Ks_keep_CountsBack : List Kd := [.dat (.sl (.pair (.sl (.int .i64)) (.int .i64))), .dat (.sl (.int .i64)), .dat (.int .i64)]
abbrev Rk_keep_CountsBack : List Kd := [.dat (.bool)]
abbrev Rt_keep_CountsBack : Type := Dens Rk_keep_CountsBack
noncomputable def C_keep_CountsBack (_N : Nat) : Ctx := { T := [(47, ⟨.slice 52, 1, 24, some (.sl (.pair (.sl (.int .i64)) (.int .i64))), [.nil]⟩)], G := findE [mkQ 32 Ks_counts_Add Rk_counts_Add (D_counts_Add _N), mkP 33 Ks_ref_Counts Rk_ref_Counts (D_ref_Counts _N)], I := findI [], N := _N, n := 37, fx := [], fl := 0, gs := [] }
noncomputable def keep_CountsBack_1 (_N : Nat) (_x1 : List (List Int × Int)) (_x2 : List Int) (_x3 : Int) : Option Rt_keep_CountsBack :=
  ((D_counts_Add _N (_x1, _x2, _x3, ())).bind fun _y4 => (bif (_y4.2.1 != (0 : Int)) then (some (((_y4.1.length : Int) == (0 : Int)), ())) else ((D_counts_Add _N (_y4.1, _x2, (IntKind.i64.wrap (0 - _x3)), ())).bind fun _y5 => (bif (_y5.2.1 == (0 : Int)) then ((D_ref_Counts _N (_y5.1, _x1, ())).bind fun _y6 => (some (_y6.1, ()))) else (some (false, ()))))))
noncomputable def D_keep_CountsBack (_N : Nat) (_x : Dens Ks_keep_CountsBack) : Option Rt_keep_CountsBack := keep_CountsBack_1 _N _x.1 _x.2.1 _x.2.2.1
theorem sp_keep_CountsBack (_N : Nat) : SpecD Try.prog [] 11 Ks_keep_CountsBack Rk_keep_CountsBack (D_keep_CountsBack _N) := mkSpD (fn := Try.f11) (c := bodyOf Try.f11) (C := C_keep_CountsBack _N)
    (a := .none)
    (by kernel_rfl) rfl (by kernel_rfl) (by kernel_rfl) ⟨rfl, by unfold TOk; kernel_rfl, gOk_of rfl rfl (List.forall_mem_cons.2 ⟨qen_counts_Add _N, (List.forall_mem_cons.2 ⟨en_ref_Counts _N, (List.forall_mem_nil _)⟩)⟩), iOk_of rfl rfl (List.forall_mem_nil _), rfl⟩ (fun _x => by kernel_rfl)
theorem en_keep_CountsBack (_N : Nat) : EntOk Try.prog [] (mkP 11 Ks_keep_CountsBack Rk_keep_CountsBack (D_keep_CountsBack _N)) := entP ⟨Try.f11, bodyOf Try.f11, by kernel_rfl, by kernel_rfl, rfl⟩ (by kernel_rfl) (sp_keep_CountsBack _N)
theorem law_CountsBack (c : List Cn) (t : List Int) (n : Int) (_wc : wfS (.sl (.pair (.sl (.int .i64)) (.int .i64))) c) (_wt : wfS (.sl (.int .i64)) t) (_wn : wfS (.int .i64) n) (zc : c.length * 32 ≤ reachBytes) : ∃ N, D_keep_CountsBack N (c, t, n, ()) = some (true, ()) := by
  refine ⟨c.length + 1000, ?_⟩
  have hN : 1000 ≤ c.length + 1000 := by omega
  have hz : c.length * 32 ≤ 140737488351232 := zc
  simp only [D_keep_CountsBack, keep_CountsBack_1]
  rcases CAdd_or hN (c := c) (t := t) (n := n) (by omega) (by omega) with ⟨e, he, h⟩ | ⟨h1, h2, h3, h4⟩
  · rw [h, Option.bind_some, show (e != 0) = true from bne_iff_ne.2 he]; rfl
  · have ro : RiseC [(t, n)] := List.pairwise_singleton _ _
    have hov := ov_false.1 h4
    have h4' : ov (-n) = false := ov_false.2 (by omega)
    have ro' : RiseC [(t, -n)] := List.pairwise_singleton _ _
    have hm := mg_ok (c.length + 1) c [(t, n)] (by simp) h1.rise ro
    rw [CAdd_ok hN h1 h2 h3 h4]
    have v1 : ∀ u, val [(t, n)] u = if t = u then n else 0 := fun u => rfl
    have v2 : ∀ u, val [(t, -n)] u = if t = u then -n else 0 := fun u => rfl
    cases q : mg (c.length + 1) c [(t, n)] with
    | none => rfl
    | some d =>
      rw [q] at hm
      rw [mgR_some]
      by_cases hd : 64 < d.length
      · rw [if_pos hd]; rfl
      · rw [if_neg hd]
        have hck : CK d := ck_of hm (by omega) (fun x hx => h1.tok hx) (fun x hx => by obtain rfl := List.mem_singleton.1 hx; exact h2) t.length h3 (fun x hx => by obtain rfl := List.mem_singleton.1 hx; rfl)
        have hdl : ∀ x ∈ d, x.1.length = t.length := fun x hx => by
          rcases (hm.2.1 x hx).2.2 with ⟨y, hy, e⟩ | ⟨y, hy, e⟩
          · rw [← e]; exact h3 y hy
          · rw [← e]; obtain rfl := List.mem_singleton.1 hy; rfl
        have hb := mg_ok (d.length + 1) d [(t, -n)] (by simp) hck.rise ro'
        have hv : ∀ u, val d u + val [(t, -n)] u = val c u := fun u => by
          rw [(hm.2.2 u).1, v1, v2]
          by_cases e : t = u
          · rw [if_pos e, if_pos e]; omega
          · rw [if_neg e, if_neg e]; omega
        have hw : IntKind.i64.wrap (0 - n) = -n := by rw [w64 (by omega) (by omega)]; omega
        simp only [Option.bind_some, bne_self_eq_false, cond_false, hw]
        rw [CAdd_ok hN hck h2 hdl h4']
        cases q2 : mg (d.length + 1) d [(t, -n)] with
        | none =>
          rw [q2] at hb
          obtain ⟨u, hu⟩ := hb
          rw [hv, h1.noov] at hu
          cases hu
        | some b =>
          rw [q2] at hb
          have e : b = c := val_uniq hb.1 h1.rise (fun x hx => (hb.2.1 x hx).1) (fun x hx => (h1.n x hx).1) fun u => by rw [(hb.2.2 u).1, hv]
          subst e
          rw [mgR_some, if_neg (by have := h1.len; omega)]
          simp only [Option.bind_some, beq_self_eq_true, cond_true]
          rw [Counts_self hN h1.len fun x hx => (tok_len (h1.tok hx)).2]; rfl
set_option maxRecDepth 100000 in
theorem lifted_CountsBack (os : Os) (started : os.Started) (H : Type) (enc : TypeId × Value → H) :
    ReturnsInHanded {} Try.checked os 11 .any (Rows.countsBackSpec.pre6 enc Try.prog Try.f11 Rows.countsBackRow.domain false) (Rows.countsBackSpec.post enc Try.prog Try.f11 false true false false) := by
  refine returnsInHanded_of_change_sized (C := Try.checked) own started (by kernel_rfl) Try.func11
    (ChangeSpec.witness6 (enc := enc) (C := Try.checked) false ⟨#[], #[.slice none 0 0, .slice none 0 0, .int .i64 0], []⟩ 8 (by kernel_rfl) (by kernel_rfl) (by kernel_rfl) (by kernel_rfl)) ?_
  intro W base args ds gs before hval0 hW _ hsz0 _
  have hgw : GW [] W := fun _ h => nomatch h
  have hval : ∀ (j : Nat) t v, Try.f11.params[j]? = some t → args[j]? = some v → Value.okWide Try.prog W .any base t v := hval0
  have hW' := hW
  obtain ⟨p, q, hA0, hV, rfl, _, _⟩ := hW
  have hA : DataW.TrodAll enc Try.prog W 0 (fun _ => true) true Try.f11.params.toList args.toList ds p := hA0
  rw [Try.params11] at hA hval
  obtain ⟨v0, vs0, d0, ds0, p0, q0, hargs, rfl, rfl, h0, r0⟩ := trodAll_cons hA
  obtain ⟨v1, vs1, d1, ds1, p1, q1, rfl, rfl, rfl, h1, r1⟩ := trodAll_cons r0
  obtain ⟨v2, vs2, d2, ds2, p2, q2, rfl, rfl, rfl, h2, r2⟩ := trodAll_cons r1
  obtain ⟨rfl, rfl, rfl⟩ := trodAll_nil r2
  obtain rfl : args = #[v0, v1, v2] := by cases args; simp_all
  obtain ⟨rfl, rfl⟩ := trodVars_none hV
  have hall := List.all_eq_true.1 hsz0
  clear hA0 hval0 hsz0
  simp only [List.append_nil] at hW'
  have hlt0 : ∀ x ∈ p0, x.block < W.heap.size := fun x hx => hW'.lt x (by simp [hx])
  have hlt1 : ∀ x ∈ p1, x.block < W.heap.size := fun x hx => hW'.lt x (by simp [hx])
  have hlt2 : ∀ x ∈ p2, x.block < W.heap.size := fun x hx => hW'.lt x (by simp [hx])
  obtain ⟨x0, g0, w0⟩ := open_kd (k := .dat (.sl (.pair (.sl (.int .i64)) (.int .i64)))) (by kernel_rfl) (hval 0 47 v0 rfl rfl) h0
  obtain ⟨x1, g1, w1⟩ := open_kd (k := .dat (.sl (.int .i64))) (by kernel_rfl) (hval 1 26 v1 rfl rfl) h1
  obtain ⟨x2, g2, w2⟩ := open_kd (k := .dat (.int .i64)) (by kernel_rfl) (hval 2 2 v2 rfl rfl) h2
  have z0 : x0.length * Try.prog.bytesOf 52 ≤ reachBytes := open_room (t := 47) (r1 := []) (by kernel_rfl) g0 h0 fun n hn => by
    refine of_decide_eq_true (hall n ?_)
    rw [Try.params11]
    change n ∈ DataW.weightsEach Try.prog [47, 26, 2] [d0, d1, d2]
    simp only [DataW.weightsEach]
    exact List.mem_append_left _ (by simpa using hn)
  obtain ⟨N, hN⟩ := law_CountsBack x0 x1 x2 w0 w1 w2 (by simpa only [show Try.prog.bytesOf 52 = 32 by kernel_rfl] using z0)
  refine (sp_keep_CountsBack N (fun _ => False) W (x0, x1, x2, ()) (true, ()) [v0, v1, v2] (fun _ h => h.elim) hgw ⟨v0, _, rfl, g0, ⟨v1, _, rfl, g1, ⟨v2, _, rfl, g2, rfl⟩⟩⟩ hN).mono ?_
  rintro e W' ⟨v, rfl, hg, hr⟩
  replace hg := hg.old
  have hr : v = .bool true := by simpa only [kvals, retV, Kd.val, Go.Abs.enc, RV] using hr
  subst hr
  exact ⟨_, rfl, _, _, _, [], p0 ++ (p1 ++ (p2 ++ [])), [], hW', (trodAll_cons_mk (shut_bool (show Try.prog.underlying 4 = some .bool by kernel_rfl) _) trodAll_mk0), (trodAll_cons_mk (Below.trod laidOut (by kernel_rfl) (of_decide_eq_true (by kernel_rfl)) h0 hg hlt0) (trodAll_cons_mk (Below.trod laidOut (by kernel_rfl) (of_decide_eq_true (by kernel_rfl)) h1 hg hlt1) (trodAll_cons_mk (Below.trod laidOut (by kernel_rfl) (of_decide_eq_true (by kernel_rfl)) h2 hg hlt2) trodAll_mk0))), rfl, hg.frame _, fun h => by cases h⟩

/-- The statement: whatever the arguments, the law's function returns true and leaves them as they were. -/
theorem countsBack_holds : Rows.CountsBackSaid :=
  OpenClaim.holds_of_wide 11 Try.f11 rfl rfl rfl rfl rfl rfl rfl ⟨rfl, rfl, rfl, rfl, rfl⟩ rfl rfl rfl rfl rfl (by kernel_rfl) Try.func11 (by kernel_rfl)
    (of_decide_eq_true (by kernel_rfl)) (by unfold Func.isWrapper; first | (rw [if_pos (by decide +kernel)]; kernel_rfl) | (rw [if_neg (by decide +kernel)]; exact ⟨rfl, rfl⟩))
    (fun os started H enc _ => lifted_CountsBack os started H enc)
end Go.Proofs.Ytololihlpldcdaa
