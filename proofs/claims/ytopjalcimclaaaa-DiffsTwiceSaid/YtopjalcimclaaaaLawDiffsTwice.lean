/- Behind a front once is behind it twice, with no more times: the law answers true for every history and every list of times. -/
import Derived.Test.YtopjalcimclaaaaHisU
import Derived.Test.YtopjalcimclaaaaFrame0
namespace Go.Proofs.Ytopjalcimclaaaa
open Go Go.ChangeShapes Go.WideShapes Go.ChangeAt Go.WideMaps Go.WideElems Go.RowKit Go.Abs Go.Bag Go.His
-- watershed/watershedkeep.DiffsTwice
abbrev Ks_keep_DiffsTwice : List Kd := [.dat (.sl (.pair (.sl (.int .i64)) (.sl (.pair (.int .i64) (.pair (.int .i64) (.int .i64)))))), .dat (.sl (.sl (.int .i64)))]
abbrev Rk_keep_DiffsTwice : List Kd := [.dat (.bool)]
abbrev Rt_keep_DiffsTwice : Type := Dens Rk_keep_DiffsTwice
noncomputable def C_keep_DiffsTwice (_N : Nat) : Ctx := { T := [(51, ⟨.slice 58, 1, 24, some (.sl (.pair (.sl (.int .i64)) (.sl (.pair (.int .i64) (.pair (.int .i64) (.int .i64)))))), [.nil], false, []⟩)], G := findE [mkQ 20 Ks_diffs_Advance Rk_diffs_Advance (D_diffs_Advance _N), mkQ 17 Ks_diffs_Tidy Rk_diffs_Tidy (D_diffs_Tidy _N), mkP 19 Ks_ref_DiffsSame Rk_ref_DiffsSame (D_ref_DiffsSame _N), mkP 18 Ks_keep_totals Rk_keep_totals (D_keep_totals _N)], I := findI [], N := _N, n := 54, fx := [], fl := 0, gs := [] }
noncomputable def keep_DiffsTwice_1 (_N : Nat) (_x1 : List (List Int × List (Int × Int × Int))) (_x2 : List (List Int)) : Option Rt_keep_DiffsTwice :=
  ((D_diffs_Advance _N (_x1, _x2, ())).bind fun _y7 => (bif (_y7.2.1 != (0 : Int)) then (some (true, ())) else ((D_diffs_Advance _N (_y7.1, _x2, ())).bind fun _y8 => ((D_diffs_Tidy _N (_x1, ())).bind fun _y9 => (bif (_y8.2.1 == (0 : Int)) then (bif (_y9.2.1 == (0 : Int)) then ((D_ref_DiffsSame _N (_y7.1, _y8.1, ())).bind fun _y10 => (bif _y10.1 then (bif (decide ((_y7.1.length : Int) ≤ (_y9.1.length : Int))) then ((D_keep_totals _N (_y7.1, ())).bind fun _y11 => ((D_keep_totals _N (_x1, ())).bind fun _y12 => (some ((_y11.1 == _y12.1), ())))) else (some (false, ()))) else (some (false, ())))) else (some (false, ()))) else (some (false, ())))))))
noncomputable def D_keep_DiffsTwice (_N : Nat) (_x : Dens Ks_keep_DiffsTwice) : Option Rt_keep_DiffsTwice := keep_DiffsTwice_1 _N _x.1 _x.2.1
theorem sp_keep_DiffsTwice (_N : Nat) : SpecD Try.prog [] 9 Ks_keep_DiffsTwice Rk_keep_DiffsTwice (D_keep_DiffsTwice _N) := mkSpD (fn := Try.f9) (c := bodyOf Try.f9) (C := C_keep_DiffsTwice _N)
    (a := .none)
    (by kernel_rfl) rfl (by kernel_rfl) (by kernel_rfl) ⟨rfl, by unfold TOk; kernel_rfl, gOk_of rfl rfl (List.forall_mem_cons.2 ⟨qen_diffs_Advance _N, (List.forall_mem_cons.2 ⟨qen_diffs_Tidy _N, (List.forall_mem_cons.2 ⟨en_ref_DiffsSame _N, (List.forall_mem_cons.2 ⟨en_keep_totals _N, (List.forall_mem_nil _)⟩)⟩)⟩)⟩), iOk_of rfl rfl (List.forall_mem_nil _), rfl⟩ (fun _x => by kernel_rfl)
theorem en_keep_DiffsTwice (_N : Nat) : EntOk Try.prog [] (mkP 9 Ks_keep_DiffsTwice Rk_keep_DiffsTwice (D_keep_DiffsTwice _N)) := entP ⟨Try.f9, bodyOf Try.f9, by kernel_rfl, by kernel_rfl, rfl⟩ (by kernel_rfl) (sp_keep_DiffsTwice _N)
theorem law_DiffsTwice (h : List Df) (f : List (List Int)) (_wh : wfS (.sl (.pair (.sl (.int .i64)) (.sl (.pair (.int .i64) (.pair (.int .i64) (.int .i64)))))) h) (_wf : wfS (.sl (.sl (.int .i64))) f) (hz : h.length * 48 ≤ reachBytes) : ∃ N, D_keep_DiffsTwice N (h, f, ()) = some (true, ()) := by
  have hw : h.length < 4611686018427387904 := by unfold reachBytes at hz; omega
  obtain ⟨N, hN⟩ : ∃ N, N = h.length + 100000 := ⟨_, rfl⟩
  refine ⟨N, ?_⟩
  obtain ⟨l, e, a1, a2⟩ := Advance_eq (N := N) (by omega) (h := h) (by omega) (by omega) f
  simp only [D_keep_DiffsTwice, keep_DiffsTwice_1, a1, Option.bind_some]
  rcases a2 with ⟨rfl, A, i1, O1⟩ | ⟨he, -, -⟩
  case inr => rw [bne_iff_ne.2 he, cond_true]
  have hh := A.his.len
  have hl := O1.len
  -- the advanced one stays where it is
  have hfx : ∀ d ∈ l, adv f d.1 = d.1 := fun d hd => by
    obtain ⟨x, hx, e1⟩ := i1.times d hd
    obtain ⟨y, hy, rfl⟩ := List.mem_map.1 hx
    rw [← e1]
    exact adv_twice (A.fr hy)
  have hadv : advD f l = l := by
    unfold advD
    conv => rhs; rw [← List.map_id l]
    exact List.map_congr_left fun d hd => Prod.ext (hfx d hd) rfl
  have A2 : AdvOk l f := ⟨O1, A.frt, A.ne, fun d hd u hu => by
    obtain ⟨x, hx, e1⟩ := i1.times d hd
    obtain ⟨y, hy, rfl⟩ := List.mem_map.1 hx
    rw [← e1]
    show u.length = (adv f y.1).length
    rw [adv_len (A.fr hy)]
    exact A.one y hy u hu⟩
  obtain ⟨k, e', b1, b2⟩ := Advance_eq (N := N) (by omega) (h := l) (by omega) (by omega) f
  obtain ⟨m, x, c1, c2⟩ := dTidy_eq (N := N) (by omega) (h := h) (by omega) (by omega)
  rcases b2 with ⟨rfl, -, i2, O2⟩ | ⟨-, hno, -⟩
  case inr => exact absurd A2 hno
  rcases c2 with ⟨rfl, -, i3, O3⟩ | ⟨-, hno, -⟩
  case inr => exact absurd A.his hno
  rw [hadv] at i2
  have hkl : k = l := i2.uniq i1.self
  subst hkl
  have hle : k.length ≤ m.length := by
    have heq : His.HEq h m := fun t z => (i3.rows t z).symm
    have : IsHis (fun t => amt (rowsAt (advD f m) t)) k := i1.cg fun t z => heq.map (adv f) t z
    have := this.len_le
    simpa [advD] using this
  have htot : w (tots k) = w (tots h) := by
    have h1 : His.HEq k (advD f h) := fun t z => i1.rows t z
    have := h1.tots
    unfold advD at this
    rw [tots_map] at this
    exact this
  simp only [b1, c1, Option.bind_some, bne_self_eq_false, cond_false, beq_self_eq_true, cond_true]
  rw [DSame_eq (N := N) (by omega) (fun d hd => by have := tok4 (O1.tok hd); omega) (fun d hd => by have := O1.row hd; omega) (by omega), Option.bind_some, d_true rfl, cond_true, d_true (show (k.length : Int) ≤ (m.length : Int) by omega), cond_true,
    totals_eq (N := N) (by omega) (fun d hd => by have := O1.row hd; omega) (by omega), totals_eq (N := N) (by omega) (fun d hd => by have := A.his.row hd; omega) (by omega)]
  simp only [Option.bind_some, htot, beq_self_eq_true]
set_option maxRecDepth 100000 in
theorem lifted_DiffsTwice (os : Os) (started : os.Started) (H : Type) (enc : TypeId × Value → H) :
    ReturnsInHanded {} Try.checked os 9 .any (Rows.diffsTwiceSpec.pre6 enc Try.prog Try.f9 Rows.diffsTwiceRow.domain false) (Rows.diffsTwiceSpec.post enc Try.prog Try.f9 false true false false) := by
  refine returnsInHanded_of_change_sized (C := Try.checked) own started (by kernel_rfl) Try.func9
    (ChangeSpec.witness6 (enc := enc) (C := Try.checked) false ⟨#[], #[.slice none 0 0, .slice none 0 0], []⟩ 8 (by kernel_rfl) (by kernel_rfl) (by kernel_rfl) (by kernel_rfl)) ?_
  intro W base args ds gs before hval0 hW _ hsz0 _
  have hgw : GW [] W := fun _ h => nomatch h
  have hval : ∀ (j : Nat) t v, Try.f9.params[j]? = some t → args[j]? = some v → Value.okWide Try.prog W .any base t v := hval0
  have hW' := hW
  obtain ⟨p, q, hA0, hV, rfl, _, _⟩ := hW
  have hA : DataW.TrodAll enc Try.prog W 0 (fun _ => true) true Try.f9.params.toList args.toList ds p := hA0
  rw [Try.params9] at hA hval
  obtain ⟨v0, vs0, d0, ds0, p0, q0, hargs, rfl, rfl, h0, r0⟩ := trodAll_cons hA
  obtain ⟨v1, vs1, d1, ds1, p1, q1, rfl, rfl, rfl, h1, r1⟩ := trodAll_cons r0
  obtain ⟨rfl, rfl, rfl⟩ := trodAll_nil r1
  obtain rfl : args = #[v0, v1] := by cases args; simp_all
  obtain ⟨rfl, rfl⟩ := trodVars_none hV
  have hall := List.all_eq_true.1 hsz0
  clear hA0 hval0 hsz0
  simp only [List.append_nil] at hW'
  have hlt0 : ∀ x ∈ p0, x.block < W.heap.size := fun x hx => hW'.lt x (by simp [hx])
  have hlt1 : ∀ x ∈ p1, x.block < W.heap.size := fun x hx => hW'.lt x (by simp [hx])
  obtain ⟨x0, g0, w0⟩ := open_kd (k := .dat (.sl (.pair (.sl (.int .i64)) (.sl (.pair (.int .i64) (.pair (.int .i64) (.int .i64))))))) (by kernel_rfl) (hval 0 51 v0 rfl rfl) h0
  obtain ⟨x1, g1, w1⟩ := open_kd (k := .dat (.sl (.sl (.int .i64)))) (by kernel_rfl) (hval 1 46 v1 rfl rfl) h1
  have z0 : x0.length * Try.prog.bytesOf 58 ≤ reachBytes := open_room (t := 51) (r1 := []) (by kernel_rfl) g0 h0 fun n hn => by
    refine of_decide_eq_true (hall n ?_)
    rw [Try.params9]
    change n ∈ DataW.weightsEach Try.prog [51, 46] [d0, d1]
    simp only [DataW.weightsEach]
    exact List.mem_append_left _ (by simpa using hn)
  obtain ⟨N, hN⟩ := law_DiffsTwice x0 x1 w0 w1 (by simpa only [show Try.prog.bytesOf 58 = 48 by kernel_rfl] using z0)
  refine (sp_keep_DiffsTwice N (fun _ => False) W (x0, x1, ()) (true, ()) [v0, v1] (fun _ h => h.elim) hgw ⟨v0, _, rfl, g0, ⟨v1, _, rfl, g1, rfl⟩⟩ hN).mono ?_
  rintro e W' ⟨v, rfl, hg, hr⟩
  replace hg := hg.old
  have hr : v = .bool true := by simpa only [kvals, retV, Kd.val, Go.Abs.enc, RV] using hr
  subst hr
  exact ⟨_, rfl, _, _, _, [], p0 ++ (p1 ++ []), [], hW', (trodAll_cons_mk (shut_bool (show Try.prog.underlying 4 = some .bool by kernel_rfl) _) trodAll_mk0), (trodAll_cons_mk (Below.trod laidOut (by kernel_rfl) (of_decide_eq_true (by kernel_rfl)) h0 hg hlt0) (trodAll_cons_mk (Below.trod laidOut (by kernel_rfl) (of_decide_eq_true (by kernel_rfl)) h1 hg hlt1) trodAll_mk0)), rfl, hg.frame _, fun h => by cases h⟩

/-- The statement: whatever the arguments, the law's function returns true and leaves them as they were. -/
theorem diffsTwice_holds : Rows.DiffsTwiceSaid :=
  OpenClaim.holds_of_wide 9 Try.f9 rfl rfl rfl rfl rfl rfl rfl ⟨rfl, rfl, rfl, rfl, rfl⟩ rfl rfl rfl rfl rfl (by kernel_rfl) Try.func9 (by kernel_rfl)
    (of_decide_eq_true (by kernel_rfl)) (by unfold Func.isWrapper; first | (rw [if_pos (by decide +kernel)]; kernel_rfl) | (rw [if_neg (by decide +kernel)]; exact ⟨rfl, rfl⟩))
    (fun os started H enc _ => lifted_DiffsTwice os started H enc)
end Go.Proofs.Ytopjalcimclaaaa
