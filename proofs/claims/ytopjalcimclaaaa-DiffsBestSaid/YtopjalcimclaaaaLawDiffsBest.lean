/- Behind a front two times are one just if no open time can tell them apart: the law answers true for any two times and every list of times. -/
import Derived.Test.YtopjalcimclaaaaHisU
import Derived.Test.YtopjalcimclaaaaFrame0
namespace Go.Proofs.Ytopjalcimclaaaa
open Go Go.ChangeShapes Go.WideShapes Go.ChangeAt Go.WideMaps Go.WideElems Go.RowKit Go.Abs Go.Bag Go.His
-- watershed/watershedkeep.DiffsBest
abbrev Ks_keep_DiffsBest : List Kd := [.dat (.sl (.int .i64)), .dat (.sl (.int .i64)), .dat (.sl (.sl (.int .i64)))]
abbrev Rk_keep_DiffsBest : List Kd := [.dat (.bool)]
abbrev Rt_keep_DiffsBest : Type := Dens Rk_keep_DiffsBest
noncomputable def C_keep_DiffsBest (_N : Nat) : Ctx := { T := [(2, ⟨.int .i64, 1, 8, some (.int .i64), [.int .i64 (0 : Int)], false, []⟩), (4, ⟨.bool, 1, 1, some .bool, [.bool false], false, []⟩), (36, ⟨.slice 3, 1, 24, some (.sl (.int .i64)), [.nil], false, []⟩), (46, ⟨.slice 36, 1, 24, some (.sl (.sl (.int .i64))), [.nil], false, []⟩), (51, ⟨.slice 58, 1, 24, some (.sl (.pair (.sl (.int .i64)) (.sl (.pair (.int .i64) (.pair (.int .i64) (.int .i64)))))), [.nil], false, []⟩), (56, ⟨.slice 60, 1, 24, some (.sl (.pair (.int .i64) (.pair (.int .i64) (.int .i64)))), [.nil], false, []⟩), (58, ⟨.struct [(0, 36), (1, 56)], 2, 48, some (.pair (.sl (.int .i64)) (.sl (.pair (.int .i64) (.pair (.int .i64) (.int .i64))))), [.nil, .nil], false, []⟩), (60, ⟨.struct [(0, 2), (1, 2), (2, 2)], 3, 24, some (.pair (.int .i64) (.pair (.int .i64) (.int .i64))), [.int .i64 (0 : Int), .int .i64 (0 : Int), .int .i64 (0 : Int)], true, []⟩)], G := findE [mkD 20 Ks_diffs_Advance Rk_diffs_Advance (D_diffs_Advance _N), mkQ 21 Ks_times_Join Rk_times_Join (D_times_Join _N), mkP 22 Ks_times_Leq Rk_times_Leq (D_times_Leq _N)], I := findI [], N := _N, n := 73, fx := [], fl := 0, gs := [] }
noncomputable def keep_DiffsBest_1 (_N : Nat) (_v17 : List (List Int × List (Int × Int × Int))) (_v18 : Bool) : Option Rt_keep_DiffsBest :=
  (some ((((_v17.length : Int) == (2 : Int)) == _v18), ()))
noncomputable def keep_DiffsBest_2 (_N : Nat) (_k20 : ((List (List Int × List (Int × Int × Int))) × Bool) → Option Rt_keep_DiffsBest) (_v2 : List Int) (_v3 : List Int) (_v4 : List (List Int × List (Int × Int × Int))) (_v6 : List (List Int)) (_v7 : Int) (_v5 : Bool) (_v8 : Int) (_kn21 : (List Int × List Int × (List (List Int × List (Int × Int × Int))) × List (List Int) × Int) × (Bool × Int) → Option Rt_keep_DiffsBest) : Option Rt_keep_DiffsBest :=
  (bif (decide (_v8 < _v7)) then (bif (decide (0 ≤ _v8) && decide (_v8 < (_v6.length : Int))) then ((D_times_Join _N (_v2, (nth ([]) _v6 (_v8).toNat), ())).bind fun _y22 => ((D_times_Join _N (_v3, (nth ([]) _v6 (_v8).toNat), ())).bind fun _y23 => (bif _v5 then (_kn21 ((_v2, _v3, _v4, _v6, _v7), (true, (IntKind.i64.wrap (_v8 + (1 : Int)))))) else ((D_times_Leq _N (_v2, _y23.1, ())).bind fun _y24 => (bif (!_y24.1) then (_kn21 ((_v2, _v3, _v4, _v6, _v7), (true, (IntKind.i64.wrap (_v8 + (1 : Int)))))) else ((D_times_Leq _N (_v3, _y22.1, ())).bind fun _y25 => (_kn21 ((_v2, _v3, _v4, _v6, _v7), ((!_y25.1), (IntKind.i64.wrap (_v8 + (1 : Int)))))))))))) else none) else (_k20 (_v4, _v5)))
noncomputable def keep_DiffsBest_3 (_N : Nat) (_x1 : List Int) (_x2 : List Int) (_x3 : List (List Int)) : Option Rt_keep_DiffsBest :=
  ((D_diffs_Advance _N ([(_x1, [((0 : Int), ((0 : Int), (1 : Int)))]), (_x2, [((0 : Int), ((0 : Int), (1 : Int)))])], _x3, ())).bind fun _y19 => (bif (_y19.2.1 != (0 : Int)) then (some (((_y19.1.length : Int) == (0 : Int)), ())) else (joinD (fun (_s : (List (List Int × List (Int × Int × Int))) × Bool) => keep_DiffsBest_1 _N _s.1 _s.2) fun _k20 => (loopE (fun (_c : List Int × List Int × (List (List Int × List (Int × Int × Int))) × List (List Int) × Int) (_s : Bool × Int) _kn => keep_DiffsBest_2 _N _k20 _c.1 _c.2.1 _c.2.2.1 _c.2.2.2.1 _c.2.2.2.2 _s.1 _s.2 _kn) _N (_x1, _x2, _y19.1, _x3, (_x3.length : Int)) (false, (0 : Int))))))
noncomputable def D_keep_DiffsBest (_N : Nat) (_x : Dens Ks_keep_DiffsBest) : Option Rt_keep_DiffsBest := keep_DiffsBest_3 _N _x.1 _x.2.1 _x.2.2.1
theorem sp_keep_DiffsBest (_N : Nat) : SpecD Try.prog [] 10 Ks_keep_DiffsBest Rk_keep_DiffsBest (D_keep_DiffsBest _N) := mkSpD (fn := Try.f10) (c := bodyOf Try.f10) (C := C_keep_DiffsBest _N)
    (a := .two .none (.two .none (.two .none (.two .none (.two .none (.join 2 ⟨[(8, .sl (.pair (.sl (.int .i64)) (.sl (.pair (.int .i64) (.pair (.int .i64) (.int .i64)))))), (10, .bool)], [.none, .none]⟩ (.two .none (.one (.loop 2 ⟨[(0, .sl (.int .i64)), (1, .sl (.int .i64)), (8, .sl (.pair (.sl (.int .i64)) (.sl (.pair (.int .i64) (.pair (.int .i64) (.int .i64)))))), (10, .bool), (36, .sl (.sl (.int .i64))), (37, .int .i64), (38, .int .i64)], [.none, .none]⟩ [3, 6] .none))) .none))))))
    (by kernel_rfl) rfl (by kernel_rfl) (by kernel_rfl) ⟨rfl, by unfold TOk; kernel_rfl, gOk_of rfl rfl (List.forall_mem_cons.2 ⟨en_diffs_Advance _N, (List.forall_mem_cons.2 ⟨qen_times_Join _N, (List.forall_mem_cons.2 ⟨en_times_Leq _N, (List.forall_mem_nil _)⟩)⟩)⟩), iOk_of rfl rfl (List.forall_mem_nil _), rfl⟩ (fun _x => by kernel_rfl)
theorem en_keep_DiffsBest (_N : Nat) : EntOk Try.prog [] (mkP 10 Ks_keep_DiffsBest Rk_keep_DiffsBest (D_keep_DiffsBest _N)) := entP ⟨Try.f10, bodyOf Try.f10, by kernel_rfl, by kernel_rfl, rfl⟩ (by kernel_rfl) (sp_keep_DiffsBest _N)
theorem law_DiffsBest (t u : List Int) (f : List (List Int)) (_wt : wfS (.sl (.int .i64)) t) (_wu : wfS (.sl (.int .i64)) u) (_wf : wfS (.sl (.sl (.int .i64))) f) : ∃ N, D_keep_DiffsBest N (t, u, f, ()) = some (true, ()) := by
  obtain ⟨N, hN⟩ : ∃ N, N = 1000 := ⟨_, rfl⟩
  refine ⟨N, ?_⟩
  obtain ⟨l, e, a1, a2⟩ := Advance_eq (N := N) (by omega) (h := [(t, [((0 : Int), ((0 : Int), (1 : Int)))]), (u, [((0 : Int), ((0 : Int), (1 : Int)))])]) (by simp; omega) (by simp) f
  simp only [D_keep_DiffsBest, keep_DiffsBest_3, a1, Option.bind_some]
  rcases a2 with ⟨rfl, A, i1, O1⟩ | ⟨he, -, rfl⟩
  case inr => rw [bne_iff_ne.2 he, cond_true]; rfl
  have ht : tok t = true := A.his.tok (d := (t, [((0 : Int), ((0 : Int), (1 : Int)))])) (by simp)
  have hu : tok u = true := A.his.tok (d := (u, [((0 : Int), ((0 : Int), (1 : Int)))])) (by simp)
  have hft : Frt f t.length := A.fr (d := (t, [((0 : Int), ((0 : Int), (1 : Int)))])) (by simp)
  have hfu : Frt f u.length := A.fr (d := (u, [((0 : Int), ((0 : Int), (1 : Int)))])) (by simp)
  have htu : u.length = t.length := A.his.one (d := (u, [((0 : Int), ((0 : Int), (1 : Int)))])) (e := (t, [((0 : Int), ((0 : Int), (1 : Int)))])) (by simp) (by simp)
  have hf64 := A.frt.len
  -- how many times there are
  have hlen : (l.length = 2) ↔ adv f t ≠ adv f u := by
    have hmem : ∀ s, (∃ d ∈ l, d.1 = s) ↔ ∃ z, ¬ Cg (amt (rowsAt (advD f [(t, [((0 : Int), ((0 : Int), (1 : Int)))]), (u, [((0 : Int), ((0 : Int), (1 : Int)))])]) s) z) 0 := i1.has
    have hrow : ∀ s, rowsAt (advD f [(t, [((0 : Int), ((0 : Int), (1 : Int)))]), (u, [((0 : Int), ((0 : Int), (1 : Int)))])]) s = (if adv f t = s then [((0 : Int), ((0 : Int), (1 : Int)))] else []) ++ (if adv f u = s then [((0 : Int), ((0 : Int), (1 : Int)))] else []) := fun s => by
      simp [rowsAt, advD, His.sel]
    constructor
    · intro h2 e
      have h1 : ∀ d ∈ l, d.1 = adv f t := fun d hd => by
        obtain ⟨x, hx, e1⟩ := i1.times d hd
        simp only [advD, List.map_cons, List.map_nil, List.mem_cons, List.not_mem_nil, or_false] at hx
        rcases hx with rfl | rfl
        · exact e1.symm
        · rw [e]; exact e1.symm
      match l, h2, h1, i1 with
      | [a, b], _, h1, i1 =>
        have hn := i1.nd
        simp only [List.map_cons, List.map_nil, List.nodup_cons, List.mem_singleton] at hn
        exact hn.1 ((h1 a (by simp)).trans (h1 b (by simp)).symm)
    · intro hne
      have hle := i1.len_le
      simp only [advD, List.map_cons, List.map_nil, List.length_cons, List.length_nil] at hle
      have hone : ∀ s, (adv f t = s ∨ adv f u = s) → ∃ d ∈ l, d.1 = s := fun s hs => by
        refine (hmem s).2 ⟨((0 : Int), (0 : Int)), ?_⟩
        rw [hrow]
        rcases hs with rfl | rfl
        · rw [if_pos rfl, if_neg fun e => hne e.symm]
          show ¬ w 1 = w 0
          decide
        · rw [if_pos rfl, if_neg hne]
          show ¬ w 1 = w 0
          decide
      have := sub_len (a := [adv f t, adv f u]) (b := l.map Prod.fst) (by simp [hne]) fun s hs => by
        simp only [List.mem_cons, List.not_mem_nil, or_false] at hs
        obtain ⟨d, hd, e⟩ := hone s (by rcases hs with h | h <;> simp [h])
        exact List.mem_map.2 ⟨d, hd, e⟩
      simp at this
      omega
  replace hlen : l.length = 2 ↔ ¬ adv f t = adv f u := hlen
  rw [adv_eq hft htu] at hlen
  rw [bne_self_eq_false, cond_false]
  simp only [joinD, loopE]
  -- what each time of the front says
  have hsay : ∀ x ∈ f, leqT t (ovr u x) = undr t (ovr u x) ∧ leqT u (ovr t x) = undr u (ovr t x) := fun x hx => by
    have hx1 := hft.one x hx
    have k1 := tok_ovr (show u.length = x.length by omega) hu (A.frt.tok x hx)
    have k2 := tok_ovr (show t.length = x.length by omega) ht (A.frt.tok x hx)
    have l1 := ovr_len (show u.length = x.length by omega)
    have l2 := ovr_len (show t.length = x.length by omega)
    unfold leqT alk
    rw [k1, k2, ht, hu, d_true (show t.length = (ovr u x).length by omega), d_true (show u.length = (ovr t x).length by omega)]
    simp
  let P : Nat → Prop := fun i => ∃ j, j < i ∧ ¬ (undr t (ovr u (nth [] f j)) = true ∧ undr u (ovr t (nth [] f j)) = true)
  obtain ⟨s, ⟨h1, h2⟩, hs⟩ := loopD_inv (N := N) (g := fun (s : Bool × Int) kn => keep_DiffsBest_2 N (fun s => keep_DiffsBest_1 N s.1 s.2) t u l f (f.length : Int) s.1 s.2 (backE (t, u, l, f, (f.length : Int)) kn)) (k := fun s => keep_DiffsBest_1 N l s.1) f.length
    (fun i s => s.2 = (i : Int) ∧ (s.1 = true ↔ P i))
    (by
      rintro i ⟨b, _⟩ hi ⟨rfl, hb⟩
      simp only at hb
      have hx := nth_mem (z := ([] : List Int)) hi
      have hx1 := hft.one _ hx
      obtain ⟨y1, y2⟩ := hsay _ hx
      refine ⟨(b || !(undr t (ovr u (nth [] f i))) || !(undr u (ovr t (nth [] f i))), (i : Int) + 1), ⟨by simp, ?_⟩, fun kn => ?_⟩
      · simp only [Bool.or_eq_true, Bool.not_eq_true', hb]
        constructor
        · rintro ((⟨j, j1, j2⟩ | h) | h)
          · exact ⟨j, by omega, j2⟩
          · exact ⟨i, by omega, fun hh => by rw [hh.1] at h; cases h⟩
          · exact ⟨i, by omega, fun hh => by rw [hh.2] at h; cases h⟩
        · rintro ⟨j, j1, j2⟩
          by_cases q : j = i
          · subst q
            cases q1 : undr t (ovr u (nth [] f j)) with
            | false => exact .inl (.inr rfl)
            | true =>
              refine .inr ?_
              cases q2 : undr u (ovr t (nth [] f j)) with
              | false => rfl
              | true => exact absurd ⟨q1, q2⟩ j2
          · exact .inl (.inl ⟨j, by omega, j2⟩)
      · simp only [keep_DiffsBest_2, lt_d hi, ge0_d, Bool.and_self, cond_true, Int.toNat_natCast, Join_eq (N := N) (by omega) (show t.length = (nth [] f i).length by omega) ht (A.frt.tok _ hx), Join_eq (N := N) (by omega) (show u.length = (nth [] f i).length by omega) hu (A.frt.tok _ hx), Option.bind_some, Leq_eq (N := N) (by omega), y1, y2, backE_eq, ix1 hi (show f.length ≤ 4611686018427387904 by omega)]
        cases b with
        | true => simp
        | false =>
          cases undr t (ovr u (nth [] f i)) with
          | false => simp
          | true => simp)
    (by
      rintro ⟨b, _⟩ ⟨rfl, hb⟩ kn
      simp only [keep_DiffsBest_2, lt_self, cond_false])
    (by omega) (s := (false, (0 : Int))) ⟨rfl, ⟨fun h => (by cases h), fun ⟨j, hj, _⟩ => (by omega)⟩⟩
  rw [hs]
  simp only [keep_DiffsBest_1]
  congr 2
  rw [beq_iff_eq, Bool.eq_iff_iff, beq_iff_eq, h2]
  have e2 : ((l.length : Int) = 2) ↔ l.length = 2 := by omega
  rw [e2, hlen]
  constructor
  · intro hno
    refine Classical.byContradiction fun hP => hno fun x hx => ?_
    obtain ⟨j, hj, rfl⟩ := mem_nth (z := ([] : List Int)) hx
    exact Classical.byContradiction fun hh => hP ⟨j, hj, hh⟩
  · rintro ⟨j, hj, h⟩ hall
    exact h (hall _ (nth_mem hj))
set_option maxRecDepth 100000 in
theorem lifted_DiffsBest (os : Os) (started : os.Started) (H : Type) (enc : TypeId × Value → H) :
    ReturnsInHanded {} Try.checked os 10 .any (Rows.diffsBestSpec.pre6 enc Try.prog Try.f10 Rows.diffsBestRow.domain false) (Rows.diffsBestSpec.post enc Try.prog Try.f10 false true false false) := by
  refine returnsInHanded_of_change_sized (C := Try.checked) own started (by kernel_rfl) Try.func10
    (ChangeSpec.witness6 (enc := enc) (C := Try.checked) false ⟨#[], #[.slice none 0 0, .slice none 0 0, .slice none 0 0], []⟩ 8 (by kernel_rfl) (by kernel_rfl) (by kernel_rfl) (by kernel_rfl)) ?_
  intro W base args ds gs before hval0 hW _ hsz0 _
  have hgw : GW [] W := fun _ h => nomatch h
  have hval : ∀ (j : Nat) t v, Try.f10.params[j]? = some t → args[j]? = some v → Value.okWide Try.prog W .any base t v := hval0
  have hW' := hW
  obtain ⟨p, q, hA0, hV, rfl, _, _⟩ := hW
  have hA : DataW.TrodAll enc Try.prog W 0 (fun _ => true) true Try.f10.params.toList args.toList ds p := hA0
  rw [Try.params10] at hA hval
  obtain ⟨v0, vs0, d0, ds0, p0, q0, hargs, rfl, rfl, h0, r0⟩ := trodAll_cons hA
  obtain ⟨v1, vs1, d1, ds1, p1, q1, rfl, rfl, rfl, h1, r1⟩ := trodAll_cons r0
  obtain ⟨v2, vs2, d2, ds2, p2, q2, rfl, rfl, rfl, h2, r2⟩ := trodAll_cons r1
  obtain ⟨rfl, rfl, rfl⟩ := trodAll_nil r2
  obtain rfl : args = #[v0, v1, v2] := by cases args; simp_all
  obtain ⟨rfl, rfl⟩ := trodVars_none hV
  have hall := List.all_eq_true.1 hsz0
  clear hA0 hval0 hsz0
  simp only [List.append_nil] at hW'
  have hlt0 : ∀ x ∈ p0, x.block < W.heap.size := fun x hx => hW'.lt x (by simp [hx])
  have hlt1 : ∀ x ∈ p1, x.block < W.heap.size := fun x hx => hW'.lt x (by simp [hx])
  have hlt2 : ∀ x ∈ p2, x.block < W.heap.size := fun x hx => hW'.lt x (by simp [hx])
  obtain ⟨x0, g0, w0⟩ := open_kd (k := .dat (.sl (.int .i64))) (by kernel_rfl) (hval 0 36 v0 rfl rfl) h0
  obtain ⟨x1, g1, w1⟩ := open_kd (k := .dat (.sl (.int .i64))) (by kernel_rfl) (hval 1 36 v1 rfl rfl) h1
  obtain ⟨x2, g2, w2⟩ := open_kd (k := .dat (.sl (.sl (.int .i64)))) (by kernel_rfl) (hval 2 46 v2 rfl rfl) h2
  obtain ⟨N, hN⟩ := law_DiffsBest x0 x1 x2 w0 w1 w2
  refine (sp_keep_DiffsBest N (fun _ => False) W (x0, x1, x2, ()) (true, ()) [v0, v1, v2] (fun _ h => h.elim) hgw ⟨v0, _, rfl, g0, ⟨v1, _, rfl, g1, ⟨v2, _, rfl, g2, rfl⟩⟩⟩ hN).mono ?_
  rintro e W' ⟨v, rfl, hg, hr⟩
  replace hg := hg.old
  have hr : v = .bool true := by simpa only [kvals, retV, Kd.val, Go.Abs.enc, RV] using hr
  subst hr
  exact ⟨_, rfl, _, _, _, [], p0 ++ (p1 ++ (p2 ++ [])), [], hW', (trodAll_cons_mk (shut_bool (show Try.prog.underlying 4 = some .bool by kernel_rfl) _) trodAll_mk0), (trodAll_cons_mk (Below.trod laidOut (by kernel_rfl) (of_decide_eq_true (by kernel_rfl)) h0 hg hlt0) (trodAll_cons_mk (Below.trod laidOut (by kernel_rfl) (of_decide_eq_true (by kernel_rfl)) h1 hg hlt1) (trodAll_cons_mk (Below.trod laidOut (by kernel_rfl) (of_decide_eq_true (by kernel_rfl)) h2 hg hlt2) trodAll_mk0))), rfl, hg.frame _, fun h => by cases h⟩

/-- The statement: whatever the arguments, the law's function returns true and leaves them as they were. -/
theorem diffsBest_holds : Rows.DiffsBestSaid :=
  OpenClaim.holds_of_wide 10 Try.f10 rfl rfl rfl rfl rfl rfl rfl ⟨rfl, rfl, rfl, rfl, rfl⟩ rfl rfl rfl rfl rfl (by kernel_rfl) Try.func10 (by kernel_rfl)
    (of_decide_eq_true (by kernel_rfl)) (by unfold Func.isWrapper; first | (rw [if_pos (by decide +kernel)]; kernel_rfl) | (rw [if_neg (by decide +kernel)]; exact ⟨rfl, rfl⟩))
    (fun os started H enc _ => lifted_DiffsBest os started H enc)
end Go.Proofs.Ytopjalcimclaaaa
