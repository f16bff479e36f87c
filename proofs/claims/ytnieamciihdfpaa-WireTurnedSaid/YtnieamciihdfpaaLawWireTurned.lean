/- If one byte stands in place of another one, the sum tells: the law answers true for every history, any place and any byte. -/
import Derived.Test.YtnieamciihdfpaaWirS
import Derived.Test.YtnieamciihdfpaaFrame0
namespace Go.Proofs.Ytnieamciihdfpaa
open Go Go.ChangeShapes Go.WideShapes Go.ChangeAt Go.WideMaps Go.WideElems Go.RowKit Go.Abs Go.Bag Go.His Go.Wir
-- watershed/watershedkeep.WireTurned
abbrev Ks_keep_WireTurned : List Kd := [.dat (.sl (.pair (.sl (.int .i64)) (.sl (.pair (.int .i64) (.pair (.int .i64) (.int .i64)))))), .dat (.int .u16), .dat (.int .u8)]
abbrev Rk_keep_WireTurned : List Kd := [.dat (.bool)]
abbrev Rt_keep_WireTurned : Type := Dens Rk_keep_WireTurned
noncomputable def C_keep_WireTurned (_N : Nat) : Ctx := { T := [(3, ⟨.int .i64, 1, 8, some (.int .i64), [.int .i64 (0 : Int)], false, []⟩), (5, ⟨.int .u8, 1, 1, some (.int .u8), [.int .u8 (0 : Int)], false, []⟩), (22, ⟨.slice 64, 1, 24, some (.sl (.pair (.sl (.int .i64)) (.sl (.pair (.int .i64) (.pair (.int .i64) (.int .i64)))))), [.nil], false, []⟩), (50, ⟨.slice 5, 1, 24, some (.sl (.int .u8)), [.nil], false, []⟩), (56, ⟨.int .u16, 1, 2, some (.int .u16), [.int .u16 (0 : Int)], false, []⟩)], G := findE [mkHe 25 Sg_wire_Put_h (D_wire_Put_h _N), mkD 26 Ks_wire_Get Rk_wire_Get (D_wire_Get _N)], I := findI [], N := _N, n := 48, fx := [], fl := 0, gs := [] }
noncomputable def keep_WireTurned_1 (_N : Nat) (_x1 : List (List Int × List (Int × Int × Int))) (_x2 : Int) (_x3 : Int) : Option Rt_keep_WireTurned :=
  ((D_wire_Put_h _N _x1).bind fun _y5 => (caseD _y5 (fun _y6 => (bif (_y6 != (0 : Int)) then (some (true, ())) else (bif (decide (((0 : Nat) : Int) < (2 : Int))) then (some (false, ())) else (bif (((0 : Nat) : Int) == 0) then none else none)))) fun _y7 => (bif (_y7.1 != (0 : Int)) then (some (true, ())) else (bif (decide ((_y7.2.length : Int) < (2 : Int))) then (some (false, ())) else (bif ((_y7.2.length : Int) == 0) then none else (bif (decide (0 ≤ ((IntKind.i64.wrap _x2).tmod (_y7.2.length : Int))) && decide (((IntKind.i64.wrap _x2).tmod (_y7.2.length : Int)) < (_y7.2.length : Int))) then (bif ((nth (0 : Int) _y7.2 (((IntKind.i64.wrap _x2).tmod (_y7.2.length : Int)).toNat)) == _x3) then (some (true, ())) else (bif (decide (0 ≤ ((IntKind.i64.wrap _x2).tmod (_y7.2.length : Int))) && decide (((IntKind.i64.wrap _x2).tmod (_y7.2.length : Int)) < (_y7.2.length : Int))) then ((D_wire_Get _N ((_y7.2.set (((IntKind.i64.wrap _x2).tmod (_y7.2.length : Int)).toNat) _x3), ())).bind fun _y8 => (bif (_y8.2.1 == (16 : Int)) then (some (((_y8.1.length : Int) == (0 : Int)), ())) else (some (false, ())))) else none)) else none))))))
noncomputable def D_keep_WireTurned (_N : Nat) (_x : Dens Ks_keep_WireTurned) : Option Rt_keep_WireTurned := keep_WireTurned_1 _N _x.1 _x.2.1 _x.2.2.1
theorem sp_keep_WireTurned (_N : Nat) : SpecD Try.prog [] 9 Ks_keep_WireTurned Rk_keep_WireTurned (D_keep_WireTurned _N) := mkSpD (fn := Try.f9) (c := bodyOf Try.f9) (C := C_keep_WireTurned _N)
    (a := .none)
    (by kernel_rfl) rfl (by kernel_rfl) (by kernel_rfl) ⟨rfl, by unfold TOk; kernel_rfl, gOk_of rfl rfl (List.forall_mem_cons.2 ⟨en_wire_Put_h _N, (List.forall_mem_cons.2 ⟨en_wire_Get _N, (List.forall_mem_nil _)⟩)⟩), iOk_of rfl rfl (List.forall_mem_nil _), rfl⟩ (fun _x => by kernel_rfl)
theorem turned {N : Nat} (hN : 100000 ≤ N) {body : List Int} (hl : body.length ≤ 7690) (hb : ∀ x ∈ body, Byt x) {i : Nat} (hi : i < body.length + 2) {x : Int} (hx : Byt x)
    (hne : nth 0 (body ++ [IntKind.u8.wrap (smA body), IntKind.u8.wrap (ishr .i64 (smA body) 8)]) i ≠ x) :
    D_wire_Get N ((body ++ [IntKind.u8.wrap (smA body), IntKind.u8.wrap (ishr .i64 (smA body) 8)]).set i x, ()) = some ([], 16, ()) := by
  obtain ⟨s1, s2⟩ := smA_lt body
  have hs : ishr .i64 (smA body) 8 = smA body / 256 := by
    unfold ishr
    have : (2 : Int) ^ (min (8 : Int).toNat IntKind.i64.bits) = 256 := by decide
    rw [this, Int.fdiv_eq_ediv_of_nonneg _ (by decide)]
  have hlo : IntKind.u8.wrap (smA body) = smA body % 256 := wrap_mod _
  have hhi : IntKind.u8.wrap (ishr .i64 (smA body) 8) = smA body / 256 := by rw [hs]; exact wrap_byt (by omega) (by omega)
  rw [hlo, hhi] at hne ⊢
  -- what is turned
  obtain ⟨b, lo, hi', hset, hbl, hbb, hlb, hhb, hdiff⟩ : ∃ (b : List Int) (lo hi' : Int), (body ++ [smA body % 256, smA body / 256]).set i x = b ++ [lo, hi'] ∧ b.length = body.length ∧ (∀ y ∈ b, Byt y) ∧ Byt lo ∧ Byt hi' ∧ smA b ≠ lo + 256 * hi' := by
    have hlB : Byt (smA body % 256) := by unfold Byt; omega
    have hhB : Byt (smA body / 256) := by unfold Byt; omega
    by_cases h1 : i < body.length
    · have e1 : nth 0 (body ++ [smA body % 256, smA body / 256]) i = nth 0 body i := by
        rw [nth_lt (by simp; omega), nth_lt h1, List.getElem_append_left h1]
      rw [e1] at hne
      refine ⟨body.set i x, _, _, by rw [List.set_append_left _ _ h1], by simp, fun y hy => ?_, hlB, hhB, ?_⟩
      · rcases List.mem_or_eq_of_mem_set hy with hy | rfl
        · exact hb y hy
        · exact hx
      · have := sum_turned h1 (by omega) hx (hb _ (nth_mem h1)) hne
        omega
    · have hset := List.set_append_right (s := body) (t := [smA body % 256, smA body / 256]) i x (by omega)
      by_cases h2 : i = body.length
      · subst h2
        have e1 : nth 0 (body ++ [smA body % 256, smA body / 256]) body.length = smA body % 256 := by
          rw [nth_lt (by simp)]; simp
        rw [e1] at hne
        refine ⟨body, x, smA body / 256, by rw [hset, Nat.sub_self]; rfl, rfl, hb, hx, hhB, by omega⟩
      · have h3 : i = body.length + 1 := by omega
        subst h3
        have e1 : nth 0 (body ++ [smA body % 256, smA body / 256]) (body.length + 1) = smA body / 256 := by
          rw [nth_lt (by simp)]; simp
        rw [e1] at hne
        refine ⟨body, smA body % 256, x, by rw [hset, show body.length + 1 - body.length = 1 by omega]; rfl, rfl, hb, hlB, hx, by omega⟩
  rw [hset]
  have hlen : (((b ++ [lo, hi'] : List Int).length : Nat) : Int) = (b.length : Int) + 2 := by simp
  have w1 : IntKind.i64.wrap ((b.length : Int) + 2 - 2) = (b.length : Int) := by rw [w64 (by omega) (by omega)]; omega
  have w2 : IntKind.i64.wrap ((b.length : Int) + 1) = (b.length : Int) + 1 := w64 (by omega) (by omega)
  have t2 : ((b.length : Int) + 1).toNat = b.length + 1 := by omega
  have n1 : nth 0 (b ++ [lo, hi']) b.length = lo := by rw [nth_lt (by simp)]; simp
  have n2 : nth 0 (b ++ [lo, hi']) (b.length + 1) = hi' := by rw [nth_lt (by simp)]; simp
  have wlo : IntKind.i64.wrap lo = lo := w64 (by have := hlb.1; omega) (by have := hlb.2; omega)
  have whi : IntKind.i64.wrap hi' = hi' := w64 (by have := hhb.1; omega) (by have := hhb.2; omega)
  have htk : ((b ++ [lo, hi']).take b.length).drop (0 : Int).toNat = b := by simp
  simp only [D_wire_Get, wire_Get_1, hlen, w1, w2, Int.toNat_natCast, t2, n1, n2, wlo, whi, htk]
  rw [d_false (show ¬ (b.length : Int) + 2 > 8192 by omega), cond_false, d_false (show ¬ (b.length : Int) < 0 by omega), cond_false, show decide ((0 : Int) ≤ 0) = true from rfl, d_true (show (0 : Int) ≤ (b.length : Int) by omega), d_true (show (b.length : Int) ≤ (b.length : Int) + 2 by omega), Bool.and_self, Bool.and_self, cond_true,
    Sum_eq (N := N) (b := b) (by omega) (by omega) hbb, Option.bind_some, d_true (show (b.length : Int) < (b.length : Int) + 2 by omega), d_true (show (0 : Int) ≤ (b.length : Int) + 1 by omega), d_true (show (b.length : Int) + 1 < (b.length : Int) + 2 by omega)]
  simp only [Bool.and_self, cond_true, show decide ((8 : Int) < 0) = false from rfl, cond_false]
  rw [ior_two hlb hhb, bne_iff_ne.2 hdiff, cond_true]
theorem law_WireTurned (h : List Df) (k x : Int) (_wh : wfS (.sl (.pair (.sl (.int .i64)) (.sl (.pair (.int .i64) (.pair (.int .i64) (.int .i64)))))) h) (wk : wfS (.int .u16) k) (wx : wfS (.int .u8) x) (hz : h.length * 48 ≤ reachBytes) :
    ∃ N, D_keep_WireTurned N (h, k, x, ()) = some (true, ()) := by
  have hw : h.length < 4611686018427387904 := by unfold reachBytes at hz; omega
  obtain ⟨N, hN⟩ : ∃ N, N = h.length + 100000 := ⟨_, rfl⟩
  refine ⟨N, ?_⟩
  have hx : Byt x := ⟨by have := wx.1; exact this, by have := wx.2; exact this⟩
  have hk : 0 ≤ k ∧ k ≤ 65535 := ⟨by have := wk.1; exact this, by have := wk.2; exact this⟩
  obtain ⟨l, e, a1, a2⟩ := dTidy_eq (N := N) (by omega) (h := h) (by omega) (by omega)
  simp only [D_keep_WireTurned, keep_WireTurned_1, D_wire_Put_h, wire_Put_h_1, a1, Option.bind_some]
  rcases a2 with ⟨rfl, H, i1, O1⟩ | ⟨he, -, -⟩
  case inr =>
    rw [bne_iff_ne.2 he, cond_true]
    simp only [Option.bind_some, caseD_inl]
    rw [bne_iff_ne.2 he, cond_true]
  obtain ⟨body, b1, b2, b3⟩ := bytesOf_eq (N := N) (by omega) O1
  rw [bne_self_eq_false, cond_false, b1]
  simp only [Option.bind_some, caseD_inr, bne_self_eq_false, cond_false]
  generalize hb : body ++ [IntKind.u8.wrap (smA body), IntKind.u8.wrap (ishr .i64 (smA body) 8)] = b
  have hlen : b.length = body.length + 2 := by rw [← hb]; simp
  have hmod : (IntKind.i64.wrap k).tmod (b.length : Int) = ((k.toNat % b.length : Nat) : Int) := by
    obtain ⟨m, rfl⟩ := Int.eq_ofNat_of_zero_le hk.1
    rw [w64 (by omega) (by omega), Int.toNat_natCast]
    exact (Int.ofNat_tmod _ _).symm
  have hlt : k.toNat % b.length < b.length := Nat.mod_lt _ (by omega)
  rw [hmod, d_false (show ¬ (b.length : Int) < 2 by omega), cond_false, show ((b.length : Int) == 0) = false from beq_false_of_ne (by omega), cond_false, Int.toNat_natCast, ge0_d, lt_d hlt, Bool.and_self, cond_true]
  by_cases q : nth 0 b (k.toNat % b.length) = x
  · rw [show (nth 0 b (k.toNat % b.length) == x) = true from beq_iff_eq.2 q, cond_true]
  · rw [show (nth 0 b (k.toNat % b.length) == x) = false from beq_false_of_ne q, cond_false, cond_true]
    have := turned (N := N) (by omega) b2 b3 (i := k.toNat % b.length) (by omega) hx (by rw [hb]; exact q)
    rw [hb] at this
    rw [this]
    rfl
set_option maxRecDepth 100000 in
theorem lifted_WireTurned (os : Os) (started : os.Started) (H : Type) (enc : TypeId × Value → H) :
    ReturnsInHanded {} Try.checked os 9 .any (Rows.wireTurnedSpec.pre6 enc Try.prog Try.f9 Rows.wireTurnedRow.domain false) (Rows.wireTurnedSpec.post enc Try.prog Try.f9 false true false false) := by
  refine returnsInHanded_of_change_sized (C := Try.checked) own started (by kernel_rfl) Try.func9
    (ChangeSpec.witness6 (enc := enc) (C := Try.checked) false ⟨#[], #[.slice none 0 0, .int .u16 0, .int .u8 0], []⟩ 8 (by kernel_rfl) (by kernel_rfl) (by kernel_rfl) (by kernel_rfl)) ?_
  intro W base args ds gs before hval0 hW _ hsz0 _
  have hgw : GW [] W := fun _ h => nomatch h
  have hval : ∀ (j : Nat) t v, Try.f9.params[j]? = some t → args[j]? = some v → Value.okWide Try.prog W .any base t v := hval0
  have hW' := hW
  obtain ⟨p, q, hA0, hV, rfl, _, _⟩ := hW
  have hA : DataW.TrodAll enc Try.prog W 0 (fun _ => true) true Try.f9.params.toList args.toList ds p := hA0
  rw [Try.params9] at hA hval
  obtain ⟨v0, vs0, d0, ds0, p0, q0, hargs, rfl, rfl, h0, r0⟩ := trodAll_cons hA
  obtain ⟨v1, vs1, d1, ds1, p1, q1, rfl, rfl, rfl, h1, r1⟩ := trodAll_cons r0
  obtain ⟨v2, vs2, d2, ds2, p2, q2, rfl, rfl, rfl, h2, r2⟩ := trodAll_cons r1
  obtain ⟨rfl, rfl, rfl⟩ := trodAll_nil r2
  obtain rfl : args = #[v0, v1, v2] := by cases args; simp_all
  obtain ⟨rfl, rfl⟩ := trodVars_none hV
  have hall := List.all_eq_true.1 hsz0
  clear hA0 hval0 hsz0
  simp only [List.append_nil] at hW'
  have hlt0 : ∀ x ∈ p0, x.block < W.heap.size := fun x hx => hW'.lt x (by simp [hx])
  have hlt1 : ∀ x ∈ p1, x.block < W.heap.size := fun x hx => hW'.lt x (by simp [hx])
  have hlt2 : ∀ x ∈ p2, x.block < W.heap.size := fun x hx => hW'.lt x (by simp [hx])
  obtain ⟨x0, g0, w0⟩ := open_kd (k := .dat (.sl (.pair (.sl (.int .i64)) (.sl (.pair (.int .i64) (.pair (.int .i64) (.int .i64))))))) (by kernel_rfl) (hval 0 22 v0 rfl rfl) h0
  obtain ⟨x1, g1, w1⟩ := open_kd (k := .dat (.int .u16)) (by kernel_rfl) (hval 1 56 v1 rfl rfl) h1
  obtain ⟨x2, g2, w2⟩ := open_kd (k := .dat (.int .u8)) (by kernel_rfl) (hval 2 5 v2 rfl rfl) h2
  have z0 : x0.length * Try.prog.bytesOf 64 ≤ reachBytes := open_room (t := 22) (r1 := []) (by kernel_rfl) g0 h0 fun n hn => by
    refine of_decide_eq_true (hall n ?_)
    rw [Try.params9]
    change n ∈ DataW.weightsEach Try.prog [22, 56, 5] [d0, d1, d2]
    simp only [DataW.weightsEach]
    exact List.mem_append_left _ (by simpa using hn)
  obtain ⟨N, hN⟩ := law_WireTurned x0 x1 x2 w0 w1 w2 (by simpa only [show Try.prog.bytesOf 64 = 48 by kernel_rfl] using z0)
  refine (sp_keep_WireTurned N (fun _ => False) W (x0, x1, x2, ()) (true, ()) [v0, v1, v2] (fun _ h => h.elim) hgw ⟨v0, _, rfl, g0, ⟨v1, _, rfl, g1, ⟨v2, _, rfl, g2, rfl⟩⟩⟩ hN).mono ?_
  rintro e W' ⟨v, rfl, hg, hr⟩
  replace hg := hg.old
  have hr : v = .bool true := by simpa only [kvals, retV, Kd.val, Go.Abs.enc, RV] using hr
  subst hr
  exact ⟨_, rfl, _, _, _, [], p0 ++ (p1 ++ (p2 ++ [])), [], hW', (trodAll_cons_mk (shut_bool (show Try.prog.underlying 4 = some .bool by kernel_rfl) _) trodAll_mk0), (trodAll_cons_mk (Below.trod laidOut (by kernel_rfl) (of_decide_eq_true (by kernel_rfl)) h0 hg hlt0) (trodAll_cons_mk (Below.trod laidOut (by kernel_rfl) (of_decide_eq_true (by kernel_rfl)) h1 hg hlt1) (trodAll_cons_mk (Below.trod laidOut (by kernel_rfl) (of_decide_eq_true (by kernel_rfl)) h2 hg hlt2) trodAll_mk0))), rfl, hg.frame _, fun h => by cases h⟩

/-- The statement: whatever the arguments, the law's function returns true and leaves them as they were. -/
theorem wireTurned_holds : Rows.WireTurnedSaid :=
  OpenClaim.holds_of_wide 9 Try.f9 rfl rfl rfl rfl rfl rfl rfl ⟨rfl, rfl, rfl, rfl, rfl⟩ rfl rfl rfl rfl rfl (by kernel_rfl) Try.func9 (by kernel_rfl)
    (of_decide_eq_true (by kernel_rfl)) (by unfold Func.isWrapper; first | (rw [if_pos (by decide +kernel)]; kernel_rfl) | (rw [if_neg (by decide +kernel)]; exact ⟨rfl, rfl⟩))
    (fun os started H enc _ => lifted_WireTurned os started H enc)
end Go.Proofs.Ytnieamciihdfpaa
