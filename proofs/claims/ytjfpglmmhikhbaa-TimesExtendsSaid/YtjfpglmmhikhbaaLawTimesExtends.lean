/- Less is a linear order on times of one length that goes with Leq: for every three lists the law answers true. No condition. -/
import Derived.Test.YtjfpglmmhikhbaaPlainTimes
import Derived.Test.YtjfpglmmhikhbaaOpen
namespace Go.Proofs.Ytjfpglmmhikhbaa
open Go.RowKit Go.ChangeShapes Go.WideShapes Go.ChangeAt

theorem extends_same {x y : List Int} (hs : eqB x y = true) (ha : alikeB x y = true) : lessB x y = false ∧ lessB y x = false ∧ leqB x y = true := by
  obtain rfl := eqB_true.1 hs
  refine ⟨?_, ?_, ?_⟩
  · rw [Bool.eq_false_iff]; intro h; have := (lessB_true.1 h).2; rw [cmpL_self] at this; omega
  · rw [Bool.eq_false_iff]; intro h; have := (lessB_true.1 h).2; rw [cmpL_self] at this; omega
  · exact leqB_true.2 ⟨ha, by simp [underB]⟩
theorem alikeB_turn {x y : List Int} (ha : alikeB x y = true) : alikeB y x = true := by
  rw [alikeB_true] at *; exact ⟨ha.1.symm, ha.2.2, ha.2.1⟩
theorem extends_other {x y : List Int} (hs : eqB x y = false) (ha : alikeB x y = true) : (lessB x y = true ∧ lessB y x = false) ∨ (lessB x y = false ∧ lessB y x = true ∧ leqB x y = false) := by
  have hne := eqB_false.1 hs
  have h0 : cmpL x y ≠ 0 := fun h => hne (cmpL_eq _ _ h)
  have ht := cmpL_turn x y
  rcases Int.lt_or_gt_of_ne h0 with h | h
  · refine .inl ⟨lessB_true.2 ⟨ha, h⟩, ?_⟩
    rw [Bool.eq_false_iff]; intro h'; have := (lessB_true.1 h').2; omega
  · refine .inr ⟨?_, lessB_true.2 ⟨alikeB_turn ha, by omega⟩, ?_⟩
    · rw [Bool.eq_false_iff]; intro h'; have := (lessB_true.1 h').2; omega
    · rw [Bool.eq_false_iff]; intro h'
      have := cmpL_under x y (alikeB_true.1 ha).1 (leqB_true.1 h').2
      omega
theorem extends_trans {x y z : List Int} (h : lessB x y = true) (h' : lessB y z = true) : lessB x z = true := by
  rw [lessB_true] at *
  refine ⟨?_, cmpL_trans _ _ _ h.2 h'.2⟩
  have a := alikeB_true.1 h.1
  have b := alikeB_true.1 h'.1
  exact alikeB_true.2 ⟨a.1.trans b.1, a.2.1, b.2.2⟩

set_option maxHeartbeats 2000000 in
theorem walk_TimesExtends (v0 v1 v2 : Value) (w : World) (h0 : InInts w v0) (h1 : InInts w v1) (h2 : InInts w v2) :
    Calls Try.prog 9 #[v0, v1, v2] w fun e w' => e = .returned (.bool true) ∧ Ext w w' := by
  obtain ⟨xs, h0, -⟩ := h0
  obtain ⟨ys, h1, -⟩ := h1
  obtain ⟨zs, h2, -⟩ := h2
  have H := hid (fun w' (hx : Ext w w') => (⟨Rd.keeps hx h0, Rd.keeps hx h1, Rd.keeps hx h2⟩ : Ints w' v0 xs ∧ Ints w' v1 ys ∧ Ints w' v2 zs))
  have H3 := hid (Intss.three h0 h1 h2)
  have hE := hid (Ext.alloc w (.cells #[v0, v1, v2] 26))
  obtain ⟨a0, c0, rfl, -, -, -, -⟩ := h0
  obtain ⟨a1, c1, rfl, -, -, -, -⟩ := h1
  obtain ⟨a2, c2, rfl, -, -, -, -⟩ := h2
  cases hA : alikesB [xs, ys, zs] with
  | false =>
    cases hl : lessB xs ys with
    | false =>
      go_enter Try.func9, Try.ntmps9
      go_wp2_with fail
      refine (alikes_any _ [xs, ys, zs] _ H3.out).mono ?_
      rintro e w' ⟨rfl, rfl⟩
      go_wp2_with fail
      refine (less_any _ _ xs ys _ (H.out _ hE.out).1 (H.out _ hE.out).2.1).mono ?_
      rintro e w' ⟨rfl, rfl⟩
      go_wp2_with fail
      go_ret
      exact ⟨rfl, hE.out⟩
    | true =>
      have hn : ((xs.length : Int) == (ys.length : Int)) = true := by
        have := (alikeB_true.1 (lessB_true.1 hl).1).1; rw [this]; exact beq_self_eq_true _
      go_enter Try.func9, Try.ntmps9
      go_wp2_with fail
      refine (alikes_any _ [xs, ys, zs] _ H3.out).mono ?_
      rintro e w' ⟨rfl, rfl⟩
      go_wp2_with fail
      refine (less_any _ _ xs ys _ (H.out _ hE.out).1 (H.out _ hE.out).2.1).mono ?_
      rintro e w' ⟨rfl, rfl⟩
      go_wp2_with fail
      go_ret
      exact ⟨rfl, hE.out⟩
  | true =>
    have hal := alikesB_three xs ys zs |>.1 hA
    have hxy := hid (alikeB_true.2 ⟨hal.2.2.2.1.symm, hal.1, hal.2.1⟩)
    clear hal
    cases hS : eqB xs ys with
    | true =>
      obtain ⟨hl, hl', hq⟩ := extends_same hS hxy.out
      go_enter Try.func9, Try.ntmps9
      go_wp2_with fail
      refine (alikes_any _ [xs, ys, zs] _ H3.out).mono ?_
      rintro e w' ⟨rfl, rfl⟩
      go_wp2_with fail
      refine (same_any _ _ xs ys _ (H.out _ hE.out).1 (H.out _ hE.out).2.1).mono ?_
      rintro e w' ⟨rfl, hx'⟩
      replace hE := hid (Ext.trans hE.out hx')
      clear hx'
      go_wp2_with fail
      refine (less_any _ _ xs ys _ (H.out _ hE.out).1 (H.out _ hE.out).2.1).mono ?_
      rintro e w' ⟨rfl, rfl⟩
      go_wp2_with fail
      refine (less_any _ _ ys xs _ (H.out _ hE.out).2.1 (H.out _ hE.out).1).mono ?_
      rintro e w' ⟨rfl, rfl⟩
      go_wp2_with fail
      refine (leq_any _ _ xs ys _ (H.out _ hE.out).1 (H.out _ hE.out).2.1).mono ?_
      rintro e w' ⟨rfl, hx'⟩
      replace hE := hid (Ext.trans hE.out hx')
      clear hx'
      go_wp2_with fail
      refine (leq_any _ _ xs ys _ (H.out _ hE.out).1 (H.out _ hE.out).2.1).mono ?_
      rintro e w' ⟨rfl, hx'⟩
      replace hE := hid (Ext.trans hE.out hx')
      clear hx'
      go_wp2_with fail
      refine (less_any _ _ xs ys _ (H.out _ hE.out).1 (H.out _ hE.out).2.1).mono ?_
      rintro e w' ⟨rfl, rfl⟩
      go_wp2_with fail
      go_ret
      exact ⟨rfl, hE.out⟩
    | false =>
      rcases extends_other hS hxy.out with ⟨hl, hl'⟩ | ⟨hl, hl', hq⟩
      · cases hq : leqB xs ys with
        | true =>
          cases hyz : lessB ys zs with
          | true =>
            have hxz := extends_trans hl hyz
            go_enter Try.func9, Try.ntmps9
            go_wp2_with fail
            refine (alikes_any _ [xs, ys, zs] _ H3.out).mono ?_
            rintro e w' ⟨rfl, rfl⟩
            go_wp2_with fail
            refine (same_any _ _ xs ys _ (H.out _ hE.out).1 (H.out _ hE.out).2.1).mono ?_
            rintro e w' ⟨rfl, hx'⟩
            replace hE := hid (Ext.trans hE.out hx')
            clear hx'
            go_wp2_with fail
            refine (less_any _ _ xs ys _ (H.out _ hE.out).1 (H.out _ hE.out).2.1).mono ?_
            rintro e w' ⟨rfl, rfl⟩
            go_wp2_with fail
            refine (less_any _ _ ys xs _ (H.out _ hE.out).2.1 (H.out _ hE.out).1).mono ?_
            rintro e w' ⟨rfl, rfl⟩
            go_wp2_with fail
            refine (leq_any _ _ xs ys _ (H.out _ hE.out).1 (H.out _ hE.out).2.1).mono ?_
            rintro e w' ⟨rfl, hx'⟩
            replace hE := hid (Ext.trans hE.out hx')
            clear hx'
            go_wp2_with fail
            refine (less_any _ _ xs ys _ (H.out _ hE.out).1 (H.out _ hE.out).2.1).mono ?_
            rintro e w' ⟨rfl, rfl⟩
            go_wp2_with fail
            refine (less_any _ _ xs ys _ (H.out _ hE.out).1 (H.out _ hE.out).2.1).mono ?_
            rintro e w' ⟨rfl, rfl⟩
            go_wp2_with fail
            refine (less_any _ _ ys zs _ (H.out _ hE.out).2.1 (H.out _ hE.out).2.2).mono ?_
            rintro e w' ⟨rfl, rfl⟩
            go_wp2_with fail
            refine (less_any _ _ xs zs _ (H.out _ hE.out).1 (H.out _ hE.out).2.2).mono ?_
            rintro e w' ⟨rfl, rfl⟩
            go_wp2_with fail
            go_ret
            exact ⟨rfl, hE.out⟩
          | false =>
            go_enter Try.func9, Try.ntmps9
            go_wp2_with fail
            refine (alikes_any _ [xs, ys, zs] _ H3.out).mono ?_
            rintro e w' ⟨rfl, rfl⟩
            go_wp2_with fail
            refine (same_any _ _ xs ys _ (H.out _ hE.out).1 (H.out _ hE.out).2.1).mono ?_
            rintro e w' ⟨rfl, hx'⟩
            replace hE := hid (Ext.trans hE.out hx')
            clear hx'
            go_wp2_with fail
            refine (less_any _ _ xs ys _ (H.out _ hE.out).1 (H.out _ hE.out).2.1).mono ?_
            rintro e w' ⟨rfl, rfl⟩
            go_wp2_with fail
            refine (less_any _ _ ys xs _ (H.out _ hE.out).2.1 (H.out _ hE.out).1).mono ?_
            rintro e w' ⟨rfl, rfl⟩
            go_wp2_with fail
            refine (leq_any _ _ xs ys _ (H.out _ hE.out).1 (H.out _ hE.out).2.1).mono ?_
            rintro e w' ⟨rfl, hx'⟩
            replace hE := hid (Ext.trans hE.out hx')
            clear hx'
            go_wp2_with fail
            refine (less_any _ _ xs ys _ (H.out _ hE.out).1 (H.out _ hE.out).2.1).mono ?_
            rintro e w' ⟨rfl, rfl⟩
            go_wp2_with fail
            refine (less_any _ _ xs ys _ (H.out _ hE.out).1 (H.out _ hE.out).2.1).mono ?_
            rintro e w' ⟨rfl, rfl⟩
            go_wp2_with fail
            refine (less_any _ _ ys zs _ (H.out _ hE.out).2.1 (H.out _ hE.out).2.2).mono ?_
            rintro e w' ⟨rfl, rfl⟩
            go_wp2_with fail
            go_ret
            exact ⟨rfl, hE.out⟩
        | false =>
          cases hyz : lessB ys zs with
          | true =>
            have hxz := extends_trans hl hyz
            go_enter Try.func9, Try.ntmps9
            go_wp2_with fail
            refine (alikes_any _ [xs, ys, zs] _ H3.out).mono ?_
            rintro e w' ⟨rfl, rfl⟩
            go_wp2_with fail
            refine (same_any _ _ xs ys _ (H.out _ hE.out).1 (H.out _ hE.out).2.1).mono ?_
            rintro e w' ⟨rfl, hx'⟩
            replace hE := hid (Ext.trans hE.out hx')
            clear hx'
            go_wp2_with fail
            refine (less_any _ _ xs ys _ (H.out _ hE.out).1 (H.out _ hE.out).2.1).mono ?_
            rintro e w' ⟨rfl, rfl⟩
            go_wp2_with fail
            refine (less_any _ _ ys xs _ (H.out _ hE.out).2.1 (H.out _ hE.out).1).mono ?_
            rintro e w' ⟨rfl, rfl⟩
            go_wp2_with fail
            refine (leq_any _ _ xs ys _ (H.out _ hE.out).1 (H.out _ hE.out).2.1).mono ?_
            rintro e w' ⟨rfl, hx'⟩
            replace hE := hid (Ext.trans hE.out hx')
            clear hx'
            go_wp2_with fail
            refine (less_any _ _ xs ys _ (H.out _ hE.out).1 (H.out _ hE.out).2.1).mono ?_
            rintro e w' ⟨rfl, rfl⟩
            go_wp2_with fail
            refine (less_any _ _ ys zs _ (H.out _ hE.out).2.1 (H.out _ hE.out).2.2).mono ?_
            rintro e w' ⟨rfl, rfl⟩
            go_wp2_with fail
            refine (less_any _ _ xs zs _ (H.out _ hE.out).1 (H.out _ hE.out).2.2).mono ?_
            rintro e w' ⟨rfl, rfl⟩
            go_wp2_with fail
            go_ret
            exact ⟨rfl, hE.out⟩
          | false =>
            go_enter Try.func9, Try.ntmps9
            go_wp2_with fail
            refine (alikes_any _ [xs, ys, zs] _ H3.out).mono ?_
            rintro e w' ⟨rfl, rfl⟩
            go_wp2_with fail
            refine (same_any _ _ xs ys _ (H.out _ hE.out).1 (H.out _ hE.out).2.1).mono ?_
            rintro e w' ⟨rfl, hx'⟩
            replace hE := hid (Ext.trans hE.out hx')
            clear hx'
            go_wp2_with fail
            refine (less_any _ _ xs ys _ (H.out _ hE.out).1 (H.out _ hE.out).2.1).mono ?_
            rintro e w' ⟨rfl, rfl⟩
            go_wp2_with fail
            refine (less_any _ _ ys xs _ (H.out _ hE.out).2.1 (H.out _ hE.out).1).mono ?_
            rintro e w' ⟨rfl, rfl⟩
            go_wp2_with fail
            refine (leq_any _ _ xs ys _ (H.out _ hE.out).1 (H.out _ hE.out).2.1).mono ?_
            rintro e w' ⟨rfl, hx'⟩
            replace hE := hid (Ext.trans hE.out hx')
            clear hx'
            go_wp2_with fail
            refine (less_any _ _ xs ys _ (H.out _ hE.out).1 (H.out _ hE.out).2.1).mono ?_
            rintro e w' ⟨rfl, rfl⟩
            go_wp2_with fail
            refine (less_any _ _ ys zs _ (H.out _ hE.out).2.1 (H.out _ hE.out).2.2).mono ?_
            rintro e w' ⟨rfl, rfl⟩
            go_wp2_with fail
            go_ret
            exact ⟨rfl, hE.out⟩
      · go_enter Try.func9, Try.ntmps9
        go_wp2_with fail
        refine (alikes_any _ [xs, ys, zs] _ H3.out).mono ?_
        rintro e w' ⟨rfl, rfl⟩
        go_wp2_with fail
        refine (same_any _ _ xs ys _ (H.out _ hE.out).1 (H.out _ hE.out).2.1).mono ?_
        rintro e w' ⟨rfl, hx'⟩
        replace hE := hid (Ext.trans hE.out hx')
        clear hx'
        go_wp2_with fail
        refine (less_any _ _ xs ys _ (H.out _ hE.out).1 (H.out _ hE.out).2.1).mono ?_
        rintro e w' ⟨rfl, rfl⟩
        go_wp2_with fail
        refine (less_any _ _ ys xs _ (H.out _ hE.out).2.1 (H.out _ hE.out).1).mono ?_
        rintro e w' ⟨rfl, rfl⟩
        go_wp2_with fail
        refine (leq_any _ _ xs ys _ (H.out _ hE.out).1 (H.out _ hE.out).2.1).mono ?_
        rintro e w' ⟨rfl, hx'⟩
        replace hE := hid (Ext.trans hE.out hx')
        clear hx'
        go_wp2_with fail
        refine (less_any _ _ xs ys _ (H.out _ hE.out).1 (H.out _ hE.out).2.1).mono ?_
        rintro e w' ⟨rfl, rfl⟩
        go_wp2_with fail
        go_ret
        exact ⟨rfl, hE.out⟩

set_option maxRecDepth 100000 in
theorem lifted_TimesExtends (os : Os) (started : os.Started) (H : Type) (enc : TypeId × Value → H) :
    ReturnsInHanded {} Try.checked os 9 .any (Rows.timesExtendsSpec.pre6 enc Try.prog Try.f9 Rows.timesExtendsRow.domain false) (Rows.timesExtendsSpec.post enc Try.prog Try.f9 false true false false) := by
  refine returnsInHanded_of_change_sized (C := Try.checked) own started (by kernel_rfl) Try.func9
    (ChangeSpec.witness6 (enc := enc) (C := Try.checked) false ⟨#[], #[.slice none 0 0, .slice none 0 0, .slice none 0 0], []⟩ 8 (by kernel_rfl) (by kernel_rfl) (by kernel_rfl) (by kernel_rfl)) ?_
  intro W base args ds gs before hval0 hW _ hsz0 _
  have hval : ∀ (j : Nat) t v, Try.f9.params[j]? = some t → args[j]? = some v → Value.okWide Try.prog W .any base t v := hval0
  have hW' := hW
  obtain ⟨p, q, hA0, hV, rfl, _, _⟩ := hW
  have hA : DataW.TrodAll enc Try.prog W 0 (fun _ => true) true Try.f9.params.toList args.toList ds p := hA0
  rw [Try.params9] at hA hval
  obtain ⟨v0, vs0, d0, ds0, p0, q0, hargs, rfl, rfl, h0, r0⟩ := trodAll_cons hA
  obtain ⟨v1, vs1, d1, ds1, p1, q1, rfl, rfl, rfl, h1, r1⟩ := trodAll_cons r0
  obtain ⟨v2, vs2, d2, ds2, p2, q2, rfl, rfl, rfl, h2, r2⟩ := trodAll_cons r1
  obtain ⟨rfl, rfl, rfl⟩ := trodAll_nil r2
  obtain rfl : args = #[v0, v1, v2] := by cases args; simp_all
  obtain ⟨rfl, rfl⟩ := trodVars_none hV
  clear hA0 hval0 hsz0
  simp only [List.append_nil] at hW'
  have hlt0 : ∀ x ∈ p0, x.block < W.heap.size := fun x hx => hW'.lt x (by simp [hx])
  have hlt1 : ∀ x ∈ p1, x.block < W.heap.size := fun x hx => hW'.lt x (by simp [hx])
  have hlt2 : ∀ x ∈ p2, x.block < W.heap.size := fun x hx => hW'.lt x (by simp [hx])
  have g0 : InInts W v0 := open_ints_k Try.underlying26 Try.underlying3 cellsInt (hval 0 26 v0 rfl rfl) h0
  have g1 : InInts W v1 := open_ints_k Try.underlying26 Try.underlying3 cellsInt (hval 1 26 v1 rfl rfl) h1
  have g2 : InInts W v2 := open_ints_k Try.underlying26 Try.underlying3 cellsInt (hval 2 26 v2 rfl rfl) h2
  refine (walk_TimesExtends v0 v1 v2 W g0 g1 g2).mono fun e W' ⟨he, hg⟩ => ?_
  subst he
  exact ⟨_, rfl, _, _, _, [], p0 ++ (p1 ++ (p2 ++ [])), [], hW', (trodAll_cons_mk (shut_bool Try.underlying4 _) trodAll_mk0), (trodAll_cons_mk (Below.trod laidOut (by kernel_rfl) (of_decide_eq_true (by kernel_rfl)) h0 hg hlt0) (trodAll_cons_mk (Below.trod laidOut (by kernel_rfl) (of_decide_eq_true (by kernel_rfl)) h1 hg hlt1) (trodAll_cons_mk (Below.trod laidOut (by kernel_rfl) (of_decide_eq_true (by kernel_rfl)) h2 hg hlt2) trodAll_mk0))), rfl, hg.frame _, fun h => by cases h⟩

/-- The statement: whatever the arguments, the law's function returns true and leaves them as they were. -/
theorem timesExtends_holds : Rows.TimesExtendsSaid :=
  OpenClaim.holds_of_wide 9 Try.f9 rfl rfl rfl rfl rfl rfl rfl ⟨rfl, rfl, rfl, rfl, rfl⟩ rfl rfl rfl rfl rfl (by kernel_rfl) Try.func9 (by kernel_rfl)
    (of_decide_eq_true (by kernel_rfl)) (by unfold Func.isWrapper; first | (rw [if_pos (by decide +kernel)]; kernel_rfl) | (rw [if_neg (by decide +kernel)]; exact ⟨rfl, rfl⟩))
    (fun os started H enc _ => lifted_TimesExtends os started H enc)
end Go.Proofs.Ytjfpglmmhikhbaa
