/- The bytes of two numbers: the one's never begin with the other's: for every two numbers the law answers true. No condition. -/
import Derived.Test.YtjfpglmmhikhbaaWire
import Derived.Test.YtjfpglmmhikhbaaSummary3
import Derived.Test.YtjfpglmmhikhbaaOpen
namespace Go.Proofs.Ytjfpglmmhikhbaa
open Go.RowKit Go.ChangeShapes Go.WideShapes Go.ChangeAt

set_option maxHeartbeats 1500000 in
theorem walk_WireNums (v0 v1 : Value) (w : World) (h0 : InInt w v0) (h1 : InInt w v1) :
    Calls Try.prog 3 #[v0, v1] w fun e w' => e = .returned (.bool true) ∧ Ext w w' := by
  obtain ⟨n, rfl, hn⟩ := h0
  obtain ⟨m, rfl, hm⟩ := h1
  unfold wfI at hn hm
  have hlA := groups_len 10 (zig n)
  have hlB := groups_len 10 (zig m)
  have hpA := groups_pos 9 (zig n)
  have hpB := groups_pos 9 (zig m)
  have hap := hid (fun (h : n ≠ m) => num_apart hn.1 hn.2 hm.1 hm.2 h)
  have hAn := hid (num_any n w hn.1 hn.2)
  have hBm := hid (fun w' => num_any m w' hm.1 hm.2)
  have hAB := hid (fun (h : n = m) => show groups 10 (zig n) = groups 10 (zig m) by rw [h])
  replace hn := hid hn
  replace hm := hid hm
  generalize hA : groups 10 (zig n) = A at *
  generalize hB : groups 10 (zig m) = B at *
  clear hA hB
  have t1 : ((A.length : Int) == 0) = false := by rw [beq_eq_false_iff_ne]; omega
  have t2 : ((B.length : Int) == 0) = false := by rw [beq_eq_false_iff_ne]; omega
  have t3 : decide ((10 : Int) < (A.length : Int)) = false := by rw [decide_eq_false_iff_not]; omega
  replace hlA := hid hlA
  replace hlB := hid hlB
  replace hpA := hid hpA
  replace hpB := hid hpB
  go_enter Try.func3, Try.ntmps3
  go_wp2_with fail
  refine hAn.out.mono ?_
  rintro e w1 ⟨u, rfl, hu, hx1⟩
  go_wp2_with fail
  refine (hBm.out w1).mono ?_
  rintro e w2 ⟨u', rfl, hu', hx2⟩
  have ra := hid (Rd.keeps hx2 (OwnL.rd hu))
  have rb := hid (OwnL.rd hu')
  have hE := hid (Ext.trans hx1 hx2)
  clear hu hu' hx1 hx2 hAn hBm
  obtain ⟨a, cap, rfl, hl1, -, -, -⟩ := id ra.out
  obtain ⟨a', cap', rfl, hl2, -, ha2, -⟩ := id rb.out
  by_cases hnm : n = m
  · have t4 : (n == m) = true := by rw [beq_iff_eq]; exact hnm
    have hAB' := hAB.out hnm
    subst hAB'
    replace hnm := hid hnm
    have t5 : decide ((A.length : Int) ≤ (A.length : Int)) = true := by simp
    have hb := hid (show eqB A (A.take A.length) = true by rw [List.take_length]; exact eqB_true.2 rfl)
    have hk : A.length ≤ cap' := hl2.1
    have hk2 : (A.length : Int) ≤ (cap' : Int) := by omega
    go_wp2_with fail
    refine (bytes_any _ _ A (A.take A.length) _ ra.out (Rd.take rb.out A.length (by omega))).mono ?_
    rintro e w3 ⟨rfl, hx3⟩
    rw [hb.out]
    go_wp2_with fail
    go_ret
    exact ⟨by first | rfl | simp [t4], Ext.trans hE.out hx3⟩
  · have t4 : (n == m) = false := by rw [beq_eq_false_iff_ne]; exact hnm
    have hb := hid (hap.out hnm)
    replace hnm := hid hnm
    by_cases hle : A.length ≤ B.length
    · have t5 : decide ((A.length : Int) ≤ (B.length : Int)) = true := by simp; omega
      have hk : A.length ≤ cap' := by omega
      have hk2 : (A.length : Int) ≤ (cap' : Int) := by omega
      go_wp2_with fail
      refine (bytes_any _ _ A (B.take A.length) _ ra.out (Rd.take rb.out A.length hle)).mono ?_
      rintro e w3 ⟨rfl, hx3⟩
      rw [hb.out]
      go_wp2_with fail
      go_ret
      exact ⟨by first | rfl | simp [t4], Ext.trans hE.out hx3⟩
    · have t5 : decide ((A.length : Int) ≤ (B.length : Int)) = false := by simp; omega
      go_wp2_with fail
      go_ret
      exact ⟨by first | rfl | simp [t4], hE.out⟩

set_option maxRecDepth 100000 in
theorem lifted_WireNums (os : Os) (started : os.Started) (H : Type) (enc : TypeId × Value → H) :
    ReturnsInHanded {} Try.checked os 3 .any (Rows.wireNumsSpec.pre6 enc Try.prog Try.f3 Rows.wireNumsRow.domain false) (Rows.wireNumsSpec.post enc Try.prog Try.f3 false true false false) := by
  refine returnsInHanded_of_change_sized (C := Try.checked) own started (by kernel_rfl) Try.func3
    (ChangeSpec.witness6 (enc := enc) (C := Try.checked) false ⟨#[], #[.int .i64 0, .int .i64 0], []⟩ 8 (by kernel_rfl) (by kernel_rfl) (by kernel_rfl) (by kernel_rfl)) ?_
  intro W base args ds gs before hval0 hW _ hsz0 _
  have hval : ∀ (j : Nat) t v, Try.f3.params[j]? = some t → args[j]? = some v → Value.okWide Try.prog W .any base t v := hval0
  have hW' := hW
  obtain ⟨p, q, hA0, hV, rfl, _, _⟩ := hW
  have hA : DataW.TrodAll enc Try.prog W 0 (fun _ => true) true Try.f3.params.toList args.toList ds p := hA0
  rw [Try.params3] at hA hval
  obtain ⟨v0, vs0, d0, ds0, p0, q0, hargs, rfl, rfl, h0, r0⟩ := trodAll_cons hA
  obtain ⟨v1, vs1, d1, ds1, p1, q1, rfl, rfl, rfl, h1, r1⟩ := trodAll_cons r0
  obtain ⟨rfl, rfl, rfl⟩ := trodAll_nil r1
  obtain rfl : args = #[v0, v1] := by cases args; simp_all
  obtain ⟨rfl, rfl⟩ := trodVars_none hV
  clear hA0 hval0 hsz0
  simp only [List.append_nil] at hW'
  have hlt0 : ∀ x ∈ p0, x.block < W.heap.size := fun x hx => hW'.lt x (by simp [hx])
  have hlt1 : ∀ x ∈ p1, x.block < W.heap.size := fun x hx => hW'.lt x (by simp [hx])
  have g0 : InInt W v0 := open_int_k Try.underlying2 (hval 0 2 v0 rfl rfl) h0
  have g1 : InInt W v1 := open_int_k Try.underlying2 (hval 1 2 v1 rfl rfl) h1
  refine (walk_WireNums v0 v1 W g0 g1).mono fun e W' ⟨he, hg⟩ => ?_
  subst he
  exact ⟨_, rfl, _, _, _, [], p0 ++ (p1 ++ []), [], hW', (trodAll_cons_mk (shut_bool Try.underlying4 _) trodAll_mk0), (trodAll_cons_mk (Below.trod laidOut (by kernel_rfl) (of_decide_eq_true (by kernel_rfl)) h0 hg hlt0) (trodAll_cons_mk (Below.trod laidOut (by kernel_rfl) (of_decide_eq_true (by kernel_rfl)) h1 hg hlt1) trodAll_mk0)), rfl, hg.frame _, fun h => by cases h⟩

/-- The statement: whatever the arguments, the law's function returns true and leaves them as they were. -/
theorem wireNums_holds : Rows.WireNumsSaid :=
  OpenClaim.holds_of_wide 3 Try.f3 rfl rfl rfl rfl rfl rfl rfl ⟨rfl, rfl, rfl, rfl, rfl⟩ rfl rfl rfl rfl rfl (by kernel_rfl) Try.func3 (by kernel_rfl)
    (of_decide_eq_true (by kernel_rfl)) (by unfold Func.isWrapper; first | (rw [if_pos (by decide +kernel)]; kernel_rfl) | (rw [if_neg (by decide +kernel)]; exact ⟨rfl, rfl⟩))
    (fun os started H enc _ => lifted_WireNums os started H enc)
end Go.Proofs.Ytjfpglmmhikhbaa
