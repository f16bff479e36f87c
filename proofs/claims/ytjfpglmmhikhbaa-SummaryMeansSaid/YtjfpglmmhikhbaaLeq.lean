/- The contract of summary.Leq. -/
import Derived.Test.YtjfpglmmhikhbaaPlaces
namespace Go.Proofs.Ytjfpglmmhikhbaa
open Go.RowKit

set_option maxHeartbeats 1000000 in
theorem sumleq_any (v u : Value) (s r : Sm) (w : World) (hv : SumAt w v s) (hu : SumAt w u r) :
    Calls Try.prog 27 #[v, u] w fun e w' => e = .returned (.bool (leqS s r)) ∧ Ext w w' := by
  have hS := hid (fun w' (hx : Ext w w') => SumAt.keeps hx hv)
  have hR := hid (fun w' (hx : Ext w w') => SumAt.keeps hx hu)
  obtain ⟨pv, rfl, hp⟩ := hv
  obtain ⟨qv, rfl, hq⟩ := hu
  have hE := hid (Ext.alloc' (Ext.alloc w (.cells #[.int .i64 s.keep, .int .i64 s.add, pv] 32)) (.cells #[.int .i64 r.keep, .int .i64 r.add, qv] 32))
  obtain ⟨a, cap, rfl, -, -, -, -⟩ := hp
  obtain ⟨a', cap', rfl, -, -, -, -⟩ := hq
  by_cases c1 : sumCheck s 4 = 0
  case neg =>
    have h1 : (sumCheck s 4 != 0) = true := by rw [bne_iff_ne]; exact c1
    replace c1 := hid c1
    go_enter Try.func27, Try.ntmps27
    go_wp2_with fail
    refine region_ext (by kernel_rfl) (by kernel_rfl) ?_
    repeat (go_big_quiet_step (((go_at_call 21; exact Calls.quiet_ext (sumcheck_any _ s 4 _ (hS.out _ (Ext.grow hE.out _)))))))
    refine wpQuiet_nil ?_
    rintro _ ⟨g1, rfl⟩
    go_wp2_with fail
    go_ret
    exact ⟨ret_bool (leqS_no (fun h => c1.out h.1)).symm, Ext.grow hE.out g1⟩
  have h1 : (sumCheck s 4 != 0) = false := by rw [bne_eq_false_iff_eq]; exact c1
  obtain ⟨-, -, k1, k2, k3, -, -⟩ := sumCheck_zero c1
  replace c1 := hid c1
  by_cases c2 : sumCheck r 4 = 0
  case neg =>
    have h2 : (sumCheck r 4 != 0) = true := by rw [bne_iff_ne]; exact c2
    replace c2 := hid c2
    go_enter Try.func27, Try.ntmps27
    go_wp2_with fail
    refine region_ext (by kernel_rfl) (by kernel_rfl) ?_
    repeat (go_big_quiet_step ((first | (go_at_call 21; with_reducible exact Calls.quiet_ext (sumcheck_any _ s 4 _ (hS.out _ (Ext.grow hE.out _)))) | (go_at_call 21; with_reducible exact Calls.quiet_ext (sumcheck_any _ r 4 _ (hR.out _ (Ext.grow hE.out _)))))))
    refine wpQuiet_nil ?_
    rintro _ ⟨g1, rfl⟩
    go_wp2_with fail
    go_ret
    exact ⟨ret_bool (leqS_no (fun h => c2.out h.2.1)).symm, Ext.grow hE.out g1⟩
  have h2 : (sumCheck r 4 != 0) = false := by rw [bne_eq_false_iff_eq]; exact c2
  obtain ⟨-, -, r1, r2, r3, -, -⟩ := sumCheck_zero c2
  replace c2 := hid c2
  by_cases c3 : s.keep + s.push.length = r.keep + r.push.length
  case neg =>
    have h3 : (s.keep + (s.push.length : Int) != r.keep + (r.push.length : Int)) = true := by rw [bne_iff_ne]; exact c3
    replace c3 := hid c3
    go_enter Try.func27, Try.ntmps27
    go_wp2_with fail
    refine region_ext (by kernel_rfl) (by kernel_rfl) ?_
    repeat (go_big_quiet_step ((first | (go_at_call 21; with_reducible exact Calls.quiet_ext (sumcheck_any _ s 4 _ (hS.out _ (Ext.grow hE.out _)))) | (go_at_call 21; with_reducible exact Calls.quiet_ext (sumcheck_any _ r 4 _ (hR.out _ (Ext.grow hE.out _)))) | (go_at_call 33; with_reducible exact Calls.quiet_ext (out_any _ s _ (hS.out _ (Ext.grow hE.out _)) (by omega) (by omega) (by omega))) | (go_at_call 33; with_reducible exact Calls.quiet_ext (out_any _ r _ (hR.out _ (Ext.grow hE.out _)) (by omega) (by omega) (by omega))))))
    refine wpQuiet_nil ?_
    rintro _ ⟨g1, rfl⟩
    go_wp2_with fail
    go_ret
    exact ⟨ret_bool (leqS_no (fun h => c3.out h.2.2.1)).symm, Ext.grow hE.out g1⟩
  have h3 : (s.keep + (s.push.length : Int) != r.keep + (r.push.length : Int)) = false := by rw [bne_eq_false_iff_eq]; exact c3
  have c3' : s.keep + s.push.length ≤ r.keep + r.push.length := by omega
  replace c3 := hid c3
  go_enter Try.func27, Try.ntmps27
  go_wp2_with fail
  refine region_ext (by kernel_rfl) (by kernel_rfl) ?_
  repeat (go_big_quiet_step ((first | (go_at_call 21; with_reducible exact Calls.quiet_ext (sumcheck_any _ s 4 _ (hS.out _ (Ext.grow hE.out _)))) | (go_at_call 21; with_reducible exact Calls.quiet_ext (sumcheck_any _ r 4 _ (hR.out _ (Ext.grow hE.out _)))) | (go_at_call 33; with_reducible exact Calls.quiet_ext (out_any _ s _ (hS.out _ (Ext.grow hE.out _)) (by omega) (by omega) (by omega))) | (go_at_call 33; with_reducible exact Calls.quiet_ext (out_any _ r _ (hR.out _ (Ext.grow hE.out _)) (by omega) (by omega) (by omega))))))
  refine wpQuiet_nil ?_
  rintro _ ⟨g1, rfl⟩
  go_wp2_with fail
  have hE1 := hid (Ext.grow hE.out g1)
  have b0 := Ext.keeps (ext_grow _ g1) (show ((w.alloc (.cells #[.int .i64 s.keep, .int .i64 s.add, .slice a s.push.length cap] 32)).alloc (.cells #[.int .i64 r.keep, .int .i64 r.add, .slice a' r.push.length cap'] 32)).cell? ⟨w.heap.size, 0, none⟩ = some (.int .i64 s.keep) by simp)
  have b1 := Ext.keeps (ext_grow _ g1) (show ((w.alloc (.cells #[.int .i64 s.keep, .int .i64 s.add, .slice a s.push.length cap] 32)).alloc (.cells #[.int .i64 r.keep, .int .i64 r.add, .slice a' r.push.length cap'] 32)).cell? ⟨w.heap.size, 1, none⟩ = some (.int .i64 s.add) by simp)
  have b2 := Ext.keeps (ext_grow _ g1) (show ((w.alloc (.cells #[.int .i64 s.keep, .int .i64 s.add, .slice a s.push.length cap] 32)).alloc (.cells #[.int .i64 r.keep, .int .i64 r.add, .slice a' r.push.length cap'] 32)).cell? ⟨w.heap.size, 2, none⟩ = some (.slice a s.push.length cap) by simp)
  have d0 := Ext.keeps (ext_grow _ g1) (show ((w.alloc (.cells #[.int .i64 s.keep, .int .i64 s.add, .slice a s.push.length cap] 32)).alloc (.cells #[.int .i64 r.keep, .int .i64 r.add, .slice a' r.push.length cap'] 32)).cell? ⟨w.heap.size + 1, 0, none⟩ = some (.int .i64 r.keep) by simp)
  have d1 := Ext.keeps (ext_grow _ g1) (show ((w.alloc (.cells #[.int .i64 s.keep, .int .i64 s.add, .slice a s.push.length cap] 32)).alloc (.cells #[.int .i64 r.keep, .int .i64 r.add, .slice a' r.push.length cap'] 32)).cell? ⟨w.heap.size + 1, 1, none⟩ = some (.int .i64 r.add) by simp)
  have d2 := Ext.keeps (ext_grow _ g1) (show ((w.alloc (.cells #[.int .i64 s.keep, .int .i64 s.add, .slice a s.push.length cap] 32)).alloc (.cells #[.int .i64 r.keep, .int .i64 r.add, .slice a' r.push.length cap'] 32)).cell? ⟨w.heap.size + 1, 2, none⟩ = some (.slice a' r.push.length cap') by simp)
  generalize grow ((w.alloc (.cells #[.int .i64 s.keep, .int .i64 s.add, .slice a s.push.length cap] 32)).alloc (.cells #[.int .i64 r.keep, .int .i64 r.add, .slice a' r.push.length cap'] 32)) g1 = W1 at *
  clear hE
  go_region_held3 (fun w' => w'.cell? ⟨w.heap.size, 0, none⟩ = some (.int .i64 s.keep) ∧ w'.cell? ⟨w.heap.size, 1, none⟩ = some (.int .i64 s.add) ∧ w'.cell? ⟨w.heap.size, 2, none⟩ = some (.slice a s.push.length cap) ∧ w'.cell? ⟨w.heap.size + 1, 0, none⟩ = some (.int .i64 r.keep) ∧ w'.cell? ⟨w.heap.size + 1, 1, none⟩ = some (.int .i64 r.add) ∧ w'.cell? ⟨w.heap.size + 1, 2, none⟩ = some (.slice a' r.push.length cap'))
    (first | exact ⟨Ext.keeps hy b0, Ext.keeps hy b1, Ext.keeps hy b2, Ext.keeps hy d0, Ext.keeps hy d1, Ext.keeps hy d2⟩ | exact ⟨Ext.keeps hx1 b0, Ext.keeps hx1 b1, Ext.keeps hx1 b2, Ext.keeps hx1 d0, Ext.keeps hx1 d1, Ext.keeps hx1 d2⟩ | go_keep)
    (first
      | (go_at_call 41; refine (places_any _ r _ (hR.out _ (Ext.trans (Ext.drew' hE1.out) hx1)) r1 r3).mono ?_; rintro e w3 ⟨u2, rfl, hu2, hx2⟩; have hy := Ext.trans hx1 hx2)
      | (go_at_call 41; refine (places_any _ s _ (hS.out _ (Ext.drew' hE1.out)) k1 k3).mono ?_; rintro e w2 ⟨u1, rfl, hu1, hx1⟩))
  rename_i hHeld
  clear hHeld b0 b1 b2 d0 d1 d2
  have hE3 := hid (Ext.trans (Ext.drew' hE1.out) hy)
  have hP1 := hid (OwnP.keeps hx2 hu1)
  have hP2 := hid hu2
  clear hu1 hu2 hx1 hx2 hy hE1 hS hR
  have hls := placesL_len (s := s) (by omega)
  have hlr := placesL_len (s := r) (by omega)
  obtain ⟨g1, n1, rfl, -, -⟩ := OwnP.has hP1.out (by omega)
  obtain ⟨g2, n2, rfl, -, -⟩ := OwnP.has hP2.out (by omega)
  replace hls := hid hls
  replace hlr := hid hlr
  go_wp2_with fail
  go_loopw [29] (fun i wr => ∃ k : Nat, k ≤ (placesL s).length ∧ i = .int .i64 k ∧ Ext w3 wr ∧ Hid (∀ j : Nat, j < k → placeN s j ≤ placeN r j ∧ ((j : Int) < s.keep → (j : Int) < r.keep)))
    (fun i _ => (placesL s).length - (intOf i).toNat)
  case atStart => exact ⟨0, Nat.zero_le _, rfl, Ext.refl _, hid (fun j hj => by omega)⟩
  case round =>
    obtain ⟨k, hk, rfl, hx, hp⟩ := hrel
    obtain ⟨g, rfl⟩ := Ext.out hx
    replace hx := hid hx
    by_cases hlt : k < (placesL s).length
    · have hlt1 : (k : Int) < s.keep + s.push.length := by have := hls.out; omega
      have hltn : (k : Int) < ((placesL s).length : Int) := by omega
      have hltr : k < (placesL r).length := by have := c3.out; have := hls.out; have := hlr.out; omega
      have hltr1 : (k : Int) < r.keep + r.push.length := by have := hlr.out; omega
      have hltrn : (k : Int) < ((placesL r).length : Int) := by omega
      obtain ⟨x1, x2, -, -⟩ := OwnP.cell hP1.out k hlt
      obtain ⟨y1, y2, -, -⟩ := OwnP.cell hP2.out k hltr
      have i1 : Inside w3 g1 := Inside.of_cell x1
      have i2 : Inside w3 g2 := Inside.of_cell y1
      rw [placesL_nth k k1 hlt1] at x1 x2
      rw [placesL_nth k r1 hltr1] at y1 y2
      simp only at x1 x2 y1 y2
      by_cases d1 : placeN r k < placeN s k
      · have d1' := hid d1
        have d1b : decide (placeN r k < placeN s k) = true := decide_eq_true d1
        replace d1 := hid d1
        go_wp2_with fail
        refine region_ext (by kernel_rfl) (by kernel_rfl) ?_
        repeat (go_big_quiet_step (fail))
        refine wpQuiet_nil ?_
        rintro _ ⟨g3, rfl⟩
        go_wp2_with fail
        go_ret
        exact ⟨ret_bool (leqS_no (fun h => by have := (h.2.2.2 k hlt1).1; have := d1.out; omega)).symm, Ext.grow (Ext.trans hE3.out hx.out) g3⟩
      have d1' := hid (show placeN s k ≤ placeN r k by omega)
      have d1b : decide (placeN r k < placeN s k) = false := decide_eq_false d1
      replace d1 := hid d1
      by_cases d2 : (k : Int) < s.keep
      · have d2b : decide ((k : Int) < s.keep) = true := decide_eq_true d2
        rw [d2b] at x2
        replace d2b := hid d2b
        by_cases d3 : (k : Int) < r.keep
        · rw [decide_eq_true d3] at y2
          replace d3 := hid d3
          replace d2 := hid d2
          go_wp2_with fail
          refine region_ext (by kernel_rfl) (by kernel_rfl) ?_
          repeat (go_big_quiet_step (fail))
          refine wpQuiet_nil ?_
          rintro _ ⟨g3, rfl⟩
          go_wp2_with fail
          go_roundw
          case rel => exact ⟨k + 1, by omega, by go_num, Ext.grow hx.out g3, hid (lt_succ_all k hp.out ⟨d1'.out, fun _ => d3.out⟩)⟩
          case measure => simp [intOf]; omega
        · rw [decide_eq_false d3] at y2
          replace d3 := hid d3
          replace d2 := hid d2
          go_wp2_with fail
          refine region_ext (by kernel_rfl) (by kernel_rfl) ?_
          repeat (go_big_quiet_step (fail))
          refine wpQuiet_nil ?_
          rintro _ ⟨g3, rfl⟩
          go_wp2_with fail
          go_ret
          exact ⟨ret_bool (leqS_no (fun h => by have h3 := d3.out; have h2 := (h.2.2.2 k hlt1).2 d2.out; omega)).symm, Ext.grow (Ext.trans hE3.out hx.out) g3⟩
      · rw [decide_eq_false d2] at x2
        replace d2 := hid d2
        go_wp2_with fail
        refine region_ext (by kernel_rfl) (by kernel_rfl) ?_
        repeat (go_big_quiet_step (fail))
        refine wpQuiet_nil ?_
        rintro _ ⟨g3, rfl⟩
        go_wp2_with fail
        go_roundw
        case rel => exact ⟨k + 1, by omega, by go_num, Ext.grow hx.out g3, hid (lt_succ_all k hp.out ⟨d1'.out, fun h => by have h2 := d2.out; omega⟩)⟩
        case measure => simp [intOf]; omega
    · go_wp2_with fail
      go_ret
      exact ⟨ret_bool (leqS_yes ⟨c1.out, c2.out, c3.out, fun j hj => hp.out j (by have := hls.out; omega)⟩).symm, Ext.grow hE3.out g⟩
end Go.Proofs.Ytjfpglmmhikhbaa
