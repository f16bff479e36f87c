/- Contracts of package summary, fifth part: Then where more is kept. -/
import Derived.Test.YtjfpglmmhikhbaaSummary4
namespace Go.Proofs.Ytjfpglmmhikhbaa
open Go.RowKit

set_option maxHeartbeats 1000000 in
theorem then_more (v u : Value) (s r : Sm) (w : World) (hv : SumAt w v s) (hu : SumAt w u r) (c1 : sumCheck s 4 = 0) (c2 : sumCheck r (s.keep + s.push.length) = 0) (m : Nat) (c3 : r.keep = s.keep + (m + 1)) :
    Calls Try.prog 19 #[v, u] w (RetThen w s r) := by
  have hS := hid (fun w' (hx : Ext w w') => SumAt.keeps hx hv)
  have hR := hid (fun w' (hx : Ext w w') => SumAt.keeps hx hu)
  obtain ⟨pv, rfl, hp⟩ := hv
  obtain ⟨qv, rfl, hq⟩ := hu
  have hP := hid (fun w' (hx : Ext w w') => Rd.keeps hx hp)
  have hQ := hid (fun w' (hx : Ext w w') => Rd.keeps hx hq)
  obtain ⟨a, cap, rfl, hlm, -, -, -⟩ := hp
  obtain ⟨a', cap', rfl, htm, -, -, -⟩ := hq
  have e1 := Ext.alloc w (.cells #[.int .i64 s.keep, .int .i64 s.add, .slice a s.push.length cap] 32)
  have bs := Box.new w #[.int .i64 s.keep, .int .i64 s.add, .slice a s.push.length cap] 32
  have e2 := Ext.alloc (w.alloc (.cells #[.int .i64 s.keep, .int .i64 s.add, .slice a s.push.length cap] 32)) (.cells #[.int .i64 r.keep, .int .i64 r.add, .slice a' r.push.length cap'] 32)
  have br := Box.new (w.alloc (.cells #[.int .i64 s.keep, .int .i64 s.add, .slice a s.push.length cap] 32)) #[.int .i64 r.keep, .int .i64 r.add, .slice a' r.push.length cap'] 32
  have e3 := Ext.alloc ((w.alloc (.cells #[.int .i64 s.keep, .int .i64 s.add, .slice a s.push.length cap] 32)).alloc (.cells #[.int .i64 r.keep, .int .i64 r.add, .slice a' r.push.length cap'] 32)) (.cells #[.int .i64 0, .int .i64 0, .slice none 0 0] 32)
  have bz := Box.new ((w.alloc (.cells #[.int .i64 s.keep, .int .i64 s.add, .slice a s.push.length cap] 32)).alloc (.cells #[.int .i64 r.keep, .int .i64 r.add, .slice a' r.push.length cap'] 32)) #[.int .i64 0, .int .i64 0, .slice none 0 0] 32
  replace bs := hid (Box.keeps e3 (Box.keeps e2 bs))
  replace br := hid (Box.keeps e3 br)
  replace bz := hid bz
  simp only [World.size_alloc] at br bz
  have hE := hid (Ext.trans e1 (Ext.trans e2 e3))
  clear e1 e2 e3
  have h1 : (sumCheck s 4 != 0) = false := by rw [bne_eq_false_iff_eq]; exact c1
  obtain ⟨-, -, k1, k2, k3, -, -⟩ := sumCheck_zero c1
  have h2 : (sumCheck r (s.keep + s.push.length) != 0) = false := by rw [bne_eq_false_iff_eq]; exact c2
  obtain ⟨-, -, l1, l2, l3, l4, -⟩ := sumCheck_zero c2
  have h3 : (r.keep - s.keep == 0) = false := by rw [beq_eq_false_iff_ne]; omega
  obtain ⟨-, -, -, -, -, k4, k5⟩ := sumCheck_zero c1
  have hra : 0 ≤ r.add ∧ r.add ≤ 1048576 := by simp [badCoord] at l4; omega
  obtain ⟨hra1, hra2⟩ := hra
  have hmp : m + 1 ≤ s.push.length := by omega
  have hpb : 0 ≤ nth s.push m ∧ nth s.push m ≤ 1048576 := by
    have := List.any_eq_false.1 k5 _ (nth_mem s.push m (by omega))
    simp [badCoord] at this
    omega
  obtain ⟨hpb1, hpb2⟩ := hpb
  clear k4 k5 l4
  have hla := hid (show lastOf s r = nth s.push m + r.add by unfold lastOf; rw [if_neg (by omega), if_pos (by omega), show (r.keep - s.keep - 1).toNat = m by omega])
  have hq2 := hid (show thenS s r = ⟨s.keep, s.add, (s.push.take (m + 1)).set m (nth s.push m + r.add) ++ r.push⟩ by
    unfold thenS; rw [if_neg (by omega), if_pos (by omega), show (r.keep - s.keep - 1).toNat = m by omega, show (r.keep - s.keep).toNat = m + 1 by omega]; rfl)
  have her := hid (show thenErr s r = if badCoord (nth s.push m + r.add) = true then 6 else 0 by simp [thenErr, c1, c2, hla.out])
  replace c1 := hid c1
  replace c2 := hid c2
  have hkp : r.keep - s.keep = (m : Int) + 1 := by omega
  have hmc : (m : Int) + 1 ≤ (cap : Int) := by omega
  have hmc' : m + 1 ≤ cap := by omega
  have hm0 : (0 : Int) ≤ (m : Int) + 1 := by omega
  have hmn : ((m : Int) + 1).toNat = m + 1 := by omega
  replace c3 := hid c3
  go_enter Try.func19, Try.ntmps19
  go_wp2_with fail
  refine (sumcheck_any _ s 4 _ (hS.out _ hE.out)).mono ?_
  rintro e W1 ⟨rfl, hx⟩
  replace bs := hid (Box.keeps hx bs.out)
  replace br := hid (Box.keeps hx br.out)
  replace bz := hid (Box.keeps hx bz.out)
  replace hE := hid (Ext.trans hE.out hx)
  clear hx
  obtain ⟨s0, s1, s2, sf, sl, si⟩ := Box.three bs.out
  obtain ⟨r0, r1, r2, rf, rl, ri⟩ := Box.three br.out
  obtain ⟨z0, z1, z2, zf, zl, zi⟩ := Box.three bz.out
  go_wp2_with fail
  refine region_ext (by kernel_rfl) (by kernel_rfl) ?_
  repeat (go_big_quiet_step ((first | (go_at_call 33; with_reducible exact Calls.quiet_ext (out_any _ s _ (hS.out _ (Ext.grow hE.out _)) (by omega) (by omega) (by omega))) | (go_at_call 21; with_reducible exact Calls.quiet_ext (sumcheck_any _ r (s.keep + s.push.length) _ (hR.out _ (Ext.grow hE.out _)))))))
  refine wpQuiet_nil ?_
  rintro _ ⟨g1, rfl⟩
  clear s0 s1 s2 sf sl si r0 r1 r2 rf rl ri z0 z1 z2 zf zl zi
  replace bs := hid (Box.keeps (ext_grow W1 g1) bs.out)
  replace br := hid (Box.keeps (ext_grow W1 g1) br.out)
  replace bz := hid (Box.keeps (ext_grow W1 g1) bz.out)
  replace hE := hid (Ext.trans hE.out (ext_grow W1 g1))
  generalize grow W1 g1 = W2 at *
  obtain ⟨s0, s1, s2, sf, sl, si⟩ := Box.three bs.out
  obtain ⟨r0, r1, r2, rf, rl, ri⟩ := Box.three br.out
  obtain ⟨z0, z1, z2, zf, zl, zi⟩ := Box.three bz.out
  go_wp2_with fail
  have hx3 := Ext.alloc W2 (.cells #[.int .i64 r.keep, .int .i64 r.add, .slice none 0 0] 32)
  have bo := hid (Box.new W2 #[.int .i64 r.keep, .int .i64 r.add, .slice none 0 0] 32)
  replace bs := hid (Box.keeps hx3 bs.out)
  replace br := hid (Box.keeps hx3 br.out)
  replace bz := hid (Box.keeps hx3 bz.out)
  replace hE := hid (Ext.trans hE.out hx3)
  have hlt3 := hid (Box.lt bo.out)
  have hne : ¬ W2.heap.size = w.heap.size + 1 + 1 := by omega
  have hne' : ¬ w.heap.size + 1 + 1 = W2.heap.size := by omega
  have hn1 : ¬ W2.heap.size = w.heap.size + 1 := by omega
  have hn0 : ¬ W2.heap.size = w.heap.size := by omega
  have hge := hid (show w.heap.size ≤ W2.heap.size by omega)
  have hzb := hid (show w.heap.size + 1 + 1 < W2.heap.size + 1 by omega)
  clear hx3 s0 s1 s2 sf sl si r0 r1 r2 rf rl ri z0 z1 z2 zf zl zi
  generalize W2.alloc (.cells #[.int .i64 r.keep, .int .i64 r.add, .slice none 0 0] 32) = W3 at *
  obtain ⟨s0, s1, s2, sf, sl, si⟩ := Box.three bs.out
  obtain ⟨o0, o1, o2, of, ol, oi⟩ := Box.three bo.out
  go_region_held3 (fun w' => w'.cell? ⟨w.heap.size, 0, none⟩ = some (.int .i64 s.keep) ∧ w'.cell? ⟨w.heap.size, 1, none⟩ = some (.int .i64 s.add) ∧ w'.cell? ⟨w.heap.size, 2, none⟩ = some (.slice a s.push.length cap)) (first | exact ⟨Ext.keeps hx4 s0, Ext.keeps hx4 s1, Ext.keeps hx4 s2⟩ | go_keep)
    (first
      | (go_at_call 34; refine (clone_any _ (s.push.take (m + 1)) _ (Rd.take (hP.out _ (Ext.drew' hE.out)) (m + 1) hmp) (by simp; omega)).mono ?_; rintro e W4 ⟨u, rfl, hu, hx4⟩; have bo4 := hid (Box.keeps hx4 bo.out); obtain ⟨q0, q1, q2, qf, ql, qi⟩ := Box.three bo4.out; obtain ⟨ub, uc, rfl⟩ := own_some hu m (by simp; omega)))
  have hl1 : (s.push.take (m + 1)).length = m + 1 := by simp; omega
  rw [hl1] at hu
  have hB3 : W2.heap.size < W3.drew.heap.size := hlt3.out
  have bo5 := hid (Box.set (Box.set (Box.set bo4.out 0 (.int .i64 s.keep)) 1 (.int .i64 s.add)) 2 (.slice (some ⟨ub, 0, none⟩) (m + 1) uc))
  simp only [List.setIfInBounds_toArray, List.set_cons_zero, List.set_cons_succ] at bo5
  have br5 := hid (Box.other (Box.other (Box.other (Box.keeps hx4 br.out) ⟨W2.heap.size, 0, none⟩ (.int .i64 s.keep) hn1) ⟨W2.heap.size, 1, none⟩ (.int .i64 s.add) hn1) ⟨W2.heap.size, 2, none⟩ (.slice (some ⟨ub, 0, none⟩) (m + 1) uc) hn1)
  have bz5 := hid (Box.other (Box.other (Box.other (Box.keeps hx4 bz.out) ⟨W2.heap.size, 0, none⟩ (.int .i64 s.keep) hne) ⟨W2.heap.size, 1, none⟩ (.int .i64 s.add) hne) ⟨W2.heap.size, 2, none⟩ (.slice (some ⟨ub, 0, none⟩) (m + 1) uc) hne)
  have hu5 := hid (OwnL.below (OwnL.below (OwnL.below hu ⟨W2.heap.size, 0, none⟩ hB3 (.int .i64 s.keep)) ⟨W2.heap.size, 1, none⟩ hB3 (.int .i64 s.add)) ⟨W2.heap.size, 2, none⟩ hB3 (.slice (some ⟨ub, 0, none⟩) (m + 1) uc))
  have hE5 := hid (Ext.setCell (Ext.setCell (Ext.setCell (Ext.trans (Ext.drew' hE.out) hx4) ⟨W2.heap.size, 0, none⟩ hge.out (.int .i64 s.keep)) ⟨W2.heap.size, 1, none⟩ hge.out (.int .i64 s.add)) ⟨W2.heap.size, 2, none⟩ hge.out (.slice (some ⟨ub, 0, none⟩) (m + 1) uc))
  have hbw : W3.drew.heap.size ≤ ub := OwnL.block hu ub rfl
  have hsz4 := hid hx4.size
  rename_i hHeld
  clear hHeld bs br bz bo bo4 hu hx4 hE s0 s1 s2 sf sl si o0 o1 o2 of ol oi q0 q1 q2 qf ql qi
  have hsz5 := hid (show W3.drew.heap.size ≤ (((W4.setCell ⟨W2.heap.size, 0, none⟩ (.int .i64 s.keep)).setCell ⟨W2.heap.size, 1, none⟩ (.int .i64 s.add)).setCell ⟨W2.heap.size, 2, none⟩ (.slice (some ⟨ub, 0, none⟩) (m + 1) uc)).heap.size by simpa [World.setCell] using hsz4.out)
  clear hsz4
  generalize ((W4.setCell ⟨W2.heap.size, 0, none⟩ (.int .i64 s.keep)).setCell ⟨W2.heap.size, 1, none⟩ (.int .i64 s.add)).setCell ⟨W2.heap.size, 2, none⟩ (.slice (some ⟨ub, 0, none⟩) (m + 1) uc) = W5 at *
  clear W4
  generalize hB : W3.drew.heap.size = B at *
  clear hB hlt3 W3
  have hu0 : ¬ ub = W2.heap.size := by omega
  have hu1 : ¬ ub = w.heap.size + 1 := by have := hzb.out; omega
  have hu2 : ¬ ub = w.heap.size + 1 + 1 := by have := hzb.out; omega
  have hub := hid (show w.heap.size ≤ ub by have := hge.out; omega)
  have hnt := hid (show nth (s.push.take (m + 1)) m = nth s.push m by rw [nth_take _ _ _ (by omega)])
  obtain ⟨y1, y2, -, -⟩ := OwnL.cell hu5.out m (by rw [hl1]; omega)
  rw [hnt.out] at y1
  have hlB := hid hB3
  have hbB := hid hbw
  clear hl1 hnt
  obtain ⟨o0, o1, o2, of, ol, oi⟩ := Box.three bo5.out
  obtain ⟨r0, r1, r2, rf, rl, ri⟩ := Box.three br5.out
  go_wp2_with fail
  go_region
  have hu6 := hid (OwnL.drew (OwnL.stored hu5.out m (nth s.push m + r.add)))
  have bo6 := hid (Box.drew (Box.other bo5.out ⟨ub, m, none⟩ (.int .i64 (nth s.push m + r.add)) hu0))
  have br6 := hid (Box.drew (Box.other br5.out ⟨ub, m, none⟩ (.int .i64 (nth s.push m + r.add)) hu1))
  have bz6 := hid (Box.drew (Box.other bz5.out ⟨ub, m, none⟩ (.int .i64 (nth s.push m + r.add)) hu2))
  have hE6 := hid (Ext.drew' (Ext.setCell hE5.out ⟨ub, m, none⟩ hub.out (.int .i64 (nth s.push m + r.add))))
  have y6 := hid (OwnL.cell hu6.out m (by simp; omega))
  have hsz6 := hid (show B ≤ (W5.setCell ⟨ub, m, none⟩ (.int .i64 (nth s.push m + r.add))).drew.heap.size by simpa [World.setCell] using hsz5.out)
  clear hsz5 bo5 br5 bz5 hu5 hE5 y1 y2 o0 o1 o2 of ol oi r0 r1 r2 rf rl ri
  generalize (W5.setCell ⟨ub, m, none⟩ (.int .i64 (nth s.push m + r.add))).drew = W6 at *
  clear W5
  obtain ⟨y1, y2, -, -⟩ := y6.out
  rw [nth_set, if_pos ⟨rfl, by simp; omega⟩] at y1
  clear y6
  have hsl := hid (show ((s.push.take (m + 1)).set m (nth s.push m + r.add)).length + r.push.length ≤ 2000000000000 by simp; omega)
  obtain ⟨o0, o1, o2, of, ol, oi⟩ := Box.three bo6.out
  obtain ⟨r0, r1, r2, rf, rl, ri⟩ := Box.three br6.out
  obtain ⟨z0, z1, z2, zf, zl, zi⟩ := Box.three bz6.out
  generalize hx : nth s.push m + r.add = x at *
  replace hx := hid hx
  cases hbc : badCoord x with
  | true =>
    go_wp2_with (go_at_call 35; refine (within_any _ _).mono ?_; rintro e w' ⟨rfl, rfl⟩)
    refine bodyPost_ret (v := .tuple #[.agg #[.int .i64 0, .int .i64 0, .slice none 0 0], .int .i64 6]) (by simp [results, Try.results19, go_sem, z0, z1, z2]) rfl
      (RetThen.err _ (by rw [her.out, hbc]; rfl) (by decide) ?_)
    refine Ext.setCell (Ext.setCell (Ext.setCell hE6.out _ ?_ _) _ ?_ _) _ ?_ _ <;> exact Nat.le_add_right _ 2
  | false =>
  have hf := hid (show thenErr s r = 0 by rw [her.out, hbc]; rfl)
  go_wp2_with (first | (go_at_call 35; refine (within_any _ _).mono ?_; rintro e w' ⟨rfl, rfl⟩) | (at_builtin; refine app_row (enc := Value.int .i64) (fun _ => rfl) eltInt (by decide) rfl rfl _ _ rfl B _ _ _ r.push rfl rfl hu6.out (hQ.out _ hE6.out) hsl.out hsz6.out ?c5))
  case c5 =>
  intro u W7 hu7 hg
  have hbl : ∀ k, (Value.slice (some ⟨ub, 0, none⟩) (m + 1) uc).ownBlock = some k → B ≤ k := fun k hk => by cases hk; exact hbB.out
  have hbe := Below.grown (Below.refl B _) hg hsz6.out hbl
  have bo7 := hid (Box.below hbe hlB.out bo6.out)
  have bz7 := hid (Box.below hbe (by have := hlB.out; have := hzb.out; omega) bz6.out)
  have hE7 := hid (Ext.grown hE6.out hg (fun k hk => by have := hbl k hk; have := hlB.out; have := hge.out; omega))
  clear hg hbl hbe bo6 br6 bz6 hu6 hE6 y1 y2 o0 o1 o2 of ol oi r0 r1 r2 rf rl ri z0 z1 z2 zf zl zi
  obtain ⟨ua, un, uc2, rfl⟩ := own_slice hu7
  replace hu7 := hid hu7
  obtain ⟨o0, o1, o2, of, ol, oi⟩ := Box.three bo7.out
  obtain ⟨z0, z1, z2, zf, zl, zi⟩ := Box.three bz7.out
  go_wp2_with fail
  refine bodyPost_ret (v := .tuple #[.agg #[.int .i64 s.keep, .int .i64 s.add, .slice ua un uc2], .int .i64 0]) (by simp [results, Try.results19, go_sem, z0, z1, z2, o0, o1, o2, hne, hne']) rfl
      (RetThen.ok ⟨s.keep, s.add, (s.push.take (m + 1)).set m x ++ r.push⟩ _ hf.out hq2.out.symm ?_ ?_)
  · refine OwnL.mono (base := B) ?_ (by have := hge.out; have := hlB.out; omega)
    have hl2 : w.heap.size + 1 + 1 < B := by have := hlB.out; have := hzb.out; omega
    exact OwnL.below (OwnL.below (OwnL.below (OwnL.below hu7.out ⟨W2.heap.size, 2, none⟩ hlB.out _) ⟨w.heap.size + 1 + 1, 0, none⟩ hl2 _) ⟨w.heap.size + 1 + 1, 1, none⟩ hl2 _) ⟨w.heap.size + 1 + 1, 2, none⟩ hl2 _
  · refine Ext.setCell (Ext.setCell (Ext.setCell (Ext.setCell hE7.out _ hge.out _) _ ?_ _) _ ?_ _) _ ?_ _ <;> exact Nat.le_add_right _ 2

/-- Then, whatever it is given. -/
theorem then_any (v u : Value) (s r : Sm) (w : World) (hv : SumAt w v s) (hu : SumAt w u r) : Calls Try.prog 19 #[v, u] w (RetThen w s r) := by
  by_cases hc : sumCheck s 4 = 0 ∧ sumCheck r (s.keep + s.push.length) = 0
  · rcases Int.lt_trichotomy r.keep s.keep with h | h | h
    · exact then_less v u s r w hv hu hc.1 hc.2 h
    · exact then_same v u s r w hv hu hc.1 hc.2 h
    · exact then_more v u s r w hv hu hc.1 hc.2 (r.keep - s.keep - 1).toNat (by omega)
  · exact then_bad v u s r w hv hu hc
end Go.Proofs.Ytjfpglmmhikhbaa
