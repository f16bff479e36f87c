/- Contracts of package summary, fourth part: Then. -/
import Derived.Test.YtjfpglmmhikhbaaSummary3
namespace Go.Proofs.Ytjfpglmmhikhbaa
open Go.RowKit

/-- The number that a composition changes. -/
def lastOf (s r : Sm) : Int := if r.keep = s.keep then r.add + s.add else if s.keep < r.keep then nth s.push (r.keep - s.keep - 1).toNat + r.add else r.add
def thenErr (s r : Sm) : Int :=
  if sumCheck s 4 ≠ 0 then sumCheck s 4 else if sumCheck r (s.keep + s.push.length) ≠ 0 then sumCheck r (s.keep + s.push.length) else if badCoord (lastOf s r) then 6 else 0
def thenS (s r : Sm) : Sm :=
  if r.keep = s.keep then ⟨r.keep, r.add + s.add, r.push⟩
  else if s.keep < r.keep then ⟨s.keep, s.add, (s.push.take (r.keep - s.keep).toNat).set ((r.keep - s.keep).toNat - 1) (nth s.push (r.keep - s.keep - 1).toNat + r.add) ++ r.push⟩
  else r
theorem own_slice {w : World} {base : Nat} {v : Value} {xs : List Int} (h : Own w base v xs) : ∃ a n c, v = .slice a n c := by
  rcases h.2 with ⟨rfl, _⟩ | ⟨g, cap, cur, rfl, _⟩
  · exact ⟨_, _, _, rfl⟩
  · exact ⟨_, _, _, rfl⟩
theorem Box.below {w w' : World} {B b : Nat} {cs : Array Value} {t : TypeId} (hx : Below B w w') (hb : b < B) (h : Box w b cs t) : Box w' b cs t := by
  unfold Box; rw [hx.block b hb]; exact h
theorem own_some {w : World} {base : Nat} {v : Value} {xs : List Int} (h : Own w base v xs) (m : Nat) (hm : m < xs.length) : ∃ g c, v = .slice (some ⟨g, 0, none⟩) xs.length c := by
  rcases h.2 with ⟨rfl, hn⟩ | ⟨g, cap, cur, rfl, _⟩
  · omega
  · exact ⟨_, _, rfl⟩
def RetThen (w : World) (s r : Sm) (e : Ending) (w' : World) : Prop :=
  ∃ q pv, e = .returned (.tuple #[.agg #[.int .i64 q.keep, .int .i64 q.add, pv], .int .i64 (thenErr s r)]) ∧ q = (if thenErr s r = 0 then thenS s r else ⟨0, 0, []⟩) ∧ Own w' w.heap.size pv q.push ∧ Ext w w'
theorem RetThen.err {w w' : World} {s r : Sm} (k : Int) (he : thenErr s r = k) (hk : k ≠ 0) (hx : Ext w w') : RetThen w s r (.returned (.tuple #[.agg #[.int .i64 0, .int .i64 0, .slice none 0 0], .int .i64 k])) w' := by
  subst he
  exact ⟨⟨0, 0, []⟩, _, rfl, by rw [if_neg hk], OwnL.nil _ _, hx⟩
theorem RetThen.ok {w w' : World} {s r : Sm} (q : Sm) (pv : Value) (he : thenErr s r = 0) (hq : q = thenS s r) (hu : Own w' w.heap.size pv q.push) (hx : Ext w w') :
    RetThen w s r (.returned (.tuple #[.agg #[.int .i64 q.keep, .int .i64 q.add, pv], .int .i64 0])) w' :=
  ⟨q, pv, by rw [he], by rw [if_pos he]; exact hq, hu, hx⟩
theorem cell_new (w : World) (cs : Array Value) (t : TypeId) (n j : Nat) (v : Value) (hn : n = w.heap.size) (h : cs[j]? = some v) : (w.alloc (.cells cs t)).cell? ⟨n, j, none⟩ = some v := by
  subst hn
  rw [World.cell?_alloc_new]; exact h

set_option maxHeartbeats 1000000 in
theorem then_bad (v u : Value) (s r : Sm) (w : World) (hv : SumAt w v s) (hu : SumAt w u r) (hc : ¬ (sumCheck s 4 = 0 ∧ sumCheck r (s.keep + s.push.length) = 0)) :
    Calls Try.prog 19 #[v, u] w (RetThen w s r) := by
  have hS := hid (fun w' (hx : Ext w w') => SumAt.keeps hx hv)
  have hR := hid (fun w' (hx : Ext w w') => SumAt.keeps hx hu)
  obtain ⟨pv, rfl, hp⟩ := hv
  obtain ⟨qv, rfl, hq⟩ := hu
  have hP := hid (fun w' (hx : Ext w w') => Rd.keeps hx hp)
  have hQ := hid (fun w' (hx : Ext w w') => Rd.keeps hx hq)
  obtain ⟨a, cap, rfl, hlm, -, -, -⟩ := hp
  obtain ⟨a', cap', rfl, htm, -, -, -⟩ := hq
  have e1 := Ext.alloc w (.cells #[.int .i64 s.keep, .int .i64 s.add, .slice a s.push.length cap] 32)
  have bs := Box.new w #[.int .i64 s.keep, .int .i64 s.add, .slice a s.push.length cap] 32
  have e2 := Ext.alloc (w.alloc (.cells #[.int .i64 s.keep, .int .i64 s.add, .slice a s.push.length cap] 32)) (.cells #[.int .i64 r.keep, .int .i64 r.add, .slice a' r.push.length cap'] 32)
  have br := Box.new (w.alloc (.cells #[.int .i64 s.keep, .int .i64 s.add, .slice a s.push.length cap] 32)) #[.int .i64 r.keep, .int .i64 r.add, .slice a' r.push.length cap'] 32
  have e3 := Ext.alloc ((w.alloc (.cells #[.int .i64 s.keep, .int .i64 s.add, .slice a s.push.length cap] 32)).alloc (.cells #[.int .i64 r.keep, .int .i64 r.add, .slice a' r.push.length cap'] 32)) (.cells #[.int .i64 0, .int .i64 0, .slice none 0 0] 32)
  have bz := Box.new ((w.alloc (.cells #[.int .i64 s.keep, .int .i64 s.add, .slice a s.push.length cap] 32)).alloc (.cells #[.int .i64 r.keep, .int .i64 r.add, .slice a' r.push.length cap'] 32)) #[.int .i64 0, .int .i64 0, .slice none 0 0] 32
  replace bs := hid (Box.keeps e3 (Box.keeps e2 bs))
  replace br := hid (Box.keeps e3 br)
  replace bz := hid bz
  simp only [World.size_alloc] at br bz
  have hE := hid (Ext.trans e1 (Ext.trans e2 e3))
  clear e1 e2 e3
  by_cases c1 : sumCheck s 4 = 0
  case neg =>
    have h1 : (sumCheck s 4 != 0) = true := by rw [bne_iff_ne]; exact c1
    have hf := hid (show thenErr s r = sumCheck s 4 by simp [thenErr, c1])
    replace c1 := hid c1
    clear hc
    go_enter Try.func19, Try.ntmps19
    go_wp2_with fail
    refine (sumcheck_any _ s 4 _ (hS.out _ hE.out)).mono ?_
    rintro e W1 ⟨rfl, hx⟩
    replace bs := hid (Box.keeps hx bs.out)
    replace br := hid (Box.keeps hx br.out)
    replace bz := hid (Box.keeps hx bz.out)
    replace hE := hid (Ext.trans hE.out hx)
    clear hx
    obtain ⟨s0, s1, s2, sf, sl, si⟩ := Box.three bs.out
    obtain ⟨r0, r1, r2, rf, rl, ri⟩ := Box.three br.out
    obtain ⟨z0, z1, z2, zf, zl, zi⟩ := Box.three bz.out
    go_wp2_with fail
    refine bodyPost_ret (v := .tuple #[.agg #[.int .i64 0, .int .i64 0, .slice none 0 0], .int .i64 (sumCheck s 4)]) (by simp [results, Try.results19, go_sem, z0, z1, z2]) rfl
        (RetThen.err _ hf.out c1.out ?_)
    refine Ext.setCell (Ext.setCell (Ext.setCell hE.out _ ?_ _) _ ?_ _) _ ?_ _ <;> exact Nat.le_add_right _ 2
  have h1 : (sumCheck s 4 != 0) = false := by rw [bne_eq_false_iff_eq]; exact c1
  obtain ⟨-, -, k1, k2, k3, -, -⟩ := sumCheck_zero c1
  have c2 : ¬ sumCheck r (s.keep + s.push.length) = 0 := fun h => hc ⟨c1, h⟩
  clear hc
  have h2 : (sumCheck r (s.keep + s.push.length) != 0) = true := by rw [bne_iff_ne]; exact c2
  have hf := hid (show thenErr s r = sumCheck r (s.keep + s.push.length) by simp [thenErr, c1, c2])
  replace c1 := hid c1
  replace c2 := hid c2
  go_enter Try.func19, Try.ntmps19
  go_wp2_with fail
  refine (sumcheck_any _ s 4 _ (hS.out _ hE.out)).mono ?_
  rintro e W1 ⟨rfl, hx⟩
  replace bs := hid (Box.keeps hx bs.out)
  replace br := hid (Box.keeps hx br.out)
  replace bz := hid (Box.keeps hx bz.out)
  replace hE := hid (Ext.trans hE.out hx)
  clear hx
  obtain ⟨s0, s1, s2, sf, sl, si⟩ := Box.three bs.out
  obtain ⟨r0, r1, r2, rf, rl, ri⟩ := Box.three br.out
  obtain ⟨z0, z1, z2, zf, zl, zi⟩ := Box.three bz.out
  go_wp2_with fail
  refine region_ext (by kernel_rfl) (by kernel_rfl) ?_
  repeat (go_big_quiet_step ((first | (go_at_call 33; with_reducible exact Calls.quiet_ext (out_any _ s _ (hS.out _ (Ext.grow hE.out _)) (by omega) (by omega) (by omega))) | (go_at_call 21; with_reducible exact Calls.quiet_ext (sumcheck_any _ r (s.keep + s.push.length) _ (hR.out _ (Ext.grow hE.out _)))))))
  refine wpQuiet_nil ?_
  rintro _ ⟨g1, rfl⟩
  clear s0 s1 s2 sf sl si r0 r1 r2 rf rl ri z0 z1 z2 zf zl zi
  replace bs := hid (Box.keeps (ext_grow W1 g1) bs.out)
  replace br := hid (Box.keeps (ext_grow W1 g1) br.out)
  replace bz := hid (Box.keeps (ext_grow W1 g1) bz.out)
  replace hE := hid (Ext.trans hE.out (ext_grow W1 g1))
  generalize grow W1 g1 = W2 at *
  obtain ⟨s0, s1, s2, sf, sl, si⟩ := Box.three bs.out
  obtain ⟨r0, r1, r2, rf, rl, ri⟩ := Box.three br.out
  obtain ⟨z0, z1, z2, zf, zl, zi⟩ := Box.three bz.out
  go_wp2_with fail
  refine bodyPost_ret (v := .tuple #[.agg #[.int .i64 0, .int .i64 0, .slice none 0 0], .int .i64 (sumCheck r (s.keep + s.push.length))]) (by simp [results, Try.results19, go_sem, z0, z1, z2]) rfl
      (RetThen.err _ hf.out c2.out ?_)
  refine Ext.setCell (Ext.setCell (Ext.setCell hE.out _ ?_ _) _ ?_ _) _ ?_ _ <;> exact Nat.le_add_right _ 2

set_option maxHeartbeats 1000000 in
theorem then_less (v u : Value) (s r : Sm) (w : World) (hv : SumAt w v s) (hu : SumAt w u r) (c1 : sumCheck s 4 = 0) (c2 : sumCheck r (s.keep + s.push.length) = 0) (c3 : r.keep < s.keep) :
    Calls Try.prog 19 #[v, u] w (RetThen w s r) := by
  have hS := hid (fun w' (hx : Ext w w') => SumAt.keeps hx hv)
  have hR := hid (fun w' (hx : Ext w w') => SumAt.keeps hx hu)
  obtain ⟨pv, rfl, hp⟩ := hv
  obtain ⟨qv, rfl, hq⟩ := hu
  have hP := hid (fun w' (hx : Ext w w') => Rd.keeps hx hp)
  have hQ := hid (fun w' (hx : Ext w w') => Rd.keeps hx hq)
  obtain ⟨a, cap, rfl, hlm, -, -, -⟩ := hp
  obtain ⟨a', cap', rfl, htm, -, -, -⟩ := hq
  have e1 := Ext.alloc w (.cells #[.int .i64 s.keep, .int .i64 s.add, .slice a s.push.length cap] 32)
  have bs := Box.new w #[.int .i64 s.keep, .int .i64 s.add, .slice a s.push.length cap] 32
  have e2 := Ext.alloc (w.alloc (.cells #[.int .i64 s.keep, .int .i64 s.add, .slice a s.push.length cap] 32)) (.cells #[.int .i64 r.keep, .int .i64 r.add, .slice a' r.push.length cap'] 32)
  have br := Box.new (w.alloc (.cells #[.int .i64 s.keep, .int .i64 s.add, .slice a s.push.length cap] 32)) #[.int .i64 r.keep, .int .i64 r.add, .slice a' r.push.length cap'] 32
  have e3 := Ext.alloc ((w.alloc (.cells #[.int .i64 s.keep, .int .i64 s.add, .slice a s.push.length cap] 32)).alloc (.cells #[.int .i64 r.keep, .int .i64 r.add, .slice a' r.push.length cap'] 32)) (.cells #[.int .i64 0, .int .i64 0, .slice none 0 0] 32)
  have bz := Box.new ((w.alloc (.cells #[.int .i64 s.keep, .int .i64 s.add, .slice a s.push.length cap] 32)).alloc (.cells #[.int .i64 r.keep, .int .i64 r.add, .slice a' r.push.length cap'] 32)) #[.int .i64 0, .int .i64 0, .slice none 0 0] 32
  replace bs := hid (Box.keeps e3 (Box.keeps e2 bs))
  replace br := hid (Box.keeps e3 br)
  replace bz := hid bz
  simp only [World.size_alloc] at br bz
  have hE := hid (Ext.trans e1 (Ext.trans e2 e3))
  clear e1 e2 e3
  have h1 : (sumCheck s 4 != 0) = false := by rw [bne_eq_false_iff_eq]; exact c1
  obtain ⟨-, -, k1, k2, k3, -, -⟩ := sumCheck_zero c1
  have h2 : (sumCheck r (s.keep + s.push.length) != 0) = false := by rw [bne_eq_false_iff_eq]; exact c2
  obtain ⟨-, -, l1, l2, l3, l4, -⟩ := sumCheck_zero c2
  have h3 : (r.keep - s.keep == 0) = false := by rw [beq_eq_false_iff_ne]; omega
  have hf := hid (show thenErr s r = 0 by
    have : lastOf s r = r.add := by unfold lastOf; rw [if_neg (by omega), if_neg (by omega)]
    simp [thenErr, c1, c2, this, l4])
  have hq2 := hid (show thenS s r = r by unfold thenS; rw [if_neg (by omega), if_neg (by omega)])
  replace c1 := hid c1
  replace c2 := hid c2
  go_enter Try.func19, Try.ntmps19
  go_wp2_with fail
  refine (sumcheck_any _ s 4 _ (hS.out _ hE.out)).mono ?_
  rintro e W1 ⟨rfl, hx⟩
  replace bs := hid (Box.keeps hx bs.out)
  replace br := hid (Box.keeps hx br.out)
  replace bz := hid (Box.keeps hx bz.out)
  replace hE := hid (Ext.trans hE.out hx)
  clear hx
  obtain ⟨s0, s1, s2, sf, sl, si⟩ := Box.three bs.out
  obtain ⟨r0, r1, r2, rf, rl, ri⟩ := Box.three br.out
  obtain ⟨z0, z1, z2, zf, zl, zi⟩ := Box.three bz.out
  go_wp2_with fail
  refine region_ext (by kernel_rfl) (by kernel_rfl) ?_
  repeat (go_big_quiet_step ((first | (go_at_call 33; with_reducible exact Calls.quiet_ext (out_any _ s _ (hS.out _ (Ext.grow hE.out _)) (by omega) (by omega) (by omega))) | (go_at_call 21; with_reducible exact Calls.quiet_ext (sumcheck_any _ r (s.keep + s.push.length) _ (hR.out _ (Ext.grow hE.out _)))))))
  refine wpQuiet_nil ?_
  rintro _ ⟨g1, rfl⟩
  clear s0 s1 s2 sf sl si r0 r1 r2 rf rl ri z0 z1 z2 zf zl zi
  replace bs := hid (Box.keeps (ext_grow W1 g1) bs.out)
  replace br := hid (Box.keeps (ext_grow W1 g1) br.out)
  replace bz := hid (Box.keeps (ext_grow W1 g1) bz.out)
  replace hE := hid (Ext.trans hE.out (ext_grow W1 g1))
  generalize grow W1 g1 = W2 at *
  obtain ⟨s0, s1, s2, sf, sl, si⟩ := Box.three bs.out
  obtain ⟨r0, r1, r2, rf, rl, ri⟩ := Box.three br.out
  obtain ⟨z0, z1, z2, zf, zl, zi⟩ := Box.three bz.out
  go_wp2_with fail
  have hx3 := Ext.alloc W2 (.cells #[.int .i64 r.keep, .int .i64 r.add, .slice none 0 0] 32)
  have bo := hid (Box.new W2 #[.int .i64 r.keep, .int .i64 r.add, .slice none 0 0] 32)
  replace bz := hid (Box.keeps hx3 bz.out)
  replace hE := hid (Ext.trans hE.out hx3)
  have hlt3 := hid (Box.lt bo.out)
  have hne : ¬ W2.heap.size = w.heap.size + 1 + 1 := by omega
  have hne' : ¬ w.heap.size + 1 + 1 = W2.heap.size := by omega
  have hge := hid (show w.heap.size ≤ W2.heap.size by omega)
  have hzb := hid (show w.heap.size + 1 + 1 < W2.heap.size + 1 by omega)
  replace br := hid (Box.keeps hx3 br.out)
  clear hx3 s0 s1 s2 sf sl si r0 r1 r2 rf rl ri z0 z1 z2 zf zl zi
  generalize W2.alloc (.cells #[.int .i64 r.keep, .int .i64 r.add, .slice none 0 0] 32) = W3 at *
  obtain ⟨o0, o1, o2, of, ol, oi⟩ := Box.three bo.out
  obtain ⟨r0, r1, r2, rf, rl, ri⟩ := Box.three br.out
  obtain ⟨z0, z1, z2, zf, zl, zi⟩ := Box.three bz.out
  refine (within_any _ _).mono ?_
  rintro e w' ⟨rfl, rfl⟩
  go_wp2_with (at_builtin; refine app_row (enc := Value.int .i64) (fun _ => rfl) eltInt (by decide) rfl rfl _ _ rfl (W2.heap.size + 1) _ _ [] r.push rfl rfl (OwnL.nil _ _) ?c2 ?c3 ?c4 ?c5)
  case c2 => exact hQ.out _ hE.out
  case c3 => first | omega | (simp; omega)
  case c4 => exact hlt3.out
  case c5 =>
  intro u w3 hu3 hg
  have hx := Ext.grown (Ext.refl _) hg (fun k hk => by cases hk)
  replace bo := hid (Box.keeps hx bo.out)
  replace bz := hid (Box.keeps hx bz.out)
  replace hE := hid (Ext.trans hE.out hx)
  clear hx hg o0 o1 o2 of ol oi r0 r1 r2 rf rl ri z0 z1 z2 zf zl zi
  obtain ⟨ua, un, uc, rfl⟩ := own_slice hu3
  replace hu3 := hid hu3
  obtain ⟨o0, o1, o2, of, ol, oi⟩ := Box.three bo.out
  obtain ⟨z0, z1, z2, zf, zl, zi⟩ := Box.three bz.out
  go_wp2_with fail
  refine bodyPost_ret (v := .tuple #[.agg #[.int .i64 r.keep, .int .i64 r.add, .slice ua un uc], .int .i64 0]) (by simp [results, Try.results19, go_sem, z0, z1, z2, o0, o1, o2, hne, hne']) rfl
      (RetThen.ok r _ hf.out hq2.out.symm ?_ ?_)
  · refine OwnL.mono (base := W2.heap.size + 1) ?_ (by have := hge.out; omega)
    exact OwnL.below (OwnL.below (OwnL.below (OwnL.below hu3.out ⟨W2.heap.size, 2, none⟩ (Nat.lt_succ_self _) _) ⟨w.heap.size + 1 + 1, 0, none⟩ hzb.out _) ⟨w.heap.size + 1 + 1, 1, none⟩ hzb.out _) ⟨w.heap.size + 1 + 1, 2, none⟩ hzb.out _
  · refine Ext.setCell (Ext.setCell (Ext.setCell (Ext.setCell hE.out _ hge.out _) _ ?_ _) _ ?_ _) _ ?_ _ <;> exact Nat.le_add_right _ 2

set_option maxHeartbeats 1000000 in
theorem then_same (v u : Value) (s r : Sm) (w : World) (hv : SumAt w v s) (hu : SumAt w u r) (c1 : sumCheck s 4 = 0) (c2 : sumCheck r (s.keep + s.push.length) = 0) (c3 : r.keep = s.keep) :
    Calls Try.prog 19 #[v, u] w (RetThen w s r) := by
  have hS := hid (fun w' (hx : Ext w w') => SumAt.keeps hx hv)
  have hR := hid (fun w' (hx : Ext w w') => SumAt.keeps hx hu)
  obtain ⟨pv, rfl, hp⟩ := hv
  obtain ⟨qv, rfl, hq⟩ := hu
  have hP := hid (fun w' (hx : Ext w w') => Rd.keeps hx hp)
  have hQ := hid (fun w' (hx : Ext w w') => Rd.keeps hx hq)
  obtain ⟨a, cap, rfl, hlm, -, -, -⟩ := hp
  obtain ⟨a', cap', rfl, htm, -, -, -⟩ := hq
  have e1 := Ext.alloc w (.cells #[.int .i64 s.keep, .int .i64 s.add, .slice a s.push.length cap] 32)
  have bs := Box.new w #[.int .i64 s.keep, .int .i64 s.add, .slice a s.push.length cap] 32
  have e2 := Ext.alloc (w.alloc (.cells #[.int .i64 s.keep, .int .i64 s.add, .slice a s.push.length cap] 32)) (.cells #[.int .i64 r.keep, .int .i64 r.add, .slice a' r.push.length cap'] 32)
  have br := Box.new (w.alloc (.cells #[.int .i64 s.keep, .int .i64 s.add, .slice a s.push.length cap] 32)) #[.int .i64 r.keep, .int .i64 r.add, .slice a' r.push.length cap'] 32
  have e3 := Ext.alloc ((w.alloc (.cells #[.int .i64 s.keep, .int .i64 s.add, .slice a s.push.length cap] 32)).alloc (.cells #[.int .i64 r.keep, .int .i64 r.add, .slice a' r.push.length cap'] 32)) (.cells #[.int .i64 0, .int .i64 0, .slice none 0 0] 32)
  have bz := Box.new ((w.alloc (.cells #[.int .i64 s.keep, .int .i64 s.add, .slice a s.push.length cap] 32)).alloc (.cells #[.int .i64 r.keep, .int .i64 r.add, .slice a' r.push.length cap'] 32)) #[.int .i64 0, .int .i64 0, .slice none 0 0] 32
  replace bs := hid (Box.keeps e3 (Box.keeps e2 bs))
  replace br := hid (Box.keeps e3 br)
  replace bz := hid bz
  simp only [World.size_alloc] at br bz
  have hE := hid (Ext.trans e1 (Ext.trans e2 e3))
  clear e1 e2 e3
  have h1 : (sumCheck s 4 != 0) = false := by rw [bne_eq_false_iff_eq]; exact c1
  obtain ⟨-, -, k1, k2, k3, -, -⟩ := sumCheck_zero c1
  have h2 : (sumCheck r (s.keep + s.push.length) != 0) = false := by rw [bne_eq_false_iff_eq]; exact c2
  obtain ⟨-, -, l1, l2, l3, l4, -⟩ := sumCheck_zero c2
  have h3 : (r.keep - s.keep == 0) = true := by rw [beq_iff_eq]; omega
  obtain ⟨-, -, -, -, -, k4, -⟩ := sumCheck_zero c1
  have hsa : 0 ≤ s.add ∧ s.add ≤ 1048576 := by simp [badCoord] at k4; omega
  have hra : 0 ≤ r.add ∧ r.add ≤ 1048576 := by simp [badCoord] at l4; omega
  obtain ⟨hsa1, hsa2⟩ := hsa
  obtain ⟨hra1, hra2⟩ := hra
  clear k4 l4
  have hla := hid (show lastOf s r = r.add + s.add by unfold lastOf; rw [if_pos c3])
  have hq2 := hid (show thenS s r = ⟨r.keep, r.add + s.add, r.push⟩ by unfold thenS; rw [if_pos c3])
  have her := hid (show thenErr s r = if badCoord (r.add + s.add) = true then 6 else 0 by simp [thenErr, c1, c2, hla.out])
  replace c3 := hid c3
  replace c1 := hid c1
  replace c2 := hid c2
  go_enter Try.func19, Try.ntmps19
  go_wp2_with fail
  refine (sumcheck_any _ s 4 _ (hS.out _ hE.out)).mono ?_
  rintro e W1 ⟨rfl, hx⟩
  replace bs := hid (Box.keeps hx bs.out)
  replace br := hid (Box.keeps hx br.out)
  replace bz := hid (Box.keeps hx bz.out)
  replace hE := hid (Ext.trans hE.out hx)
  clear hx
  obtain ⟨s0, s1, s2, sf, sl, si⟩ := Box.three bs.out
  obtain ⟨r0, r1, r2, rf, rl, ri⟩ := Box.three br.out
  obtain ⟨z0, z1, z2, zf, zl, zi⟩ := Box.three bz.out
  go_wp2_with fail
  refine region_ext (by kernel_rfl) (by kernel_rfl) ?_
  repeat (go_big_quiet_step ((first | (go_at_call 33; with_reducible exact Calls.quiet_ext (out_any _ s _ (hS.out _ (Ext.grow hE.out _)) (by omega) (by omega) (by omega))) | (go_at_call 21; with_reducible exact Calls.quiet_ext (sumcheck_any _ r (s.keep + s.push.length) _ (hR.out _ (Ext.grow hE.out _)))))))
  refine wpQuiet_nil ?_
  rintro _ ⟨g1, rfl⟩
  clear s0 s1 s2 sf sl si r0 r1 r2 rf rl ri z0 z1 z2 zf zl zi
  replace bs := hid (Box.keeps (ext_grow W1 g1) bs.out)
  replace br := hid (Box.keeps (ext_grow W1 g1) br.out)
  replace bz := hid (Box.keeps (ext_grow W1 g1) bz.out)
  replace hE := hid (Ext.trans hE.out (ext_grow W1 g1))
  generalize grow W1 g1 = W2 at *
  obtain ⟨s0, s1, s2, sf, sl, si⟩ := Box.three bs.out
  obtain ⟨r0, r1, r2, rf, rl, ri⟩ := Box.three br.out
  obtain ⟨z0, z1, z2, zf, zl, zi⟩ := Box.three bz.out
  go_wp2_with fail
  have hx3 := Ext.alloc W2 (.cells #[.int .i64 r.keep, .int .i64 (r.add + s.add), .slice none 0 0] 32)
  have bo := hid (Box.new W2 #[.int .i64 r.keep, .int .i64 (r.add + s.add), .slice none 0 0] 32)
  replace bz := hid (Box.keeps hx3 bz.out)
  replace hE := hid (Ext.trans hE.out hx3)
  have hlt3 := hid (Box.lt bo.out)
  have hne : ¬ W2.heap.size = w.heap.size + 1 + 1 := by omega
  have hne' : ¬ w.heap.size + 1 + 1 = W2.heap.size := by omega
  have hge := hid (show w.heap.size ≤ W2.heap.size by omega)
  have hzb := hid (show w.heap.size + 1 + 1 < W2.heap.size + 1 by omega)
  replace br := hid (Box.keeps hx3 br.out)
  clear hx3 s0 s1 s2 sf sl si r0 r1 r2 rf rl ri z0 z1 z2 zf zl zi
  generalize W2.alloc (.cells #[.int .i64 r.keep, .int .i64 (r.add + s.add), .slice none 0 0] 32) = W3 at *
  obtain ⟨o0, o1, o2, of, ol, oi⟩ := Box.three bo.out
  obtain ⟨r0, r1, r2, rf, rl, ri⟩ := Box.three br.out
  obtain ⟨z0, z1, z2, zf, zl, zi⟩ := Box.three bz.out
  cases hbc : badCoord (r.add + s.add) with
  | true =>
    refine (within_any _ _).mono ?_
    rintro e w' ⟨rfl, rfl⟩
    go_wp2_with fail
    refine bodyPost_ret (v := .tuple #[.agg #[.int .i64 0, .int .i64 0, .slice none 0 0], .int .i64 6]) (by simp [results, Try.results19, go_sem, z0, z1, z2]) rfl
      (RetThen.err _ (by rw [her.out, hbc]; rfl) (by decide) ?_)
    refine Ext.setCell (Ext.setCell (Ext.setCell hE.out _ ?_ _) _ ?_ _) _ ?_ _ <;> exact Nat.le_add_right _ 2
  | false =>
  have hf := hid (show thenErr s r = 0 by rw [her.out, hbc]; rfl)
  refine (within_any _ _).mono ?_
  rintro e w' ⟨rfl, rfl⟩
  go_wp2_with (at_builtin; refine app_row (enc := Value.int .i64) (fun _ => rfl) eltInt (by decide) rfl rfl _ _ rfl (W2.heap.size + 1) _ _ [] r.push rfl rfl (OwnL.nil _ _) ?c2 ?c3 ?c4 ?c5)
  case c2 => exact hQ.out _ hE.out
  case c3 => first | omega | (simp; omega)
  case c4 => exact hlt3.out
  case c5 =>
  intro u w3 hu3 hg
  have hx := Ext.grown (Ext.refl _) hg (fun k hk => by cases hk)
  replace bo := hid (Box.keeps hx bo.out)
  replace bz := hid (Box.keeps hx bz.out)
  replace hE := hid (Ext.trans hE.out hx)
  clear hx hg o0 o1 o2 of ol oi r0 r1 r2 rf rl ri z0 z1 z2 zf zl zi
  obtain ⟨ua, un, uc, rfl⟩ := own_slice hu3
  replace hu3 := hid hu3
  obtain ⟨o0, o1, o2, of, ol, oi⟩ := Box.three bo.out
  obtain ⟨z0, z1, z2, zf, zl, zi⟩ := Box.three bz.out
  go_wp2_with fail
  refine bodyPost_ret (v := .tuple #[.agg #[.int .i64 r.keep, .int .i64 (r.add + s.add), .slice ua un uc], .int .i64 0]) (by simp [results, Try.results19, go_sem, z0, z1, z2, o0, o1, o2, hne, hne']) rfl
      (RetThen.ok ⟨r.keep, r.add + s.add, r.push⟩ _ hf.out hq2.out.symm ?_ ?_)
  · refine OwnL.mono (base := W2.heap.size + 1) ?_ (by have := hge.out; omega)
    exact OwnL.below (OwnL.below (OwnL.below (OwnL.below hu3.out ⟨W2.heap.size, 2, none⟩ (Nat.lt_succ_self _) _) ⟨w.heap.size + 1 + 1, 0, none⟩ hzb.out _) ⟨w.heap.size + 1 + 1, 1, none⟩ hzb.out _) ⟨w.heap.size + 1 + 1, 2, none⟩ hzb.out _
  · refine Ext.setCell (Ext.setCell (Ext.setCell (Ext.setCell hE.out _ hge.out _) _ ?_ _) _ ?_ _) _ ?_ _ <;> exact Nat.le_add_right _ 2

end Go.Proofs.Ytjfpglmmhikhbaa
