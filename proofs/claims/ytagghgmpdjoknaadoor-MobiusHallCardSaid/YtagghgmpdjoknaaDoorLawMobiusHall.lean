/- Philip Hall: mobius.Mu is how many chains of odd length lead from the one element to the other, less how many of even length: the law answers true for every order and any two numbers. No condition. -/
import Derived.Test.YtagghgmpdjoknaaDoorMobI
import Derived.Test.YtagghgmpdjoknaaDoorMobCS
import Derived.Test.YtagghgmpdjoknaaDoorKeepS
import Derived.Test.YtagghgmpdjoknaaDoorFrame
namespace Go.Proofs.YtagghgmpdjoknaaDoor
open Go Go.ChangeShapes Go.WideShapes Go.ChangeAt Go.WideMaps Go.WideElems Go.RowKit Go.Abs
-- watershed/watershedkeep.MobiusHall
abbrev Ks_keep_MobiusHall : List Kd := [.dat (.pair (.int .i64) (.sl (.int .u32))), .dat (.int .i64), .dat (.int .i64)]
abbrev Rk_keep_MobiusHall : List Kd := [.dat (.bool)]
abbrev Rt_keep_MobiusHall : Type := Dens Rk_keep_MobiusHall
noncomputable def C_keep_MobiusHall (_N : Nat) : Ctx := { T := [(2, ⟨.int .i64, 1, 8, some (.int .i64), [.int .i64 (0 : Int)]⟩), (3, ⟨.int .i64, 1, 8, some (.int .i64), [.int .i64 (0 : Int)]⟩), (24, ⟨.struct [(0, 3), (1, 22)], 2, 32, some (.pair (.int .i64) (.sl (.int .u32))), [.int .i64 (0 : Int), .nil]⟩), (26, ⟨.slice 2, 1, 24, some (.sl (.int .i64)), [.nil]⟩), (38, ⟨.slice 3, 1, 24, some (.sl (.int .i64)), [.nil]⟩)], G := findE [mkP 14 Ks_keep_sound Rk_keep_sound (D_keep_sound _N), mkP 15 Ks_keep_refused Rk_keep_refused (D_keep_refused _N), mkQ 16 Ks_mobius_Chains Rk_mobius_Chains (D_mobius_Chains _N), mkQ 17 Ks_mobius_Mu Rk_mobius_Mu (D_mobius_Mu _N), mkP 18 Ks_keep_within Rk_keep_within (D_keep_within _N)], I := findI [], N := _N, n := 85, fx := [], fl := 0, gs := Gs }
noncomputable def keep_MobiusHall_1 (_N : Nat) (_v15 : Int) (_v16 : Int) (_v17 : List Int) (_v18 : Int) (_v19 : Int) : Option Rt_keep_MobiusHall :=
  (bif (decide (0 ≤ (IntKind.i64.wrap ((IntKind.i64.wrap (_v15 * _v19)) + _v16))) && decide ((IntKind.i64.wrap ((IntKind.i64.wrap (_v15 * _v19)) + _v16)) < (_v17.length : Int))) then (some ((_v18 == (nth (0 : Int) _v17 (IntKind.i64.wrap ((IntKind.i64.wrap (_v15 * _v19)) + _v16)).toNat)), ())) else none)
noncomputable def keep_MobiusHall_2 (_N : Nat) (_k27 : (Int × Int × List Int × Int × Int × List Int × List Int) → Option Rt_keep_MobiusHall) (_v6 : Int) (_v7 : Int) (_v8 : List Int) (_v9 : List Int) (_v12 : Int) (_v13 : List Int) (_v14 : List Int) (_v10 : Int) (_v11 : Int) (_kn28 : (Int × Int × List Int × List Int × Int × List Int × List Int) × (Int × Int) → Option Rt_keep_MobiusHall) : Option Rt_keep_MobiusHall :=
  (bif (decide (_v11 < (_v8.length : Int))) then (bif ((2 : Int) == 0) then none else (bif ((_v11.tmod (2 : Int)) == (0 : Int)) then (bif (decide (0 ≤ _v11) && decide (_v11 < (_v8.length : Int))) then (_kn28 ((_v6, _v7, _v8, _v9, _v12, _v13, _v14), ((IntKind.i64.wrap (_v10 + (nth (0 : Int) _v8 (_v11).toNat))), (IntKind.i64.wrap (_v11 + (1 : Int)))))) else none) else (bif (decide (0 ≤ _v11) && decide (_v11 < (_v8.length : Int))) then (_kn28 ((_v6, _v7, _v8, _v9, _v12, _v13, _v14), ((IntKind.i64.wrap (_v10 - (nth (0 : Int) _v8 (_v11).toNat))), (IntKind.i64.wrap (_v11 + (1 : Int)))))) else none))) else (_k27 (_v6, _v7, _v9, _v10, _v12, _v13, _v14)))
noncomputable def keep_MobiusHall_3 (_N : Nat) (_x1 : Int × List Int) (_x2 : Int) (_x3 : Int) : Option Rt_keep_MobiusHall :=
  ((D_keep_sound _N ((_x1.1, _x1.2), ())).bind fun _y22 => (bif (!_y22.1) then ((D_keep_refused _N ((_x1.1, _x1.2), ())).bind fun _y23 => (some (_y23.1, ()))) else ((D_mobius_Chains _N ((_x1.1, _x1.2), _x2, _x3, ())).bind fun _y24 => ((D_mobius_Mu _N ((_x1.1, _x1.2), ())).bind fun _y25 => ((D_keep_within _N (_x1.1, [_x2, _x3], ())).bind fun _y26 => (bif (!_y26.1) then (some ((_y24.2.1 == (2 : Int)), ())) else (bif (_y24.2.1 != (0 : Int)) then (some (false, ())) else (bif (_y25.2.1 != (0 : Int)) then (some (false, ())) else (bif ((_y25.1.length : Int) != (IntKind.i64.wrap (_x1.1 * _x1.1))) then (some (false, ())) else (joinD (fun (_s : Int × Int × List Int × Int × Int × List Int × List Int) => keep_MobiusHall_1 _N _s.1 _s.2.1 _s.2.2.1 _s.2.2.2.1 _s.2.2.2.2.1) fun _k27 => (loopE (fun (_c : Int × Int × List Int × List Int × Int × List Int × List Int) (_s : Int × Int) _kn => keep_MobiusHall_2 _N _k27 _c.1 _c.2.1 _c.2.2.1 _c.2.2.2.1 _c.2.2.2.2.1 _c.2.2.2.2.2.1 _c.2.2.2.2.2.2 _s.1 _s.2 _kn) _N (_x2, _x3, _y24.1, _y25.1, _x1.1, _x1.2, [_x2, _x3]) ((0 : Int), (0 : Int)))))))))))))
noncomputable def D_keep_MobiusHall (_N : Nat) (_x : Dens Ks_keep_MobiusHall) : Option Rt_keep_MobiusHall := keep_MobiusHall_3 _N _x.1 _x.2.1 _x.2.2.1
theorem sp_keep_MobiusHall (_N : Nat) : SpecD Tryd.prog Gs 3 Ks_keep_MobiusHall Rk_keep_MobiusHall (D_keep_MobiusHall _N) := mkSpD (fn := Tryd.f3) (c := bodyOf Tryd.f3) (C := C_keep_MobiusHall _N)
    (a := .two .none (.two .none (.two .none (.two .none (.two .none (.two .none (.two .none (.two .none (.join 2 ⟨[(1, .int .i64), (2, .int .i64), (3, .ptr 0 0), (9, .sl (.int .i64)), (11, .int .i64)], [.cells [.int .i64, .sl (.int .u32)], .row false 0 3 (.int .i64)]⟩ (.two .none (.one (.loop 2 ⟨[(1, .int .i64), (2, .int .i64), (3, .ptr 0 0), (7, .sl (.int .i64)), (9, .sl (.int .i64)), (11, .int .i64), (12, .int .i64)], [.cells [.int .i64, .sl (.int .u32)], .row false 0 3 (.int .i64)]⟩ [4, 5] .none))) .none)))))))))
    (by kernel_rfl) rfl (by kernel_rfl) (by kernel_rfl) ⟨rfl, by unfold TOk; kernel_rfl, gOk_of rfl rfl (List.forall_mem_cons.2 ⟨en_keep_sound _N, (List.forall_mem_cons.2 ⟨en_keep_refused _N, (List.forall_mem_cons.2 ⟨qen_mobius_Chains _N, (List.forall_mem_cons.2 ⟨qen_mobius_Mu _N, (List.forall_mem_cons.2 ⟨en_keep_within _N, (List.forall_mem_nil _)⟩)⟩)⟩)⟩)⟩), iOk_of rfl rfl (List.forall_mem_nil _), rfl⟩ (fun _x => by kernel_rfl)
theorem en_keep_MobiusHall (_N : Nat) : EntOk Tryd.prog Gs (mkP 3 Ks_keep_MobiusHall Rk_keep_MobiusHall (D_keep_MobiusHall _N)) := entP ⟨Tryd.f3, bodyOf Tryd.f3, by kernel_rfl, by kernel_rfl, rfl⟩ (by kernel_rfl) (sp_keep_MobiusHall _N)
def sgn : Nat → Z
  | 0 => 1
  | k + 1 => - sgn k
section
variable {m : Nat} (hm : m ≤ 16) {up : List Int} (ho : Ord (m : Int) up)
include hm ho
/-- The elements strictly below one. -/
def blw (up : List Int) (m z : Nat) : List Nat := (List.range m).filter fun i => bt (nth 0 up i) z && decide (i ≠ z)
omit hm ho in
theorem mem_blw {z i : Nat} : i ∈ blw up m z ↔ i < m ∧ le up i z ∧ i ≠ z := by
  unfold blw
  rw [List.mem_filter, List.mem_range, Bool.and_eq_true, decide_eq_true_eq]
  exact Iff.rfl
theorem chn_len {a : Nat} : ∀ k z, z < m → chn up m a k z ≠ 0 → k ≤ (blw up m z).length
  | 0, _, _, _ => Nat.zero_le _
  | k + 1, z, hz, h => by
    obtain ⟨i, hi, hiz, hne, hc⟩ : ∃ i, i < m ∧ le up i z ∧ i ≠ z ∧ chn up m a k i ≠ 0 := by
      refine Classical.byContradiction fun hn => h ?_
      unfold chn
      refine Sg_zero fun i hi => ?_
      by_cases e : le up i z ∧ i ≠ z
      · rw [if_pos e]
        exact Classical.byContradiction fun hc => hn ⟨i, hi, e.1, e.2, hc⟩
      · rw [if_neg e]
    have ih := chn_len k i hi hc
    have hnd : (i :: blw up m i).Nodup := List.nodup_cons.2 ⟨fun hmem => (mem_blw.1 hmem).2.2 rfl, List.Pairwise.filter _ List.nodup_range⟩
    have := hnd.length_le_of_subset (l₂ := blw up m z) fun y hy => by
      rcases List.mem_cons.1 hy with rfl | hy
      · exact mem_blw.2 ⟨hi, hiz, hne⟩
      · obtain ⟨h1, h2, h3⟩ := mem_blw.1 hy
        refine mem_blw.2 ⟨h1, ho.trans y i z (by omega) (by omega) h2 hiz, ?_⟩
        rintro rfl
        exact h3 (ho.anti y i (by omega) (by omega) h2 hiz)
    simp at this
    omega
theorem chn_end {a z : Nat} (hz : z < m) : chn up m a m z = 0 := by
  refine Classical.byContradiction fun h => ?_
  have h1 := chn_len hm ho m z hz h
  have hnd : (z :: blw up m z).Nodup := List.nodup_cons.2 ⟨fun hmem => (mem_blw.1 hmem).2.2 rfl, List.Pairwise.filter _ List.nodup_range⟩
  have := hnd.length_le_of_subset (l₂ := List.range m) fun y hy => by
    rcases List.mem_cons.1 hy with rfl | hy
    · exact List.mem_range.2 hz
    · exact List.mem_range.2 (mem_blw.1 hy).1
  simp at this
  omega
theorem chn_zt {a k z : Nat} (hz : z < m) : (Sg m fun y => chn up m a k y * zt up y z) = chn up m a (k + 1) z + chn up m a k z := by
  have e : chn up m a (k + 1) z = Sg m fun i => if le up i z ∧ i ≠ z then chn up m a k i else 0 := rfl
  rw [e, Sg_apart hz, Sg_apart hz (f := fun i => if le up i z ∧ i ≠ z then chn up m a k i else 0), if_neg fun h => h.2 rfl]
  have e1 : zt up z z = 1 := by unfold zt; rw [if_pos (ho.refl z (by omega))]
  rw [e1]
  have e2 : (Sg m fun i => if i = z then 0 else chn up m a k i * zt up i z) = Sg m fun i => if i = z then 0 else if le up i z ∧ i ≠ z then chn up m a k i else 0 := Sg_congr fun i _ => by
    by_cases q : i = z
    · rw [if_pos q, if_pos q]
    · rw [if_neg q, if_neg q]
      unfold zt
      by_cases q2 : le up i z
      · rw [if_pos q2, if_pos ⟨q2, q⟩]; grind
      · rw [if_neg q2, if_neg fun h => q2 h.1]; grind
  rw [e2]; grind
theorem tele {a z : Nat} (hz : z < m) : ∀ k, (Sg k fun k => sgn k * (Sg m fun y => chn up m a k y * zt up y z)) = chn up m a 0 z - sgn k * chn up m a k z
  | 0 => by simp only [Sg, sgn]; grind
  | k + 1 => by
    have ih := tele (a := a) hz k
    simp only [Sg] at ih ⊢
    rw [ih, chn_zt hm ho hz]
    simp only [sgn]
    grind
theorem hall {g : List Int} (hg : IsMu m up g) {a b : Nat} (ha : a < m) (hb : b < m) : (Sg m fun k => sgn k * chn up m a k b) = tv m g a b := by
  refine IsMu.row hg ha (v := fun y => Sg m fun k => sgn k * chn up m a k y) (fun z hz => ?_) hb
  have e : (Sg m fun y => (Sg m fun k => sgn k * chn up m a k y) * zt up y z) = Sg m fun k => sgn k * Sg m fun y => chn up m a k y * zt up y z := by
    have : (Sg m fun y => (Sg m fun k => sgn k * chn up m a k y) * zt up y z) = Sg m fun y => Sg m fun k => sgn k * (chn up m a k y * zt up y z) := Sg_congr fun y _ => by
      rw [← Sg_mr]; exact Sg_congr fun k _ => by grind
    rw [this, Sg_swap]
    exact Sg_congr fun k _ => by rw [← Sg_ml]
  show (Sg m fun y => (Sg m fun k => sgn k * chn up m a k y) * zt up y z) = dl a z
  rw [e, tele hm ho hz m, chn_end hm ho hz]
  simp only [chn, dl]
  by_cases q : a = z
  · rw [if_pos q, if_pos q.symm]; grind
  · rw [if_neg q, if_neg fun h => q h.symm]; grind
end
theorem Chains_bad {N m : Nat} (hN : 1000 ≤ N) {up : List Int} (hw : WL up) (ho : Ord (m : Int) up) {a b : Int} (h : ¬ ((0 ≤ a ∧ a < m) ∧ 0 ≤ b ∧ b < m)) : D_mobius_Chains N (((m : Int), up), a, b, ()) = some ([], 2, ()) := by
  obtain ⟨e, h1, h2⟩ := Check_spec (N := N) (by omega) hw (m : Int)
  obtain rfl := h2.2 ho
  simp only [D_mobius_Chains, mobius_Chains_8, h1, Option.bind_some, bne_self_eq_false, cond_false]
  by_cases q : (if b < a then b else a) < 0
  · rw [d_true q, cond_true]
  · rw [d_false q, cond_false, d_true, cond_true]
    by_cases q2 : b < a
    · rw [if_pos q2] at q; rw [if_neg (by omega)]; omega
    · rw [if_neg q2] at q
      by_cases q3 : b > a
      · rw [if_pos q3]; omega
      · rw [if_neg q3]; omega
theorem law_MobiusHall (o : Int × List Int) (a b : Int) (wo : wfS (.pair (.int .i64) (.sl (.int .u32))) o) (wa : wfS (.int .i64) a) (wb : wfS (.int .i64) b) : ∃ N, D_keep_MobiusHall N (o, a, b, ()) = some (true, ()) := by
  obtain ⟨n, up⟩ := o
  have hw : WL up := WL_of wo.2
  refine ⟨1000, ?_⟩
  simp only [D_keep_MobiusHall, keep_MobiusHall_3]
  obtain ⟨s, s1, s2⟩ := sound_eq (N := 1000) (by omega) hw n
  by_cases ho : Ord n up
  case neg =>
    obtain ⟨r, r1, r2⟩ := refused_eq (N := 1000) (by omega) hw n
    obtain rfl := r2.2 ho
    obtain rfl : s = false := Bool.eq_false_iff.2 fun h => ho (s2.1 h)
    simp only [s1, r1, Option.bind_some, Bool.not_false, cond_true]
  obtain rfl := s2.2 ho
  obtain ⟨m, rfl⟩ : ∃ m : Nat, n = (m : Int) := ⟨n.toNat, by have := ho.h0; omega⟩
  have hm : m ≤ 16 := by have := ho.h1; omega
  obtain ⟨g, g1, g2⟩ := Mu_eq (N := 1000) (Nat.le_refl _) hm hw ho
  obtain ⟨w, w1', w2⟩ := within_eq (N := 1000) (n := (m : Int)) (xs := [a, b]) (by simp) (by simp)
  have w2 : w = true ↔ (0 ≤ a ∧ a < m) ∧ 0 ≤ b ∧ b < m := w2.trans (by simp)
  simp only [s1, g1, w1', Option.bind_some, Bool.not_true, cond_false]
  by_cases hin : (0 ≤ a ∧ a < m) ∧ 0 ≤ b ∧ b < m
  case neg =>
    obtain rfl : w = false := Bool.eq_false_iff.2 fun h => hin (w2.1 h)
    simp only [Chains_bad (N := 1000) (Nat.le_refl _) hw ho hin, Option.bind_some, Bool.not_false, cond_true]
    rfl
  obtain rfl := w2.2 hin
  obtain ⟨a, rfl⟩ : ∃ k : Nat, a = (k : Int) := ⟨a.toNat, by omega⟩
  obtain ⟨b, rfl⟩ : ∃ k : Nat, b = (k : Int) := ⟨b.toNat, by omega⟩
  have ha : a < m := by omega
  have hb : b < m := by omega
  obtain ⟨l, l1, l2, l3⟩ := Chains_eq (N := 1000) (Nat.le_refl _) hm hw ho ha hb
  have hlg : (g.length : Int) = ((m * m : Nat) : Int) := by rw [g2.cel.len]
  simp only [l1, Option.bind_some, Bool.not_true, cond_false, bne_self_eq_false, wrap_sq hm, hlg, joinD, loopE]
  obtain ⟨s, ⟨-, q1, q2⟩, e⟩ := loopD_inv (g := fun (s : Int × Int) kn => keep_MobiusHall_2 1000 (fun s => keep_MobiusHall_1 1000 s.1 s.2.1 s.2.2.1 s.2.2.2.1 s.2.2.2.2.1) (a : Int) (b : Int) l g (m : Int) up [(a : Int), (b : Int)] s.1 s.2 (backE ((a : Int), (b : Int), l, g, (m : Int), up, [(a : Int), (b : Int)]) kn)) (N := 1000) (s := ((0 : Int), (0 : Int))) m
    (fun k s => s.2 = (k : Int) ∧ I64 s.1 ∧ ph s.1 = Sg k fun k => sgn k * chn up m a k b) (k := fun s => keep_MobiusHall_1 1000 (a : Int) (b : Int) g s.1 (m : Int))
    (fun k s hk hs => by
      obtain ⟨x, t⟩ := s
      obtain ⟨ht, h1, h2⟩ := hs
      simp only at ht h1 h2
      subst ht
      have hsg : ∀ j : Nat, sgn j = if j % 2 = 0 then 1 else -1 := fun j => by
        induction j with
        | zero => rfl
        | succ j ih =>
          simp only [sgn, ih]
          rcases Nat.mod_two_eq_zero_or_one j with q | q
          · rw [if_pos q, if_neg (by omega)]
          · rw [if_neg (by omega), if_pos (by omega)]; rfl
      have hl : k < l.length := by omega
      have hv := l3 k hk
      unfold pv at hv
      have hmod : ((k : Int).tmod 2 == 0) = decide (k % 2 = 0) := by
        rw [show (k : Int).tmod 2 = ((k % 2 : Nat) : Int) from rfl]
        rcases Nat.mod_two_eq_zero_or_one k with q | q <;> rw [q] <;> rfl
      simp only [keep_MobiusHall_2, lt_d hl, ge0_d, cond_true, Bool.and_self, Int.toNat_natCast, hmod, show ((2 : Int) == 0) = false from rfl, cond_false, w1 hm hk, backE_eq]
      by_cases q : k % 2 = 0
      · refine ⟨_, ⟨rfl, I64.wrap (x + nth 0 l k), ?_⟩, fun kn => by rw [decide_eq_true q, cond_true]⟩
        simp only [Sg, ph_wrap, ph_add, h2, hv, hsg k, if_pos q]; grind
      · refine ⟨_, ⟨rfl, I64.wrap (x - nth 0 l k), ?_⟩, fun kn => by rw [decide_eq_false q, cond_false]⟩
        simp only [Sg, ph_wrap, ph_sub, h2, hv, hsg k, if_neg q]; grind)
    (fun s hs kn => by
      obtain ⟨x, t⟩ := s
      obtain ⟨ht, -⟩ := hs
      simp only at ht
      subst ht
      simp only [keep_MobiusHall_2, l2, lt_self, cond_false]) (by omega) ⟨rfl, I64.zero, rfl⟩
  refine e.trans ?_
  have hc := cell_lt ha hb
  rw [hall hm ho g2 ha hb] at q2
  have : s.1 = nth 0 g (a * m + b) := ph_inj q1 (I64.nth g2.cel.i64 _) q2
  simp only [keep_MobiusHall_1, wrap_cell hm ha hb, ge0_d, hlg, lt_d hc, Bool.and_self, cond_true, Int.toNat_natCast, this, beq_self_eq_true]
set_option maxRecDepth 100000 in
theorem lifted_MobiusHall (os : Os) (started : os.Started) (H : Type) (enc : TypeId × Value → H) :
    ReturnsInHanded {} Tryd.checked os 3 .any (fun w args => (Rows.mobiusHallSpec.pre enc Tryd.prog Tryd.f3 [] false w args ∧ laidMetH Tryd.prog Rows.mobiusHallRow.laid w) ∧ sizedMet enc Tryd.prog Tryd.f3 (OpenSpec.ofChange Rows.mobiusHallSpec) false w args) (Rows.mobiusHallSpec.post enc Tryd.prog Tryd.f3 false true false false) := by
  refine returnsInHanded_of_change_and (C := Tryd.checked) (X := fun w _ => laidMetH Tryd.prog Rows.mobiusHallRow.laid w) (fun _ _ _ hh h => h.of_heap hh) own started (by kernel_rfl) Tryd.func3
    (ChangeSpec.witness_shaped (enc := enc) (C := Tryd.checked) (os := os) (X := fun w _ => laidMetH Tryd.prog Rows.mobiusHallRow.laid w) false (World.doorLaid Tryd.prog 400 os) #[.agg #[.int .i64 0, .slice none 0 0], .int .i64 0, .int .i64 0] 8 rfl (World.shaped_of_RefB (by kernel_rfl) (by kernel_rfl)) (by kernel_rfl) (by kernel_rfl) (by kernel_rfl) (door_met os _)) ?_
  intro W base args ds gs before hval0 hW _ hsz0 hL _
  have hgw : GW Gs W := gw_of hL
  have hval : ∀ (j : Nat) t v, Tryd.f3.params[j]? = some t → args[j]? = some v → Value.okWide Tryd.prog W .any base t v := hval0
  have hW' := hW
  obtain ⟨p, q, hA0, hV, rfl, _, _⟩ := hW
  have hA : DataW.TrodAll enc Tryd.prog W 0 (fun _ => true) true Tryd.f3.params.toList args.toList ds p := hA0
  rw [Tryd.params3] at hA hval
  obtain ⟨v0, vs0, d0, ds0, p0, q0, hargs, rfl, rfl, h0, r0⟩ := trodAll_cons hA
  obtain ⟨v1, vs1, d1, ds1, p1, q1, rfl, rfl, rfl, h1, r1⟩ := trodAll_cons r0
  obtain ⟨v2, vs2, d2, ds2, p2, q2, rfl, rfl, rfl, h2, r2⟩ := trodAll_cons r1
  obtain ⟨rfl, rfl, rfl⟩ := trodAll_nil r2
  obtain rfl : args = #[v0, v1, v2] := by cases args; simp_all
  obtain ⟨rfl, rfl⟩ := trodVars_none hV
  clear hA0 hval0 hsz0
  simp only [List.append_nil] at hW'
  have hlt0 : ∀ x ∈ p0, x.block < W.heap.size := fun x hx => hW'.lt x (by simp [hx])
  have hlt1 : ∀ x ∈ p1, x.block < W.heap.size := fun x hx => hW'.lt x (by simp [hx])
  have hlt2 : ∀ x ∈ p2, x.block < W.heap.size := fun x hx => hW'.lt x (by simp [hx])
  obtain ⟨x0, g0, w0⟩ := open_kd (k := .dat (.pair (.int .i64) (.sl (.int .u32)))) (by kernel_rfl) (hval 0 24 v0 rfl rfl) h0
  obtain ⟨x1, g1, w1⟩ := open_kd (k := .dat (.int .i64)) (by kernel_rfl) (hval 1 3 v1 rfl rfl) h1
  obtain ⟨x2, g2, w2⟩ := open_kd (k := .dat (.int .i64)) (by kernel_rfl) (hval 2 3 v2 rfl rfl) h2
  obtain ⟨N, hN⟩ := law_MobiusHall x0 x1 x2 w0 w1 w2
  refine (sp_keep_MobiusHall N (fun _ => False) W (x0, x1, x2, ()) (true, ()) [v0, v1, v2] (fun _ h => h.elim) hgw ⟨v0, _, rfl, g0, ⟨v1, _, rfl, g1, ⟨v2, _, rfl, g2, rfl⟩⟩⟩ hN).mono ?_
  rintro e W' ⟨v, rfl, hg, hr⟩
  have hr : v = .bool true := by simpa only [kvals, retV, Kd.val, Go.Abs.enc, RV] using hr
  subst hr
  exact ⟨_, rfl, _, _, _, [], p0 ++ (p1 ++ (p2 ++ [])), [], hW', (trodAll_cons_mk (shut_bool (show Tryd.prog.underlying 4 = some .bool by kernel_rfl) _) trodAll_mk0), (trodAll_cons_mk (Below.trod laidOut (by kernel_rfl) (of_decide_eq_true (by kernel_rfl)) h0 hg hlt0) (trodAll_cons_mk (Below.trod laidOut (by kernel_rfl) (of_decide_eq_true (by kernel_rfl)) h1 hg hlt1) (trodAll_cons_mk (Below.trod laidOut (by kernel_rfl) (of_decide_eq_true (by kernel_rfl)) h2 hg hlt2) trodAll_mk0))), rfl, hg.frame _, fun h => by cases h⟩

/-- The statement: whatever the arguments, the law's function returns true and leaves them as they were. -/
theorem mobiusHall_holds : Rows.MobiusHallSaid :=
  OpenClaim.holds_of_wide 3 Tryd.f3 rfl rfl rfl rfl rfl rfl rfl ⟨rfl, rfl, rfl, rfl, rfl⟩ rfl rfl rfl rfl rfl (by kernel_rfl) Tryd.func3 (by kernel_rfl)
    (of_decide_eq_true (by kernel_rfl)) (by unfold Func.isWrapper; first | (rw [if_pos (by decide +kernel)]; kernel_rfl) | (rw [if_neg (by decide +kernel)]; exact ⟨rfl, rfl⟩))
    (fun os started H enc _ => lifted_MobiusHall os started H enc)
/-- The statement's card: the variable that the road reads is tied to the program's text. -/
theorem mobiusHall_card : Rows.MobiusHallCardSaid :=
  Claim7.holds_tied_plain_at .later [] [.data] true (true, "b73b6f32d8bacf79b109d1a869f14eaafeec458d4d840f7ceaa2738719a4935f") false mobiusHall_holds (fun _ h => by cases h) (by kernel_rfl) (fun _ h => by cases h) mobiusHall_row_tie rfl ⟨rfl, rfl⟩ (by kernel_rfl) rfl
    (fun f fn hf hfn => by
      obtain rfl : f = 3 := Option.some.inj ((show Tryd.prog.funcNamed "watershed/watershedkeep.MobiusHall" = some 3 by kernel_rfl).symm.trans hf) |>.symm
      obtain rfl : fn = Tryd.f3 := (Option.some.inj (Tryd.func3.symm.trans hfn)).symm
      exact ⟨by kernel_rfl, fun j t ht => by
        have h3 := List.all_eq_true.1 (show (Tryd.f3.params.toList.all fun t => !(Tryd.prog.wantsStandIn t)) = true by kernel_rfl) t (by rw [← Array.getElem?_toList] at ht; exact List.mem_of_getElem? ht)
        have h4 : Tryd.prog.wantsStandIn t = false := by simpa using h3
        exact h4⟩)
    (by kernel_rfl)
end Go.Proofs.YtagghgmpdjoknaaDoor
