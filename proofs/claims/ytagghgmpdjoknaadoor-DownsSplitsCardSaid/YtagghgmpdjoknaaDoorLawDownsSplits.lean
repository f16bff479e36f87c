/- At every element the number of down-sets splits: into those of what is not above it, and those of what is not below it: the law answers true for every order and every number. No condition. -/
import Derived.Test.YtagghgmpdjoknaaDoorDnPart
import Derived.Test.YtagghgmpdjoknaaDoorKeepS
import Derived.Test.YtagghgmpdjoknaaDoorFrame
namespace Go.Proofs.YtagghgmpdjoknaaDoor
open Go Go.ChangeShapes Go.WideShapes Go.ChangeAt Go.WideMaps Go.WideElems Go.RowKit Go.Abs
-- watershed/watershedkeep.DownsSplits
abbrev Ks_keep_DownsSplits : List Kd := [.dat (.pair (.int .i64) (.sl (.int .u32))), .dat (.int .i64)]
abbrev Rk_keep_DownsSplits : List Kd := [.dat (.bool)]
abbrev Rt_keep_DownsSplits : Type := Dens Rk_keep_DownsSplits
noncomputable def C_keep_DownsSplits (_N : Nat) : Ctx := { T := [(3, ⟨.int .i64, 1, 8, some (.int .i64), [.int .i64 (0 : Int)]⟩), (24, ⟨.struct [(0, 3), (1, 22)], 2, 32, some (.pair (.int .i64) (.sl (.int .u32))), [.int .i64 (0 : Int), .nil]⟩), (38, ⟨.slice 3, 1, 24, some (.sl (.int .i64)), [.nil]⟩)], G := findE [mkP 14 Ks_keep_sound Rk_keep_sound (D_keep_sound _N), mkP 15 Ks_keep_refused Rk_keep_refused (D_keep_refused _N), mkP 22 Ks_downs_Count Rk_downs_Count (D_downs_Count _N), mkP 18 Ks_keep_within Rk_keep_within (D_keep_within _N), mkD 24 Ks_keep_part Rk_keep_part (D_keep_part _N), mkP 23 Ks_keep_below Rk_keep_below (D_keep_below _N)], I := findI [], N := _N, n := 88, fx := [2, 3], fl := 0, gs := Gs }
noncomputable def keep_DownsSplits_1 (_N : Nat) (_v25 : Int) (_v26 : Int) (_v27 : List Int) (_v29 : List Int) (_v30 : List Int) : Option Rt_keep_DownsSplits :=
  ((D_keep_part _N ((_v26, _v27), _v29, ())).bind fun _y39 => ((D_downs_Count _N ((_y39.1.1, _y39.1.2), ())).bind fun _y40 => ((D_keep_part _N ((_v26, _v27), _v30, ())).bind fun _y41 => ((D_downs_Count _N ((_y41.1.1, _y41.1.2), ())).bind fun _y42 => (bif (_y40.2.1 == (0 : Int)) then (bif (_y42.2.1 == (0 : Int)) then (some ((_v25 == (IntKind.i64.wrap (_y40.1 + _y42.1))), ())) else (some (false, ()))) else (some (false, ())))))))
noncomputable def keep_DownsSplits_2 (_N : Nat) (_k43 : (Int × Int × List Int × List Int × List Int × List Int) → Option Rt_keep_DownsSplits) (_v5 : Int) (_v6 : Int) (_v8 : Int) (_v9 : List Int) (_v10 : List Int) (_v7 : Int) (_v14 : List Int) (_v18 : List Int) (_kn44 : (Int × Int × Int × List Int × List Int) × (Int × List Int × List Int) → Option Rt_keep_DownsSplits) : Option Rt_keep_DownsSplits :=
  (bif (decide (_v7 < _v8)) then ((D_keep_below _N ((_v8, _v9), _v5, _v7, ())).bind fun _y45 => (bif (!_y45.1) then (bif (decide ((_v14.length + ([_v7]).length) * 8 ≤ 70368744177664) && Nat.ble 1 8) then ((D_keep_below _N ((_v8, _v9), _v7, _v5, ())).bind fun _y46 => (bif (!_y46.1) then (bif (decide ((_v18.length + ([_v7]).length) * 8 ≤ 70368744177664) && Nat.ble 1 8) then (_kn44 ((_v5, _v6, _v8, _v9, _v10), ((IntKind.i64.wrap (_v7 + (1 : Int))), (_v14 ++ [_v7]), (_v18 ++ [_v7])))) else none) else (_kn44 ((_v5, _v6, _v8, _v9, _v10), ((IntKind.i64.wrap (_v7 + (1 : Int))), (_v14 ++ [_v7]), _v18))))) else none) else ((D_keep_below _N ((_v8, _v9), _v7, _v5, ())).bind fun _y47 => (bif (!_y47.1) then (bif (decide ((_v18.length + ([_v7]).length) * 8 ≤ 70368744177664) && Nat.ble 1 8) then (_kn44 ((_v5, _v6, _v8, _v9, _v10), ((IntKind.i64.wrap (_v7 + (1 : Int))), _v14, (_v18 ++ [_v7])))) else none) else (_kn44 ((_v5, _v6, _v8, _v9, _v10), ((IntKind.i64.wrap (_v7 + (1 : Int))), _v14, _v18))))))) else (_k43 (_v6, _v8, _v9, _v10, _v14, _v18)))
noncomputable def keep_DownsSplits_3 (_N : Nat) (_x1 : Int × List Int) (_x2 : Int) : Option Rt_keep_DownsSplits :=
  ((D_keep_sound _N ((_x1.1, _x1.2), ())).bind fun _y35 => (bif (!_y35.1) then ((D_keep_refused _N ((_x1.1, _x1.2), ())).bind fun _y36 => (some (_y36.1, ()))) else ((D_downs_Count _N ((_x1.1, _x1.2), ())).bind fun _y37 => (bif (_y37.2.1 != (0 : Int)) then (some (false, ())) else (bif (decide (_y37.1 ≤ _x1.1)) then (some (false, ())) else ((D_keep_within _N (_x1.1, [_x2], ())).bind fun _y38 => (bif (!_y38.1) then (some (true, ())) else (joinD (fun (_s : Int × Int × List Int × List Int × List Int × List Int) => keep_DownsSplits_1 _N _s.1 _s.2.1 _s.2.2.1 _s.2.2.2.2.1 _s.2.2.2.2.2) fun _k43 => (loopE (fun (_c : Int × Int × Int × List Int × List Int) (_s : Int × List Int × List Int) _kn => keep_DownsSplits_2 _N _k43 _c.1 _c.2.1 _c.2.2.1 _c.2.2.2.1 _c.2.2.2.2 _s.1 _s.2.1 _s.2.2 _kn) _N (_x2, _y37.1, _x1.1, _x1.2, [_x2]) ((0 : Int), [], []))))))))))
noncomputable def D_keep_DownsSplits (_N : Nat) (_x : Dens Ks_keep_DownsSplits) : Option Rt_keep_DownsSplits := keep_DownsSplits_3 _N _x.1 _x.2.1
theorem sp_keep_DownsSplits (_N : Nat) : SpecD Tryd.prog Gs 5 Ks_keep_DownsSplits Rk_keep_DownsSplits (D_keep_DownsSplits _N) := mkSpD (fn := Tryd.f5) (c := bodyOf Tryd.f5) (C := C_keep_DownsSplits _N)
    (a := .two .none (.two .none (.two .none (.two .none (.two .none (.two .none (.two .none (.join 4 ⟨[(2, .ptr 0 0), (5, .int .i64), (7, .slc 2 0), (8, .slc 3 0)], [.cells [.int .i64, .sl (.int .u32)], .row false 0 3 (.int .i64), .row false 0 3 (.int .i64), .row false 0 3 (.int .i64)]⟩ (.two .none (.one (.obj 7 3 (.int .i64) (.obj 8 3 (.int .i64) (.loop 4 ⟨[(1, .int .i64), (2, .ptr 0 0), (5, .int .i64), (7, .slc 2 0), (8, .slc 3 0), (9, .int .i64)], [.cells [.int .i64, .sl (.int .u32)], .row false 0 3 (.int .i64), .row false 0 3 (.int .i64), .row false 0 3 (.int .i64)]⟩ [2, 6, 7] .none))))) .none))))))))
    (by kernel_rfl) rfl (by kernel_rfl) (by kernel_rfl) ⟨rfl, by unfold TOk; kernel_rfl, gOk_of rfl rfl (List.forall_mem_cons.2 ⟨en_keep_sound _N, (List.forall_mem_cons.2 ⟨en_keep_refused _N, (List.forall_mem_cons.2 ⟨en_downs_Count _N, (List.forall_mem_cons.2 ⟨en_keep_within _N, (List.forall_mem_cons.2 ⟨en_keep_part _N, (List.forall_mem_cons.2 ⟨en_keep_below _N, (List.forall_mem_nil _)⟩)⟩)⟩)⟩)⟩)⟩), iOk_of rfl rfl (List.forall_mem_nil _), rfl⟩ (fun _x => by kernel_rfl)
theorem en_keep_DownsSplits (_N : Nat) : EntOk Tryd.prog Gs (mkP 5 Ks_keep_DownsSplits Rk_keep_DownsSplits (D_keep_DownsSplits _N)) := entP ⟨Tryd.f5, bodyOf Tryd.f5, by kernel_rfl, by kernel_rfl, rfl⟩ (by kernel_rfl) (sp_keep_DownsSplits _N)
theorem splits {m : Nat} (hm : m ≤ 16) {up : List Int} (hw : WL up) (ho : Ord (m : Int) up) {x : Nat} (hx : x < m) {w1 w2 : List Int}
    (h1 : Pw up ((List.range m).filter fun i => !bt (nth 0 up x) i) ((List.range m).filter fun i => !bt (nth 0 up x) i).length w1) (o1 : Ord ((((List.range m).filter fun i => !bt (nth 0 up x) i).length : Nat) : Int) w1)
    (h2 : Pw up ((List.range m).filter fun i => !bt (nth 0 up i) x) ((List.range m).filter fun i => !bt (nth 0 up i) x).length w2) (o2 : Ord ((((List.range m).filter fun i => !bt (nth 0 up i) x).length : Nat) : Int) w2) :
    (downs up m).length = (downs w1 ((List.range m).filter fun i => !bt (nth 0 up x) i).length).length + (downs w2 ((List.range m).filter fun i => !bt (nth 0 up i) x).length).length := by
  have e : (downs up m).length = ((downs up m).filter fun D => !bt D x).length + ((downs up m).filter fun D => bt D x).length := by
    have := (List.filter_append_perm (fun D => !bt D x) (downs up m)).length_eq
    rw [List.length_append] at this
    simp only [Bool.not_not] at this
    omega
  rw [e]
  congr 1
  · refine part_count hm ho (base := fun _ => False) (fun _ h => h.elim) (fun i j hi hj hle hp => .inl ?_) (fun _ _ _ _ _ h => h) h1 o1 ((downs_nodup hw ho).filter _) fun D => ?_
    · rw [Bool.not_eq_true'] at hp ⊢
      exact Bool.eq_false_iff.2 fun h => by rw [show bt (nth 0 up x) j = true from ho.trans x i j (by omega) (by omega) h hle] at hp; cases hp
    · rw [List.mem_filter, mem_downs hw ho, Bool.not_eq_true']
      refine and_congr_right fun hD => ⟨fun hDx => ⟨fun _ _ h => h.elim, fun i hi => .inr ?_⟩, fun ⟨_, h⟩ => Bool.eq_false_iff.2 fun hDx => ?_⟩
      · rw [Bool.not_eq_true']
        exact Bool.eq_false_iff.2 fun h => by rw [hD.dn x i hi h hx] at hDx; cases hDx
      · rcases h x hDx with h | h
        · exact h
        · rw [Bool.not_eq_true', show bt (nth 0 up x) x = true from ho.refl x (by omega)] at h; cases h
  · refine part_count hm ho (base := fun i => le up i x) (fun i h => by rw [show bt (nth 0 up i) x = true from h]; rfl) (fun i j hi hj hle hp => ?_) (fun i j hi hj hle h => ho.trans i j x (by omega) (by omega) hle h) h2 o2 ((downs_nodup hw ho).filter _) fun D => ?_
    · cases q : bt (nth 0 up i) x with
      | true => exact .inr q
      | false => exact .inl rfl
    · rw [List.mem_filter, mem_downs hw ho]
      refine and_congr_right fun hD => ⟨fun hDx => ⟨fun i hi hle => hD.dn i x hDx hle hi, fun i hi => ?_⟩, fun ⟨h, _⟩ => h x hx (ho.refl x (by omega))⟩
      cases q : bt (nth 0 up i) x with
      | true => exact .inl q
      | false => exact .inr rfl
theorem law_DownsSplits (o : Int × List Int) (x : Int) (wo : wfS (.pair (.int .i64) (.sl (.int .u32))) o) (wx : wfS (.int .i64) x) : ∃ N, D_keep_DownsSplits N (o, x, ()) = some (true, ()) := by
  obtain ⟨n, up⟩ := o
  have hw : WL up := WL_of wo.2
  refine ⟨1000, ?_⟩
  simp only [D_keep_DownsSplits, keep_DownsSplits_3]
  obtain ⟨s, s1, s2⟩ := sound_eq (N := 1000) (by omega) hw n
  by_cases ho : Ord n up
  case neg =>
    obtain ⟨r, r1, r2⟩ := refused_eq (N := 1000) (by omega) hw n
    obtain rfl := r2.2 ho
    obtain rfl : s = false := Bool.eq_false_iff.2 fun h => ho (s2.1 h)
    simp only [s1, r1, Option.bind_some, Bool.not_false, cond_true]
  obtain rfl := s2.2 ho
  obtain ⟨m, rfl⟩ : ∃ m : Nat, n = (m : Int) := ⟨n.toNat, by have := ho.h0; omega⟩
  have hm : m ≤ 16 := by have := ho.h1; omega
  have hlu := ho.len
  have hmore := downs_more hm hw ho
  obtain ⟨w, w1', w2⟩ := within_eq (N := 1000) (n := (m : Int)) (xs := [x]) (by simp) (by simp)
  have w2 : w = true ↔ 0 ≤ x ∧ x < m := w2.trans (by simp)
  simp only [s1, Count_eq hm hw ho (N := 1000) (by omega), w1', Option.bind_some, Bool.not_true, cond_false, bne_self_eq_false, d_false (show ¬ (((downs up m).length : Nat) : Int) ≤ (m : Int) by omega)]
  by_cases hin : 0 ≤ x ∧ x < m
  case neg =>
    obtain rfl : w = false := Bool.eq_false_iff.2 fun h => hin (w2.1 h)
    rfl
  obtain rfl := w2.2 hin
  obtain ⟨x, rfl⟩ : ∃ k : Nat, x = (k : Int) := ⟨x.toNat, by omega⟩
  have hx : x < m := by omega
  simp only [Bool.not_true, cond_false, joinD, loopE]
  have hfl : ∀ (p : Nat → Bool) k, k ≤ m → ((List.range k).filter p).length ≤ m := fun p k hk => by
    have := List.length_filter_le p (List.range k)
    rw [List.length_range] at this
    omega
  have hsucc : ∀ (p : Nat → Bool) k, ((List.range (k + 1)).filter p).map (fun (i : Nat) => (i : Int)) = if p k = true then ((List.range k).filter p).map (fun (i : Nat) => (i : Int)) ++ [(k : Int)] else ((List.range k).filter p).map (fun (i : Nat) => (i : Int)) := fun p k => by
    rw [List.range_succ, List.filter_append]
    by_cases q : p k = true
    · rw [if_pos q]; simp [q]
    · rw [if_neg q]; simp [q]
  obtain ⟨⟨t, l1, l2⟩, ⟨-, q1, q2⟩, e⟩ := loopD_inv (g := fun (s : Int × List Int × List Int) kn => keep_DownsSplits_2 1000 (fun s => keep_DownsSplits_1 1000 s.1 s.2.1 s.2.2.1 s.2.2.2.2.1 s.2.2.2.2.2) (x : Int) (((downs up m).length : Nat) : Int) (m : Int) up [(x : Int)] s.1 s.2.1 s.2.2 (backE ((x : Int), (((downs up m).length : Nat) : Int), (m : Int), up, [(x : Int)]) kn)) (N := 1000) (s := ((0 : Int), [], [])) m
    (fun k s => s.1 = (k : Int) ∧ s.2.1 = ((List.range k).filter fun i => !bt (nth 0 up x) i).map (fun (i : Nat) => (i : Int)) ∧ s.2.2 = ((List.range k).filter fun i => !bt (nth 0 up i) x).map (fun (i : Nat) => (i : Int)))
    (k := fun s => keep_DownsSplits_1 1000 (((downs up m).length : Nat) : Int) (m : Int) up s.2.1 s.2.2)
    (fun k s hk hs => by
      obtain ⟨t, l1, l2⟩ := s
      obtain ⟨ht, h1, h2⟩ := hs
      simp only at ht h1 h2
      subst ht
      have b1 := hfl (fun i => !bt (nth 0 up x) i) k (by omega)
      have b2 := hfl (fun i => !bt (nth 0 up i) x) k (by omega)
      have g1 : decide (((l1.length : Int) + (([(k : Int)]).length : Int)) * 8 ≤ 70368744177664) = true := d_true (by rw [h1, List.length_map]; simp; omega)
      have g2 : decide (((l2.length : Int) + (([(k : Int)]).length : Int)) * 8 ≤ 70368744177664) = true := d_true (by rw [h2, List.length_map]; simp; omega)
      have g1' : decide ((l1.length + ([(k : Int)]).length) * 8 ≤ 70368744177664) = true := d_true (by rw [h1, List.length_map]; simp; omega)
      have g2' : decide ((l2.length + ([(k : Int)]).length) * 8 ≤ 70368744177664) = true := d_true (by rw [h2, List.length_map]; simp; omega)
      refine ⟨((k : Int) + 1, if (!bt (nth 0 up x) k) = true then l1 ++ [(k : Int)] else l1, if (!bt (nth 0 up k) x) = true then l2 ++ [(k : Int)] else l2), ⟨rfl, ?_, ?_⟩, fun kn => ?_⟩
      · simp only [hsucc, h1]
      · simp only [hsucc, h2]
      · simp only [keep_DownsSplits_2, lt_d hk, cond_true, kbelow_eq 1000 hw (show x < up.length by omega) (show k < 4611686018427387904 by omega), kbelow_eq 1000 hw (show k < up.length by omega) (show x < 4611686018427387904 by omega), Option.bind_some, g1', g2', show Nat.ble 1 8 = true from rfl, Bool.and_self, w1 hm hk, backE_eq]
        cases bt (nth 0 up x) k <;> cases bt (nth 0 up k) x <;> rfl)
    (fun s hs kn => by
      obtain ⟨t, l1, l2⟩ := s
      obtain ⟨ht, -⟩ := hs
      simp only at ht
      subst ht
      simp only [keep_DownsSplits_2, lt_self, cond_false]) (by omega) ⟨rfl, rfl, rfl⟩
  refine e.trans ?_
  simp only at q1 q2
  have mem : ∀ (p : Nat → Bool), ∀ i ∈ (List.range m).filter p, i < m := fun p i hi => List.mem_range.1 (List.mem_filter.1 hi).1
  have nd : ∀ (p : Nat → Bool), ∀ i j, i < ((List.range m).filter p).length → j < ((List.range m).filter p).length → nth 0 ((List.range m).filter p) i = nth 0 ((List.range m).filter p) j → i = j := fun p i j hi hj he => by
    have hn : ((List.range m).filter p).Nodup := List.Pairwise.filter _ List.nodup_range
    have e : ∀ i, (hi : i < ((List.range m).filter p).length) → nth 0 ((List.range m).filter p) i = ((List.range m).filter p)[i] := fun i hi => by unfold nth; rw [List.getD_eq_getElem?_getD, List.getElem?_eq_getElem hi]; rfl
    rw [e i hi, e j hj] at he
    rcases Nat.lt_trichotomy i j with h | h | h
    · exact (List.pairwise_iff_getElem.1 hn i j hi hj h he).elim
    · exact h
    · exact (List.pairwise_iff_getElem.1 hn j i hj hi h he.symm).elim
  have hf := fun p => hfl p m (Nat.le_refl _)
  obtain ⟨p1, a1, a2⟩ := part_eq (N := 1000) (Nat.le_refl _) hm hw (by omega) (Nat.le_trans (hf _) hm) (mem fun i => !bt (nth 0 up x) i)
  obtain ⟨p2, b1, b2⟩ := part_eq (N := 1000) (Nat.le_refl _) hm hw (by omega) (Nat.le_trans (hf _) hm) (mem fun i => !bt (nth 0 up i) x)
  have o1 := a2.ord ho (Nat.le_trans (hf _) hm) (mem _) (nd _)
  have o2 := b2.ord ho (Nat.le_trans (hf _) hm) (mem _) (nd _)
  have key := splits hm hw ho hx a2 o1 b2 o2
  have k1 := dsL_len up (colsS up (m : Int) up.length) m 0 0
  have k2 : 2 ^ m ≤ 2 ^ 16 := Nat.pow_le_pow_right (by omega) hm
  have k3 : (downs up m).length ≤ 65536 := Nat.le_trans k1 k2
  simp only [q1, q2, keep_DownsSplits_1, a1, b1, Option.bind_some, Count_eq (Nat.le_trans (hf _) hm) a2.wl o1 (N := 1000) (by omega), Count_eq (Nat.le_trans (hf _) hm) b2.wl o2 (N := 1000) (by omega), beq_self_eq_true, cond_true]
  rw [w64 (by omega) (by omega), beq_iff_eq.2 (by omega)]
set_option maxRecDepth 100000 in
theorem lifted_DownsSplits (os : Os) (started : os.Started) (H : Type) (enc : TypeId × Value → H) :
    ReturnsInHanded {} Tryd.checked os 5 .any (fun w args => (Rows.downsSplitsSpec.pre enc Tryd.prog Tryd.f5 [] false w args ∧ laidMetH Tryd.prog Rows.downsSplitsRow.laid w) ∧ sizedMet enc Tryd.prog Tryd.f5 (OpenSpec.ofChange Rows.downsSplitsSpec) false w args) (Rows.downsSplitsSpec.post enc Tryd.prog Tryd.f5 false true false false) := by
  refine returnsInHanded_of_change_and (C := Tryd.checked) (X := fun w _ => laidMetH Tryd.prog Rows.downsSplitsRow.laid w) (fun _ _ _ hh h => h.of_heap hh) own started (by kernel_rfl) Tryd.func5
    (ChangeSpec.witness_shaped (enc := enc) (C := Tryd.checked) (os := os) (X := fun w _ => laidMetH Tryd.prog Rows.downsSplitsRow.laid w) false (World.doorLaid Tryd.prog 400 os) #[.agg #[.int .i64 0, .slice none 0 0], .int .i64 0] 8 rfl (World.shaped_of_RefB (by kernel_rfl) (by kernel_rfl)) (by kernel_rfl) (by kernel_rfl) (by kernel_rfl) (door_met os _)) ?_
  intro W base args ds gs before hval0 hW _ hsz0 hL _
  have hgw : GW Gs W := gw_of hL
  have hval : ∀ (j : Nat) t v, Tryd.f5.params[j]? = some t → args[j]? = some v → Value.okWide Tryd.prog W .any base t v := hval0
  have hW' := hW
  obtain ⟨p, q, hA0, hV, rfl, _, _⟩ := hW
  have hA : DataW.TrodAll enc Tryd.prog W 0 (fun _ => true) true Tryd.f5.params.toList args.toList ds p := hA0
  rw [Tryd.params5] at hA hval
  obtain ⟨v0, vs0, d0, ds0, p0, q0, hargs, rfl, rfl, h0, r0⟩ := trodAll_cons hA
  obtain ⟨v1, vs1, d1, ds1, p1, q1, rfl, rfl, rfl, h1, r1⟩ := trodAll_cons r0
  obtain ⟨rfl, rfl, rfl⟩ := trodAll_nil r1
  obtain rfl : args = #[v0, v1] := by cases args; simp_all
  obtain ⟨rfl, rfl⟩ := trodVars_none hV
  clear hA0 hval0 hsz0
  simp only [List.append_nil] at hW'
  have hlt0 : ∀ x ∈ p0, x.block < W.heap.size := fun x hx => hW'.lt x (by simp [hx])
  have hlt1 : ∀ x ∈ p1, x.block < W.heap.size := fun x hx => hW'.lt x (by simp [hx])
  obtain ⟨x0, g0, w0⟩ := open_kd (k := .dat (.pair (.int .i64) (.sl (.int .u32)))) (by kernel_rfl) (hval 0 24 v0 rfl rfl) h0
  obtain ⟨x1, g1, w1⟩ := open_kd (k := .dat (.int .i64)) (by kernel_rfl) (hval 1 3 v1 rfl rfl) h1
  obtain ⟨N, hN⟩ := law_DownsSplits x0 x1 w0 w1
  refine (sp_keep_DownsSplits N (fun _ => False) W (x0, x1, ()) (true, ()) [v0, v1] (fun _ h => h.elim) hgw ⟨v0, _, rfl, g0, ⟨v1, _, rfl, g1, rfl⟩⟩ hN).mono ?_
  rintro e W' ⟨v, rfl, hg, hr⟩
  have hr : v = .bool true := by simpa only [kvals, retV, Kd.val, Go.Abs.enc, RV] using hr
  subst hr
  exact ⟨_, rfl, _, _, _, [], p0 ++ (p1 ++ []), [], hW', (trodAll_cons_mk (shut_bool (show Tryd.prog.underlying 4 = some .bool by kernel_rfl) _) trodAll_mk0), (trodAll_cons_mk (Below.trod laidOut (by kernel_rfl) (of_decide_eq_true (by kernel_rfl)) h0 hg hlt0) (trodAll_cons_mk (Below.trod laidOut (by kernel_rfl) (of_decide_eq_true (by kernel_rfl)) h1 hg hlt1) trodAll_mk0)), rfl, hg.frame _, fun h => by cases h⟩

/-- The statement: whatever the arguments, the law's function returns true and leaves them as they were. -/
theorem downsSplits_holds : Rows.DownsSplitsSaid :=
  OpenClaim.holds_of_wide 5 Tryd.f5 rfl rfl rfl rfl rfl rfl rfl ⟨rfl, rfl, rfl, rfl, rfl⟩ rfl rfl rfl rfl rfl (by kernel_rfl) Tryd.func5 (by kernel_rfl)
    (of_decide_eq_true (by kernel_rfl)) (by unfold Func.isWrapper; first | (rw [if_pos (by decide +kernel)]; kernel_rfl) | (rw [if_neg (by decide +kernel)]; exact ⟨rfl, rfl⟩))
    (fun os started H enc _ => lifted_DownsSplits os started H enc)
/-- The statement's card: the variable that the road reads is tied to the program's text. -/
theorem downsSplits_card : Rows.DownsSplitsCardSaid :=
  Claim7.holds_tied_plain_at .later [] [.data] true (true, "b73b6f32d8bacf79b109d1a869f14eaafeec458d4d840f7ceaa2738719a4935f") false downsSplits_holds (fun _ h => by cases h) (by kernel_rfl) (fun _ h => by cases h) downsSplits_row_tie rfl ⟨rfl, rfl⟩ (by kernel_rfl) rfl
    (fun f fn hf hfn => by
      obtain rfl : f = 5 := Option.some.inj ((show Tryd.prog.funcNamed "watershed/watershedkeep.DownsSplits" = some 5 by kernel_rfl).symm.trans hf) |>.symm
      obtain rfl : fn = Tryd.f5 := (Option.some.inj (Tryd.func5.symm.trans hfn)).symm
      exact ⟨by kernel_rfl, fun j t ht => by
        have h3 := List.all_eq_true.1 (show (Tryd.f5.params.toList.all fun t => !(Tryd.prog.wantsStandIn t)) = true by kernel_rfl) t (by rw [← Array.getElem?_toList] at ht; exact List.mem_of_getElem? ht)
        have h4 : Tryd.prog.wantsStandIn t = false := by simpa using h3
        exact h4⟩)
    (by kernel_rfl)
end Go.Proofs.YtagghgmpdjoknaaDoor
