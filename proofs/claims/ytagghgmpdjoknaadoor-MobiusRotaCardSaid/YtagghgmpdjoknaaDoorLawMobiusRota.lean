/- Rota: what was summed is undone, what was undone is summed, and undone is the sum of each below, times Mu: the law answers true for every order and any numbers. No condition. -/
import Derived.Test.YtagghgmpdjoknaaDoorRotaS
import Derived.Test.YtagghgmpdjoknaaDoorKeepS
import Derived.Test.YtagghgmpdjoknaaDoorFrame
namespace Go.Proofs.YtagghgmpdjoknaaDoor
open Go Go.ChangeShapes Go.WideShapes Go.ChangeAt Go.WideMaps Go.WideElems Go.RowKit Go.Abs
-- watershed/watershedkeep.MobiusRota
abbrev Ks_keep_MobiusRota : List Kd := [.dat (.pair (.int .i64) (.sl (.int .u32))), .dat (.sl (.int .i64))]
abbrev Rk_keep_MobiusRota : List Kd := [.dat (.bool)]
abbrev Rt_keep_MobiusRota : Type := Dens Rk_keep_MobiusRota
noncomputable def C_keep_MobiusRota (_N : Nat) : Ctx := { T := [(2, ⟨.int .i64, 1, 8, some (.int .i64), [.int .i64 (0 : Int)]⟩), (3, ⟨.int .i64, 1, 8, some (.int .i64), [.int .i64 (0 : Int)]⟩), (24, ⟨.struct [(0, 3), (1, 22)], 2, 32, some (.pair (.int .i64) (.sl (.int .u32))), [.int .i64 (0 : Int), .nil]⟩), (26, ⟨.slice 2, 1, 24, some (.sl (.int .i64)), [.nil]⟩)], G := findE [mkP 14 Ks_keep_sound Rk_keep_sound (D_keep_sound _N), mkP 15 Ks_keep_refused Rk_keep_refused (D_keep_refused _N), mkQ 19 Ks_mobius_Sums Rk_mobius_Sums (D_mobius_Sums _N), mkQ 20 Ks_mobius_Undo Rk_mobius_Undo (D_mobius_Undo _N), mkQ 17 Ks_mobius_Mu Rk_mobius_Mu (D_mobius_Mu _N), mkP 21 Ks_ref_Longs Rk_ref_Longs (D_ref_Longs _N)], I := findI [], N := _N, n := 135, fx := [], fl := 0, gs := Gs }
noncomputable def keep_MobiusRota_1 (_N : Nat) (_v51 : List Int) (_v52 : List Int) (_v53 : List Int) : Option Rt_keep_MobiusRota :=
  ((D_ref_Longs _N (_v52, _v51, ())).bind fun _y65 => (bif _y65.1 then ((D_ref_Longs _N (_v53, _v51, ())).bind fun _y66 => (some (_y66.1, ()))) else (some (false, ()))))
noncomputable def keep_MobiusRota_2 (_N : Nat) (_kn68 : (List Int × List Int × List Int × List Int × List Int × Int × List Int) × Int → Option Rt_keep_MobiusRota) (_v43 : List Int) (_v44 : List Int) (_v45 : List Int) (_v46 : List Int) (_v47 : List Int) (_v48 : Int) (_v49 : Int) (_v50 : List Int) : Option Rt_keep_MobiusRota :=
  (_kn68 ((_v43, _v44, _v45, _v46, _v47, _v49, _v50), (IntKind.i64.wrap (_v48 + (1 : Int)))))
noncomputable def keep_MobiusRota_3 (_N : Nat) (_k69 : (List Int × List Int × List Int × List Int × List Int × Int × Int × List Int) → Option Rt_keep_MobiusRota) (_v34 : List Int) (_v35 : List Int) (_v36 : List Int) (_v37 : List Int) (_v38 : List Int) (_v39 : Int) (_v40 : Int) (_v41 : Int) (_v42 : List Int) : Option Rt_keep_MobiusRota :=
  (bif (decide (0 ≤ _v39) && decide (_v39 < (_v35.length : Int))) then (bif (_v40 != (nth (0 : Int) _v35 (_v39).toNat)) then (some (false, ())) else (_k69 (_v34, _v35, _v36, _v37, _v38, _v39, _v41, _v42))) else none)
noncomputable def keep_MobiusRota_4 (_N : Nat) (_k70 : (List Int × List Int × List Int × List Int × List Int × Int × Int × Int × List Int) → Option Rt_keep_MobiusRota) (_v24 : List Int) (_v25 : List Int) (_v26 : List Int) (_v27 : List Int) (_v28 : List Int) (_v29 : Int) (_v32 : Int) (_v33 : List Int) (_v30 : Int) (_v31 : Int) (_kn71 : (List Int × List Int × List Int × List Int × List Int × Int × Int × List Int) × (Int × Int) → Option Rt_keep_MobiusRota) : Option Rt_keep_MobiusRota :=
  (bif (decide (_v31 < _v32)) then (bif (decide (0 ≤ _v31) && decide (_v31 < (_v24.length : Int))) then (bif (decide (0 ≤ (IntKind.i64.wrap ((IntKind.i64.wrap (_v31 * _v32)) + _v29))) && decide ((IntKind.i64.wrap ((IntKind.i64.wrap (_v31 * _v32)) + _v29)) < (_v28.length : Int))) then (_kn71 ((_v24, _v25, _v26, _v27, _v28, _v29, _v32, _v33), ((IntKind.i64.wrap (_v30 + (IntKind.i64.wrap ((nth (0 : Int) _v24 (_v31).toNat) * (nth (0 : Int) _v28 (IntKind.i64.wrap ((IntKind.i64.wrap (_v31 * _v32)) + _v29)).toNat))))), (IntKind.i64.wrap (_v31 + (1 : Int)))))) else none) else none) else (_k70 (_v24, _v25, _v26, _v27, _v28, _v29, _v30, _v32, _v33)))
noncomputable def keep_MobiusRota_5 (_N : Nat) (_k67 : (List Int × List Int × List Int × Int × List Int) → Option Rt_keep_MobiusRota) (_v16 : List Int) (_v17 : List Int) (_v18 : List Int) (_v19 : List Int) (_v20 : List Int) (_v22 : Int) (_v23 : List Int) (_v21 : Int) (_kn68 : (List Int × List Int × List Int × List Int × List Int × Int × List Int) × Int → Option Rt_keep_MobiusRota) : Option Rt_keep_MobiusRota :=
  (bif (decide (_v21 < _v22)) then (joinD (fun (_s : List Int × List Int × List Int × List Int × List Int × Int × Int × List Int) => keep_MobiusRota_2 _N _kn68 _s.1 _s.2.1 _s.2.2.1 _s.2.2.2.1 _s.2.2.2.2.1 _s.2.2.2.2.2.1 _s.2.2.2.2.2.2.1 _s.2.2.2.2.2.2.2) fun _k69 => (joinD (fun (_s : List Int × List Int × List Int × List Int × List Int × Int × Int × Int × List Int) => keep_MobiusRota_3 _N _k69 _s.1 _s.2.1 _s.2.2.1 _s.2.2.2.1 _s.2.2.2.2.1 _s.2.2.2.2.2.1 _s.2.2.2.2.2.2.1 _s.2.2.2.2.2.2.2.1 _s.2.2.2.2.2.2.2.2) fun _k70 => (loopE (fun (_c : List Int × List Int × List Int × List Int × List Int × Int × Int × List Int) (_s : Int × Int) _kn => keep_MobiusRota_4 _N _k70 _c.1 _c.2.1 _c.2.2.1 _c.2.2.2.1 _c.2.2.2.2.1 _c.2.2.2.2.2.1 _c.2.2.2.2.2.2.1 _c.2.2.2.2.2.2.2 _s.1 _s.2 _kn) _N (_v16, _v17, _v18, _v19, _v20, _v21, _v22, _v23) ((0 : Int), (0 : Int))))) else (_k67 (_v16, _v18, _v19, _v22, _v23)))
noncomputable def keep_MobiusRota_6 (_N : Nat) (_v8 : List Int) (_v9 : List Int) (_v10 : List Int) (_v11 : List Int) (_v12 : List Int) (_v13 : Bool) (_v14 : Int) (_v15 : List Int) : Option Rt_keep_MobiusRota :=
  (bif _v13 then (some (false, ())) else (joinD (fun (_s : List Int × List Int × List Int × Int × List Int) => keep_MobiusRota_1 _N _s.1 _s.2.1 _s.2.2.1) fun _k67 => (loopE (fun (_c : List Int × List Int × List Int × List Int × List Int × Int × List Int) (_s : Int) _kn => keep_MobiusRota_5 _N _k67 _c.1 _c.2.1 _c.2.2.1 _c.2.2.2.1 _c.2.2.2.2.1 _c.2.2.2.2.2.1 _c.2.2.2.2.2.2 _s _kn) _N (_v8, _v9, _v10, _v11, _v12, _v14, _v15) (0 : Int))))
noncomputable def keep_MobiusRota_7 (_N : Nat) (_x1 : Int × List Int) (_x2 : List Int) : Option Rt_keep_MobiusRota :=
  ((D_keep_sound _N ((_x1.1, _x1.2), ())).bind fun _y58 => (bif (!_y58.1) then ((D_keep_refused _N ((_x1.1, _x1.2), ())).bind fun _y59 => (some (_y59.1, ()))) else ((D_mobius_Sums _N ((_x1.1, _x1.2), _x2, ())).bind fun _y60 => ((D_mobius_Undo _N ((_x1.1, _x1.2), _x2, ())).bind fun _y61 => (bif (_y60.2.1 != (0 : Int)) then (some ((_y60.2.1 == _y61.2.1), ())) else (bif (_y61.2.1 != (0 : Int)) then (some ((_y60.2.1 == _y61.2.1), ())) else ((D_mobius_Undo _N ((_x1.1, _x1.2), _y60.1, ())).bind fun _y62 => ((D_mobius_Sums _N ((_x1.1, _x1.2), _y61.1, ())).bind fun _y63 => ((D_mobius_Mu _N ((_x1.1, _x1.2), ())).bind fun _y64 => (joinD (fun (_s : List Int × List Int × List Int × List Int × List Int × Bool × Int × List Int) => keep_MobiusRota_6 _N _s.1 _s.2.1 _s.2.2.1 _s.2.2.2.1 _s.2.2.2.2.1 _s.2.2.2.2.2.1 _s.2.2.2.2.2.2.1 _s.2.2.2.2.2.2.2) fun _k72 => (bif (_y62.2.1 != (0 : Int)) then (_k72 (_x2, _y61.1, _y62.1, _y63.1, _y64.1, true, _x1.1, _x1.2)) else (bif (_y63.2.1 != (0 : Int)) then (_k72 (_x2, _y61.1, _y62.1, _y63.1, _y64.1, true, _x1.1, _x1.2)) else (bif (_y64.2.1 != (0 : Int)) then (_k72 (_x2, _y61.1, _y62.1, _y63.1, _y64.1, true, _x1.1, _x1.2)) else (bif ((_x2.length : Int) != _x1.1) then (_k72 (_x2, _y61.1, _y62.1, _y63.1, _y64.1, true, _x1.1, _x1.2)) else (bif ((_y61.1.length : Int) != _x1.1) then (_k72 (_x2, _y61.1, _y62.1, _y63.1, _y64.1, true, _x1.1, _x1.2)) else (_k72 (_x2, _y61.1, _y62.1, _y63.1, _y64.1, ((_y64.1.length : Int) != (IntKind.i64.wrap (_x1.1 * _x1.1))), _x1.1, _x1.2)))))))))))))))))
noncomputable def D_keep_MobiusRota (_N : Nat) (_x : Dens Ks_keep_MobiusRota) : Option Rt_keep_MobiusRota := keep_MobiusRota_7 _N _x.1 _x.2.1
theorem sp_keep_MobiusRota (_N : Nat) : SpecD Tryd.prog Gs 4 Ks_keep_MobiusRota Rk_keep_MobiusRota (D_keep_MobiusRota _N) := mkSpD (fn := Tryd.f4) (c := bodyOf Tryd.f4) (C := C_keep_MobiusRota _N)
    (a := .two .none (.two .none (.two .none (.two .none (.two .none (.two .none (.two .none (.two .none (.two (.join 1 ⟨[(1, .sl (.int .i64)), (2, .ptr 0 0), (7, .sl (.int .i64)), (9, .sl (.int .i64)), (10, .sl (.int .i64)), (11, .sl (.int .i64)), (92, .bool)], [.cells [.int .i64, .sl (.int .u32)]]⟩ .none .none) (.join 1 ⟨[(1, .sl (.int .i64)), (9, .sl (.int .i64)), (10, .sl (.int .i64))], [.cells [.int .i64, .sl (.int .u32)]]⟩ (.two .none (.one (.loop 1 ⟨[(1, .sl (.int .i64)), (2, .ptr 0 0), (7, .sl (.int .i64)), (9, .sl (.int .i64)), (10, .sl (.int .i64)), (11, .sl (.int .i64)), (13, .int .i64)], [.cells [.int .i64, .sl (.int .u32)]]⟩ [5] (.two .none (.join 1 ⟨[(1, .sl (.int .i64)), (2, .ptr 0 0), (7, .sl (.int .i64)), (9, .sl (.int .i64)), (10, .sl (.int .i64)), (11, .sl (.int .i64)), (13, .int .i64)], [.cells [.int .i64, .sl (.int .u32)]]⟩ (.one (.two .none (.join 1 ⟨[(1, .sl (.int .i64)), (2, .ptr 0 0), (7, .sl (.int .i64)), (9, .sl (.int .i64)), (10, .sl (.int .i64)), (11, .sl (.int .i64)), (13, .int .i64), (14, .int .i64)], [.cells [.int .i64, .sl (.int .u32)]]⟩ (.two .none (.one (.loop 1 ⟨[(1, .sl (.int .i64)), (2, .ptr 0 0), (7, .sl (.int .i64)), (9, .sl (.int .i64)), (10, .sl (.int .i64)), (11, .sl (.int .i64)), (13, .int .i64), (14, .int .i64), (15, .int .i64)], [.cells [.int .i64, .sl (.int .u32)]]⟩ [6, 7] (.two .none (.two (.one (.draw 0 [.pure, .pure, .pure, .pure, .pure, .pure, .pure, .pure, .rd [0], .pure, .pure, .pure, .pure, .pure, .pure, .pure, .pure])) .none))))) .none))) .none))))) .none))))))))))
    (by kernel_rfl) rfl (by kernel_rfl) (by kernel_rfl) ⟨rfl, by unfold TOk; kernel_rfl, gOk_of rfl rfl (List.forall_mem_cons.2 ⟨en_keep_sound _N, (List.forall_mem_cons.2 ⟨en_keep_refused _N, (List.forall_mem_cons.2 ⟨qen_mobius_Sums _N, (List.forall_mem_cons.2 ⟨qen_mobius_Undo _N, (List.forall_mem_cons.2 ⟨qen_mobius_Mu _N, (List.forall_mem_cons.2 ⟨en_ref_Longs _N, (List.forall_mem_nil _)⟩)⟩)⟩)⟩)⟩)⟩), iOk_of rfl rfl (List.forall_mem_nil _), rfl⟩ (fun _x => by kernel_rfl)
theorem en_keep_MobiusRota (_N : Nat) : EntOk Tryd.prog Gs (mkP 4 Ks_keep_MobiusRota Rk_keep_MobiusRota (D_keep_MobiusRota _N)) := entP ⟨Tryd.f4, bodyOf Tryd.f4, by kernel_rfl, by kernel_rfl, rfl⟩ (by kernel_rfl) (sp_keep_MobiusRota _N)
theorem rota_sum {m : Nat} {up g : List Int} (h : IsMu m up g) {v b : List Int} (hb : ∀ z, z < m → (Sg m fun a => pw b a * zt up a z) = pw v z) {i : Nat} (hi : i < m) : (Sg m fun j => pw v j * tv m g j i) = pw b i := by
  have hT : EqT m (mulT m (fun _ y => pw b y) (zt up)) (fun _ z => pw v z) := fun a z _ hz => hb z hz
  have e1 := mulT_congr hT (fun _ _ _ _ => rfl : EqT m (tv m g) (tv m g)) 0 i (by omega) hi
  rw [mulT_assoc, mulT_congr (fun _ _ _ _ => rfl) h.left 0 i (by omega) hi, mulT_dl _ hi] at e1
  exact e1.symm
theorem law_MobiusRota (o : Int × List Int) (v : List Int) (wo : wfS (.pair (.int .i64) (.sl (.int .u32))) o) (wv : wfS (.sl (.int .i64)) v) : ∃ N, D_keep_MobiusRota N (o, v, ()) = some (true, ()) := by
  obtain ⟨n, up⟩ := o
  have hw : WL up := WL_of wo.2
  refine ⟨1000, ?_⟩
  simp only [D_keep_MobiusRota, keep_MobiusRota_7]
  obtain ⟨s, s1, s2⟩ := sound_eq (N := 1000) (by omega) hw n
  by_cases ho : Ord n up
  case neg =>
    obtain ⟨r, r1, r2⟩ := refused_eq (N := 1000) (by omega) hw n
    obtain rfl := r2.2 ho
    obtain rfl : s = false := Bool.eq_false_iff.2 fun h => ho (s2.1 h)
    simp only [s1, r1, Option.bind_some, Bool.not_false, cond_true]
  obtain rfl := s2.2 ho
  obtain ⟨m, rfl⟩ : ∃ m : Nat, n = (m : Int) := ⟨n.toNat, by have := ho.h0; omega⟩
  have hm : m ≤ 16 := by have := ho.h1; omega
  by_cases hl : v.length = m
  case neg =>
    obtain ⟨b1, b2⟩ := SU_bad (N := 1000) (Nat.le_refl _) hw ho hl
    simp only [s1, b1, b2, Option.bind_some, Bool.not_true, cond_false, show ((2 : Int) != 0) = true from rfl, cond_true, beq_self_eq_true]
  have hv : Nums m v := ⟨hl, fun x hx => wfS_i64.1 (wv.2 x hx)⟩
  obtain ⟨a, a1, a2, a3⟩ := Sums_eq (N := 1000) (Nat.le_refl _) hm hw ho hv
  obtain ⟨b, b1, b2, b3⟩ := Undo_eq (N := 1000) (Nat.le_refl _) hm hw ho hv
  obtain ⟨c, c1, c2, c3⟩ := Undo_eq (N := 1000) (Nat.le_refl _) hm hw ho a2
  obtain ⟨d, d1, d2, d3⟩ := Sums_eq (N := 1000) (Nat.le_refl _) hm hw ho b2
  obtain ⟨g, g1, g2⟩ := Mu_eq (N := 1000) (Nat.le_refl _) hm hw ho
  obtain rfl : c = v := c2.ext hv fun j hj => by
    have := g2.none (v := fun y => pw c y - pw v y) (fun z hz => by
      have e : (Sg m fun y => (pw c y - pw v y) * zt up y z) = (Sg m fun y => pw c y * zt up y z) - Sg m fun y => pw v y * zt up y z := by
        rw [← Sg_sub]; exact Sg_congr fun y _ => by grind
      rw [e, c3 z hz, a3 z hz]; grind) hj
    have h2 : pw c j - pw v j = 0 := this
    grind
  obtain rfl : d = c := d2.ext hv fun j hj => by rw [d3 j hj, b3 j hj]
  have hmm : m * m ≤ 16 * 16 := Nat.mul_le_mul hm hm
  have hgl := g2.cel.len
  have hdl := d2.len
  have hbl := b2.len
  simp only [s1, a1, b1, c1, d1, g1, Option.bind_some, Bool.not_true, cond_false, bne_self_eq_false, hdl, hbl, hgl, wrap_sq hm, joinD, loopE, keep_MobiusRota_6]
  have hlong := longs_self (N := 1000) (xs := d) (by omega) (by omega)
  refine loopD_pass (n := m) (by omega) (fun i hi kn => ?_) (fun kn => ?_) (by omega)
  · simp only [keep_MobiusRota_5, lt_d hi, cond_true, joinD, loopE]
    have key := loopD_inv (R := Dens Rk_keep_MobiusRota) (N := 1000) (g := fun (s : Int × Int) kn' => keep_MobiusRota_4 1000 (fun s => keep_MobiusRota_3 1000 (fun s => keep_MobiusRota_2 1000 (backE (d, b, d, d, g, (m : Int), up) kn) s.1 s.2.1 s.2.2.1 s.2.2.2.1 s.2.2.2.2.1 s.2.2.2.2.2.1 s.2.2.2.2.2.2.1 s.2.2.2.2.2.2.2) s.1 s.2.1 s.2.2.1 s.2.2.2.1 s.2.2.2.2.1 s.2.2.2.2.2.1 s.2.2.2.2.2.2.1 s.2.2.2.2.2.2.2.1 s.2.2.2.2.2.2.2.2) d b d d g (i : Int) (m : Int) up s.1 s.2 (backE (d, b, d, d, g, (i : Int), (m : Int), up) kn')) (s := ((0 : Int), (0 : Int))) m
      (fun j s => s.2 = (j : Int) ∧ I64 s.1 ∧ ph s.1 = Sg j fun k => pw d k * tv m g k i) (k := fun _ => kn ((i : Int) + 1)) ?_ ?_ (by omega) ⟨rfl, I64.zero, rfl⟩
    · obtain ⟨_, -, e⟩ := key
      exact e
    · rintro j ⟨s, t⟩ hj ⟨ht, hs, hI⟩
      simp only at ht hs hI
      subst ht
      have hc := cell_lt hj hi
      refine ⟨(IntKind.i64.wrap (s + IntKind.i64.wrap (nth 0 d j * nth 0 g (j * m + i))), (j : Int) + 1), ⟨rfl, I64.wrap _, ?_⟩, fun kn => ?_⟩
      · simp only
        rw [ph_wrap, ph_add, ph_wrap, ph_mul, hI]
        rfl
      · simp only [keep_MobiusRota_4, lt_d hj, ge0_d, hdl, hgl, Bool.and_self, cond_true, Int.toNat_natCast, wrap_cell hm hj hi, lt_d hc, w1 hm hj, backE_eq]
    · rintro ⟨s, t⟩ ⟨ht, hs, hI⟩ kn'
      simp only at ht hs hI
      subst ht
      have e : s = nth 0 b i := ph_inj hs (I64.nth b2.i64 i) (by rw [hI]; exact rota_sum g2 b3 hi)
      simp only [keep_MobiusRota_4, lt_self, cond_false, keep_MobiusRota_3, ge0_d, hbl, lt_d hi, Bool.and_self, cond_true, Int.toNat_natCast, e, bne_self_eq_false, keep_MobiusRota_2, w1 hm hi, backE_eq]
  · simp only [keep_MobiusRota_5, lt_self, cond_false, keep_MobiusRota_1, hlong, Option.bind_some, cond_true]
set_option maxRecDepth 100000 in
theorem lifted_MobiusRota (os : Os) (started : os.Started) (H : Type) (enc : TypeId × Value → H) :
    ReturnsInHanded {} Tryd.checked os 4 .any (fun w args => (Rows.mobiusRotaSpec.pre enc Tryd.prog Tryd.f4 [] false w args ∧ laidMetH Tryd.prog Rows.mobiusRotaRow.laid w) ∧ sizedMet enc Tryd.prog Tryd.f4 (OpenSpec.ofChange Rows.mobiusRotaSpec) false w args) (Rows.mobiusRotaSpec.post enc Tryd.prog Tryd.f4 false true false false) := by
  refine returnsInHanded_of_change_and (C := Tryd.checked) (X := fun w _ => laidMetH Tryd.prog Rows.mobiusRotaRow.laid w) (fun _ _ _ hh h => h.of_heap hh) own started (by kernel_rfl) Tryd.func4
    (ChangeSpec.witness_shaped (enc := enc) (C := Tryd.checked) (os := os) (X := fun w _ => laidMetH Tryd.prog Rows.mobiusRotaRow.laid w) false (World.doorLaid Tryd.prog 400 os) #[.agg #[.int .i64 0, .slice none 0 0], .slice none 0 0] 8 rfl (World.shaped_of_RefB (by kernel_rfl) (by kernel_rfl)) (by kernel_rfl) (by kernel_rfl) (by kernel_rfl) (door_met os _)) ?_
  intro W base args ds gs before hval0 hW _ hsz0 hL _
  have hgw : GW Gs W := gw_of hL
  have hval : ∀ (j : Nat) t v, Tryd.f4.params[j]? = some t → args[j]? = some v → Value.okWide Tryd.prog W .any base t v := hval0
  have hW' := hW
  obtain ⟨p, q, hA0, hV, rfl, _, _⟩ := hW
  have hA : DataW.TrodAll enc Tryd.prog W 0 (fun _ => true) true Tryd.f4.params.toList args.toList ds p := hA0
  rw [Tryd.params4] at hA hval
  obtain ⟨v0, vs0, d0, ds0, p0, q0, hargs, rfl, rfl, h0, r0⟩ := trodAll_cons hA
  obtain ⟨v1, vs1, d1, ds1, p1, q1, rfl, rfl, rfl, h1, r1⟩ := trodAll_cons r0
  obtain ⟨rfl, rfl, rfl⟩ := trodAll_nil r1
  obtain rfl : args = #[v0, v1] := by cases args; simp_all
  obtain ⟨rfl, rfl⟩ := trodVars_none hV
  clear hA0 hval0 hsz0
  simp only [List.append_nil] at hW'
  have hlt0 : ∀ x ∈ p0, x.block < W.heap.size := fun x hx => hW'.lt x (by simp [hx])
  have hlt1 : ∀ x ∈ p1, x.block < W.heap.size := fun x hx => hW'.lt x (by simp [hx])
  obtain ⟨x0, g0, w0⟩ := open_kd (k := .dat (.pair (.int .i64) (.sl (.int .u32)))) (by kernel_rfl) (hval 0 24 v0 rfl rfl) h0
  obtain ⟨x1, g1, w1⟩ := open_kd (k := .dat (.sl (.int .i64))) (by kernel_rfl) (hval 1 26 v1 rfl rfl) h1
  obtain ⟨N, hN⟩ := law_MobiusRota x0 x1 w0 w1
  refine (sp_keep_MobiusRota N (fun _ => False) W (x0, x1, ()) (true, ()) [v0, v1] (fun _ h => h.elim) hgw ⟨v0, _, rfl, g0, ⟨v1, _, rfl, g1, rfl⟩⟩ hN).mono ?_
  rintro e W' ⟨v, rfl, hg, hr⟩
  have hr : v = .bool true := by simpa only [kvals, retV, Kd.val, Go.Abs.enc, RV] using hr
  subst hr
  exact ⟨_, rfl, _, _, _, [], p0 ++ (p1 ++ []), [], hW', (trodAll_cons_mk (shut_bool (show Tryd.prog.underlying 4 = some .bool by kernel_rfl) _) trodAll_mk0), (trodAll_cons_mk (Below.trod laidOut (by kernel_rfl) (of_decide_eq_true (by kernel_rfl)) h0 hg hlt0) (trodAll_cons_mk (Below.trod laidOut (by kernel_rfl) (of_decide_eq_true (by kernel_rfl)) h1 hg hlt1) trodAll_mk0)), rfl, hg.frame _, fun h => by cases h⟩

/-- The statement: whatever the arguments, the law's function returns true and leaves them as they were. -/
theorem mobiusRota_holds : Rows.MobiusRotaSaid :=
  OpenClaim.holds_of_wide 4 Tryd.f4 rfl rfl rfl rfl rfl rfl rfl ⟨rfl, rfl, rfl, rfl, rfl⟩ rfl rfl rfl rfl rfl (by kernel_rfl) Tryd.func4 (by kernel_rfl)
    (of_decide_eq_true (by kernel_rfl)) (by unfold Func.isWrapper; first | (rw [if_pos (by decide +kernel)]; kernel_rfl) | (rw [if_neg (by decide +kernel)]; exact ⟨rfl, rfl⟩))
    (fun os started H enc _ => lifted_MobiusRota os started H enc)
/-- The statement's card: the variable that the road reads is tied to the program's text. -/
theorem mobiusRota_card : Rows.MobiusRotaCardSaid :=
  Claim7.holds_tied_plain_at .later [] [.data] true (true, "b73b6f32d8bacf79b109d1a869f14eaafeec458d4d840f7ceaa2738719a4935f") false mobiusRota_holds (fun _ h => by cases h) (by kernel_rfl) (fun _ h => by cases h) mobiusRota_row_tie rfl ⟨rfl, rfl⟩ (by kernel_rfl) rfl
    (fun f fn hf hfn => by
      obtain rfl : f = 4 := Option.some.inj ((show Tryd.prog.funcNamed "watershed/watershedkeep.MobiusRota" = some 4 by kernel_rfl).symm.trans hf) |>.symm
      obtain rfl : fn = Tryd.f4 := (Option.some.inj (Tryd.func4.symm.trans hfn)).symm
      exact ⟨by kernel_rfl, fun j t ht => by
        have h3 := List.all_eq_true.1 (show (Tryd.f4.params.toList.all fun t => !(Tryd.prog.wantsStandIn t)) = true by kernel_rfl) t (by rw [← Array.getElem?_toList] at ht; exact List.mem_of_getElem? ht)
        have h4 : Tryd.prog.wantsStandIn t = false := by simpa using h3
        exact h4⟩)
    (by kernel_rfl)
end Go.Proofs.YtagghgmpdjoknaaDoor
