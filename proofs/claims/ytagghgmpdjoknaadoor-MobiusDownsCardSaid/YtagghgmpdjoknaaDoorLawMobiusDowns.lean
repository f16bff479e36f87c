/- Among the down-sets of an order Mu is 1 or -1 where what the one has more has none strictly below another, by how many there are, and 0 elsewhere: the law answers true for every order. No condition. -/
import Derived.Test.YtagghgmpdjoknaaDoorLooseS
import Derived.Test.YtagghgmpdjoknaaDoorFrame
namespace Go.Proofs.YtagghgmpdjoknaaDoor
open Go Go.ChangeShapes Go.WideShapes Go.ChangeAt Go.WideMaps Go.WideElems Go.RowKit Go.Abs
-- watershed/watershedkeep.MobiusDowns
abbrev Ks_keep_MobiusDowns : List Kd := [.dat (.pair (.int .i64) (.sl (.int .u32)))]
abbrev Rk_keep_MobiusDowns : List Kd := [.dat (.bool)]
abbrev Rt_keep_MobiusDowns : Type := Dens Rk_keep_MobiusDowns
noncomputable def C_keep_MobiusDowns (_N : Nat) : Ctx := { T := [(2, ⟨.int .i64, 1, 8, some (.int .i64), [.int .i64 (0 : Int)]⟩), (3, ⟨.int .i64, 1, 8, some (.int .i64), [.int .i64 (0 : Int)]⟩), (22, ⟨.slice 45, 1, 24, some (.sl (.int .u32)), [.nil]⟩), (24, ⟨.struct [(0, 3), (1, 22)], 2, 32, some (.pair (.int .i64) (.sl (.int .u32))), [.int .i64 (0 : Int), .nil]⟩), (26, ⟨.slice 2, 1, 24, some (.sl (.int .i64)), [.nil]⟩), (45, ⟨.int .u32, 1, 4, some (.int .u32), [.int .u32 (0 : Int)]⟩)], G := findE [mkQ 34 Ks_downs_Inclusion Rk_downs_Inclusion (D_downs_Inclusion _N), mkQ 26 Ks_downs_All Rk_downs_All (D_downs_All _N), mkQ 17 Ks_mobius_Mu Rk_mobius_Mu (D_mobius_Mu _N), mkP 36 Ks_keep_size Rk_keep_size (D_keep_size _N), mkP 35 Ks_keep_loose Rk_keep_loose (D_keep_loose _N), mkP 14 Ks_keep_sound Rk_keep_sound (D_keep_sound _N)], I := findI [], N := _N, n := 124, fx := [], fl := 0, gs := Gs }
noncomputable def keep_MobiusDowns_1 (_N : Nat) : Option Rt_keep_MobiusDowns :=
  (some (true, ()))
noncomputable def keep_MobiusDowns_2 (_N : Nat) (_kn70 : (List Int × List Int × Int × List Int × Int × List Int) × Int → Option Rt_keep_MobiusDowns) (_v51 : List Int) (_v52 : List Int) (_v53 : Int) (_v54 : Int) (_v55 : List Int) (_v56 : Int) (_v57 : List Int) : Option Rt_keep_MobiusDowns :=
  (_kn70 ((_v51, _v52, _v54, _v55, _v56, _v57), (IntKind.i64.wrap (_v53 + (1 : Int)))))
noncomputable def keep_MobiusDowns_3 (_N : Nat) (_kn72 : (List Int × List Int × Int × Int × List Int × Int × List Int) × Int → Option Rt_keep_MobiusDowns) (_v40 : List Int) (_v41 : List Int) (_v42 : Int) (_v43 : Int) (_v44 : Int) (_v45 : Int) (_v46 : List Int) (_v47 : Int) (_v48 : List Int) : Option Rt_keep_MobiusDowns :=
  (bif (decide (0 ≤ (IntKind.i64.wrap ((IntKind.i64.wrap (_v42 * _v47)) + _v43))) && decide ((IntKind.i64.wrap ((IntKind.i64.wrap (_v42 * _v47)) + _v43)) < (_v41.length : Int))) then (bif ((nth (0 : Int) _v41 (IntKind.i64.wrap ((IntKind.i64.wrap (_v42 * _v47)) + _v43)).toNat) != _v44) then (some (false, ())) else (_kn72 ((_v40, _v41, _v42, _v45, _v46, _v47, _v48), (IntKind.i64.wrap (_v43 + (1 : Int)))))) else none)
noncomputable def keep_MobiusDowns_4 (_N : Nat) (_k73 : (List Int × List Int × Int × Int × Int × Int × List Int × Int × List Int) → Option Rt_keep_MobiusDowns) (_v28 : List Int) (_v29 : List Int) (_v30 : Int) (_v31 : Int) (_v32 : Int) (_v33 : Int) (_v34 : Bool) (_v35 : Int) (_v36 : List Int) (_v37 : Int) (_v38 : List Int) : Option Rt_keep_MobiusDowns :=
  (bif _v34 then ((D_keep_size _N (_v32, ())).bind fun _y74 => (bif ((2 : Int) == 0) then none else (bif ((_y74.1.tmod (2 : Int)) == (1 : Int)) then (_k73 (_v28, _v29, _v30, _v31, (-1 : Int), _v35, _v36, _v37, _v38)) else (_k73 (_v28, _v29, _v30, _v31, (1 : Int), _v35, _v36, _v37, _v38))))) else (_k73 (_v28, _v29, _v30, _v31, _v33, _v35, _v36, _v37, _v38)))
noncomputable def keep_MobiusDowns_5 (_N : Nat) (_k71 : (List Int × List Int × Int × Int × List Int × Int × List Int) → Option Rt_keep_MobiusDowns) (_v19 : List Int) (_v20 : List Int) (_v21 : Int) (_v23 : Int) (_v24 : List Int) (_v25 : Int) (_v26 : List Int) (_v22 : Int) (_kn72 : (List Int × List Int × Int × Int × List Int × Int × List Int) × Int → Option Rt_keep_MobiusDowns) : Option Rt_keep_MobiusDowns :=
  (bif (decide (_v22 < _v25)) then (bif (decide (0 ≤ _v22) && decide (_v22 < (_v19.length : Int))) then (bif (decide (0 ≤ _v21) && decide (_v21 < (_v19.length : Int))) then (joinD (fun (_s : List Int × List Int × Int × Int × Int × Int × List Int × Int × List Int) => keep_MobiusDowns_3 _N _kn72 _s.1 _s.2.1 _s.2.2.1 _s.2.2.2.1 _s.2.2.2.2.1 _s.2.2.2.2.2.1 _s.2.2.2.2.2.2.1 _s.2.2.2.2.2.2.2.1 _s.2.2.2.2.2.2.2.2) fun _k73 => (joinD (fun (_s : List Int × List Int × Int × Int × Int × Int × Bool × Int × List Int × Int × List Int) => keep_MobiusDowns_4 _N _k73 _s.1 _s.2.1 _s.2.2.1 _s.2.2.2.1 _s.2.2.2.2.1 _s.2.2.2.2.2.1 _s.2.2.2.2.2.2.1 _s.2.2.2.2.2.2.2.1 _s.2.2.2.2.2.2.2.2.1 _s.2.2.2.2.2.2.2.2.2.1 _s.2.2.2.2.2.2.2.2.2.2) fun _k75 => (bif (decide (0 ≤ _v21) && decide (_v21 < (_v19.length : Int))) then (bif (decide (0 ≤ _v22) && decide (_v22 < (_v19.length : Int))) then (bif (decide (0 ≤ _v22) && decide (_v22 < (_v19.length : Int))) then (bif ((ior .u32 (nth (0 : Int) _v19 (_v21).toNat) (nth (0 : Int) _v19 (_v22).toNat)) == (nth (0 : Int) _v19 (_v22).toNat)) then ((D_keep_loose _N ((_v23, _v24), (iandNot .u32 (nth (0 : Int) _v19 (_v22).toNat) (nth (0 : Int) _v19 (_v21).toNat)), ())).bind fun _y76 => (_k75 (_v19, _v20, _v21, _v22, (iandNot .u32 (nth (0 : Int) _v19 (_v22).toNat) (nth (0 : Int) _v19 (_v21).toNat)), (0 : Int), _y76.1, _v23, _v24, _v25, _v26))) else (_k75 (_v19, _v20, _v21, _v22, (iandNot .u32 (nth (0 : Int) _v19 (_v22).toNat) (nth (0 : Int) _v19 (_v21).toNat)), (0 : Int), false, _v23, _v24, _v25, _v26))) else none) else none) else none))) else none) else none) else (_k71 (_v19, _v20, _v21, _v23, _v24, _v25, _v26)))
noncomputable def keep_MobiusDowns_6 (_N : Nat) (_k69 : (Int × List Int × Int × List Int) → Option Rt_keep_MobiusDowns) (_v12 : List Int) (_v13 : List Int) (_v15 : Int) (_v16 : List Int) (_v17 : Int) (_v18 : List Int) (_v14 : Int) (_kn70 : (List Int × List Int × Int × List Int × Int × List Int) × Int → Option Rt_keep_MobiusDowns) : Option Rt_keep_MobiusDowns :=
  (bif (decide (_v14 < _v17)) then (joinD (fun (_s : List Int × List Int × Int × Int × List Int × Int × List Int) => keep_MobiusDowns_2 _N _kn70 _s.1 _s.2.1 _s.2.2.1 _s.2.2.2.1 _s.2.2.2.2.1 _s.2.2.2.2.2.1 _s.2.2.2.2.2.2) fun _k71 => (loopE (fun (_c : List Int × List Int × Int × Int × List Int × Int × List Int) (_s : Int) _kn => keep_MobiusDowns_5 _N _k71 _c.1 _c.2.1 _c.2.2.1 _c.2.2.2.1 _c.2.2.2.2.1 _c.2.2.2.2.2.1 _c.2.2.2.2.2.2 _s _kn) _N (_v12, _v13, _v14, _v15, _v16, _v17, _v18) (0 : Int))) else (_k69 (_v15, _v16, _v17, _v18)))
noncomputable def keep_MobiusDowns_7 (_N : Nat) (_v5 : List Int) (_v6 : List Int) (_v7 : Bool) (_v8 : Int) (_v9 : List Int) (_v10 : Int) (_v11 : List Int) : Option Rt_keep_MobiusDowns :=
  (bif _v7 then (some (false, ())) else (joinD (fun (_s : Int × List Int × Int × List Int) => keep_MobiusDowns_1 _N) fun _k69 => (loopE (fun (_c : List Int × List Int × Int × List Int × Int × List Int) (_s : Int) _kn => keep_MobiusDowns_6 _N _k69 _c.1 _c.2.1 _c.2.2.1 _c.2.2.2.1 _c.2.2.2.2.1 _c.2.2.2.2.2 _s _kn) _N (_v5, _v6, _v8, _v9, _v10, _v11) (0 : Int))))
noncomputable def keep_MobiusDowns_8 (_N : Nat) (_x1 : Int × List Int) : Option Rt_keep_MobiusDowns :=
  ((D_downs_Inclusion _N ((_x1.1, _x1.2), ())).bind fun _y66 => (bif (_y66.2.1 != (0 : Int)) then (some (true, ())) else ((D_downs_All _N ((_x1.1, _x1.2), ())).bind fun _y67 => ((D_mobius_Mu _N ((_y66.1.1, _y66.1.2), ())).bind fun _y68 => (joinD (fun (_s : List Int × List Int × Bool × Int × List Int × Int × List Int) => keep_MobiusDowns_7 _N _s.1 _s.2.1 _s.2.2.1 _s.2.2.2.1 _s.2.2.2.2.1 _s.2.2.2.2.2.1 _s.2.2.2.2.2.2) fun _k77 => (bif (_y67.2.1 != (0 : Int)) then (_k77 (_y67.1, _y68.1, true, _x1.1, _x1.2, _y66.1.1, _y66.1.2)) else (bif (_y68.2.1 != (0 : Int)) then (_k77 (_y67.1, _y68.1, true, _x1.1, _x1.2, _y66.1.1, _y66.1.2)) else ((D_keep_sound _N ((_x1.1, _x1.2), ())).bind fun _y78 => (bif (!_y78.1) then (_k77 (_y67.1, _y68.1, true, _x1.1, _x1.2, _y66.1.1, _y66.1.2)) else (bif (decide ((_y67.1.length : Int) ≤ _x1.1)) then (_k77 (_y67.1, _y68.1, true, _x1.1, _x1.2, _y66.1.1, _y66.1.2)) else (bif ((_y67.1.length : Int) != _y66.1.1) then (_k77 (_y67.1, _y68.1, true, _x1.1, _x1.2, _y66.1.1, _y66.1.2)) else (bif (decide ((_y67.1.length : Int) > (16 : Int))) then (_k77 (_y67.1, _y68.1, true, _x1.1, _x1.2, _y66.1.1, _y66.1.2)) else (_k77 (_y67.1, _y68.1, ((_y68.1.length : Int) != (IntKind.i64.wrap (_y66.1.1 * _y66.1.1))), _x1.1, _x1.2, _y66.1.1, _y66.1.2))))))))))))))
noncomputable def D_keep_MobiusDowns (_N : Nat) (_x : Dens Ks_keep_MobiusDowns) : Option Rt_keep_MobiusDowns := keep_MobiusDowns_8 _N _x.1
theorem sp_keep_MobiusDowns (_N : Nat) : SpecD Tryd.prog Gs 9 Ks_keep_MobiusDowns Rk_keep_MobiusDowns (D_keep_MobiusDowns _N) := mkSpD (fn := Tryd.f9) (c := bodyOf Tryd.f9) (C := C_keep_MobiusDowns _N)
    (a := .two .none (.two .none (.two .none (.two .none (.two .none (.two (.join 2 ⟨[(1, .ptr 0 0), (3, .ptr 1 0), (5, .sl (.int .u32)), (6, .sl (.int .i64)), (68, .bool)], [.cells [.int .i64, .sl (.int .u32)], .cells [.int .i64, .sl (.int .u32)]]⟩ .none .none) (.join 2 ⟨[], [.cells [.int .i64, .sl (.int .u32)], .cells [.int .i64, .sl (.int .u32)]]⟩ (.two .none (.one (.loop 2 ⟨[(1, .ptr 0 0), (3, .ptr 1 0), (5, .sl (.int .u32)), (6, .sl (.int .i64)), (8, .int .i64)], [.cells [.int .i64, .sl (.int .u32)], .cells [.int .i64, .sl (.int .u32)]]⟩ [2] (.two .none (.join 2 ⟨[(1, .ptr 0 0), (3, .ptr 1 0), (5, .sl (.int .u32)), (6, .sl (.int .i64)), (8, .int .i64)], [.cells [.int .i64, .sl (.int .u32)], .cells [.int .i64, .sl (.int .u32)]]⟩ (.one (.two .none (.one (.loop 2 ⟨[(1, .ptr 0 0), (3, .ptr 1 0), (5, .sl (.int .u32)), (6, .sl (.int .i64)), (8, .int .i64), (9, .int .i64)], [.cells [.int .i64, .sl (.int .u32)], .cells [.int .i64, .sl (.int .u32)]]⟩ [3] (.two .none (.two (.one (.two (.draw 0 [.pure, .pure, .pure, .pure, .pure, .pure, .pure, .pure, .pure, .pure]) (.two .none (.join 2 ⟨[(1, .ptr 0 0), (3, .ptr 1 0), (5, .sl (.int .u32)), (6, .sl (.int .i64)), (8, .int .i64), (9, .int .i64), (11, .int .i64)], [.cells [.int .i64, .sl (.int .u32)], .cells [.int .i64, .sl (.int .u32)]]⟩ (.join 2 ⟨[(1, .ptr 0 0), (3, .ptr 1 0), (5, .sl (.int .u32)), (6, .sl (.int .i64)), (8, .int .i64), (9, .int .i64), (10, .int .u32), (11, .int .i64), (108, .bool)], [.cells [.int .i64, .sl (.int .u32)], .cells [.int .i64, .sl (.int .u32)]]⟩ (.draw 0 [.pure, .pure, .pure, .pure, .pure, .pure, .pure, .pure, .pure, .pure, .pure, .pure, .pure, .pure, .pure, .rd [0], .pure, .pure, .pure]) .none) .none)))) .none)))))) .none))))) .none)))))))
    (by kernel_rfl) rfl (by kernel_rfl) (by kernel_rfl) ⟨rfl, by unfold TOk; kernel_rfl, gOk_of rfl rfl (List.forall_mem_cons.2 ⟨qen_downs_Inclusion _N, (List.forall_mem_cons.2 ⟨qen_downs_All _N, (List.forall_mem_cons.2 ⟨qen_mobius_Mu _N, (List.forall_mem_cons.2 ⟨en_keep_size _N, (List.forall_mem_cons.2 ⟨en_keep_loose _N, (List.forall_mem_cons.2 ⟨en_keep_sound _N, (List.forall_mem_nil _)⟩)⟩)⟩)⟩)⟩)⟩), iOk_of rfl rfl (List.forall_mem_nil _), rfl⟩ (fun _x => by kernel_rfl)
theorem en_keep_MobiusDowns (_N : Nat) : EntOk Tryd.prog Gs (mkP 9 Ks_keep_MobiusDowns Rk_keep_MobiusDowns (D_keep_MobiusDowns _N)) := entP ⟨Tryd.f9, bodyOf Tryd.f9, by kernel_rfl, by kernel_rfl, rfl⟩ (by kernel_rfl) (sp_keep_MobiusDowns _N)
theorem law_MobiusDowns (o : Int × List Int) (wo : wfS (.pair (.int .i64) (.sl (.int .u32))) o) : ∃ N, D_keep_MobiusDowns N (o, ()) = some (true, ()) := by
  obtain ⟨n, up⟩ := o
  have hw : WL up := WL_of wo.2
  refine ⟨1000, ?_⟩
  simp only [D_keep_MobiusDowns, keep_MobiusDowns_8]
  by_cases ho : Ord n up
  case neg =>
    obtain ⟨e, k1, k2⟩ := Check_spec (N := 1000) (by omega) hw n
    have he : (e != 0) = true := bne_iff_ne.2 fun h' => ho (k2.1 h')
    simp only [D_downs_Inclusion, downs_Inclusion_6, D_downs_All, downs_All_1, k1, Option.bind_some, he, cond_true]
  obtain ⟨m, rfl⟩ : ∃ m : Nat, n = (m : Int) := ⟨n.toNat, by have := ho.h0; omega⟩
  have hm : m ≤ 16 := by have := ho.h1; omega
  rw [Inc_eq hm hw ho (N := 1000) (by omega)]
  by_cases q : (downs up m).length ≤ 16
  case neg => rw [if_neg q]; rfl
  rw [if_pos q]
  have hO := Ord_inc hw ho q
  have hW : WL (incL (downs up m)) := fun x hx => by
    obtain ⟨a, -, rfl⟩ := List.mem_map.1 hx
    exact W32.mkw _ _
  obtain ⟨g, g1, g2⟩ := Mu_eq (N := 1000) (Nat.le_refl _) q hW hO
  have hmu := fun {i j} => dn_mu hm hw ho q g2 (i := i) (j := j)
  have hmore := downs_more hm hw ho
  have hgl := g2.cel.len
  obtain ⟨s, s1, s2⟩ := sound_eq (N := 1000) (by omega) hw (m : Int)
  obtain rfl := s2.2 ho
  rw [All_eq2 hm hw ho (N := 1000) (by omega), if_pos (by omega)]
  have hD : ∀ {i}, i < (downs up m).length → isDn up m (nth 0 (downs up m) i) := fun hi => (mem_downs hw ho).1 (nth_mem (z := (0 : Int)) hi)
  have hdv : ∀ i j, dnv up m i j = open Classical in if (∀ x, bt (nth 0 (downs up m) i) x = true → bt (nth 0 (downs up m) j) x = true) ∧ Loose up (iandNot .u32 (nth 0 (downs up m) j) (nth 0 (downs up m) i)) then sgP (els (iandNot .u32 (nth 0 (downs up m) j) (nth 0 (downs up m) i))).length else 0 := fun i j => rfl
  generalize downs up m = L at *
  simp only [g1, s1, Option.bind_some, bne_self_eq_false, cond_false, joinD, loopE, Bool.not_true, d_false (show ¬ ((L.length : Int) ≤ (m : Int)) by omega), d_false (show ¬ ((L.length : Int) > 16) by omega), hgl, wrap_sq q, keep_MobiusDowns_7]
  refine loopD_pass (n := L.length) (by omega) (fun i hi kn => ?_) (fun kn => by simp only [keep_MobiusDowns_6, lt_self, cond_false, keep_MobiusDowns_1]) (by omega)
  simp only [keep_MobiusDowns_6, lt_d hi, cond_true, joinD, loopE]
  refine loopD_pass (n := L.length) (by omega) (fun j hj kn' => ?_) (fun kn' => by simp only [keep_MobiusDowns_5, lt_self, cond_false, keep_MobiusDowns_2, w1 q hi, backE_eq]) (by omega)
  have hWi := (hD hi).w32
  have hWj := (hD hj).w32
  have hsub : ((ior .u32 (nth 0 L i) (nth 0 L j) == nth 0 L j) = true) ↔ ∀ x, bt (nth 0 L i) x = true → bt (nth 0 L j) x = true := by
    rw [beq_iff_eq]
    constructor
    · intro e x hx
      rw [← e, bt_ior hWi hWj, hx]; rfl
    · intro h
      refine bt_ext W32.ior hWj fun x _ => ?_
      rw [Bool.eq_iff_iff, bt_ior hWi hWj, Bool.or_eq_true]
      exact ⟨fun e => e.elim (h x) id, .inr⟩
  have hcell := cell_lt hi hj
  have hres : ∀ want : Int, I64 want → ph want = dnv up m i j → nth 0 g (i * L.length + j) = want := fun want h1 h2 => ph_inj (I64.nth g2.cel.i64 _) h1 (by rw [h2, hmu hi hj]; rfl)
  simp only [keep_MobiusDowns_5, lt_d hj, ge0_d, lt_d hi, Bool.and_self, cond_true, joinD, Int.toNat_natCast]
  have h3 : ∀ want : Int, I64 want → ph want = dnv up m i j → keep_MobiusDowns_3 1000 (backE (L, g, (i : Int), (m : Int), up, (L.length : Int), incL L) kn') L g (i : Int) (j : Int) want (m : Int) up (L.length : Int) (incL L) = kn' ((j : Int) + 1) := fun want h1 h2 => by
    simp only [keep_MobiusDowns_3, wrap_cell q hi hj, ge0_d, hgl, lt_d hcell, Bool.and_self, cond_true, Int.toNat_natCast, hres want h1 h2, bne_self_eq_false, cond_false, w1 q hj, backE_eq]
  have h0 : dnv up m i j = 0 → keep_MobiusDowns_3 1000 (backE (L, g, (i : Int), (m : Int), up, (L.length : Int), incL L) kn') L g (i : Int) (j : Int) 0 (m : Int) up (L.length : Int) (incL L) = kn' ((j : Int) + 1) := fun h => h3 0 I64.zero (by rw [h]; rfl)
  by_cases hs : ∀ x, bt (nth 0 L i) x = true → bt (nth 0 L j) x = true
  case neg =>
    rw [show (ior .u32 (nth 0 L i) (nth 0 L j) == nth 0 L j) = false from Bool.eq_false_iff.2 fun h => hs (hsub.1 h), cond_false]
    simp only [keep_MobiusDowns_4, cond_false]
    exact h0 (by rw [hdv, if_neg fun h => hs h.1])
  rw [hsub.2 hs, cond_true]
  obtain ⟨b, b1, b2⟩ := loose_eq (N := 1000) (Nat.le_refl _) hm hw ho (w := iandNot .u32 (nth 0 L j) (nth 0 L i)) W32.iandNot (fun x hx => by
    rw [bt_iandNot hWj hWi, Bool.and_eq_true] at hx
    exact (hD hj).lt x hx.1)
  simp only [b1, Option.bind_some, keep_MobiusDowns_4, size_eq (N := 1000) (Nat.le_refl _) (W32.iandNot (a := nth 0 L j) (b := nth 0 L i)), show ((2 : Int) == 0) = false from rfl, cond_false]
  by_cases hl : Loose up (iandNot .u32 (nth 0 L j) (nth 0 L i))
  case neg =>
    obtain rfl : b = false := Bool.eq_false_iff.2 fun h => hl (b2.1 h)
    exact h0 (by rw [hdv, if_neg fun h => hl h.2])
  obtain rfl := b2.2 hl
  have e := hdv i j
  rw [if_pos ⟨hs, hl⟩] at e
  rw [cond_true]
  generalize (els (iandNot .u32 (nth 0 L j) (nth 0 L i))).length = c at e
  have ht : (c : Int).tmod 2 = ((c % 2 : Nat) : Int) := rfl
  rw [ht]
  unfold sgP at e
  by_cases hc : c % 2 = 1
  · rw [if_pos hc] at e
    rw [show (((c % 2 : Nat) : Int) == 1) = true from by rw [hc]; rfl, cond_true]
    exact h3 (-1) (by unfold I64; omega) (by rw [e]; rfl)
  · rw [if_neg hc] at e
    rw [show (((c % 2 : Nat) : Int) == 1) = false from beq_false_of_ne (by omega), cond_false]
    exact h3 1 I64.one (by rw [e]; rfl)
set_option maxRecDepth 100000 in
theorem lifted_MobiusDowns (os : Os) (started : os.Started) (H : Type) (enc : TypeId × Value → H) :
    ReturnsInHanded {} Tryd.checked os 9 .any (fun w args => (Rows.mobiusDownsSpec.pre enc Tryd.prog Tryd.f9 [] false w args ∧ laidMetH Tryd.prog Rows.mobiusDownsRow.laid w) ∧ sizedMet enc Tryd.prog Tryd.f9 (OpenSpec.ofChange Rows.mobiusDownsSpec) false w args) (Rows.mobiusDownsSpec.post enc Tryd.prog Tryd.f9 false true false false) := by
  refine returnsInHanded_of_change_and (C := Tryd.checked) (X := fun w _ => laidMetH Tryd.prog Rows.mobiusDownsRow.laid w) (fun _ _ _ hh h => h.of_heap hh) own started (by kernel_rfl) Tryd.func9
    (ChangeSpec.witness_shaped (enc := enc) (C := Tryd.checked) (os := os) (X := fun w _ => laidMetH Tryd.prog Rows.mobiusDownsRow.laid w) false (World.doorLaid Tryd.prog 400 os) #[.agg #[.int .i64 0, .slice none 0 0]] 8 rfl (World.shaped_of_RefB (by kernel_rfl) (by kernel_rfl)) (by kernel_rfl) (by kernel_rfl) (by kernel_rfl) (door_met os _)) ?_
  intro W base args ds gs before hval0 hW _ hsz0 hL _
  have hgw : GW Gs W := gw_of hL
  have hval : ∀ (j : Nat) t v, Tryd.f9.params[j]? = some t → args[j]? = some v → Value.okWide Tryd.prog W .any base t v := hval0
  have hW' := hW
  obtain ⟨p, q, hA0, hV, rfl, _, _⟩ := hW
  have hA : DataW.TrodAll enc Tryd.prog W 0 (fun _ => true) true Tryd.f9.params.toList args.toList ds p := hA0
  rw [Tryd.params9] at hA hval
  obtain ⟨v0, vs0, d0, ds0, p0, q0, hargs, rfl, rfl, h0, r0⟩ := trodAll_cons hA
  obtain ⟨rfl, rfl, rfl⟩ := trodAll_nil r0
  obtain rfl : args = #[v0] := by cases args; simp_all
  obtain ⟨rfl, rfl⟩ := trodVars_none hV
  clear hA0 hval0 hsz0
  simp only [List.append_nil] at hW'
  have hlt0 : ∀ x ∈ p0, x.block < W.heap.size := fun x hx => hW'.lt x (by simp [hx])
  obtain ⟨x0, g0, w0⟩ := open_kd (k := .dat (.pair (.int .i64) (.sl (.int .u32)))) (by kernel_rfl) (hval 0 24 v0 rfl rfl) h0
  obtain ⟨N, hN⟩ := law_MobiusDowns x0 w0
  refine (sp_keep_MobiusDowns N (fun _ => False) W (x0, ()) (true, ()) [v0] (fun _ h => h.elim) hgw ⟨v0, _, rfl, g0, rfl⟩ hN).mono ?_
  rintro e W' ⟨v, rfl, hg, hr⟩
  have hr : v = .bool true := by simpa only [kvals, retV, Kd.val, Go.Abs.enc, RV] using hr
  subst hr
  exact ⟨_, rfl, _, _, _, [], p0 ++ [], [], hW', (trodAll_cons_mk (shut_bool (show Tryd.prog.underlying 4 = some .bool by kernel_rfl) _) trodAll_mk0), (trodAll_cons_mk (Below.trod laidOut (by kernel_rfl) (of_decide_eq_true (by kernel_rfl)) h0 hg hlt0) trodAll_mk0), rfl, hg.frame _, fun h => by cases h⟩

/-- The statement: whatever the arguments, the law's function returns true and leaves them as they were. -/
theorem mobiusDowns_holds : Rows.MobiusDownsSaid :=
  OpenClaim.holds_of_wide 9 Tryd.f9 rfl rfl rfl rfl rfl rfl rfl ⟨rfl, rfl, rfl, rfl, rfl⟩ rfl rfl rfl rfl rfl (by kernel_rfl) Tryd.func9 (by kernel_rfl)
    (of_decide_eq_true (by kernel_rfl)) (by unfold Func.isWrapper; first | (rw [if_pos (by decide +kernel)]; kernel_rfl) | (rw [if_neg (by decide +kernel)]; exact ⟨rfl, rfl⟩))
    (fun os started H enc _ => lifted_MobiusDowns os started H enc)
/-- The statement's card: the variable that the road reads is tied to the program's text. -/
theorem mobiusDowns_card : Rows.MobiusDownsCardSaid :=
  Claim7.holds_tied_plain_at .later [] [.data] true (true, "b73b6f32d8bacf79b109d1a869f14eaafeec458d4d840f7ceaa2738719a4935f") false mobiusDowns_holds (fun _ h => by cases h) (by kernel_rfl) (fun _ h => by cases h) mobiusDowns_row_tie rfl ⟨rfl, rfl⟩ (by kernel_rfl) rfl
    (fun f fn hf hfn => by
      obtain rfl : f = 9 := Option.some.inj ((show Tryd.prog.funcNamed "watershed/watershedkeep.MobiusDowns" = some 9 by kernel_rfl).symm.trans hf) |>.symm
      obtain rfl : fn = Tryd.f9 := (Option.some.inj (Tryd.func9.symm.trans hfn)).symm
      exact ⟨by kernel_rfl, fun j t ht => by
        have h3 := List.all_eq_true.1 (show (Tryd.f9.params.toList.all fun t => !(Tryd.prog.wantsStandIn t)) = true by kernel_rfl) t (by rw [← Array.getElem?_toList] at ht; exact List.mem_of_getElem? ht)
        have h4 : Tryd.prog.wantsStandIn t = false := by simpa using h3
        exact h4⟩)
    (by kernel_rfl)
end Go.Proofs.YtagghgmpdjoknaaDoor
