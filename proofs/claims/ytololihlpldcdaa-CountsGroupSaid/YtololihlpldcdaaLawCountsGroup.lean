/- The sum of tallies does not hang on order and brackets, and a tally less itself is empty: the law answers true for every three tallies. No condition. -/
import Derived.Test.YtololihlpldcdaaCountsV
import Derived.Test.YtololihlpldcdaaFrame0
namespace Go.Proofs.Ytololihlpldcdaa
open Go Go.ChangeShapes Go.WideShapes Go.ChangeAt Go.WideMaps Go.WideElems Go.RowKit Go.Abs
-- watershed/watershedkeep.CountsGroup
abbrev Ks_keep_CountsGroup : List Kd := [.dat (.sl (.pair (.sl (.int .i64)) (.int .i64))), .dat (.sl (.pair (.sl (.int .i64)) (.int .i64))), .dat (.sl (.pair (.sl (.int .i64)) (.int .i64)))]
abbrev Rk_keep_CountsGroup : List Kd := [.dat (.bool)]
abbrev Rt_keep_CountsGroup : Type := Dens Rk_keep_CountsGroup
noncomputable def C_keep_CountsGroup (_N : Nat) : Ctx := { T := [(2, ⟨.int .i64, 1, 8, some (.int .i64), [.int .i64 (0 : Int)]⟩), (4, ⟨.bool, 1, 1, some .bool, [.bool false]⟩), (26, ⟨.slice 3, 1, 24, some (.sl (.int .i64)), [.nil]⟩), (47, ⟨.slice 52, 1, 24, some (.sl (.pair (.sl (.int .i64)) (.int .i64))), [.nil]⟩), (52, ⟨.struct [(0, 26), (1, 2)], 2, 32, some (.pair (.sl (.int .i64)) (.int .i64)), [.nil, .int .i64 (0 : Int)]⟩)], G := findE [mkQ 30 Ks_counts_Sum Rk_counts_Sum (D_counts_Sum _N), mkP 33 Ks_ref_Counts Rk_ref_Counts (D_ref_Counts _N), mkP 34 Ks_counts_Check Rk_counts_Check (D_counts_Check _N), mkD 30 Ks_counts_Sum Rk_counts_Sum (D_counts_Sum _N)], I := findI [], N := _N, n := 129, fx := [0], fl := 0, gs := [] }
noncomputable def keep_CountsGroup_1 (_N : Nat) (_v29 : List (List Int × Int)) (_v30 : List (List Int × Int)) (_v31 : List (List Int × Int)) (_v32 : Int) (_v33 : List (List Int × Int)) (_v34 : Int) (_v35 : List (List Int × Int)) (_v36 : Int) : Option Rt_keep_CountsGroup :=
  (bif (_v32 != (0 : Int)) then (some (((_v32 == (0 : Int)) == (_v34 == (0 : Int))), ())) else (bif (_v36 != (0 : Int)) then (some (((_v32 == (0 : Int)) == (_v34 == (0 : Int))), ())) else (bif (_v34 != (0 : Int)) then (some (false, ())) else ((D_ref_Counts _N (_v31, _v33, ())).bind fun _y44 => (bif (!_y44.1) then (some (false, ())) else ((D_counts_Sum _N (_v31, _v30, ())).bind fun _y45 => ((D_counts_Sum _N (_v29, _v35, ())).bind fun _y46 => (bif (_y45.2.1 != (0 : Int)) then (some (true, ())) else (bif (_y46.2.1 != (0 : Int)) then (some (true, ())) else ((D_ref_Counts _N (_y45.1, _y46.1, ())).bind fun _y47 => (some (_y47.1, ()))))))))))))
noncomputable def keep_CountsGroup_2 (_N : Nat) (_k48 : ((List (List Int × Int)) × (List (List Int × Int)) × (List (List Int × Int)) × Int × (List (List Int × Int)) × Int × (List (List Int × Int)) × Int) → Option Rt_keep_CountsGroup) (_v17 : List (List Int × Int)) (_v18 : List (List Int × Int)) (_v19 : List (List Int × Int)) (_v20 : Int) (_v21 : List (List Int × Int)) (_v22 : Int) (_v23 : List (List Int × Int)) (_v24 : Int) (_v25 : List (List Int × Int)) : Option Rt_keep_CountsGroup :=
  ((D_counts_Sum _N (_v17, _v25, ())).bind fun _y50 => ((D_counts_Sum _N (_v17, [], ())).bind fun _y51 => (bif (_y50.2.1 != (0 : Int)) then (some (false, ())) else (bif ((_y50.1.length : Int) != (0 : Int)) then (some (false, ())) else (bif (_y51.2.1 != (0 : Int)) then (some (false, ())) else ((D_ref_Counts _N (_y51.1, _v17, ())).bind fun _y52 => (bif (!_y52.1) then (some (false, ())) else (_k48 (_v17, _v18, _v19, _v20, _v21, _v22, _v23, _v24)))))))))
noncomputable def keep_CountsGroup_3 (_N : Nat) (_k53 : ((List (List Int × Int)) × (List (List Int × Int)) × (List (List Int × Int)) × Int × (List (List Int × Int)) × Int × (List (List Int × Int)) × Int × (List (List Int × Int))) → Option Rt_keep_CountsGroup) (_v5 : List (List Int × Int)) (_v6 : List (List Int × Int)) (_v7 : List (List Int × Int)) (_v8 : Int) (_v9 : List (List Int × Int)) (_v10 : Int) (_v11 : List (List Int × Int)) (_v12 : Int) (_v13 : List (List Int × Int)) (_v14 : Int) (_v15 : Int) (_v16 : List (List Int × Int)) (_kn54 : ((List (List Int × Int)) × (List (List Int × Int)) × (List (List Int × Int)) × Int × (List (List Int × Int)) × Int × (List (List Int × Int)) × Int × (List (List Int × Int)) × Int) × (Int × (List (List Int × Int))) → Option Rt_keep_CountsGroup) : Option Rt_keep_CountsGroup :=
  (bif (decide (_v15 < _v14)) then (bif (decide (0 ≤ _v15) && decide (_v15 < (_v13.length : Int))) then (bif (decide ((_v16.length + ([((nth ([], (0 : Int)) _v13 (_v15).toNat).1, (IntKind.i64.wrap (0 - ((nth ([], (0 : Int)) _v13 (_v15).toNat).2))))]).length) * 32 ≤ 140737488355328) && Nat.ble 1 32) then (_kn54 ((_v5, _v6, _v7, _v8, _v9, _v10, _v11, _v12, _v13, _v14), ((IntKind.i64.wrap (_v15 + (1 : Int))), (_v16 ++ [((nth ([], (0 : Int)) _v13 (_v15).toNat).1, (IntKind.i64.wrap (0 - ((nth ([], (0 : Int)) _v13 (_v15).toNat).2))))])))) else none) else none) else (_k53 (_v5, _v6, _v7, _v8, _v9, _v10, _v11, _v12, _v16)))
noncomputable def keep_CountsGroup_4 (_N : Nat) (_x1 : List (List Int × Int)) (_x2 : List (List Int × Int)) (_x3 : List (List Int × Int)) : Option Rt_keep_CountsGroup :=
  ((D_counts_Sum _N (_x1, _x2, ())).bind fun _y41 => ((D_counts_Sum _N (_x2, _x1, ())).bind fun _y42 => ((D_counts_Sum _N (_x2, _x3, ())).bind fun _y43 => (joinD (fun (_s : (List (List Int × Int)) × (List (List Int × Int)) × (List (List Int × Int)) × Int × (List (List Int × Int)) × Int × (List (List Int × Int)) × Int) => keep_CountsGroup_1 _N _s.1 _s.2.1 _s.2.2.1 _s.2.2.2.1 _s.2.2.2.2.1 _s.2.2.2.2.2.1 _s.2.2.2.2.2.2.1 _s.2.2.2.2.2.2.2) fun _k48 => ((D_counts_Check _N (_x1, ())).bind fun _y49 => (bif (_y49.1 == (0 : Int)) then (joinD (fun (_s : (List (List Int × Int)) × (List (List Int × Int)) × (List (List Int × Int)) × Int × (List (List Int × Int)) × Int × (List (List Int × Int)) × Int × (List (List Int × Int))) => keep_CountsGroup_2 _N _k48 _s.1 _s.2.1 _s.2.2.1 _s.2.2.2.1 _s.2.2.2.2.1 _s.2.2.2.2.2.1 _s.2.2.2.2.2.2.1 _s.2.2.2.2.2.2.2.1 _s.2.2.2.2.2.2.2.2) fun _k53 => (loopE (fun (_c : (List (List Int × Int)) × (List (List Int × Int)) × (List (List Int × Int)) × Int × (List (List Int × Int)) × Int × (List (List Int × Int)) × Int × (List (List Int × Int)) × Int) (_s : Int × (List (List Int × Int))) _kn => keep_CountsGroup_3 _N _k53 _c.1 _c.2.1 _c.2.2.1 _c.2.2.2.1 _c.2.2.2.2.1 _c.2.2.2.2.2.1 _c.2.2.2.2.2.2.1 _c.2.2.2.2.2.2.2.1 _c.2.2.2.2.2.2.2.2.1 _c.2.2.2.2.2.2.2.2.2 _s.1 _s.2 _kn) _N (_x1, _x3, _y41.1, _y41.2.1, _y42.1, _y42.2.1, _y43.1, _y43.2.1, _x1, (_x1.length : Int)) ((0 : Int), []))) else (_k48 (_x1, _x3, _y41.1, _y41.2.1, _y42.1, _y42.2.1, _y43.1, _y43.2.1))))))))
noncomputable def D_keep_CountsGroup (_N : Nat) (_x : Dens Ks_keep_CountsGroup) : Option Rt_keep_CountsGroup := keep_CountsGroup_4 _N _x.1 _x.2.1 _x.2.2.1
theorem sp_keep_CountsGroup (_N : Nat) : SpecD Try.prog [] 12 Ks_keep_CountsGroup Rk_keep_CountsGroup (D_keep_CountsGroup _N) := mkSpD (fn := Try.f12) (c := bodyOf Try.f12) (C := C_keep_CountsGroup _N)
    (a := .two .none (.two .none (.two .none (.two .none (.join 0 ⟨[(0, .sl (.pair (.sl (.int .i64)) (.int .i64))), (2, .sl (.pair (.sl (.int .i64)) (.int .i64))), (7, .sl (.pair (.sl (.int .i64)) (.int .i64))), (8, .int .i64), (9, .sl (.pair (.sl (.int .i64)) (.int .i64))), (10, .int .i64), (11, .sl (.pair (.sl (.int .i64)) (.int .i64))), (12, .int .i64)], []⟩ (.two .none (.two (.two .none (.join 1 ⟨[(0, .sl (.pair (.sl (.int .i64)) (.int .i64))), (2, .sl (.pair (.sl (.int .i64)) (.int .i64))), (7, .sl (.pair (.sl (.int .i64)) (.int .i64))), (8, .int .i64), (9, .sl (.pair (.sl (.int .i64)) (.int .i64))), (10, .int .i64), (11, .sl (.pair (.sl (.int .i64)) (.int .i64))), (12, .int .i64), (13, .slc 0 0)], [.row false 0 52 (.pair (.sl (.int .i64)) (.int .i64))]⟩ (.two .none (.one (.obj 13 52 (.pair (.sl (.int .i64)) (.int .i64)) (.loop 1 ⟨[(0, .sl (.pair (.sl (.int .i64)) (.int .i64))), (2, .sl (.pair (.sl (.int .i64)) (.int .i64))), (7, .sl (.pair (.sl (.int .i64)) (.int .i64))), (8, .int .i64), (9, .sl (.pair (.sl (.int .i64)) (.int .i64))), (10, .int .i64), (11, .sl (.pair (.sl (.int .i64)) (.int .i64))), (12, .int .i64), (13, .slc 0 0), (43, .sl (.pair (.sl (.int .i64)) (.int .i64))), (44, .int .i64), (45, .int .i64)], [.row false 0 52 (.pair (.sl (.int .i64)) (.int .i64))]⟩ [10, 11] .none)))) .none)) .none)) .none)))))
    (by kernel_rfl) rfl (by kernel_rfl) (by kernel_rfl) ⟨rfl, by unfold TOk; kernel_rfl, gOk_of rfl rfl (List.forall_mem_cons.2 ⟨qen_counts_Sum _N, (List.forall_mem_cons.2 ⟨en_ref_Counts _N, (List.forall_mem_cons.2 ⟨en_counts_Check _N, (List.forall_mem_cons.2 ⟨en_counts_Sum _N, (List.forall_mem_nil _)⟩)⟩)⟩)⟩), iOk_of rfl rfl (List.forall_mem_nil _), rfl⟩ (fun _x => by kernel_rfl)
theorem en_keep_CountsGroup (_N : Nat) : EntOk Try.prog [] (mkP 12 Ks_keep_CountsGroup Rk_keep_CountsGroup (D_keep_CountsGroup _N)) := entP ⟨Try.f12, bodyOf Try.f12, by kernel_rfl, by kernel_rfl, rfl⟩ (by kernel_rfl) (sp_keep_CountsGroup _N)
/-- Two tallies whose sum is one. -/
def good (c d l : List Cn) : Prop := CP c d ∧ mg (c.length + d.length) c d = some l ∧ l.length ≤ 64
theorem good.ok {c d l : List Cn} (h : good c d l) : MgOk c d (some l) := by rw [← h.2.1]; exact mg_ok _ c d (Nat.le_refl _) h.1.1.rise h.1.2.1.rise
theorem good_mk {c d l : List Cn} (h : CP c d) (hl : CK l) (hv : ∀ t, val l t = val c t + val d t) : good c d l := by
  have hm := mg_ok _ c d (Nat.le_refl _) h.1.rise h.2.1.rise
  cases q : mg (c.length + d.length) c d with
  | none =>
    rw [q] at hm
    obtain ⟨t, ht⟩ := hm
    rw [← hv, hl.noov] at ht
    cases ht
  | some l' =>
    rw [q] at hm
    have e : l' = l := val_uniq hm.1 hl.rise (fun x hx => (hm.2.1 x hx).1) (fun x hx => (hl.n x hx).1) fun t => by rw [(hm.2.2 t).1, hv]
    subst e
    exact ⟨h, q, hl.len⟩
theorem good.ck {c d l : List Cn} (h : good c d l) : CK l := by
  obtain ⟨⟨h1, h2, h3⟩, -, h5⟩ := id h
  by_cases q : 0 < c.length
  · refine ck_of h.ok h5 (fun x hx => h1.tok hx) (fun x hx => h2.tok hx) (nth ([], (0 : Int)) c 0).1.length (fun x hx => h1.eqL hx (nth_mem q)) (fun x hx => ?_)
    exact (apt.all h1 h2 h3 (nth_mem q) hx).symm
  · refine ck_of h.ok h5 (fun x hx => h1.tok hx) (fun x hx => h2.tok hx) (nth ([], (0 : Int)) d 0).1.length (fun x hx => absurd (List.length_pos_of_mem hx) q) (fun x hx => h2.eqL hx (nth_mem (List.length_pos_of_mem hx)))
theorem good.symm {c d l : List Cn} (h : good c d l) : good d c l :=
  good_mk ⟨h.1.2.1, h.1.1, fun a b => (h.1.2.2 b a).symm⟩ h.ck fun t => by rw [(h.ok.2.2 t).1, Int.add_comm]
theorem sum_cases {N : Nat} (hN : 1000 ≤ N) {c d : List Cn} (hc : c.length < N) (hb : c.length * 24 ≤ 140737488355328) (hd : d.length < N) (hb' : d.length * 24 ≤ 140737488355328) :
    ∃ l e, D_counts_Sum N (c, d, ()) = some (l, e, ()) ∧ ((e = 0 ∧ good c d l) ∨ (e ≠ 0 ∧ l = [] ∧ ∀ m, ¬ good c d m)) := by
  rcases CSum_or hN hc hb hd hb' with ⟨h1, e, he, h⟩ | ⟨h1, h⟩
  · exact ⟨[], e, h, .inr ⟨he, rfl, fun m hm => h1 hm.1⟩⟩
  · rw [h]
    cases q : mg (c.length + d.length) c d with
    | none => exact ⟨[], 6, rfl, .inr ⟨by decide, rfl, fun m hm => by rw [hm.2.1] at q; cases q⟩⟩
    | some l =>
      rw [mgR_some]
      by_cases hl : 64 < l.length
      · rw [if_pos hl]
        exact ⟨[], 1, rfl, .inr ⟨by decide, rfl, fun m hm => by have e := hm.2.1; rw [e] at q; cases q; have := hm.2.2; omega⟩⟩
      · rw [if_neg hl]
        exact ⟨l, 0, rfl, .inl ⟨rfl, h1, q, by omega⟩⟩
theorem sum_good {N : Nat} (hN : 1000 ≤ N) {c d l : List Cn} (h : good c d l) : D_counts_Sum N (c, d, ()) = some (l, 0, ()) := by
  rw [CSum_ok hN h.1, h.2.1, mgR_some, if_neg (by have := h.2.2; omega)]
theorem good_uniq {c d l m : List Cn} (h : good c d l) (h' : good c d m) : l = m := by
  have := h.2.1
  rw [h'.2.1] at this
  exact (Option.some.inj this).symm
def ngt (c : List Cn) : List Cn := c.map fun x => (x.1, -x.2)
theorem val_ngt (c : List Cn) (t : List Int) : val (ngt c) t = -val c t := by
  induction c with
  | nil => rfl
  | cons x r ih =>
    show (if x.1 = t then -x.2 else val (ngt r) t) = -(if x.1 = t then x.2 else val r t)
    by_cases e : x.1 = t
    · rw [if_pos e, if_pos e]
    · rw [if_neg e, if_neg e, ih]
theorem ck_nil : CK [] := ⟨⟨by simp, fun t h => (nomatch h), fun t h => (nomatch h)⟩, .nil, fun x h => (nomatch h)⟩
theorem ck_ngt {c : List Cn} (h : CK c) : CK (ngt c) := by
  refine ⟨?_, ?_, fun x hx => ?_⟩
  · have : (ngt c).map Prod.fst = c.map Prod.fst := by unfold ngt; rw [List.map_map]; rfl
    rw [this]; exact h.tl
  · unfold ngt RiseC
    rw [List.pairwise_map]
    exact h.rise
  · obtain ⟨y, hy, rfl⟩ := List.mem_map.1 hx
    obtain ⟨h1, h2⟩ := h.n y hy
    have h3 := ov_false.1 h2
    exact ⟨by show -y.2 ≠ 0; omega, ov_false.2 (by show _ ∧ -y.2 ≤ _; constructor <;> (try show _ ≤ -y.2) <;> omega)⟩
theorem cp_ngt {c : List Cn} (h : CK c) : CP c (ngt c) := by
  refine ⟨h, ck_ngt h, fun h1 h2 => ?_⟩
  obtain ⟨y, hy, e⟩ := List.mem_map.1 (nth_mem (z := (([], 0) : Cn)) h2)
  have e' : (nth ([], (0 : Int)) (ngt c) 0).1 = y.1 := by unfold ngt; rw [← e]
  rw [e']
  exact h.eqL (nth_mem h1) hy
theorem law_CountsGroup (c d b : List Cn) (_wc : wfS (.sl (.pair (.sl (.int .i64)) (.int .i64))) c) (_wd : wfS (.sl (.pair (.sl (.int .i64)) (.int .i64))) d) (_wb : wfS (.sl (.pair (.sl (.int .i64)) (.int .i64))) b)
    (zc : c.length * 32 ≤ reachBytes) (zd : d.length * 32 ≤ reachBytes) (zb : b.length * 32 ≤ reachBytes) : ∃ N, D_keep_CountsGroup N (c, d, b, ()) = some (true, ()) := by
  refine ⟨c.length + d.length + b.length + 1000, ?_⟩
  generalize hNd : c.length + d.length + b.length + 1000 = N
  have hN : 1000 ≤ N := by omega
  have hz : c.length * 32 ≤ 140737488351232 := zc
  have hz2 : d.length * 32 ≤ 140737488351232 := zd
  have hz3 : b.length * 32 ≤ 140737488351232 := zb
  obtain ⟨cd, e1, s1, k1⟩ := sum_cases hN (c := c) (d := d) (by omega) (by omega) (by omega) (by omega)
  obtain ⟨dc, e2, s2, k2⟩ := sum_cases hN (c := d) (d := c) (by omega) (by omega) (by omega) (by omega)
  obtain ⟨db, e3, s3, k3⟩ := sum_cases hN (c := d) (d := b) (by omega) (by omega) (by omega) (by omega)
  obtain ⟨e4, s4, k4⟩ := CCheck_eq hN (c := c) (by omega) (by omega)
  have hfin : keep_CountsGroup_1 N c b cd e1 dc e2 db e3 = some (true, ()) := by
    simp only [keep_CountsGroup_1]
    rcases k1 with ⟨rfl, g1⟩ | ⟨n1, -, g1⟩
    case inr =>
      rcases k2 with ⟨rfl, g2⟩ | ⟨n2, -, g2⟩
      · exact absurd g2.symm (g1 _)
      · rw [show (e1 != 0) = true from bne_iff_ne.2 n1, cond_true, show (e1 == 0) = false from beq_false_of_ne n1, show (e2 == 0) = false from beq_false_of_ne n2]; rfl
    rcases k2 with ⟨rfl, g2⟩ | ⟨n2, -, g2⟩
    case inr => exact absurd g1.symm (g2 _)
    rcases k3 with ⟨rfl, g3⟩ | ⟨n3, -, g3⟩
    case inr => rw [show (e3 != 0) = true from bne_iff_ne.2 n3]; rfl
    obtain rfl := good_uniq g1.symm g2
    simp only [bne_self_eq_false, cond_false]
    rw [Counts_self hN g1.ck.len fun x hx => (tok_len (g1.ck.tok hx)).2]
    have l1 := g1.ck.len
    have l3 := g3.ck.len
    obtain ⟨l, e5, s5, k5⟩ := sum_cases hN (c := cd) (d := b) (by omega) (by omega) (by omega) (by omega)
    obtain ⟨m, e6, s6, k6⟩ := sum_cases hN (c := c) (d := db) (by omega) (by omega) (by omega) (by omega)
    simp only [Option.bind_some, Bool.not_true, cond_false, s5, s6]
    rcases k5 with ⟨rfl, g5⟩ | ⟨n5, -, -⟩
    case inr => rw [show (e5 != 0) = true from bne_iff_ne.2 n5, cond_true]
    rcases k6 with ⟨rfl, g6⟩ | ⟨n6, -, -⟩
    case inr => rw [show (e6 != 0) = true from bne_iff_ne.2 n6, cond_true]; rfl
    have elm : l = m := val_uniq g5.ck.rise g6.ck.rise (fun x hx => (g5.ck.n x hx).1) (fun x hx => (g6.ck.n x hx).1) fun t => by
      rw [(g5.ok.2.2 t).1, (g6.ok.2.2 t).1, (g1.ok.2.2 t).1, (g3.ok.2.2 t).1, Int.add_assoc]
    subst elm
    simp only [bne_self_eq_false, cond_false]
    rw [Counts_self hN g5.ck.len fun x hx => (tok_len (g5.ck.tok hx)).2]; rfl
  simp only [D_keep_CountsGroup, keep_CountsGroup_4, s1, s2, s3, s4, Option.bind_some, joinD, loopE]
  by_cases hc : CK c
  case neg => rw [show (e4 == 0) = false from beq_false_of_ne fun h => hc (k4.1 h), cond_false]; exact hfin
  obtain rfl := k4.2 hc
  have h64 := hc.len
  rw [beq_self_eq_true, cond_true]
  refine loopD_path (g := fun (s : Int × List Cn) kn => keep_CountsGroup_3 N (fun s => keep_CountsGroup_2 N (fun s => keep_CountsGroup_1 N s.1 s.2.1 s.2.2.1 s.2.2.2.1 s.2.2.2.2.1 s.2.2.2.2.2.1 s.2.2.2.2.2.2.1 s.2.2.2.2.2.2.2) s.1 s.2.1 s.2.2.1 s.2.2.2.1 s.2.2.2.2.1 s.2.2.2.2.2.1 s.2.2.2.2.2.2.1 s.2.2.2.2.2.2.2.1 s.2.2.2.2.2.2.2.2)
    c b cd e1 dc e2 db e3 c (c.length : Int) s.1 s.2 (backE (c, b, cd, e1, dc, e2, db, e3, c, (c.length : Int)) kn)) c.length (fun i => ((i : Int), ngt (c.take i))) (fun i hi kn => ?_) (fun kn => ?_) (by omega)
  · have hx := ov_false.1 (hc.n _ (nth_mem (z := (([], 0) : Cn)) hi)).2
    have hw : IntKind.i64.wrap (0 - (nth ([], (0 : Int)) c i).2) = -(nth ([], (0 : Int)) c i).2 := by rw [w64 (by omega) (by omega)]; omega
    simp only [keep_CountsGroup_3, lt_d hi, ge0_d, Bool.and_self, cond_true, Int.toNat_natCast, hw]
    rw [d_true (show ((ngt (c.take i)).length + [((nth ([], (0 : Int)) c i).1, -(nth ([], (0 : Int)) c i).2)].length) * 32 ≤ 140737488355328 by simp only [ngt, List.length_map, List.length_take, List.length_singleton]; omega), show Nat.ble 1 32 = true from rfl, Bool.and_self, cond_true, backE_eq, w64 (by omega) (by omega),
      take_nth (z := ([], (0 : Int))) hi]
    unfold ngt
    rw [List.map_append]; rfl
  · have g0 : good c (ngt c) [] := good_mk (cp_ngt hc) ck_nil fun t => by rw [val_ngt]; show (0 : Int) = _; omega
    have g9 : good c [] c := good_mk ⟨hc, ck_nil, fun _ h => absurd h (by simp)⟩ hc fun t => by show _ = val c t + 0; omega
    simp only [keep_CountsGroup_3, lt_self, cond_false, List.take_length, keep_CountsGroup_2]
    rw [sum_good hN g0, sum_good hN g9]
    simp only [Option.bind_some, bne_self_eq_false, cond_false]
    rw [Counts_self hN hc.len fun x hx => (tok_len (hc.tok hx)).2]
    simp only [Option.bind_some, Bool.not_true, cond_false]
    exact hfin
set_option maxRecDepth 100000 in
theorem lifted_CountsGroup (os : Os) (started : os.Started) (H : Type) (enc : TypeId × Value → H) :
    ReturnsInHanded {} Try.checked os 12 .any (Rows.countsGroupSpec.pre6 enc Try.prog Try.f12 Rows.countsGroupRow.domain false) (Rows.countsGroupSpec.post enc Try.prog Try.f12 false true false false) := by
  refine returnsInHanded_of_change_sized (C := Try.checked) own started (by kernel_rfl) Try.func12
    (ChangeSpec.witness6 (enc := enc) (C := Try.checked) false ⟨#[], #[.slice none 0 0, .slice none 0 0, .slice none 0 0], []⟩ 8 (by kernel_rfl) (by kernel_rfl) (by kernel_rfl) (by kernel_rfl)) ?_
  intro W base args ds gs before hval0 hW _ hsz0 _
  have hgw : GW [] W := fun _ h => nomatch h
  have hval : ∀ (j : Nat) t v, Try.f12.params[j]? = some t → args[j]? = some v → Value.okWide Try.prog W .any base t v := hval0
  have hW' := hW
  obtain ⟨p, q, hA0, hV, rfl, _, _⟩ := hW
  have hA : DataW.TrodAll enc Try.prog W 0 (fun _ => true) true Try.f12.params.toList args.toList ds p := hA0
  rw [Try.params12] at hA hval
  obtain ⟨v0, vs0, d0, ds0, p0, q0, hargs, rfl, rfl, h0, r0⟩ := trodAll_cons hA
  obtain ⟨v1, vs1, d1, ds1, p1, q1, rfl, rfl, rfl, h1, r1⟩ := trodAll_cons r0
  obtain ⟨v2, vs2, d2, ds2, p2, q2, rfl, rfl, rfl, h2, r2⟩ := trodAll_cons r1
  obtain ⟨rfl, rfl, rfl⟩ := trodAll_nil r2
  obtain rfl : args = #[v0, v1, v2] := by cases args; simp_all
  obtain ⟨rfl, rfl⟩ := trodVars_none hV
  have hall := List.all_eq_true.1 hsz0
  clear hA0 hval0 hsz0
  simp only [List.append_nil] at hW'
  have hlt0 : ∀ x ∈ p0, x.block < W.heap.size := fun x hx => hW'.lt x (by simp [hx])
  have hlt1 : ∀ x ∈ p1, x.block < W.heap.size := fun x hx => hW'.lt x (by simp [hx])
  have hlt2 : ∀ x ∈ p2, x.block < W.heap.size := fun x hx => hW'.lt x (by simp [hx])
  obtain ⟨x0, g0, w0⟩ := open_kd (k := .dat (.sl (.pair (.sl (.int .i64)) (.int .i64)))) (by kernel_rfl) (hval 0 47 v0 rfl rfl) h0
  obtain ⟨x1, g1, w1⟩ := open_kd (k := .dat (.sl (.pair (.sl (.int .i64)) (.int .i64)))) (by kernel_rfl) (hval 1 47 v1 rfl rfl) h1
  obtain ⟨x2, g2, w2⟩ := open_kd (k := .dat (.sl (.pair (.sl (.int .i64)) (.int .i64)))) (by kernel_rfl) (hval 2 47 v2 rfl rfl) h2
  have z0 : x0.length * Try.prog.bytesOf 52 ≤ reachBytes := open_room (t := 47) (r1 := []) (by kernel_rfl) g0 h0 fun n hn => by
    refine of_decide_eq_true (hall n ?_)
    rw [Try.params12]
    change n ∈ DataW.weightsEach Try.prog [47, 47, 47] [d0, d1, d2]
    simp only [DataW.weightsEach]
    exact List.mem_append_left _ (by simpa using hn)
  have z1 : x1.length * Try.prog.bytesOf 52 ≤ reachBytes := open_room (t := 47) (r1 := []) (by kernel_rfl) g1 h1 fun n hn => by
    refine of_decide_eq_true (hall n ?_)
    rw [Try.params12]
    change n ∈ DataW.weightsEach Try.prog [47, 47, 47] [d0, d1, d2]
    simp only [DataW.weightsEach]
    exact List.mem_append_right _ (List.mem_append_left _ (by simpa using hn))
  have z2 : x2.length * Try.prog.bytesOf 52 ≤ reachBytes := open_room (t := 47) (r1 := []) (by kernel_rfl) g2 h2 fun n hn => by
    refine of_decide_eq_true (hall n ?_)
    rw [Try.params12]
    change n ∈ DataW.weightsEach Try.prog [47, 47, 47] [d0, d1, d2]
    simp only [DataW.weightsEach]
    exact List.mem_append_right _ (List.mem_append_right _ (List.mem_append_left _ (by simpa using hn)))
  obtain ⟨N, hN⟩ := law_CountsGroup x0 x1 x2 w0 w1 w2 (by simpa only [show Try.prog.bytesOf 52 = 32 by kernel_rfl] using z0) (by simpa only [show Try.prog.bytesOf 52 = 32 by kernel_rfl] using z1) (by simpa only [show Try.prog.bytesOf 52 = 32 by kernel_rfl] using z2)
  refine (sp_keep_CountsGroup N (fun _ => False) W (x0, x1, x2, ()) (true, ()) [v0, v1, v2] (fun _ h => h.elim) hgw ⟨v0, _, rfl, g0, ⟨v1, _, rfl, g1, ⟨v2, _, rfl, g2, rfl⟩⟩⟩ hN).mono ?_
  rintro e W' ⟨v, rfl, hg, hr⟩
  replace hg := hg.old
  have hr : v = .bool true := by simpa only [kvals, retV, Kd.val, Go.Abs.enc, RV] using hr
  subst hr
  exact ⟨_, rfl, _, _, _, [], p0 ++ (p1 ++ (p2 ++ [])), [], hW', (trodAll_cons_mk (shut_bool (show Try.prog.underlying 4 = some .bool by kernel_rfl) _) trodAll_mk0), (trodAll_cons_mk (Below.trod laidOut (by kernel_rfl) (of_decide_eq_true (by kernel_rfl)) h0 hg hlt0) (trodAll_cons_mk (Below.trod laidOut (by kernel_rfl) (of_decide_eq_true (by kernel_rfl)) h1 hg hlt1) (trodAll_cons_mk (Below.trod laidOut (by kernel_rfl) (of_decide_eq_true (by kernel_rfl)) h2 hg hlt2) trodAll_mk0))), rfl, hg.frame _, fun h => by cases h⟩

/-- The statement: whatever the arguments, the law's function returns true and leaves them as they were. -/
theorem countsGroup_holds : Rows.CountsGroupSaid :=
  OpenClaim.holds_of_wide 12 Try.f12 rfl rfl rfl rfl rfl rfl rfl ⟨rfl, rfl, rfl, rfl, rfl⟩ rfl rfl rfl rfl rfl (by kernel_rfl) Try.func12 (by kernel_rfl)
    (of_decide_eq_true (by kernel_rfl)) (by unfold Func.isWrapper; first | (rw [if_pos (by decide +kernel)]; kernel_rfl) | (rw [if_neg (by decide +kernel)]; exact ⟨rfl, rfl⟩))
    (fun os started H enc _ => lifted_CountsGroup os started H enc)
end Go.Proofs.Ytololihlpldcdaa
