/- Requests for other entries do not matter: the law answers true for every lattice, every table, every script and any node and levels. The listed variables read as the program lays them. -/
import Derived.Test.YtopjalcimclaaaaDoorPolS
import Derived.Test.YtopjalcimclaaaaDoorFrameH
namespace Go.Proofs.YtopjalcimclaaaaDoor
open Go Go.ChangeShapes Go.WideShapes Go.ChangeAt Go.WideMaps Go.WideElems Go.RowKit Go.Abs Go.Pol
-- watershed/watershedkeep.PolicyApart
abbrev Ks_keep_PolicyApart : List Kd := [.dat (.pair (.int .i64) (.sl (.int .u32))), .dat (.sl (.pair (.int .i64) (.pair (.int .i64) (.pair (.int .i64) (.int .i64))))), .dat (.sl (.pair (.int .i64) (.pair (.int .i64) (.pair (.int .i64) (.pair (.int .i64) (.int .i64)))))), .dat (.int .i64), .dat (.int .i64), .dat (.int .i64)]
abbrev Rk_keep_PolicyApart : List Kd := [.dat (.bool)]
abbrev Rt_keep_PolicyApart : Type := Dens Rk_keep_PolicyApart
noncomputable def C_keep_PolicyApart (_N : Nat) : Ctx := { T := [(3, ⟨.int .i64, 1, 8, some (.int .i64), [.int .i64 (0 : Int)], false, []⟩), (24, ⟨.struct [(0, 3), (1, 22)], 2, 32, some (.pair (.int .i64) (.sl (.int .u32))), [.int .i64 (0 : Int), .nil], false, []⟩), (26, ⟨.slice 46, 1, 24, some (.sl (.pair (.int .i64) (.pair (.int .i64) (.pair (.int .i64) (.pair (.int .i64) (.int .i64)))))), [.nil], false, []⟩), (27, ⟨.slice 29, 1, 24, some (.sl (.int .i64)), [.nil], false, []⟩), (29, ⟨.int .i64, 1, 8, some (.int .i64), [.int .i64 (0 : Int)], false, []⟩), (31, ⟨.struct [(0, 29), (1, 3)], 2, 16, some (.pair (.int .i64) (.int .i64)), [.int .i64 (0 : Int), .int .i64 (0 : Int)], true, []⟩), (46, ⟨.struct [(0, 3), (1, 3), (2, 3), (3, 3), (4, 3)], 5, 40, some (.pair (.int .i64) (.pair (.int .i64) (.pair (.int .i64) (.pair (.int .i64) (.int .i64))))), [.int .i64 (0 : Int), .int .i64 (0 : Int), .int .i64 (0 : Int), .int .i64 (0 : Int), .int .i64 (0 : Int)], true, []⟩)], G := findE [mkQ 7 Ks_policy_Play Rk_policy_Play (D_policy_Play _N), mkD 7 Ks_policy_Play Rk_policy_Play (D_policy_Play _N), mkP 12 Ks_ref_Codes Rk_ref_Codes (D_ref_Codes _N)], I := findI [], N := _N, n := 94, fx := [2, 3], fl := 0, gs := Gs }
noncomputable def keep_PolicyApart_1 (_N : Nat) (_v58 : List (Int × Int × Int × Int)) (_v59 : Int) (_v60 : List Int) (_v63 : List (Int × Int × Int × Int × Int)) (_v64 : List Int) : Option Rt_keep_PolicyApart :=
  ((D_policy_Play _N ((_v59, _v60), _v58, _v63, ())).bind fun _y68 => (bif (_y68.2.2.1.1 == (0 : Int)) then ((D_ref_Codes _N (_y68.1, _v64, ())).bind fun _y69 => (some (_y69.1, ()))) else (some (false, ()))))
noncomputable def keep_PolicyApart_2 (_N : Nat) (_kn71 : ((List (Int × Int × Int × Int)) × Int × Int × Int × List Int × (List (Int × Int × Int × Int × Int)) × Int × Int × List Int × Int × Int) × (Int × (List (Int × Int × Int × Int × Int)) × List Int) → Option Rt_keep_PolicyApart) (_v39 : List (Int × Int × Int × Int)) (_v40 : Int) (_v41 : Int) (_v42 : Int) (_v43 : List Int) (_v44 : List (Int × Int × Int × Int × Int)) (_v45 : Int) (_v46 : Int) (_v47 : Int) (_v48 : List Int) (_v49 : Int) (_v50 : Int) (_v51 : List (Int × Int × Int × Int × Int)) (_v52 : List Int) : Option Rt_keep_PolicyApart :=
  (_kn71 ((_v39, _v40, _v41, _v42, _v43, _v44, _v45, _v47, _v48, _v49, _v50), ((IntKind.i64.wrap (_v46 + (1 : Int))), _v51, _v52)))
noncomputable def keep_PolicyApart_3 (_N : Nat) (_k72 : ((List (Int × Int × Int × Int)) × Int × Int × Int × List Int × (List (Int × Int × Int × Int × Int)) × Int × Int × Int × List Int × Int × Int × (List (Int × Int × Int × Int × Int)) × List Int × Int × Int × Int × Int × Int) → Option Rt_keep_PolicyApart) (_v14 : List (Int × Int × Int × Int)) (_v15 : Int) (_v16 : Int) (_v17 : Int) (_v18 : List Int) (_v19 : Int) (_v20 : List (Int × Int × Int × Int × Int)) (_v21 : Int) (_v22 : Int) (_v23 : Bool) (_v24 : Int) (_v25 : List Int) (_v26 : Int) (_v27 : Int) (_v34 : List (Int × Int × Int × Int × Int)) (_v37 : List Int) (_v30 : Int) (_v31 : Int) (_v32 : Int) (_v35 : Int) (_v38 : Int) : Option Rt_keep_PolicyApart :=
  (bif _v23 then (bif (decide ((_v34.length + ([(_v30, (_v31, (_v32, (_v35, _v38))))]).length) * 40 ≤ 140737488355328) && Nat.ble 1 40) then (bif (decide (0 ≤ _v19) && decide (_v19 < (_v18.length : Int))) then (bif (decide ((_v37.length + ([(nth (0 : Int) _v18 (_v19).toNat)]).length) * 8 ≤ 140737488355328) && Nat.ble 1 8) then (_k72 (_v14, _v15, _v16, _v17, _v18, _v20, _v21, _v22, _v24, _v25, _v26, _v27, (_v34 ++ [(_v30, (_v31, (_v32, (_v35, _v38))))]), (_v37 ++ [(nth (0 : Int) _v18 (_v19).toNat)]), _v30, _v31, _v32, _v35, _v38)) else none) else none) else none) else (_k72 (_v14, _v15, _v16, _v17, _v18, _v20, _v21, _v22, _v24, _v25, _v26, _v27, _v34, _v37, _v30, _v31, _v32, _v35, _v38)))
noncomputable def keep_PolicyApart_4 (_N : Nat) (_k70 : ((List (Int × Int × Int × Int)) × Int × List Int × Int × Int × (List (Int × Int × Int × Int × Int)) × List Int) → Option Rt_keep_PolicyApart) (_v2 : List (Int × Int × Int × Int)) (_v3 : Int) (_v4 : Int) (_v5 : Int) (_v6 : List Int) (_v7 : List (Int × Int × Int × Int × Int)) (_v8 : Int) (_v10 : Int) (_v11 : List Int) (_v12 : Int) (_v13 : Int) (_v9 : Int) (_v33 : List (Int × Int × Int × Int × Int)) (_v36 : List Int) (_kn71 : ((List (Int × Int × Int × Int)) × Int × Int × Int × List Int × (List (Int × Int × Int × Int × Int)) × Int × Int × List Int × Int × Int) × (Int × (List (Int × Int × Int × Int × Int)) × List Int) → Option Rt_keep_PolicyApart) : Option Rt_keep_PolicyApart :=
  (bif (decide (_v9 < _v8)) then (joinD (fun (_s : (List (Int × Int × Int × Int)) × Int × Int × Int × List Int × (List (Int × Int × Int × Int × Int)) × Int × Int × Int × List Int × Int × Int × (List (Int × Int × Int × Int × Int)) × List Int × Int × Int × Int × Int × Int) => keep_PolicyApart_2 _N _kn71 _s.1 _s.2.1 _s.2.2.1 _s.2.2.2.1 _s.2.2.2.2.1 _s.2.2.2.2.2.1 _s.2.2.2.2.2.2.1 _s.2.2.2.2.2.2.2.1 _s.2.2.2.2.2.2.2.2.1 _s.2.2.2.2.2.2.2.2.2.1 _s.2.2.2.2.2.2.2.2.2.2.1 _s.2.2.2.2.2.2.2.2.2.2.2.1 _s.2.2.2.2.2.2.2.2.2.2.2.2.1 _s.2.2.2.2.2.2.2.2.2.2.2.2.2.1) fun _k72 => (bif (decide (0 ≤ _v9) && decide (_v9 < (_v7.length : Int))) then (joinD (fun (_s : (List (Int × Int × Int × Int)) × Int × Int × Int × List Int × Int × (List (Int × Int × Int × Int × Int)) × Int × Int × Bool × Int × List Int × Int × Int × (List (Int × Int × Int × Int × Int)) × List Int × Int × Int × Int × Int × Int) => keep_PolicyApart_3 _N _k72 _s.1 _s.2.1 _s.2.2.1 _s.2.2.2.1 _s.2.2.2.2.1 _s.2.2.2.2.2.1 _s.2.2.2.2.2.2.1 _s.2.2.2.2.2.2.2.1 _s.2.2.2.2.2.2.2.2.1 _s.2.2.2.2.2.2.2.2.2.1 _s.2.2.2.2.2.2.2.2.2.2.1 _s.2.2.2.2.2.2.2.2.2.2.2.1 _s.2.2.2.2.2.2.2.2.2.2.2.2.1 _s.2.2.2.2.2.2.2.2.2.2.2.2.2.1 _s.2.2.2.2.2.2.2.2.2.2.2.2.2.2.1 _s.2.2.2.2.2.2.2.2.2.2.2.2.2.2.2.1 _s.2.2.2.2.2.2.2.2.2.2.2.2.2.2.2.2.1 _s.2.2.2.2.2.2.2.2.2.2.2.2.2.2.2.2.2.1 _s.2.2.2.2.2.2.2.2.2.2.2.2.2.2.2.2.2.2.1 _s.2.2.2.2.2.2.2.2.2.2.2.2.2.2.2.2.2.2.2.1 _s.2.2.2.2.2.2.2.2.2.2.2.2.2.2.2.2.2.2.2.2) fun _k73 => (bif (((nth ((0 : Int), ((0 : Int), ((0 : Int), ((0 : Int), (0 : Int))))) _v7 (_v9).toNat).1) != (1 : Int)) then (_k73 (_v2, _v3, _v4, _v5, _v6, _v9, _v7, _v8, _v9, true, _v10, _v11, _v12, _v13, _v33, _v36, (nth ((0 : Int), ((0 : Int), ((0 : Int), ((0 : Int), (0 : Int))))) _v7 (_v9).toNat).1, ((nth ((0 : Int), ((0 : Int), ((0 : Int), ((0 : Int), (0 : Int))))) _v7 (_v9).toNat).2).1, (((nth ((0 : Int), ((0 : Int), ((0 : Int), ((0 : Int), (0 : Int))))) _v7 (_v9).toNat).2).2).1, ((((nth ((0 : Int), ((0 : Int), ((0 : Int), ((0 : Int), (0 : Int))))) _v7 (_v9).toNat).2).2).2).1, ((((nth ((0 : Int), ((0 : Int), ((0 : Int), ((0 : Int), (0 : Int))))) _v7 (_v9).toNat).2).2).2).2)) else (bif ((((nth ((0 : Int), ((0 : Int), ((0 : Int), ((0 : Int), (0 : Int))))) _v7 (_v9).toNat).2).1) == _v3) then (bif (((((nth ((0 : Int), ((0 : Int), ((0 : Int), ((0 : Int), (0 : Int))))) _v7 (_v9).toNat).2).2).1) == _v4) then (_k73 (_v2, _v3, _v4, _v5, _v6, _v9, _v7, _v8, _v9, ((((((nth ((0 : Int), ((0 : Int), ((0 : Int), ((0 : Int), (0 : Int))))) _v7 (_v9).toNat).2).2).2).1) == _v5), _v10, _v11, _v12, _v13, _v33, _v36, (nth ((0 : Int), ((0 : Int), ((0 : Int), ((0 : Int), (0 : Int))))) _v7 (_v9).toNat).1, ((nth ((0 : Int), ((0 : Int), ((0 : Int), ((0 : Int), (0 : Int))))) _v7 (_v9).toNat).2).1, (((nth ((0 : Int), ((0 : Int), ((0 : Int), ((0 : Int), (0 : Int))))) _v7 (_v9).toNat).2).2).1, ((((nth ((0 : Int), ((0 : Int), ((0 : Int), ((0 : Int), (0 : Int))))) _v7 (_v9).toNat).2).2).2).1, ((((nth ((0 : Int), ((0 : Int), ((0 : Int), ((0 : Int), (0 : Int))))) _v7 (_v9).toNat).2).2).2).2)) else (_k73 (_v2, _v3, _v4, _v5, _v6, _v9, _v7, _v8, _v9, false, _v10, _v11, _v12, _v13, _v33, _v36, (nth ((0 : Int), ((0 : Int), ((0 : Int), ((0 : Int), (0 : Int))))) _v7 (_v9).toNat).1, ((nth ((0 : Int), ((0 : Int), ((0 : Int), ((0 : Int), (0 : Int))))) _v7 (_v9).toNat).2).1, (((nth ((0 : Int), ((0 : Int), ((0 : Int), ((0 : Int), (0 : Int))))) _v7 (_v9).toNat).2).2).1, ((((nth ((0 : Int), ((0 : Int), ((0 : Int), ((0 : Int), (0 : Int))))) _v7 (_v9).toNat).2).2).2).1, ((((nth ((0 : Int), ((0 : Int), ((0 : Int), ((0 : Int), (0 : Int))))) _v7 (_v9).toNat).2).2).2).2))) else (_k73 (_v2, _v3, _v4, _v5, _v6, _v9, _v7, _v8, _v9, false, _v10, _v11, _v12, _v13, _v33, _v36, (nth ((0 : Int), ((0 : Int), ((0 : Int), ((0 : Int), (0 : Int))))) _v7 (_v9).toNat).1, ((nth ((0 : Int), ((0 : Int), ((0 : Int), ((0 : Int), (0 : Int))))) _v7 (_v9).toNat).2).1, (((nth ((0 : Int), ((0 : Int), ((0 : Int), ((0 : Int), (0 : Int))))) _v7 (_v9).toNat).2).2).1, ((((nth ((0 : Int), ((0 : Int), ((0 : Int), ((0 : Int), (0 : Int))))) _v7 (_v9).toNat).2).2).2).1, ((((nth ((0 : Int), ((0 : Int), ((0 : Int), ((0 : Int), (0 : Int))))) _v7 (_v9).toNat).2).2).2).2))))) else none)) else (_k70 (_v2, _v10, _v11, _v12, _v13, _v33, _v36)))
noncomputable def keep_PolicyApart_5 (_N : Nat) (_x1 : Int × List Int) (_x2 : List (Int × Int × Int × Int)) (_x3 : List (Int × Int × Int × Int × Int)) (_x4 : Int) (_x5 : Int) (_x6 : Int) : Option Rt_keep_PolicyApart :=
  ((D_policy_Play _N ((_x1.1, _x1.2), _x2, _x3, ())).bind fun _y67 => (bif (_y67.2.2.1.1 != (0 : Int)) then (some (true, ())) else (bif ((_y67.1.length : Int) != (_x3.length : Int)) then (some (false, ())) else (joinD (fun (_s : (List (Int × Int × Int × Int)) × Int × List Int × Int × Int × (List (Int × Int × Int × Int × Int)) × List Int) => keep_PolicyApart_1 _N _s.1 _s.2.1 _s.2.2.1 _s.2.2.2.2.2.1 _s.2.2.2.2.2.2) fun _k70 => (loopE (fun (_c : (List (Int × Int × Int × Int)) × Int × Int × Int × List Int × (List (Int × Int × Int × Int × Int)) × Int × Int × List Int × Int × Int) (_s : Int × (List (Int × Int × Int × Int × Int)) × List Int) _kn => keep_PolicyApart_4 _N _k70 _c.1 _c.2.1 _c.2.2.1 _c.2.2.2.1 _c.2.2.2.2.1 _c.2.2.2.2.2.1 _c.2.2.2.2.2.2.1 _c.2.2.2.2.2.2.2.1 _c.2.2.2.2.2.2.2.2.1 _c.2.2.2.2.2.2.2.2.2.1 _c.2.2.2.2.2.2.2.2.2.2 _s.1 _s.2.1 _s.2.2 _kn) _N (_x2, _x4, _x5, _x6, _y67.1, _x3, (_x3.length : Int), _x1.1, _x1.2, _y67.2.2.1.1, _y67.2.2.1.2) ((0 : Int), [], []))))))
noncomputable def D_keep_PolicyApart (_N : Nat) (_x : Dens Ks_keep_PolicyApart) : Option Rt_keep_PolicyApart := keep_PolicyApart_5 _N _x.1 _x.2.1 _x.2.2.1 _x.2.2.2.1 _x.2.2.2.2.1 _x.2.2.2.2.2.1
theorem sp_keep_PolicyApart (_N : Nat) : SpecD Tryd.prog Gs 5 Ks_keep_PolicyApart Rk_keep_PolicyApart (D_keep_PolicyApart _N) := mkSpD (fn := Tryd.f5) (c := bodyOf Tryd.f5) (C := C_keep_PolicyApart _N)
    (a := .two .none (.two .none (.two .none (.two .none (.two .none (.two .none (.join 4 ⟨[(1, .sl (.pair (.int .i64) (.pair (.int .i64) (.pair (.int .i64) (.int .i64))))), (6, .ptr 0 0), (15, .ptr 1 0), (16, .slc 2 0), (17, .slc 3 0)], [.cells [.int .i64, .sl (.int .u32)], .cells [.int .i64, .int .i64], .row false 0 46 (.pair (.int .i64) (.pair (.int .i64) (.pair (.int .i64) (.pair (.int .i64) (.int .i64))))), .row false 0 29 (.int .i64)]⟩ (.two .none (.one (.obj 16 46 (.pair (.int .i64) (.pair (.int .i64) (.pair (.int .i64) (.pair (.int .i64) (.int .i64))))) (.obj 17 29 (.int .i64) (.loop 4 ⟨[(1, .sl (.pair (.int .i64) (.pair (.int .i64) (.pair (.int .i64) (.int .i64))))), (3, .int .i64), (4, .int .i64), (5, .int .i64), (6, .ptr 0 0), (13, .sl (.int .i64)), (15, .ptr 1 0), (16, .slc 2 0), (17, .slc 3 0), (38, .sl (.pair (.int .i64) (.pair (.int .i64) (.pair (.int .i64) (.pair (.int .i64) (.int .i64)))))), (39, .int .i64), (40, .int .i64)], [.cells [.int .i64, .sl (.int .u32)], .cells [.int .i64, .int .i64], .row false 0 46 (.pair (.int .i64) (.pair (.int .i64) (.pair (.int .i64) (.pair (.int .i64) (.int .i64))))), .row false 0 29 (.int .i64)]⟩ [7, 12, 13] (.two .none (.two .none (.join 5 ⟨[(1, .sl (.pair (.int .i64) (.pair (.int .i64) (.pair (.int .i64) (.int .i64))))), (3, .int .i64), (4, .int .i64), (5, .int .i64), (6, .ptr 0 0), (13, .sl (.int .i64)), (15, .ptr 1 0), (16, .slc 2 0), (17, .slc 3 0), (38, .sl (.pair (.int .i64) (.pair (.int .i64) (.pair (.int .i64) (.pair (.int .i64) (.int .i64)))))), (39, .int .i64), (40, .int .i64)], [.cells [.int .i64, .sl (.int .u32)], .cells [.int .i64, .int .i64], .row false 0 46 (.pair (.int .i64) (.pair (.int .i64) (.pair (.int .i64) (.pair (.int .i64) (.int .i64))))), .row false 0 29 (.int .i64), .cells [.int .i64, .int .i64, .int .i64, .int .i64, .int .i64]]⟩ (.one (.two .none (.join 5 ⟨[(1, .sl (.pair (.int .i64) (.pair (.int .i64) (.pair (.int .i64) (.int .i64))))), (3, .int .i64), (4, .int .i64), (5, .int .i64), (6, .ptr 0 0), (13, .sl (.int .i64)), (15, .ptr 1 0), (16, .slc 2 0), (17, .slc 3 0), (18, .int .i64), (19, .ptr 4 0), (38, .sl (.pair (.int .i64) (.pair (.int .i64) (.pair (.int .i64) (.pair (.int .i64) (.int .i64)))))), (39, .int .i64), (40, .int .i64), (65, .bool)], [.cells [.int .i64, .sl (.int .u32)], .cells [.int .i64, .int .i64], .row false 0 46 (.pair (.int .i64) (.pair (.int .i64) (.pair (.int .i64) (.pair (.int .i64) (.int .i64))))), .row false 0 29 (.int .i64), .cells [.int .i64, .int .i64, .int .i64, .int .i64, .int .i64]]⟩ .none .none))) .none)))))))) .none)))))))
    (by kernel_rfl) rfl (by kernel_rfl) (by kernel_rfl) ⟨rfl, by unfold TOk; kernel_rfl, gOk_of rfl rfl (List.forall_mem_cons.2 ⟨qen_policy_Play _N, (List.forall_mem_cons.2 ⟨en_policy_Play _N, (List.forall_mem_cons.2 ⟨en_ref_Codes _N, (List.forall_mem_nil _)⟩)⟩)⟩), iOk_of rfl rfl (List.forall_mem_nil _), rfl⟩ (fun _x => by kernel_rfl)
theorem en_keep_PolicyApart (_N : Nat) : EntOk Tryd.prog Gs (mkP 5 Ks_keep_PolicyApart Rk_keep_PolicyApart (D_keep_PolicyApart _N)) := entP ⟨Tryd.f5, bodyOf Tryd.f5, by kernel_rfl, by kernel_rfl, rfl⟩ (by kernel_rfl) (sp_keep_PolicyApart _N)
def ownA (r : PK) (l : List Req) : List Req := l.filter (mine r)
def wantA (r : PK) (l : List Req) (cs : List Int) : List Int := ((l.zip cs).filter fun p => mine r p.1).map (·.2)
theorem wantA_len (r : PK) (l : List Req) (cs : List Int) : (wantA r l cs).length ≤ l.length := by
  unfold wantA
  rw [List.length_map]
  refine Nat.le_trans (List.length_filter_le _ _) ?_
  rw [List.length_zip]; omega
theorem ownA_snoc (r : PK) (l : List Req) (q : Req) : ownA r (l ++ [q]) = if mine r q = true then ownA r l ++ [q] else ownA r l := by
  unfold ownA
  rw [List.filter_append, List.filter_cons]
  split <;> simp
theorem wantA_snoc (r : PK) {l : List Req} {cs : List Int} (h : l.length = cs.length) (q : Req) (c : Int) : wantA r (l ++ [q]) (cs ++ [c]) = if mine r q = true then wantA r l cs ++ [c] else wantA r l cs := by
  unfold wantA
  rw [List.zip_append h, List.filter_append]
  show List.map _ (_ ++ List.filter _ [(q, c)]) = _
  rw [List.filter_cons]
  simp only
  split <;> simp
theorem law_PolicyApart (o : Int × List Int) (table : List Entr) (script : List Req) (at_ fr to : Int) (_wo : wfS (.pair (.int .i64) (.sl (.int .u32))) o) (_wt : wfS (.sl (.pair (.int .i64) (.pair (.int .i64) (.pair (.int .i64) (.int .i64))))) table) (_ws : wfS (.sl (.pair (.int .i64) (.pair (.int .i64) (.pair (.int .i64) (.pair (.int .i64) (.int .i64)))))) script)
    (_wa : wfS (.int .i64) at_) (_wf : wfS (.int .i64) fr) (_wq : wfS (.int .i64) to) :
    ∃ N, D_keep_PolicyApart N (o, table, script, at_, fr, to, ()) = some (true, ()) := by
  refine ⟨1000, ?_⟩
  have hN : 1000 ≤ 1000 := Nat.le_refl _
  obtain ⟨n, up⟩ := o
  have hw : WL up := WL_of _wo.2
  simp only [D_keep_PolicyApart, keep_PolicyApart_5]
  rcases Open_eq hN hw n table with ⟨c, a, hc, h⟩ | ⟨m, J, M, B, T, Q, d9, rfl, hO, h9, hT, h⟩
  · obtain ⟨c', a', hc', h'⟩ := Play_no hc h script
    rw [h', Option.bind_some, show (c' != 0) = true from bne_iff_ne.2 hc']; rfl
  have hl : up.length = m := by have := hO.len; simpa using this
  rcases Play_eq hN hw hl h9 hT h script with ⟨h1, h2⟩ | ⟨h1, h2⟩
  · rw [h2]; rfl
  rw [h2]
  have hlenc := run_len (m : Int) (unB up) Q script st0
  have hbne : (((runP (m : Int) (unB up) Q script st0).1.length : Int) != (script.length : Int)) = false := by rw [hlenc]; exact bne_self_eq_false _
  simp only [Option.bind_some, bne_self_eq_false, cond_false, hbne, joinD, loopE]
  have hap := run_apart (m : Int) (unB up) Q (at_, fr, to) script st0 st0 rfl
  generalize (runP (m : Int) (unB up) Q script st0).1 = cs at hlenc hap
  generalize (runP (m : Int) (unB up) Q script st0).2.told = ls
  generalize hr : ((at_, fr, to) : PK) = r at hap
  have heta : ∀ x : Req, (x.1, x.2.1, x.2.2.1, x.2.2.2.1, x.2.2.2.2) = x := fun _ => rfl
  refine loopD_path (n := script.length) (st := fun i => ((i : Int), ownA r (script.take i), wantA r (script.take i) (cs.take i))) (fun i hi kn => ?_) (fun kn => ?_) (by omega)
  · have hi' : i < cs.length := by omega
    rw [take_nthP (z := ((0 : Int), (0 : Int), (0 : Int), (0 : Int), (0 : Int))) hi, take_nthP (z := (0 : Int)) hi', ownA_snoc, wantA_snoc r (by simp only [List.length_take]; omega)]
    have l1 : (ownA r (script.take i)).length ≤ 60 := by
      have h3 : (ownA r (script.take i)).length ≤ (script.take i).length := List.length_filter_le _ _
      rw [List.length_take] at h3; omega
    have l2 : (wantA r (script.take i) (cs.take i)).length ≤ 60 := by
      have h3 := wantA_len r (script.take i) (cs.take i)
      rw [List.length_take] at h3; omega
    generalize ownA r (script.take i) = own at l1
    generalize wantA r (script.take i) (cs.take i) = want at l2
    generalize hq : nth ((0 : Int), (0 : Int), (0 : Int), (0 : Int), (0 : Int)) script i = q
    have c1 : decide ((own.length + ([q] : List Req).length) * 40 ≤ 140737488355328) = true := d_true (by simp only [List.length_singleton]; omega)
    have c2 : decide ((want.length + ([nth (0 : Int) cs i] : List Int).length) * 8 ≤ 140737488355328) = true := d_true (by simp only [List.length_singleton]; omega)
    simp only [keep_PolicyApart_4, keep_PolicyApart_3, keep_PolicyApart_2, joinD, lt_d hi, lt_d hi', ge0_d, Int.toNat_natCast, Bool.and_self, cond_true, hq, heta, ix1P hi (by omega), backE_eq, c1, c2, show Nat.ble 1 40 = true from rfl, show Nat.ble 1 8 = true from rfl]
    have hm : mine r q = (decide (q.1 ≠ 1) || decide (q.2.1 = at_ ∧ q.2.2.1 = fr ∧ q.2.2.2.1 = to)) := by
      unfold mine keyR; rw [← hr]; simp only [Prod.mk.injEq]
    rw [hm]
    have hcast : ((i + 1 : Nat) : Int) = (i : Int) + 1 := rfl
    rw [hcast]
    by_cases g1 : q.1 = 1
    case neg => rw [show (q.1 != 1) = true from bne_iff_ne.2 g1, cond_true, d_true g1]; rfl
    rw [show (q.1 != 1) = false by rw [g1]; rfl, cond_false, d_false (fun e : q.1 ≠ 1 => e g1), Bool.false_or]
    by_cases g2 : q.2.1 = at_
    case neg => rw [beq_false_of_ne g2, cond_false, cond_false, d_false (fun e => g2 e.1)]; rfl
    rw [show (q.2.1 == at_) = true from beq_iff_eq.2 g2, cond_true]
    by_cases g3 : q.2.2.1 = fr
    case neg => rw [beq_false_of_ne g3, cond_false, cond_false, d_false (fun e => g3 e.2.1)]; rfl
    rw [show (q.2.2.1 == fr) = true from beq_iff_eq.2 g3, cond_true]
    by_cases g4 : q.2.2.2.1 = to
    case neg => rw [beq_false_of_ne g4, cond_false, d_false (fun e => g4 e.2.2)]; rfl
    rw [show (q.2.2.2.1 == to) = true from beq_iff_eq.2 g4, cond_true, d_true ⟨g2, g3, g4⟩]; rfl
  · have l1 : (ownA r script).length ≤ 60 := Nat.le_trans (List.length_filter_le _ _) h1
    simp only [keep_PolicyApart_4, lt_self, cond_false, keep_PolicyApart_1, List.take_length, hlenc ▸ List.take_length (l := cs)]
    rcases Play_eq hN hw hl h9 hT h (ownA r script) with ⟨h3, -⟩ | ⟨h3, h4⟩
    · omega
    rw [h4]
    have hrl := run_len (m : Int) (unB up) Q (ownA r script) st0
    simp only [Option.bind_some, beq_self_eq_true, cond_true]
    rw [Codes_eq (by omega) (by omega), decide_eq_true (show (runP (m : Int) (unB up) Q (ownA r script) st0).1 = wantA r script cs from hap)]; rfl
set_option maxRecDepth 100000 in
theorem lifted_PolicyApart (os : Os) (started : os.Started) (H : Type) (enc : TypeId × Value → H) :
    ReturnsInHanded {} Tryd.checked os 5 .any (fun w args => (Rows.policyApartSpec.pre enc Tryd.prog Tryd.f5 [] false w args ∧ laidMetH Tryd.prog Rows.policyApartRow.laid w) ∧ sizedMet enc Tryd.prog Tryd.f5 (OpenSpec.ofChange Rows.policyApartSpec) false w args) (Rows.policyApartSpec.post enc Tryd.prog Tryd.f5 false true false false) := by
  refine returnsInHanded_of_change_and (C := Tryd.checked) (X := fun w _ => laidMetH Tryd.prog Rows.policyApartRow.laid w) (fun _ _ _ hh h => h.of_heap hh) own started (by kernel_rfl) Tryd.func5
    (ChangeSpec.witness_shaped (enc := enc) (C := Tryd.checked) (os := os) (X := fun w _ => laidMetH Tryd.prog Rows.policyApartRow.laid w) false (World.doorLaid Tryd.prog 400 os) #[.agg #[.int .i64 0, .slice none 0 0], .slice none 0 0, .slice none 0 0, .int .i64 0, .int .i64 0, .int .i64 0] 8 rfl (World.shaped_of_RefB (by kernel_rfl) (by kernel_rfl)) (by kernel_rfl) (by kernel_rfl) (by kernel_rfl) (door_met os _)) ?_
  intro W base args ds gs before hval0 hW _ hsz0 hL _
  have hgw : GW Gs W := gw_of hL
  have hval : ∀ (j : Nat) t v, Tryd.f5.params[j]? = some t → args[j]? = some v → Value.okWide Tryd.prog W .any base t v := hval0
  have hW' := hW
  obtain ⟨p, q, hA0, hV, rfl, _, _⟩ := hW
  have hA : DataW.TrodAll enc Tryd.prog W 0 (fun _ => true) true Tryd.f5.params.toList args.toList ds p := hA0
  rw [Tryd.params5] at hA hval
  obtain ⟨v0, vs0, d0, ds0, p0, q0, hargs, rfl, rfl, h0, r0⟩ := trodAll_cons hA
  obtain ⟨v1, vs1, d1, ds1, p1, q1, rfl, rfl, rfl, h1, r1⟩ := trodAll_cons r0
  obtain ⟨v2, vs2, d2, ds2, p2, q2, rfl, rfl, rfl, h2, r2⟩ := trodAll_cons r1
  obtain ⟨v3, vs3, d3, ds3, p3, q3, rfl, rfl, rfl, h3, r3⟩ := trodAll_cons r2
  obtain ⟨v4, vs4, d4, ds4, p4, q4, rfl, rfl, rfl, h4, r4⟩ := trodAll_cons r3
  obtain ⟨v5, vs5, d5, ds5, p5, q5, rfl, rfl, rfl, h5, r5⟩ := trodAll_cons r4
  obtain ⟨rfl, rfl, rfl⟩ := trodAll_nil r5
  obtain rfl : args = #[v0, v1, v2, v3, v4, v5] := by cases args; simp_all
  obtain ⟨rfl, rfl⟩ := trodVars_none hV
  have hall := List.all_eq_true.1 hsz0
  clear hA0 hval0 hsz0
  simp only [List.append_nil] at hW'
  have hlt0 : ∀ x ∈ p0, x.block < W.heap.size := fun x hx => hW'.lt x (by simp [hx])
  have hlt1 : ∀ x ∈ p1, x.block < W.heap.size := fun x hx => hW'.lt x (by simp [hx])
  have hlt2 : ∀ x ∈ p2, x.block < W.heap.size := fun x hx => hW'.lt x (by simp [hx])
  have hlt3 : ∀ x ∈ p3, x.block < W.heap.size := fun x hx => hW'.lt x (by simp [hx])
  have hlt4 : ∀ x ∈ p4, x.block < W.heap.size := fun x hx => hW'.lt x (by simp [hx])
  have hlt5 : ∀ x ∈ p5, x.block < W.heap.size := fun x hx => hW'.lt x (by simp [hx])
  obtain ⟨x0, g0, w0⟩ := open_kd (k := .dat (.pair (.int .i64) (.sl (.int .u32)))) (by kernel_rfl) (hval 0 24 v0 rfl rfl) h0
  obtain ⟨x1, g1, w1⟩ := open_kd (k := .dat (.sl (.pair (.int .i64) (.pair (.int .i64) (.pair (.int .i64) (.int .i64)))))) (by kernel_rfl) (hval 1 25 v1 rfl rfl) h1
  obtain ⟨x2, g2, w2⟩ := open_kd (k := .dat (.sl (.pair (.int .i64) (.pair (.int .i64) (.pair (.int .i64) (.pair (.int .i64) (.int .i64))))))) (by kernel_rfl) (hval 2 26 v2 rfl rfl) h2
  obtain ⟨x3, g3, w3⟩ := open_kd (k := .dat (.int .i64)) (by kernel_rfl) (hval 3 3 v3 rfl rfl) h3
  obtain ⟨x4, g4, w4⟩ := open_kd (k := .dat (.int .i64)) (by kernel_rfl) (hval 4 3 v4 rfl rfl) h4
  obtain ⟨x5, g5, w5⟩ := open_kd (k := .dat (.int .i64)) (by kernel_rfl) (hval 5 3 v5 rfl rfl) h5
  obtain ⟨N, hN⟩ := law_PolicyApart x0 x1 x2 x3 x4 x5 w0 w1 w2 w3 w4 w5
  refine (sp_keep_PolicyApart N (fun _ => False) W (x0, x1, x2, x3, x4, x5, ()) (true, ()) [v0, v1, v2, v3, v4, v5] (fun _ h => h.elim) hgw ⟨v0, _, rfl, g0, ⟨v1, _, rfl, g1, ⟨v2, _, rfl, g2, ⟨v3, _, rfl, g3, ⟨v4, _, rfl, g4, ⟨v5, _, rfl, g5, rfl⟩⟩⟩⟩⟩⟩ hN).mono ?_
  rintro e W' ⟨v, rfl, hg, hr⟩
  replace hg := hg.old
  have hr : v = .bool true := by simpa only [kvals, retV, Kd.val, Go.Abs.enc, RV] using hr
  subst hr
  exact ⟨_, rfl, _, _, _, [], p0 ++ (p1 ++ (p2 ++ (p3 ++ (p4 ++ (p5 ++ []))))), [], hW', (trodAll_cons_mk (shut_bool (show Tryd.prog.underlying 4 = some .bool by kernel_rfl) _) trodAll_mk0), (trodAll_cons_mk (Below.trod laidOut (by kernel_rfl) (of_decide_eq_true (by kernel_rfl)) h0 hg hlt0) (trodAll_cons_mk (Below.trod laidOut (by kernel_rfl) (of_decide_eq_true (by kernel_rfl)) h1 hg hlt1) (trodAll_cons_mk (Below.trod laidOut (by kernel_rfl) (of_decide_eq_true (by kernel_rfl)) h2 hg hlt2) (trodAll_cons_mk (Below.trod laidOut (by kernel_rfl) (of_decide_eq_true (by kernel_rfl)) h3 hg hlt3) (trodAll_cons_mk (Below.trod laidOut (by kernel_rfl) (of_decide_eq_true (by kernel_rfl)) h4 hg hlt4) (trodAll_cons_mk (Below.trod laidOut (by kernel_rfl) (of_decide_eq_true (by kernel_rfl)) h5 hg hlt5) trodAll_mk0)))))), rfl, hg.frame _, fun h => by cases h⟩

/-- The statement: whatever the arguments, the law's function returns true and leaves them as they were. -/
theorem policyApart_holds : Rows.PolicyApartSaid :=
  OpenClaim.holds_of_wide 5 Tryd.f5 rfl rfl rfl rfl rfl rfl rfl ⟨rfl, rfl, rfl, rfl, rfl⟩ rfl rfl rfl rfl rfl (by kernel_rfl) Tryd.func5 (by kernel_rfl)
    (of_decide_eq_true (by kernel_rfl)) (by unfold Func.isWrapper; first | (rw [if_pos (by decide +kernel)]; kernel_rfl) | (rw [if_neg (by decide +kernel)]; exact ⟨rfl, rfl⟩))
    (fun os started H enc _ => lifted_PolicyApart os started H enc)
/-- The statement's card: the variable that the road reads is tied to the program's text. -/
theorem policyApart_card : Rows.PolicyApartCardSaid :=
  Claim7.holds_tied_plain_at .later [] [.data, .handle] true (true, "812d7677b0d9ba06e857ea22dc29d3efef33d7f6a32d82e7ee766aa0bccdced0") true policyApart_holds (fun _ h => by cases h) (by kernel_rfl) (fun _ h => by cases h) policyApart_row_tie rfl ⟨rfl, rfl⟩ (by kernel_rfl) rfl
    (fun f fn hf hfn => by
      obtain rfl : f = 5 := Option.some.inj ((show Tryd.prog.funcNamed "watershed/watershedkeep.PolicyApart" = some 5 by kernel_rfl).symm.trans hf) |>.symm
      obtain rfl : fn = Tryd.f5 := (Option.some.inj (Tryd.func5.symm.trans hfn)).symm
      exact ⟨by kernel_rfl, fun j t ht => by
        have h3 := List.all_eq_true.1 (show (Tryd.f5.params.toList.all fun t => !(Tryd.prog.wantsStandIn t)) = true by kernel_rfl) t (by rw [← Array.getElem?_toList] at ht; exact List.mem_of_getElem? ht)
        have h4 : Tryd.prog.wantsStandIn t = false := by simpa using h3
        exact h4⟩)
    (by kernel_rfl)
end Go.Proofs.YtopjalcimclaaaaDoor
