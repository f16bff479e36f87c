/- What is granted has an entry, and in no round more is granted by one than its quota: the law answers true for every lattice, every table and every script. The listed variables read as the program lays them. -/
import Derived.Test.YtopjalcimclaaaaDoorPolS
import Derived.Test.YtopjalcimclaaaaDoorKeepS
import Derived.Test.YtopjalcimclaaaaDoorFrameH
namespace Go.Proofs.YtopjalcimclaaaaDoor
open Go Go.ChangeShapes Go.WideShapes Go.ChangeAt Go.WideMaps Go.WideElems Go.RowKit Go.Abs Go.Pol
-- watershed/watershedkeep.PolicyQuota
abbrev Ks_keep_PolicyQuota : List Kd := [.dat (.pair (.int .i64) (.sl (.int .u32))), .dat (.sl (.pair (.int .i64) (.pair (.int .i64) (.pair (.int .i64) (.int .i64))))), .dat (.sl (.pair (.int .i64) (.pair (.int .i64) (.pair (.int .i64) (.pair (.int .i64) (.int .i64))))))]
abbrev Rk_keep_PolicyQuota : List Kd := [.dat (.bool)]
abbrev Rt_keep_PolicyQuota : Type := Dens Rk_keep_PolicyQuota
noncomputable def C_keep_PolicyQuota (_N : Nat) : Ctx := { T := [(3, ⟨.int .i64, 1, 8, some (.int .i64), [.int .i64 (0 : Int)], false, []⟩), (24, ⟨.struct [(0, 3), (1, 22)], 2, 32, some (.pair (.int .i64) (.sl (.int .u32))), [.int .i64 (0 : Int), .nil], false, []⟩), (25, ⟨.slice 38, 1, 24, some (.sl (.pair (.int .i64) (.pair (.int .i64) (.pair (.int .i64) (.int .i64))))), [.nil], false, []⟩), (26, ⟨.slice 46, 1, 24, some (.sl (.pair (.int .i64) (.pair (.int .i64) (.pair (.int .i64) (.pair (.int .i64) (.int .i64)))))), [.nil], false, []⟩), (27, ⟨.slice 29, 1, 24, some (.sl (.int .i64)), [.nil], false, []⟩), (28, ⟨.slice 36, 1, 24, some (.sl (.pair (.int .i64) (.pair (.int .i64) (.pair (.int .i64) (.pair (.int .i64) (.int .i64)))))), [.nil], false, []⟩), (29, ⟨.int .i64, 1, 8, some (.int .i64), [.int .i64 (0 : Int)], false, []⟩), (31, ⟨.struct [(0, 29), (1, 3)], 2, 16, some (.pair (.int .i64) (.int .i64)), [.int .i64 (0 : Int), .int .i64 (0 : Int)], true, []⟩), (36, ⟨.struct [(0, 3), (1, 3), (2, 3), (3, 3), (4, 3)], 5, 40, some (.pair (.int .i64) (.pair (.int .i64) (.pair (.int .i64) (.pair (.int .i64) (.int .i64))))), [.int .i64 (0 : Int), .int .i64 (0 : Int), .int .i64 (0 : Int), .int .i64 (0 : Int), .int .i64 (0 : Int)], true, []⟩), (38, ⟨.struct [(0, 3), (1, 3), (2, 3), (3, 3)], 4, 32, some (.pair (.int .i64) (.pair (.int .i64) (.pair (.int .i64) (.int .i64)))), [.int .i64 (0 : Int), .int .i64 (0 : Int), .int .i64 (0 : Int), .int .i64 (0 : Int)], true, []⟩), (58, ⟨.slice 3, 1, 24, some (.sl (.int .i64)), [.nil], false, []⟩)], G := findE [mkQ 7 Ks_policy_Play Rk_policy_Play (D_policy_Play _N), mkP 8 Ks_keep_sound Rk_keep_sound (D_keep_sound _N), mkP 10 Ks_keep_within Rk_keep_within (D_keep_within _N), mkP 11 Ks_keep_below Rk_keep_below (D_keep_below _N), mkP 9 Ks_keep_granted Rk_keep_granted (D_keep_granted _N)], I := findI [], N := _N, n := 106, fx := [], fl := 0, gs := Gs }
noncomputable def keep_PolicyQuota_1 (_N : Nat) : Option Rt_keep_PolicyQuota :=
  (some (true, ()))
noncomputable def keep_PolicyQuota_2 (_N : Nat) (_kn132 : ((List (Int × Int × Int × Int)) × (List (Int × Int × Int × Int × Int)) × (List (Int × Int × Int × Int × Int)) × Int × Int × List Int × Int × Int) × Int → Option Rt_keep_PolicyQuota) (_v94 : List (Int × Int × Int × Int)) (_v95 : List (Int × Int × Int × Int × Int)) (_v96 : List (Int × Int × Int × Int × Int)) (_v97 : Int) (_v98 : Int) (_v111 : Int) (_v112 : List Int) (_v113 : Int) (_v114 : Int) : Option Rt_keep_PolicyQuota :=
  (_kn132 ((_v94, _v95, _v96, _v97, _v111, _v112, _v113, _v114), (IntKind.i64.wrap (_v98 + (1 : Int)))))
noncomputable def keep_PolicyQuota_3 (_N : Nat) (_k133 : ((List (Int × Int × Int × Int)) × (List (Int × Int × Int × Int × Int)) × (List (Int × Int × Int × Int × Int)) × Int × Int × Int × Bool × Int × Int × Int × Bool × Bool × Int × List Int × Int × Int × Bool × Int × List Int × Int × Int × Int × Int × Int × Int × Int × List Int) → Option Rt_keep_PolicyQuota) (_v77 : List (Int × Int × Int × Int)) (_v78 : List (Int × Int × Int × Int × Int)) (_v79 : Bool) (_v80 : List (Int × Int × Int × Int × Int)) (_v81 : Int) (_v82 : Int) (_v83 : Int) (_v84 : List Int) (_v85 : Int) (_v86 : Int) (_v87 : Int) (_v88 : Int) (_v89 : Int) (_v90 : Int) (_v91 : Int) : Option Rt_keep_PolicyQuota :=
  (bif (!_v79) then (some (false, ())) else (bif (decide (_v91 < (0 : Int))) then (some (false, ())) else ((D_keep_within _N (_v83, [_v89, _v90], ())).bind fun _y134 => (bif (!_y134.1) then (some (false, ())) else ((D_keep_below _N ((_v83, _v84), _v89, _v90, ())).bind fun _y135 => (bif _y135.1 then (some (false, ())) else (_k133 (_v77, _v78, _v80, _v81, _v82, _v91, (decide (_v91 < (0 : Int))), _v83, _v89, _v90, _y134.1, (!_y134.1), _v83, _v84, _v89, _v90, _y135.1, _v83, _v84, _v85, _v86, _v87, _v88, _v89, _v90, _v91, [_v89, _v90]))))))))
noncomputable def keep_PolicyQuota_4 (_N : Nat) (_kn137 : ((List (Int × Int × Int × Int)) × (List (Int × Int × Int × Int × Int)) × (List (Int × Int × Int × Int × Int)) × Int × Int × (List (Int × Int × Int × Int)) × Int × Int × List Int × Int × Int × Int × Int × Int × Int × Int) × (Bool × Int) → Option Rt_keep_PolicyQuota) (_v54 : List (Int × Int × Int × Int)) (_v55 : List (Int × Int × Int × Int × Int)) (_v56 : Bool) (_v57 : List (Int × Int × Int × Int × Int)) (_v58 : Int) (_v59 : Int) (_v60 : List (Int × Int × Int × Int)) (_v61 : Int) (_v62 : Int) (_v63 : Int) (_v64 : List Int) (_v65 : Int) (_v66 : Int) (_v67 : Int) (_v68 : Int) (_v69 : Int) (_v70 : Int) (_v71 : Int) : Option Rt_keep_PolicyQuota :=
  (_kn137 ((_v54, _v55, _v57, _v58, _v59, _v60, _v61, _v63, _v64, _v65, _v66, _v67, _v68, _v69, _v70, _v71), (_v56, (IntKind.i64.wrap (_v62 + (1 : Int))))))
noncomputable def keep_PolicyQuota_5 (_N : Nat) (_k138 : ((List (Int × Int × Int × Int)) × (List (Int × Int × Int × Int × Int)) × Bool × (List (Int × Int × Int × Int × Int)) × Int × Int × (List (Int × Int × Int × Int)) × Int × Int × Int × List Int × Int × Int × Int × Int × Int × Int × Int × Int × Int × Int × Int) → Option Rt_keep_PolicyQuota) (_v30 : List (Int × Int × Int × Int)) (_v31 : List (Int × Int × Int × Int × Int)) (_v32 : Bool) (_v33 : List (Int × Int × Int × Int × Int)) (_v34 : Int) (_v35 : Int) (_v36 : List (Int × Int × Int × Int)) (_v37 : Int) (_v38 : Int) (_v39 : Bool) (_v40 : Int) (_v41 : List Int) (_v42 : Int) (_v43 : Int) (_v44 : Int) (_v45 : Int) (_v46 : Int) (_v47 : Int) (_v48 : Int) (_v49 : Int) (_v50 : Int) (_v51 : Int) (_v52 : Int) : Option Rt_keep_PolicyQuota :=
  (bif _v39 then ((D_keep_granted _N (_v31, (_v49, (_v50, (_v51, _v52))), _v44, ())).bind fun _y139 => (bif (decide (_y139.1 > _v52)) then (some (false, ())) else (_k138 (_v30, _v31, true, _v33, _v34, _v35, _v36, _v37, _v38, _v40, _v41, _v42, _v43, _v44, _v45, _v46, _v47, _v48, _v49, _v50, _v51, _v52)))) else (_k138 (_v30, _v31, _v32, _v33, _v34, _v35, _v36, _v37, _v38, _v40, _v41, _v42, _v43, _v44, _v45, _v46, _v47, _v48, _v49, _v50, _v51, _v52)))
noncomputable def keep_PolicyQuota_6 (_N : Nat) (_k136 : ((List (Int × Int × Int × Int)) × (List (Int × Int × Int × Int × Int)) × Bool × (List (Int × Int × Int × Int × Int)) × Int × Int × Int × List Int × Int × Int × Int × Int × Int × Int × Int) → Option Rt_keep_PolicyQuota) (_v12 : List (Int × Int × Int × Int)) (_v13 : List (Int × Int × Int × Int × Int)) (_v15 : List (Int × Int × Int × Int × Int)) (_v16 : Int) (_v17 : Int) (_v18 : List (Int × Int × Int × Int)) (_v19 : Int) (_v21 : Int) (_v22 : List Int) (_v23 : Int) (_v24 : Int) (_v25 : Int) (_v26 : Int) (_v27 : Int) (_v28 : Int) (_v29 : Int) (_v14 : Bool) (_v20 : Int) (_kn137 : ((List (Int × Int × Int × Int)) × (List (Int × Int × Int × Int × Int)) × (List (Int × Int × Int × Int × Int)) × Int × Int × (List (Int × Int × Int × Int)) × Int × Int × List Int × Int × Int × Int × Int × Int × Int × Int) × (Bool × Int) → Option Rt_keep_PolicyQuota) : Option Rt_keep_PolicyQuota :=
  (bif (decide (_v20 < _v19)) then (joinD (fun (_s : (List (Int × Int × Int × Int)) × (List (Int × Int × Int × Int × Int)) × Bool × (List (Int × Int × Int × Int × Int)) × Int × Int × (List (Int × Int × Int × Int)) × Int × Int × Int × List Int × Int × Int × Int × Int × Int × Int × Int × Int × Int × Int × Int) => keep_PolicyQuota_4 _N _kn137 _s.1 _s.2.1 _s.2.2.1 _s.2.2.2.1 _s.2.2.2.2.1 _s.2.2.2.2.2.1 _s.2.2.2.2.2.2.1 _s.2.2.2.2.2.2.2.1 _s.2.2.2.2.2.2.2.2.1 _s.2.2.2.2.2.2.2.2.2.1 _s.2.2.2.2.2.2.2.2.2.2.1 _s.2.2.2.2.2.2.2.2.2.2.2.1 _s.2.2.2.2.2.2.2.2.2.2.2.2.1 _s.2.2.2.2.2.2.2.2.2.2.2.2.2.1 _s.2.2.2.2.2.2.2.2.2.2.2.2.2.2.1 _s.2.2.2.2.2.2.2.2.2.2.2.2.2.2.2.1 _s.2.2.2.2.2.2.2.2.2.2.2.2.2.2.2.2.1 _s.2.2.2.2.2.2.2.2.2.2.2.2.2.2.2.2.2.1) fun _k138 => (bif (decide (0 ≤ _v20) && decide (_v20 < (_v18.length : Int))) then (joinD (fun (_s : (List (Int × Int × Int × Int)) × (List (Int × Int × Int × Int × Int)) × Bool × (List (Int × Int × Int × Int × Int)) × Int × Int × (List (Int × Int × Int × Int)) × Int × Int × Bool × Int × List Int × Int × Int × Int × Int × Int × Int × Int × Int × Int × Int × Int) => keep_PolicyQuota_5 _N _k138 _s.1 _s.2.1 _s.2.2.1 _s.2.2.2.1 _s.2.2.2.2.1 _s.2.2.2.2.2.1 _s.2.2.2.2.2.2.1 _s.2.2.2.2.2.2.2.1 _s.2.2.2.2.2.2.2.2.1 _s.2.2.2.2.2.2.2.2.2.1 _s.2.2.2.2.2.2.2.2.2.2.1 _s.2.2.2.2.2.2.2.2.2.2.2.1 _s.2.2.2.2.2.2.2.2.2.2.2.2.1 _s.2.2.2.2.2.2.2.2.2.2.2.2.2.1 _s.2.2.2.2.2.2.2.2.2.2.2.2.2.2.1 _s.2.2.2.2.2.2.2.2.2.2.2.2.2.2.2.1 _s.2.2.2.2.2.2.2.2.2.2.2.2.2.2.2.2.1 _s.2.2.2.2.2.2.2.2.2.2.2.2.2.2.2.2.2.1 _s.2.2.2.2.2.2.2.2.2.2.2.2.2.2.2.2.2.2.1 _s.2.2.2.2.2.2.2.2.2.2.2.2.2.2.2.2.2.2.2.1 _s.2.2.2.2.2.2.2.2.2.2.2.2.2.2.2.2.2.2.2.2.1 _s.2.2.2.2.2.2.2.2.2.2.2.2.2.2.2.2.2.2.2.2.2.1 _s.2.2.2.2.2.2.2.2.2.2.2.2.2.2.2.2.2.2.2.2.2.2) fun _k140 => (bif (((nth ((0 : Int), ((0 : Int), ((0 : Int), (0 : Int)))) _v18 (_v20).toNat).1) == _v26) then (bif ((((nth ((0 : Int), ((0 : Int), ((0 : Int), (0 : Int)))) _v18 (_v20).toNat).2).1) == _v27) then (_k140 (_v12, _v13, _v14, _v15, _v16, _v17, _v18, _v19, _v20, (((((nth ((0 : Int), ((0 : Int), ((0 : Int), (0 : Int)))) _v18 (_v20).toNat).2).2).1) == _v28), _v21, _v22, _v23, _v24, _v25, _v26, _v27, _v28, _v29, (nth ((0 : Int), ((0 : Int), ((0 : Int), (0 : Int)))) _v18 (_v20).toNat).1, ((nth ((0 : Int), ((0 : Int), ((0 : Int), (0 : Int)))) _v18 (_v20).toNat).2).1, (((nth ((0 : Int), ((0 : Int), ((0 : Int), (0 : Int)))) _v18 (_v20).toNat).2).2).1, (((nth ((0 : Int), ((0 : Int), ((0 : Int), (0 : Int)))) _v18 (_v20).toNat).2).2).2)) else (_k140 (_v12, _v13, _v14, _v15, _v16, _v17, _v18, _v19, _v20, false, _v21, _v22, _v23, _v24, _v25, _v26, _v27, _v28, _v29, (nth ((0 : Int), ((0 : Int), ((0 : Int), (0 : Int)))) _v18 (_v20).toNat).1, ((nth ((0 : Int), ((0 : Int), ((0 : Int), (0 : Int)))) _v18 (_v20).toNat).2).1, (((nth ((0 : Int), ((0 : Int), ((0 : Int), (0 : Int)))) _v18 (_v20).toNat).2).2).1, (((nth ((0 : Int), ((0 : Int), ((0 : Int), (0 : Int)))) _v18 (_v20).toNat).2).2).2))) else (_k140 (_v12, _v13, _v14, _v15, _v16, _v17, _v18, _v19, _v20, false, _v21, _v22, _v23, _v24, _v25, _v26, _v27, _v28, _v29, (nth ((0 : Int), ((0 : Int), ((0 : Int), (0 : Int)))) _v18 (_v20).toNat).1, ((nth ((0 : Int), ((0 : Int), ((0 : Int), (0 : Int)))) _v18 (_v20).toNat).2).1, (((nth ((0 : Int), ((0 : Int), ((0 : Int), (0 : Int)))) _v18 (_v20).toNat).2).2).1, (((nth ((0 : Int), ((0 : Int), ((0 : Int), (0 : Int)))) _v18 (_v20).toNat).2).2).2)))) else none)) else (_k136 (_v12, _v13, _v14, _v15, _v16, _v17, _v21, _v22, _v23, _v24, _v25, _v26, _v27, _v28, _v29)))
noncomputable def keep_PolicyQuota_7 (_N : Nat) (_k131 : (Int × List Int × Int × Int) → Option Rt_keep_PolicyQuota) (_v3 : List (Int × Int × Int × Int)) (_v4 : List (Int × Int × Int × Int × Int)) (_v5 : List (Int × Int × Int × Int × Int)) (_v6 : Int) (_v8 : Int) (_v9 : List Int) (_v10 : Int) (_v11 : Int) (_v7 : Int) (_kn132 : ((List (Int × Int × Int × Int)) × (List (Int × Int × Int × Int × Int)) × (List (Int × Int × Int × Int × Int)) × Int × Int × List Int × Int × Int) × Int → Option Rt_keep_PolicyQuota) : Option Rt_keep_PolicyQuota :=
  (bif (decide (_v7 < _v6)) then (joinD (fun (_s : (List (Int × Int × Int × Int)) × (List (Int × Int × Int × Int × Int)) × (List (Int × Int × Int × Int × Int)) × Int × Int × Int × Bool × Int × Int × Int × Bool × Bool × Int × List Int × Int × Int × Bool × Int × List Int × Int × Int × Int × Int × Int × Int × Int × List Int) => keep_PolicyQuota_2 _N _kn132 _s.1 _s.2.1 _s.2.2.1 _s.2.2.2.1 _s.2.2.2.2.1 _s.2.2.2.2.2.2.2.2.2.2.2.2.2.2.2.2.2.1 _s.2.2.2.2.2.2.2.2.2.2.2.2.2.2.2.2.2.2.1 _s.2.2.2.2.2.2.2.2.2.2.2.2.2.2.2.2.2.2.2.1 _s.2.2.2.2.2.2.2.2.2.2.2.2.2.2.2.2.2.2.2.2.1) fun _k133 => (bif (decide (0 ≤ _v7) && decide (_v7 < (_v5.length : Int))) then (joinD (fun (_s : (List (Int × Int × Int × Int)) × (List (Int × Int × Int × Int × Int)) × Bool × (List (Int × Int × Int × Int × Int)) × Int × Int × Int × List Int × Int × Int × Int × Int × Int × Int × Int) => keep_PolicyQuota_3 _N _k133 _s.1 _s.2.1 _s.2.2.1 _s.2.2.2.1 _s.2.2.2.2.1 _s.2.2.2.2.2.1 _s.2.2.2.2.2.2.1 _s.2.2.2.2.2.2.2.1 _s.2.2.2.2.2.2.2.2.1 _s.2.2.2.2.2.2.2.2.2.1 _s.2.2.2.2.2.2.2.2.2.2.1 _s.2.2.2.2.2.2.2.2.2.2.2.1 _s.2.2.2.2.2.2.2.2.2.2.2.2.1 _s.2.2.2.2.2.2.2.2.2.2.2.2.2.1 _s.2.2.2.2.2.2.2.2.2.2.2.2.2.2) fun _k136 => (loopE (fun (_c : (List (Int × Int × Int × Int)) × (List (Int × Int × Int × Int × Int)) × (List (Int × Int × Int × Int × Int)) × Int × Int × (List (Int × Int × Int × Int)) × Int × Int × List Int × Int × Int × Int × Int × Int × Int × Int) (_s : Bool × Int) _kn => keep_PolicyQuota_6 _N _k136 _c.1 _c.2.1 _c.2.2.1 _c.2.2.2.1 _c.2.2.2.2.1 _c.2.2.2.2.2.1 _c.2.2.2.2.2.2.1 _c.2.2.2.2.2.2.2.1 _c.2.2.2.2.2.2.2.2.1 _c.2.2.2.2.2.2.2.2.2.1 _c.2.2.2.2.2.2.2.2.2.2.1 _c.2.2.2.2.2.2.2.2.2.2.2.1 _c.2.2.2.2.2.2.2.2.2.2.2.2.1 _c.2.2.2.2.2.2.2.2.2.2.2.2.2.1 _c.2.2.2.2.2.2.2.2.2.2.2.2.2.2.1 _c.2.2.2.2.2.2.2.2.2.2.2.2.2.2.2 _s.1 _s.2 _kn) _N (_v3, _v4, _v5, _v6, _v7, _v3, (_v3.length : Int), _v8, _v9, _v10, _v11, (nth ((0 : Int), ((0 : Int), ((0 : Int), ((0 : Int), (0 : Int))))) _v5 (_v7).toNat).1, ((nth ((0 : Int), ((0 : Int), ((0 : Int), ((0 : Int), (0 : Int))))) _v5 (_v7).toNat).2).1, (((nth ((0 : Int), ((0 : Int), ((0 : Int), ((0 : Int), (0 : Int))))) _v5 (_v7).toNat).2).2).1, ((((nth ((0 : Int), ((0 : Int), ((0 : Int), ((0 : Int), (0 : Int))))) _v5 (_v7).toNat).2).2).2).1, ((((nth ((0 : Int), ((0 : Int), ((0 : Int), ((0 : Int), (0 : Int))))) _v5 (_v7).toNat).2).2).2).2) (false, (0 : Int)))) else none)) else (_k131 (_v8, _v9, _v10, _v11)))
noncomputable def keep_PolicyQuota_8 (_N : Nat) (_x1 : Int × List Int) (_x2 : List (Int × Int × Int × Int)) (_x3 : List (Int × Int × Int × Int × Int)) : Option Rt_keep_PolicyQuota :=
  ((D_policy_Play _N ((_x1.1, _x1.2), _x2, _x3, ())).bind fun _y129 => (bif (_y129.2.2.1.1 != (0 : Int)) then (some (((_y129.2.1.length : Int) == (0 : Int)), ())) else ((D_keep_sound _N ((_x1.1, _x1.2), ())).bind fun _y130 => (bif (!_y130.1) then (some (false, ())) else (bif ((_y129.1.length : Int) != (_x3.length : Int)) then (some (false, ())) else (joinD (fun (_s : Int × List Int × Int × Int) => keep_PolicyQuota_1 _N) fun _k131 => (loopE (fun (_c : (List (Int × Int × Int × Int)) × (List (Int × Int × Int × Int × Int)) × (List (Int × Int × Int × Int × Int)) × Int × Int × List Int × Int × Int) (_s : Int) _kn => keep_PolicyQuota_7 _N _k131 _c.1 _c.2.1 _c.2.2.1 _c.2.2.2.1 _c.2.2.2.2.1 _c.2.2.2.2.2.1 _c.2.2.2.2.2.2.1 _c.2.2.2.2.2.2.2 _s _kn) _N (_x2, _y129.2.1, _y129.2.1, (_y129.2.1.length : Int), _x1.1, _x1.2, _y129.2.2.1.1, _y129.2.2.1.2) (0 : Int))))))))
noncomputable def D_keep_PolicyQuota (_N : Nat) (_x : Dens Ks_keep_PolicyQuota) : Option Rt_keep_PolicyQuota := keep_PolicyQuota_8 _N _x.1 _x.2.1 _x.2.2.1
theorem sp_keep_PolicyQuota (_N : Nat) : SpecD Tryd.prog Gs 3 Ks_keep_PolicyQuota Rk_keep_PolicyQuota (D_keep_PolicyQuota _N) := mkSpD (fn := Tryd.f3) (c := bodyOf Tryd.f3) (C := C_keep_PolicyQuota _N)
    (a := .two .none (.two .none (.two .none (.two .none (.join 2 ⟨[], [.cells [.int .i64, .sl (.int .u32)], .cells [.int .i64, .int .i64]]⟩ (.two .none (.one (.loop 2 ⟨[(1, .sl (.pair (.int .i64) (.pair (.int .i64) (.pair (.int .i64) (.int .i64))))), (3, .ptr 0 0), (8, .sl (.pair (.int .i64) (.pair (.int .i64) (.pair (.int .i64) (.pair (.int .i64) (.int .i64)))))), (39, .sl (.pair (.int .i64) (.pair (.int .i64) (.pair (.int .i64) (.pair (.int .i64) (.int .i64)))))), (40, .int .i64), (41, .int .i64)], [.cells [.int .i64, .sl (.int .u32)], .cells [.int .i64, .int .i64]]⟩ [4] (.two .none (.two .none (.join 4 ⟨[(1, .sl (.pair (.int .i64) (.pair (.int .i64) (.pair (.int .i64) (.int .i64))))), (3, .ptr 0 0), (8, .sl (.pair (.int .i64) (.pair (.int .i64) (.pair (.int .i64) (.pair (.int .i64) (.int .i64)))))), (39, .sl (.pair (.int .i64) (.pair (.int .i64) (.pair (.int .i64) (.pair (.int .i64) (.int .i64)))))), (40, .int .i64), (41, .int .i64), (82, .ptr 2 4), (83, .int .i64), (84, .bool), (87, .ptr 0 0), (88, .int .i64), (89, .ptr 2 2), (90, .int .i64), (91, .ptr 2 3), (92, .int .i64), (93, .slc 3 0), (94, .bool), (95, .bool), (98, .agg [.int .i64, .sl (.int .u32)]), (99, .ptr 2 2), (100, .int .i64), (101, .ptr 2 3), (102, .int .i64), (103, .bool)], [.cells [.int .i64, .sl (.int .u32)], .cells [.int .i64, .int .i64], .cells [.int .i64, .int .i64, .int .i64, .int .i64, .int .i64], .row false 0 3 (.int .i64)]⟩ (.one (.two .none (.two .none (.join 3 ⟨[(1, .sl (.pair (.int .i64) (.pair (.int .i64) (.pair (.int .i64) (.int .i64))))), (3, .ptr 0 0), (8, .sl (.pair (.int .i64) (.pair (.int .i64) (.pair (.int .i64) (.pair (.int .i64) (.int .i64)))))), (11, .ptr 2 0), (12, .bool), (39, .sl (.pair (.int .i64) (.pair (.int .i64) (.pair (.int .i64) (.pair (.int .i64) (.int .i64)))))), (40, .int .i64), (41, .int .i64)], [.cells [.int .i64, .sl (.int .u32)], .cells [.int .i64, .int .i64], .cells [.int .i64, .int .i64, .int .i64, .int .i64, .int .i64]]⟩ (.two .none (.one (.loop 3 ⟨[(1, .sl (.pair (.int .i64) (.pair (.int .i64) (.pair (.int .i64) (.int .i64))))), (3, .ptr 0 0), (8, .sl (.pair (.int .i64) (.pair (.int .i64) (.pair (.int .i64) (.pair (.int .i64) (.int .i64)))))), (11, .ptr 2 0), (12, .bool), (39, .sl (.pair (.int .i64) (.pair (.int .i64) (.pair (.int .i64) (.pair (.int .i64) (.int .i64)))))), (40, .int .i64), (41, .int .i64), (45, .sl (.pair (.int .i64) (.pair (.int .i64) (.pair (.int .i64) (.int .i64))))), (46, .int .i64), (47, .int .i64)], [.cells [.int .i64, .sl (.int .u32)], .cells [.int .i64, .int .i64], .cells [.int .i64, .int .i64, .int .i64, .int .i64, .int .i64]]⟩ [2, 8] (.two .none (.two .none (.join 4 ⟨[(1, .sl (.pair (.int .i64) (.pair (.int .i64) (.pair (.int .i64) (.int .i64))))), (3, .ptr 0 0), (8, .sl (.pair (.int .i64) (.pair (.int .i64) (.pair (.int .i64) (.pair (.int .i64) (.int .i64)))))), (11, .ptr 2 0), (12, .bool), (39, .sl (.pair (.int .i64) (.pair (.int .i64) (.pair (.int .i64) (.pair (.int .i64) (.int .i64)))))), (40, .int .i64), (41, .int .i64), (45, .sl (.pair (.int .i64) (.pair (.int .i64) (.pair (.int .i64) (.int .i64))))), (46, .int .i64), (47, .int .i64)], [.cells [.int .i64, .sl (.int .u32)], .cells [.int .i64, .int .i64], .cells [.int .i64, .int .i64, .int .i64, .int .i64, .int .i64], .cells [.int .i64, .int .i64, .int .i64, .int .i64]]⟩ (.one (.two .none (.join 4 ⟨[(1, .sl (.pair (.int .i64) (.pair (.int .i64) (.pair (.int .i64) (.int .i64))))), (3, .ptr 0 0), (8, .sl (.pair (.int .i64) (.pair (.int .i64) (.pair (.int .i64) (.pair (.int .i64) (.int .i64)))))), (11, .ptr 2 0), (12, .bool), (14, .ptr 3 0), (39, .sl (.pair (.int .i64) (.pair (.int .i64) (.pair (.int .i64) (.pair (.int .i64) (.int .i64)))))), (40, .int .i64), (41, .int .i64), (45, .sl (.pair (.int .i64) (.pair (.int .i64) (.pair (.int .i64) (.int .i64))))), (46, .int .i64), (47, .int .i64), (69, .bool)], [.cells [.int .i64, .sl (.int .u32)], .cells [.int .i64, .int .i64], .cells [.int .i64, .int .i64, .int .i64, .int .i64, .int .i64], .cells [.int .i64, .int .i64, .int .i64, .int .i64]]⟩ .none (.two (.two .none (.two (.draw 0 [.pure, .rd [3], .pure, .rd [2], .pure, .pure, .rd [3], .pure]) .none)) .none)))) .none)))))) .none)))) .none)))))) .none)))))
    (by kernel_rfl) rfl (by kernel_rfl) (by kernel_rfl) ⟨rfl, by unfold TOk; kernel_rfl, gOk_of rfl rfl (List.forall_mem_cons.2 ⟨qen_policy_Play _N, (List.forall_mem_cons.2 ⟨en_keep_sound _N, (List.forall_mem_cons.2 ⟨en_keep_within _N, (List.forall_mem_cons.2 ⟨en_keep_below _N, (List.forall_mem_cons.2 ⟨en_keep_granted _N, (List.forall_mem_nil _)⟩)⟩)⟩)⟩)⟩), iOk_of rfl rfl (List.forall_mem_nil _), rfl⟩ (fun _x => by kernel_rfl)
theorem en_keep_PolicyQuota (_N : Nat) : EntOk Tryd.prog Gs (mkP 3 Ks_keep_PolicyQuota Rk_keep_PolicyQuota (D_keep_PolicyQuota _N)) := entP ⟨Tryd.f3, bodyOf Tryd.f3, by kernel_rfl, by kernel_rfl, rfl⟩ (by kernel_rfl) (sp_keep_PolicyQuota _N)
theorem grant_pos {l : List Tld} (h : ∀ t ∈ l, 0 ≤ amtT t) (r : PK) (k : Int) : 0 ≤ grant l r k := by
  induction l with
  | nil => exact Int.le_refl _
  | cons t l ih =>
    have h1 := ih fun x hx => h x (by simp [hx])
    have h2 := h t (by simp)
    simp only [grant]
    split <;> omega
theorem grant_take {l : List Tld} (h : ∀ t ∈ l, 0 ≤ amtT t) (r : PK) (k : Int) (i : Nat) : 0 ≤ grant (l.take i) r k ∧ grant (l.take i) r k ≤ grant l r k := by
  refine ⟨grant_pos (fun t ht => h t (List.mem_of_mem_take ht)) r k, ?_⟩
  have h1 : grant l r k = grant (l.take i) r k + grant (l.drop i) r k := by rw [← grant_append, List.take_append_drop]
  have h2 := grant_pos (fun t ht => h t (List.mem_of_mem_drop ht) : ∀ t ∈ l.drop i, 0 ≤ amtT t) r k
  omega
theorem granted_eq {N : Nat} {ls : List Tld} (hN : ls.length < N) (hl : ls.length ≤ 4611686018427387904) (h0 : ∀ t ∈ ls, 0 ≤ amtT t) {e : Entr} {k : Int} (hb : grant ls (keyE e) k ≤ 1000) : D_keep_granted N (ls, e, k, ()) = some (grant ls (keyE e) k, ()) := by
  obtain ⟨at_, fr, to, quota⟩ := e
  simp only [D_keep_granted, keep_granted_5, joinD, loopE]
  refine loopD_path (n := ls.length) (st := fun i => (grant (ls.take i) (keyE (at_, fr, to, quota)) k, (i : Int))) (fun i hi kn => ?_) (fun kn => ?_) hN
  · have h1 := grant_take h0 (keyE (at_, fr, to, quota)) k (i + 1)
    rw [take_nthP (z := ((0 : Int), (0 : Int), (0 : Int), (0 : Int), (0 : Int))) hi, grant_append] at h1
    rw [take_nthP (z := ((0 : Int), (0 : Int), (0 : Int), (0 : Int), (0 : Int))) hi, grant_append]
    have hcast : ((i + 1 : Nat) : Int) = (i : Int) + 1 := rfl
    rw [hcast]
    generalize grant (ls.take i) (keyE (at_, fr, to, quota)) k = g at h1
    generalize ht : nth ((0 : Int), (0 : Int), (0 : Int), (0 : Int), (0 : Int)) ls i = t at h1
    simp only [keep_granted_4, keep_granted_3, keep_granted_2, joinD, lt_d hi, ge0_d, Int.toNat_natCast, Bool.and_self, cond_true, ht, ix1P hi (by omega), backE_eq]
    have hm : grant [t] (keyE (at_, fr, to, quota)) k = if t.1 = k ∧ t.2.1 = at_ ∧ t.2.2.1 = fr ∧ t.2.2.2.1 = to then t.2.2.2.2 else 0 := by
      simp only [grant, keyE, keyT, amtT, Prod.mk.injEq, Int.add_zero]
    rw [hm] at h1 ⊢
    by_cases g1 : t.1 = k
    case neg => rw [beq_false_of_ne g1, cond_false, cond_false, if_neg (fun e => g1 e.1), Int.add_zero]
    rw [show (t.1 == k) = true from beq_iff_eq.2 g1, cond_true]
    by_cases g2 : t.2.1 = at_
    case neg => rw [beq_false_of_ne g2, cond_false, cond_false, if_neg (fun e => g2 e.2.1), Int.add_zero]
    rw [show (t.2.1 == at_) = true from beq_iff_eq.2 g2, cond_true]
    by_cases g3 : t.2.2.1 = fr
    case neg => rw [beq_false_of_ne g3, cond_false, cond_false, if_neg (fun e => g3 e.2.2.1), Int.add_zero]
    rw [show (t.2.2.1 == fr) = true from beq_iff_eq.2 g3, cond_true]
    by_cases g4 : t.2.2.2.1 = to
    case neg => rw [beq_false_of_ne g4, cond_false, if_neg (fun e => g4 e.2.2.2), Int.add_zero]
    rw [if_pos ⟨g1, g2, g3, g4⟩] at h1
    rw [show (t.2.2.2.1 == to) = true from beq_iff_eq.2 g4, cond_true, if_pos ⟨g1, g2, g3, g4⟩, w64 (by omega) (by omega)]
  · simp only [keep_granted_4, lt_self, cond_false, keep_granted_1, List.take_length]
theorem Open_len {N : Nat} (hN : 1000 ≤ N) {up : List Int} (hw : WL up) (n : Int) {table : List Entr} {x} (h : D_policy_Open_h N ((n, up), table) = some (.inr x)) : table.length ≤ 16 := by
  refine Classical.byContradiction fun hno => ?_
  have q : ((table.length : Nat) : Int) > 16 := by omega
  simp only [D_policy_Open_h, policy_Open_h_3] at h
  rcases LatOf_spec hN hw n with ⟨e, he, h1, -⟩ | ⟨m, J, M, B, T, rfl, hO, hL, h1⟩
  · rw [h1, Option.bind_some, show (e != 0) = true from bne_iff_ne.2 he] at h
    simp at h
  · rw [h1, Option.bind_some, d_true q] at h
    simp at h
theorem law_PolicyQuota (o : Int × List Int) (table : List Entr) (script : List Req) (_wo : wfS (.pair (.int .i64) (.sl (.int .u32))) o) (_wt : wfS (.sl (.pair (.int .i64) (.pair (.int .i64) (.pair (.int .i64) (.int .i64))))) table) (_ws : wfS (.sl (.pair (.int .i64) (.pair (.int .i64) (.pair (.int .i64) (.pair (.int .i64) (.int .i64)))))) script) :
    ∃ N, D_keep_PolicyQuota N (o, table, script, ()) = some (true, ()) := by
  refine ⟨1000, ?_⟩
  have hN : 1000 ≤ 1000 := Nat.le_refl _
  obtain ⟨n, up⟩ := o
  have hw : WL up := WL_of _wo.2
  simp only [D_keep_PolicyQuota, keep_PolicyQuota_8]
  rcases Open_eq hN hw n table with ⟨c, a, hc, h⟩ | ⟨m, J, M, B, T, Q, d9, rfl, hO, h9, hT, h⟩
  · obtain ⟨c', a', hc', h'⟩ := Play_no hc h script
    rw [h', Option.bind_some, show (c' != 0) = true from bne_iff_ne.2 hc']; rfl
  have hl : up.length = m := by have := hO.len; simpa using this
  rcases Play_eq hN hw hl h9 hT h script with ⟨h1, h2⟩ | ⟨h1, h2⟩
  · rw [h2]; rfl
  obtain ⟨b, s1, s2⟩ := sound_eq (N := 1000) (by omega) hw (m : Int)
  obtain rfl := s2.2 hO
  rw [h2]
  have hQ : ∀ r v, Q r = some v → 0 ≤ v ∧ v ≤ 1000 := fun r v hr => (hT.only r v hr).1
  have hgood := Good.runP (m : Int) (unB up) Q (fun r v hr => (hQ r v hr).1) script (good0 (m : Int) (unB up) Q (fun r v hr => (hQ r v hr).1))
  obtain ⟨t0, hs1, hs2⟩ := run_told (m : Int) (unB up) Q script st0
  have htl : (runP (m : Int) (unB up) Q script st0).2.told.length ≤ 60 := by
    rw [hs1]; simp only [show st0.told = [] from rfl, List.nil_append]; omega
  have hlenc := run_len (m : Int) (unB up) Q script st0
  have hbne : (((runP (m : Int) (unB up) Q script st0).1.length : Int) != (script.length : Int)) = false := by rw [hlenc]; exact bne_self_eq_false _
  simp only [Option.bind_some, bne_self_eq_false, cond_false, s1, Bool.not_true, hbne, joinD, loopE]
  have hold := hgood.old
  have hok := hgood.ok
  have htb := Open_len hN hw _ h
  have hm32 := hO.h1
  generalize (runP (m : Int) (unB up) Q script st0).2.told = ls at htl hold hok
  have h0 : ∀ t ∈ ls, 0 ≤ amtT t := fun t ht => (hok t ht).2.1
  refine loopD_pass (n := ls.length) (by omega) (fun i hi kn => ?_) (fun kn => ?_) (by omega)
  · obtain ⟨p1, p2, p3, p4, p5, p6, p7⟩ := hok _ (nth_mem (z := ((0 : Int), (0 : Int), (0 : Int), (0 : Int), (0 : Int))) hi)
    simp only [keep_PolicyQuota_7, joinD, loopE, lt_d hi, ge0_d, Int.toNat_natCast, Bool.and_self, cond_true, keep_PolicyQuota_2, ix1P hi (by omega), backE_eq]
    generalize nth ((0 : Int), (0 : Int), (0 : Int), (0 : Int), (0 : Int)) ls i = t at p1 p2 p3 p4 p5 p6 p7
    obtain ⟨v, hv⟩ := Option.isSome_iff_exists.1 p1
    obtain ⟨⟨v0, v1'⟩, e, he, hek, hev⟩ := hT.only _ _ hv
    obtain ⟨bw, w1, w2⟩ := within_eq (N := 1000) (n := (m : Int)) (xs := [t.2.2.1, t.2.2.2.1]) (by simp) (by simp)
    obtain rfl := w2.2 fun x hx => by
      rcases List.mem_cons.1 hx with rfl | hx
      · exact ⟨p3, p4⟩
      · rw [List.mem_singleton.1 hx]; exact ⟨p5, p6⟩
    have hbel : D_keep_below 1000 (((m : Int), up), t.2.2.1, t.2.2.2.1, ()) = some (false, ()) := by
      have h3 := kbelow_eq (n := (m : Int)) 1000 hw (i := t.2.2.1.toNat) (j := t.2.2.2.1.toNat) (by omega) (by omega)
      rw [Int.toNat_of_nonneg p3, Int.toNat_of_nonneg p5] at h3
      rw [h3]
      have : bt (nth 0 up t.2.2.1.toNat) t.2.2.2.1.toNat = false := p7
      rw [this]
    have hany : table.any (fun e => decide (keyE e = keyT t)) = true := List.any_eq_true.2 ⟨e, he, by simpa using hek⟩
    refine loopD_path (n := table.length) (st := fun j => ((table.take j).any (fun e => decide (keyE e = keyT t)), (j : Int))) (fun j hj kn2 => ?_) (fun kn2 => ?_) (N := 1000) ?_
    · rw [take_nthP (z := ((0 : Int), (0 : Int), (0 : Int), (0 : Int))) hj, List.any_append]
      generalize (table.take j).any (fun e => decide (keyE e = keyT t)) = fd
      have hmem := nth_mem (z := ((0 : Int), (0 : Int), (0 : Int), (0 : Int))) hj
      generalize he' : nth ((0 : Int), (0 : Int), (0 : Int), (0 : Int)) table j = e' at hmem
      simp only [keep_PolicyQuota_6, keep_PolicyQuota_5, keep_PolicyQuota_4, joinD, he', lt_d hj, ge0_d, Int.toNat_natCast, Bool.and_self, cond_true, ix1P hj (by omega), backE_eq, List.any_cons, List.any_nil, Bool.or_false]
      have hcast : ((j + 1 : Nat) : Int) = (j : Int) + 1 := rfl
      rw [hcast]
      have hm : decide (keyE e' = keyT t) = decide (e'.1 = t.2.1 ∧ e'.2.1 = t.2.2.1 ∧ e'.2.2.1 = t.2.2.2.1) := by
        simp only [keyE, keyT, Prod.mk.injEq]
      rw [hm]
      by_cases g2 : e'.1 = t.2.1
      case neg => rw [beq_false_of_ne g2, cond_false, cond_false, d_false (fun e => g2 e.1), Bool.or_false]
      rw [show (e'.1 == t.2.1) = true from beq_iff_eq.2 g2, cond_true]
      by_cases g3 : e'.2.1 = t.2.2.1
      case neg => rw [beq_false_of_ne g3, cond_false, cond_false, d_false (fun e => g3 e.2.1), Bool.or_false]
      rw [show (e'.2.1 == t.2.2.1) = true from beq_iff_eq.2 g3, cond_true]
      by_cases g4 : e'.2.2.1 = t.2.2.2.1
      case neg => rw [beq_false_of_ne g4, cond_false, d_false (fun e => g4 e.2.2), Bool.or_false]
      rw [show (e'.2.2.1 == t.2.2.2.1) = true from beq_iff_eq.2 g4, cond_true, d_true ⟨g2, g3, g4⟩, Bool.or_true]
      have hqe := hT.all e' hmem
      have h4 := hold (keyE e') t.1
      rw [hqe] at h4
      simp only at h4
      have h5 := hQ _ _ hqe
      have h6 := granted_eq (N := 1000) (ls := ls) (e := e') (k := t.1) (by omega) (by omega) h0 (by omega)
      have h6' : D_keep_granted 1000 (ls, (e'.1, e'.2.1, e'.2.2.1, e'.2.2.2), t.1, ()) = some (grant ls (keyE e') t.1, ()) := h6
      rw [h6', Option.bind_some, d_false (show ¬ grant ls (keyE e') t.1 > e'.2.2.2 from Int.not_lt.2 h4), cond_false]
    · simp only [keep_PolicyQuota_6, lt_self, cond_false, List.take_length, hany, keep_PolicyQuota_3, Bool.not_true, d_false (show ¬ t.2.2.2.2 < 0 from Int.not_lt.2 p2), w1, Option.bind_some, hbel, ix1P hi (by omega), backE_eq]
    · omega
  · simp only [keep_PolicyQuota_7, lt_self, cond_false, keep_PolicyQuota_1]
set_option maxRecDepth 100000 in
theorem lifted_PolicyQuota (os : Os) (started : os.Started) (H : Type) (enc : TypeId × Value → H) :
    ReturnsInHanded {} Tryd.checked os 3 .any (fun w args => (Rows.policyQuotaSpec.pre enc Tryd.prog Tryd.f3 [] false w args ∧ laidMetH Tryd.prog Rows.policyQuotaRow.laid w) ∧ sizedMet enc Tryd.prog Tryd.f3 (OpenSpec.ofChange Rows.policyQuotaSpec) false w args) (Rows.policyQuotaSpec.post enc Tryd.prog Tryd.f3 false true false false) := by
  refine returnsInHanded_of_change_and (C := Tryd.checked) (X := fun w _ => laidMetH Tryd.prog Rows.policyQuotaRow.laid w) (fun _ _ _ hh h => h.of_heap hh) own started (by kernel_rfl) Tryd.func3
    (ChangeSpec.witness_shaped (enc := enc) (C := Tryd.checked) (os := os) (X := fun w _ => laidMetH Tryd.prog Rows.policyQuotaRow.laid w) false (World.doorLaid Tryd.prog 400 os) #[.agg #[.int .i64 0, .slice none 0 0], .slice none 0 0, .slice none 0 0] 8 rfl (World.shaped_of_RefB (by kernel_rfl) (by kernel_rfl)) (by kernel_rfl) (by kernel_rfl) (by kernel_rfl) (door_met os _)) ?_
  intro W base args ds gs before hval0 hW _ hsz0 hL _
  have hgw : GW Gs W := gw_of hL
  have hval : ∀ (j : Nat) t v, Tryd.f3.params[j]? = some t → args[j]? = some v → Value.okWide Tryd.prog W .any base t v := hval0
  have hW' := hW
  obtain ⟨p, q, hA0, hV, rfl, _, _⟩ := hW
  have hA : DataW.TrodAll enc Tryd.prog W 0 (fun _ => true) true Tryd.f3.params.toList args.toList ds p := hA0
  rw [Tryd.params3] at hA hval
  obtain ⟨v0, vs0, d0, ds0, p0, q0, hargs, rfl, rfl, h0, r0⟩ := trodAll_cons hA
  obtain ⟨v1, vs1, d1, ds1, p1, q1, rfl, rfl, rfl, h1, r1⟩ := trodAll_cons r0
  obtain ⟨v2, vs2, d2, ds2, p2, q2, rfl, rfl, rfl, h2, r2⟩ := trodAll_cons r1
  obtain ⟨rfl, rfl, rfl⟩ := trodAll_nil r2
  obtain rfl : args = #[v0, v1, v2] := by cases args; simp_all
  obtain ⟨rfl, rfl⟩ := trodVars_none hV
  have hall := List.all_eq_true.1 hsz0
  clear hA0 hval0 hsz0
  simp only [List.append_nil] at hW'
  have hlt0 : ∀ x ∈ p0, x.block < W.heap.size := fun x hx => hW'.lt x (by simp [hx])
  have hlt1 : ∀ x ∈ p1, x.block < W.heap.size := fun x hx => hW'.lt x (by simp [hx])
  have hlt2 : ∀ x ∈ p2, x.block < W.heap.size := fun x hx => hW'.lt x (by simp [hx])
  obtain ⟨x0, g0, w0⟩ := open_kd (k := .dat (.pair (.int .i64) (.sl (.int .u32)))) (by kernel_rfl) (hval 0 24 v0 rfl rfl) h0
  obtain ⟨x1, g1, w1⟩ := open_kd (k := .dat (.sl (.pair (.int .i64) (.pair (.int .i64) (.pair (.int .i64) (.int .i64)))))) (by kernel_rfl) (hval 1 25 v1 rfl rfl) h1
  obtain ⟨x2, g2, w2⟩ := open_kd (k := .dat (.sl (.pair (.int .i64) (.pair (.int .i64) (.pair (.int .i64) (.pair (.int .i64) (.int .i64))))))) (by kernel_rfl) (hval 2 26 v2 rfl rfl) h2
  obtain ⟨N, hN⟩ := law_PolicyQuota x0 x1 x2 w0 w1 w2
  refine (sp_keep_PolicyQuota N (fun _ => False) W (x0, x1, x2, ()) (true, ()) [v0, v1, v2] (fun _ h => h.elim) hgw ⟨v0, _, rfl, g0, ⟨v1, _, rfl, g1, ⟨v2, _, rfl, g2, rfl⟩⟩⟩ hN).mono ?_
  rintro e W' ⟨v, rfl, hg, hr⟩
  replace hg := hg.old
  have hr : v = .bool true := by simpa only [kvals, retV, Kd.val, Go.Abs.enc, RV] using hr
  subst hr
  exact ⟨_, rfl, _, _, _, [], p0 ++ (p1 ++ (p2 ++ [])), [], hW', (trodAll_cons_mk (shut_bool (show Tryd.prog.underlying 4 = some .bool by kernel_rfl) _) trodAll_mk0), (trodAll_cons_mk (Below.trod laidOut (by kernel_rfl) (of_decide_eq_true (by kernel_rfl)) h0 hg hlt0) (trodAll_cons_mk (Below.trod laidOut (by kernel_rfl) (of_decide_eq_true (by kernel_rfl)) h1 hg hlt1) (trodAll_cons_mk (Below.trod laidOut (by kernel_rfl) (of_decide_eq_true (by kernel_rfl)) h2 hg hlt2) trodAll_mk0))), rfl, hg.frame _, fun h => by cases h⟩

/-- The statement: whatever the arguments, the law's function returns true and leaves them as they were. -/
theorem policyQuota_holds : Rows.PolicyQuotaSaid :=
  OpenClaim.holds_of_wide 3 Tryd.f3 rfl rfl rfl rfl rfl rfl rfl ⟨rfl, rfl, rfl, rfl, rfl⟩ rfl rfl rfl rfl rfl (by kernel_rfl) Tryd.func3 (by kernel_rfl)
    (of_decide_eq_true (by kernel_rfl)) (by unfold Func.isWrapper; first | (rw [if_pos (by decide +kernel)]; kernel_rfl) | (rw [if_neg (by decide +kernel)]; exact ⟨rfl, rfl⟩))
    (fun os started H enc _ => lifted_PolicyQuota os started H enc)
/-- The statement's card: the variable that the road reads is tied to the program's text. -/
theorem policyQuota_card : Rows.PolicyQuotaCardSaid :=
  Claim7.holds_tied_plain_at .later [] [.data, .handle] true (true, "812d7677b0d9ba06e857ea22dc29d3efef33d7f6a32d82e7ee766aa0bccdced0") true policyQuota_holds (fun _ h => by cases h) (by kernel_rfl) (fun _ h => by cases h) policyQuota_row_tie rfl ⟨rfl, rfl⟩ (by kernel_rfl) rfl
    (fun f fn hf hfn => by
      obtain rfl : f = 3 := Option.some.inj ((show Tryd.prog.funcNamed "watershed/watershedkeep.PolicyQuota" = some 3 by kernel_rfl).symm.trans hf) |>.symm
      obtain rfl : fn = Tryd.f3 := (Option.some.inj (Tryd.func3.symm.trans hfn)).symm
      exact ⟨by kernel_rfl, fun j t ht => by
        have h3 := List.all_eq_true.1 (show (Tryd.f3.params.toList.all fun t => !(Tryd.prog.wantsStandIn t)) = true by kernel_rfl) t (by rw [← Array.getElem?_toList] at ht; exact List.mem_of_getElem? ht)
        have h4 : Tryd.prog.wantsStandIn t = false := by simpa using h3
        exact h4⟩)
    (by kernel_rfl)
end Go.Proofs.YtopjalcimclaaaaDoor
