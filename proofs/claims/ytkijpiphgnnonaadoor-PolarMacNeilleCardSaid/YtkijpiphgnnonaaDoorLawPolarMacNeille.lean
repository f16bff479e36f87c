/- The completion of an order (Dedekind, MacNeille): the law answers true for every order. No condition. -/
import Derived.Test.YtkijpiphgnnonaaDoorMacS
import Derived.Test.YtkijpiphgnnonaaDoorBoardS
import Derived.Test.YtkijpiphgnnonaaDoorFrame
namespace Go.Proofs.YtkijpiphgnnonaaDoor
open Go Go.ChangeShapes Go.WideShapes Go.ChangeAt Go.WideMaps Go.WideElems Go.RowKit Go.Abs Go.Pol
-- watershed/watershedkeep.PolarMacNeille
abbrev Ks_keep_PolarMacNeille : List Kd := [.dat (.pair (.int .i64) (.sl (.int .u32)))]
abbrev Rk_keep_PolarMacNeille : List Kd := [.dat (.bool)]
abbrev Rt_keep_PolarMacNeille : Type := Dens Rk_keep_PolarMacNeille
noncomputable def C_keep_PolarMacNeille (_N : Nat) : Ctx := { T := [(3, ⟨.int .i64, 1, 8, some (.int .i64), [.int .i64 (0 : Int)], false, []⟩), (4, ⟨.bool, 1, 1, some .bool, [.bool false], false, []⟩), (37, ⟨.struct [(0, 3), (1, 22)], 2, 32, some (.pair (.int .i64) (.sl (.int .u32))), [.int .i64 (0 : Int), .nil], false, []⟩), (39, ⟨.slice 3, 1, 24, some (.sl (.int .i64)), [.nil], false, []⟩), (43, ⟨.struct [(0, 39), (1, 39), (2, 3), (3, 3)], 4, 64, some (.pair (.sl (.int .i64)) (.pair (.sl (.int .i64)) (.pair (.int .i64) (.int .i64)))), [.nil, .nil, .int .i64 (0 : Int), .int .i64 (0 : Int)], false, []⟩), (45, ⟨.struct [(0, 37), (2, 43), (6, 4)], 7, 104, some (.pair (.pair (.int .i64) (.sl (.int .u32))) (.pair (.pair (.sl (.int .i64)) (.pair (.sl (.int .i64)) (.pair (.int .i64) (.int .i64)))) (.bool))), [.int .i64 (0 : Int), .nil, .nil, .nil, .int .i64 (0 : Int), .int .i64 (0 : Int), .bool false], false, []⟩)], G := findE [mkP 8 Ks_keep_sound Rk_keep_sound (D_keep_sound _N), mkP 9 Ks_keep_refused Rk_keep_refused (D_keep_refused _N), mkQ 10 Ks_polar_Complete Rk_polar_Complete (D_polar_Complete _N), mkQ 11 Ks_keep_open Rk_keep_open (D_keep_open _N), mkP 12 Ks_keep_within Rk_keep_within (D_keep_within _N), mkQ 16 Ks_lattice_Make Rk_lattice_Make (D_lattice_Make _N), mkP 13 Ks_keep_below Rk_keep_below (D_keep_below _N), mkP 14 Ks_keep_board_or Rk_keep_board_or (D_keep_board_or _N), mkP 15 Ks_keep_board_and Rk_keep_board_and (D_keep_board_and _N)], I := findI [], N := _N, n := 139, fx := [], fl := 0, gs := Gs }
noncomputable def keep_PolarMacNeille_1 (_N : Nat) (_v152 : Int) (_v153 : List Int) (_v154 : Int) : Option Rt_keep_PolarMacNeille :=
  ((D_lattice_Make _N ((_v152, _v153), ())).bind fun _y169 => (bif (_y169.2.1 != (0 : Int)) then (some (true, ())) else (some ((_v154 == _v152), ()))))
noncomputable def keep_PolarMacNeille_2 (_N : Nat) (_kn171 : (List Int × Int × List Int × Int × List Int × Int × List Int × List Int × List Int × Int × Int × Bool) × Int → Option Rt_keep_PolarMacNeille) (_v124 : List Int) (_v125 : Int) (_v129 : Int) (_v130 : List Int) (_v131 : Int) (_v132 : List Int) (_v133 : Int) (_v134 : List Int) (_v135 : List Int) (_v136 : List Int) (_v137 : Int) (_v138 : Int) (_v139 : Bool) : Option Rt_keep_PolarMacNeille :=
  (_kn171 ((_v124, _v129, _v130, _v131, _v132, _v133, _v134, _v135, _v136, _v137, _v138, _v139), (IntKind.i64.wrap (_v125 + (1 : Int)))))
noncomputable def keep_PolarMacNeille_3 (_N : Nat) (_k172 : (List Int × Int × Int × Int × Bool × Int × List Int × Int × List Int × Int × List Int × List Int × List Int × Int × Int × Bool) → Option Rt_keep_PolarMacNeille) (_v109 : List Int) (_v110 : Int) (_v111 : Int) (_v112 : Int) (_v113 : Int) (_v114 : List Int) (_v115 : Int) (_v116 : List Int) (_v117 : Int) (_v118 : List Int) (_v119 : List Int) (_v120 : List Int) (_v121 : Int) (_v122 : Int) (_v123 : Bool) : Option Rt_keep_PolarMacNeille :=
  (bif (_v111 != _v110) then (some (false, ())) else (bif (_v112 != _v110) then (some (false, ())) else (_k172 (_v109, _v110, _v112, _v110, (_v112 != _v110), _v113, _v114, _v115, _v116, _v117, _v118, _v119, _v120, _v121, _v122, _v123))))
noncomputable def keep_PolarMacNeille_4 (_N : Nat) (_k173 : (List Int × Int × Int × Int × Int × List Int × Int × List Int × Int × List Int × List Int × List Int × Int × Int × Bool) → Option Rt_keep_PolarMacNeille) (_v79 : List Int) (_v80 : Int) (_v83 : List Int) (_v84 : Int) (_v86 : Int) (_v87 : List Int) (_v88 : Int) (_v89 : List Int) (_v90 : Int) (_v91 : List Int) (_v92 : List Int) (_v93 : List Int) (_v94 : Int) (_v95 : Int) (_v96 : Bool) (_v81 : Int) (_v82 : Int) (_v85 : Int) (_kn174 : (List Int × Int × List Int × Int × Int × List Int × Int × List Int × Int × List Int × List Int × List Int × Int × Int × Bool) × (Int × Int × Int) → Option Rt_keep_PolarMacNeille) : Option Rt_keep_PolarMacNeille :=
  (bif (decide (_v85 < _v84)) then (bif (decide (0 ≤ _v85) && decide (_v85 < (_v83.length : Int))) then ((D_keep_below _N ((_v88, _v89), (nth (0 : Int) _v83 (_v85).toNat), _v80, ())).bind fun _y175 => (bif _y175.1 then ((D_keep_board_or _N (((_v90, _v91), ((_v92, (_v93, (_v94, _v95))), _v96)), _v81, (nth (0 : Int) _v83 (_v85).toNat), ())).bind fun _y176 => ((D_keep_below _N ((_v88, _v89), _v80, (nth (0 : Int) _v83 (_v85).toNat), ())).bind fun _y177 => (bif _y177.1 then ((D_keep_board_and _N (((_v90, _v91), ((_v92, (_v93, (_v94, _v95))), _v96)), _v82, (nth (0 : Int) _v83 (_v85).toNat), ())).bind fun _y178 => (_kn174 ((_v79, _v80, _v83, _v84, _v86, _v87, _v88, _v89, _v90, _v91, _v92, _v93, _v94, _v95, _v96), (_y176.1, _y178.1, (IntKind.i64.wrap (_v85 + (1 : Int))))))) else (_kn174 ((_v79, _v80, _v83, _v84, _v86, _v87, _v88, _v89, _v90, _v91, _v92, _v93, _v94, _v95, _v96), (_y176.1, _v82, (IntKind.i64.wrap (_v85 + (1 : Int))))))))) else ((D_keep_below _N ((_v88, _v89), _v80, (nth (0 : Int) _v83 (_v85).toNat), ())).bind fun _y179 => (bif _y179.1 then ((D_keep_board_and _N (((_v90, _v91), ((_v92, (_v93, (_v94, _v95))), _v96)), _v82, (nth (0 : Int) _v83 (_v85).toNat), ())).bind fun _y180 => (_kn174 ((_v79, _v80, _v83, _v84, _v86, _v87, _v88, _v89, _v90, _v91, _v92, _v93, _v94, _v95, _v96), (_v81, _y180.1, (IntKind.i64.wrap (_v85 + (1 : Int))))))) else (_kn174 ((_v79, _v80, _v83, _v84, _v86, _v87, _v88, _v89, _v90, _v91, _v92, _v93, _v94, _v95, _v96), (_v81, _v82, (IntKind.i64.wrap (_v85 + (1 : Int)))))))))) else none) else (_k173 (_v79, _v80, _v81, _v82, _v86, _v87, _v88, _v89, _v90, _v91, _v92, _v93, _v94, _v95, _v96)))
noncomputable def keep_PolarMacNeille_5 (_N : Nat) (_k170 : (Int × List Int × Int × List Int × Int × List Int × List Int × List Int × Int × Int × Bool) → Option Rt_keep_PolarMacNeille) (_v66 : List Int) (_v68 : Int) (_v69 : List Int) (_v70 : Int) (_v71 : List Int) (_v72 : Int) (_v73 : List Int) (_v74 : List Int) (_v75 : List Int) (_v76 : Int) (_v77 : Int) (_v78 : Bool) (_v67 : Int) (_kn171 : (List Int × Int × List Int × Int × List Int × Int × List Int × List Int × List Int × Int × Int × Bool) × Int → Option Rt_keep_PolarMacNeille) : Option Rt_keep_PolarMacNeille :=
  (bif (decide (_v67 < _v70)) then (joinD (fun (_s : List Int × Int × Int × Int × Bool × Int × List Int × Int × List Int × Int × List Int × List Int × List Int × Int × Int × Bool) => keep_PolarMacNeille_2 _N _kn171 _s.1 _s.2.1 _s.2.2.2.2.2.1 _s.2.2.2.2.2.2.1 _s.2.2.2.2.2.2.2.1 _s.2.2.2.2.2.2.2.2.1 _s.2.2.2.2.2.2.2.2.2.1 _s.2.2.2.2.2.2.2.2.2.2.1 _s.2.2.2.2.2.2.2.2.2.2.2.1 _s.2.2.2.2.2.2.2.2.2.2.2.2.1 _s.2.2.2.2.2.2.2.2.2.2.2.2.2.1 _s.2.2.2.2.2.2.2.2.2.2.2.2.2.2.1 _s.2.2.2.2.2.2.2.2.2.2.2.2.2.2.2) fun _k172 => (joinD (fun (_s : List Int × Int × Int × Int × Int × List Int × Int × List Int × Int × List Int × List Int × List Int × Int × Int × Bool) => keep_PolarMacNeille_3 _N _k172 _s.1 _s.2.1 _s.2.2.1 _s.2.2.2.1 _s.2.2.2.2.1 _s.2.2.2.2.2.1 _s.2.2.2.2.2.2.1 _s.2.2.2.2.2.2.2.1 _s.2.2.2.2.2.2.2.2.1 _s.2.2.2.2.2.2.2.2.2.1 _s.2.2.2.2.2.2.2.2.2.2.1 _s.2.2.2.2.2.2.2.2.2.2.2.1 _s.2.2.2.2.2.2.2.2.2.2.2.2.1 _s.2.2.2.2.2.2.2.2.2.2.2.2.2.1 _s.2.2.2.2.2.2.2.2.2.2.2.2.2.2) fun _k173 => (loopE (fun (_c : List Int × Int × List Int × Int × Int × List Int × Int × List Int × Int × List Int × List Int × List Int × Int × Int × Bool) (_s : Int × Int × Int) _kn => keep_PolarMacNeille_4 _N _k173 _c.1 _c.2.1 _c.2.2.1 _c.2.2.2.1 _c.2.2.2.2.1 _c.2.2.2.2.2.1 _c.2.2.2.2.2.2.1 _c.2.2.2.2.2.2.2.1 _c.2.2.2.2.2.2.2.2.1 _c.2.2.2.2.2.2.2.2.2.1 _c.2.2.2.2.2.2.2.2.2.2.1 _c.2.2.2.2.2.2.2.2.2.2.2.1 _c.2.2.2.2.2.2.2.2.2.2.2.2.1 _c.2.2.2.2.2.2.2.2.2.2.2.2.2.1 _c.2.2.2.2.2.2.2.2.2.2.2.2.2.2 _s.1 _s.2.1 _s.2.2 _kn) _N (_v66, _v67, _v66, (_v66.length : Int), _v68, _v69, _v70, _v71, _v72, _v73, _v74, _v75, _v76, _v77, _v78) (_v76, _v77, (0 : Int))))) else (_k170 (_v68, _v69, _v70, _v71, _v72, _v73, _v74, _v75, _v76, _v77, _v78)))
noncomputable def keep_PolarMacNeille_6 (_N : Nat) (_v54 : List Int) (_v55 : Int) (_v56 : List Int) (_v57 : Int) (_v58 : List Int) (_v59 : Int) (_v60 : List Int) (_v61 : List Int) (_v62 : List Int) (_v63 : Int) (_v64 : Int) (_v65 : Bool) : Option Rt_keep_PolarMacNeille :=
  (joinD (fun (_s : Int × List Int × Int × List Int × Int × List Int × List Int × List Int × Int × Int × Bool) => keep_PolarMacNeille_1 _N _s.1 _s.2.1 _s.2.2.1) fun _k170 => (loopE (fun (_c : List Int × Int × List Int × Int × List Int × Int × List Int × List Int × List Int × Int × Int × Bool) (_s : Int) _kn => keep_PolarMacNeille_5 _N _k170 _c.1 _c.2.1 _c.2.2.1 _c.2.2.2.1 _c.2.2.2.2.1 _c.2.2.2.2.2.1 _c.2.2.2.2.2.2.1 _c.2.2.2.2.2.2.2.1 _c.2.2.2.2.2.2.2.2.1 _c.2.2.2.2.2.2.2.2.2.1 _c.2.2.2.2.2.2.2.2.2.2.1 _c.2.2.2.2.2.2.2.2.2.2.2 _s _kn) _N (_v54, _v55, _v56, _v57, _v58, _v59, _v60, _v61, _v62, _v63, _v64, _v65) (0 : Int)))
noncomputable def keep_PolarMacNeille_7 (_N : Nat) (_kn182 : (List Int × Int × List Int × Int × List Int × Int × List Int × List Int × List Int × Int × Int × Bool) × Int → Option Rt_keep_PolarMacNeille) (_v37 : List Int) (_v38 : Int) (_v39 : Int) (_v40 : List Int) (_v41 : Int) (_v42 : List Int) (_v43 : Int) (_v44 : List Int) (_v45 : List Int) (_v46 : List Int) (_v47 : Int) (_v48 : Int) (_v49 : Bool) : Option Rt_keep_PolarMacNeille :=
  (_kn182 ((_v37, _v39, _v40, _v41, _v42, _v43, _v44, _v45, _v46, _v47, _v48, _v49), (IntKind.i64.wrap (_v38 + (1 : Int)))))
noncomputable def keep_PolarMacNeille_8 (_N : Nat) (_k183 : (List Int × Int × Int × List Int × Int × List Int × Int × List Int × List Int × List Int × Int × Int × Bool) → Option Rt_keep_PolarMacNeille) (_v19 : List Int) (_v20 : Int) (_v22 : Int) (_v23 : List Int) (_v24 : Int) (_v25 : List Int) (_v26 : Int) (_v27 : List Int) (_v28 : List Int) (_v29 : List Int) (_v30 : Int) (_v31 : Int) (_v32 : Bool) (_v21 : Int) (_kn184 : (List Int × Int × Int × List Int × Int × List Int × Int × List Int × List Int × List Int × Int × Int × Bool) × Int → Option Rt_keep_PolarMacNeille) : Option Rt_keep_PolarMacNeille :=
  (bif (decide (_v21 < _v22)) then ((D_keep_below _N ((_v22, _v23), _v20, _v21, ())).bind fun _y185 => (bif (decide (0 ≤ _v20) && decide (_v20 < (_v19.length : Int))) then (bif (decide (0 ≤ _v21) && decide (_v21 < (_v19.length : Int))) then ((D_keep_below _N ((_v24, _v25), (nth (0 : Int) _v19 (_v20).toNat), (nth (0 : Int) _v19 (_v21).toNat), ())).bind fun _y186 => (bif (!(_y185.1 == _y186.1)) then (some (false, ())) else (_kn184 ((_v19, _v20, _v22, _v23, _v24, _v25, _v26, _v27, _v28, _v29, _v30, _v31, _v32), (IntKind.i64.wrap (_v21 + (1 : Int))))))) else none) else none)) else (_k183 (_v19, _v20, _v22, _v23, _v24, _v25, _v26, _v27, _v28, _v29, _v30, _v31, _v32)))
noncomputable def keep_PolarMacNeille_9 (_N : Nat) (_k181 : (List Int × Int × List Int × Int × List Int × Int × List Int × List Int × List Int × Int × Int × Bool) → Option Rt_keep_PolarMacNeille) (_v6 : List Int) (_v8 : Int) (_v9 : List Int) (_v10 : Int) (_v11 : List Int) (_v12 : Int) (_v13 : List Int) (_v14 : List Int) (_v15 : List Int) (_v16 : Int) (_v17 : Int) (_v18 : Bool) (_v7 : Int) (_kn182 : (List Int × Int × List Int × Int × List Int × Int × List Int × List Int × List Int × Int × Int × Bool) × Int → Option Rt_keep_PolarMacNeille) : Option Rt_keep_PolarMacNeille :=
  (bif (decide (_v7 < _v8)) then (joinD (fun (_s : List Int × Int × Int × List Int × Int × List Int × Int × List Int × List Int × List Int × Int × Int × Bool) => keep_PolarMacNeille_7 _N _kn182 _s.1 _s.2.1 _s.2.2.1 _s.2.2.2.1 _s.2.2.2.2.1 _s.2.2.2.2.2.1 _s.2.2.2.2.2.2.1 _s.2.2.2.2.2.2.2.1 _s.2.2.2.2.2.2.2.2.1 _s.2.2.2.2.2.2.2.2.2.1 _s.2.2.2.2.2.2.2.2.2.2.1 _s.2.2.2.2.2.2.2.2.2.2.2.1 _s.2.2.2.2.2.2.2.2.2.2.2.2) fun _k183 => (loopE (fun (_c : List Int × Int × Int × List Int × Int × List Int × Int × List Int × List Int × List Int × Int × Int × Bool) (_s : Int) _kn => keep_PolarMacNeille_8 _N _k183 _c.1 _c.2.1 _c.2.2.1 _c.2.2.2.1 _c.2.2.2.2.1 _c.2.2.2.2.2.1 _c.2.2.2.2.2.2.1 _c.2.2.2.2.2.2.2.1 _c.2.2.2.2.2.2.2.2.1 _c.2.2.2.2.2.2.2.2.2.1 _c.2.2.2.2.2.2.2.2.2.2.1 _c.2.2.2.2.2.2.2.2.2.2.2.1 _c.2.2.2.2.2.2.2.2.2.2.2.2 _s _kn) _N (_v6, _v7, _v8, _v9, _v10, _v11, _v12, _v13, _v14, _v15, _v16, _v17, _v18) (0 : Int))) else (_k181 (_v6, _v8, _v9, _v10, _v11, _v12, _v13, _v14, _v15, _v16, _v17, _v18)))
noncomputable def keep_PolarMacNeille_10 (_N : Nat) (_x1 : Int × List Int) : Option Rt_keep_PolarMacNeille :=
  ((D_keep_sound _N ((_x1.1, _x1.2), ())).bind fun _y164 => (bif (!_y164.1) then ((D_keep_refused _N ((_x1.1, _x1.2), ())).bind fun _y165 => (some (_y165.1, ()))) else ((D_polar_Complete _N ((_x1.1, _x1.2), ())).bind fun _y166 => (bif (_y166.2.2.1 != (0 : Int)) then (some ((_y166.2.2.1 == (1 : Int)), ())) else ((D_keep_open _N ((_y166.1.1, _y166.1.2), ())).bind fun _y167 => (bif (!_y167.2.1) then (some (false, ())) else (bif _y167.1.2.2 then (some (false, ())) else (bif ((_y166.2.1.length : Int) != _x1.1) then (some (false, ())) else ((D_keep_within _N (_y166.1.1, _y166.2.1, ())).bind fun _y168 => (bif (!_y168.1) then (some (false, ())) else (joinD (fun (_s : List Int × Int × List Int × Int × List Int × Int × List Int × List Int × List Int × Int × Int × Bool) => keep_PolarMacNeille_6 _N _s.1 _s.2.1 _s.2.2.1 _s.2.2.2.1 _s.2.2.2.2.1 _s.2.2.2.2.2.1 _s.2.2.2.2.2.2.1 _s.2.2.2.2.2.2.2.1 _s.2.2.2.2.2.2.2.2.1 _s.2.2.2.2.2.2.2.2.2.1 _s.2.2.2.2.2.2.2.2.2.2.1 _s.2.2.2.2.2.2.2.2.2.2.2) fun _k181 => (loopE (fun (_c : List Int × Int × List Int × Int × List Int × Int × List Int × List Int × List Int × Int × Int × Bool) (_s : Int) _kn => keep_PolarMacNeille_9 _N _k181 _c.1 _c.2.1 _c.2.2.1 _c.2.2.2.1 _c.2.2.2.2.1 _c.2.2.2.2.2.1 _c.2.2.2.2.2.2.1 _c.2.2.2.2.2.2.2.1 _c.2.2.2.2.2.2.2.2.1 _c.2.2.2.2.2.2.2.2.2.1 _c.2.2.2.2.2.2.2.2.2.2.1 _c.2.2.2.2.2.2.2.2.2.2.2 _s _kn) _N (_y166.2.1, _x1.1, _x1.2, _y166.1.1, _y166.1.2, _y167.1.1.1, _y167.1.1.2, _y167.1.2.1.1, _y167.1.2.1.2.1, _y167.1.2.1.2.2.1, _y167.1.2.1.2.2.2, _y167.1.2.2) (0 : Int)))))))))))))
noncomputable def D_keep_PolarMacNeille (_N : Nat) (_x : Dens Ks_keep_PolarMacNeille) : Option Rt_keep_PolarMacNeille := keep_PolarMacNeille_10 _N _x.1
theorem sp_keep_PolarMacNeille (_N : Nat) : SpecD Tryd.prog Gs 4 Ks_keep_PolarMacNeille Rk_keep_PolarMacNeille (D_keep_PolarMacNeille _N) := mkSpD (fn := Tryd.f4) (c := bodyOf Tryd.f4) (C := C_keep_PolarMacNeille _N)
    (a := .two .none (.two .none (.two .none (.two .none (.two .none (.two .none (.join 3 ⟨[(1, .ptr 0 0), (3, .ptr 1 0), (4, .sl (.int .i64)), (6, .ptr 2 0)], [.cells [.int .i64, .sl (.int .u32)], .cells [.int .i64, .sl (.int .u32)], .cells [.int .i64, .sl (.int .u32), .sl (.int .i64), .sl (.int .i64), .int .i64, .int .i64, .bool]]⟩ (.two .none (.one (.loop 3 ⟨[(1, .ptr 0 0), (3, .ptr 1 0), (4, .sl (.int .i64)), (6, .ptr 2 0), (8, .int .i64)], [.cells [.int .i64, .sl (.int .u32)], .cells [.int .i64, .sl (.int .u32)], .cells [.int .i64, .sl (.int .u32), .sl (.int .i64), .sl (.int .i64), .int .i64, .int .i64, .bool]]⟩ [1] (.two .none (.join 3 ⟨[(1, .ptr 0 0), (3, .ptr 1 0), (4, .sl (.int .i64)), (6, .ptr 2 0), (8, .int .i64)], [.cells [.int .i64, .sl (.int .u32)], .cells [.int .i64, .sl (.int .u32)], .cells [.int .i64, .sl (.int .u32), .sl (.int .i64), .sl (.int .i64), .int .i64, .int .i64, .bool]]⟩ (.one (.two .none (.one (.loop 3 ⟨[(1, .ptr 0 0), (3, .ptr 1 0), (4, .sl (.int .i64)), (6, .ptr 2 0), (8, .int .i64), (9, .int .i64)], [.cells [.int .i64, .sl (.int .u32)], .cells [.int .i64, .sl (.int .u32)], .cells [.int .i64, .sl (.int .u32), .sl (.int .i64), .sl (.int .i64), .int .i64, .int .i64, .bool]]⟩ [2] (.two .none (.two (.one (.two (.draw 0 [.rd [0], .pure, .pure, .pure, .rd [1], .pure, .pure, .pure, .pure, .pure, .pure, .pure, .pure, .pure, .pure]) .none)) .none)))))) .none))))) (.join 3 ⟨[(1, .ptr 0 0), (3, .ptr 1 0)], [.cells [.int .i64, .sl (.int .u32)], .cells [.int .i64, .sl (.int .u32)], .cells [.int .i64, .sl (.int .u32), .sl (.int .i64), .sl (.int .i64), .int .i64, .int .i64, .bool]]⟩ (.two .none (.one (.loop 3 ⟨[(1, .ptr 0 0), (3, .ptr 1 0), (4, .sl (.int .i64)), (6, .ptr 2 0), (10, .int .i64)], [.cells [.int .i64, .sl (.int .u32)], .cells [.int .i64, .sl (.int .u32)], .cells [.int .i64, .sl (.int .u32), .sl (.int .i64), .sl (.int .i64), .int .i64, .int .i64, .bool]]⟩ [1] (.two .none (.join 3 ⟨[(1, .ptr 0 0), (3, .ptr 1 0), (4, .sl (.int .i64)), (6, .ptr 2 0), (10, .int .i64), (121, .int .i64), (122, .int .i64), (123, .bool)], [.cells [.int .i64, .sl (.int .u32)], .cells [.int .i64, .sl (.int .u32)], .cells [.int .i64, .sl (.int .u32), .sl (.int .i64), .sl (.int .i64), .int .i64, .int .i64, .bool]]⟩ (.one (.two .none (.two .none (.join 3 ⟨[(1, .ptr 0 0), (3, .ptr 1 0), (4, .sl (.int .i64)), (6, .ptr 2 0), (10, .int .i64), (11, .int .i64), (12, .int .i64)], [.cells [.int .i64, .sl (.int .u32)], .cells [.int .i64, .sl (.int .u32)], .cells [.int .i64, .sl (.int .u32), .sl (.int .i64), .sl (.int .i64), .int .i64, .int .i64, .bool]]⟩ (.two .none (.one (.loop 3 ⟨[(1, .ptr 0 0), (3, .ptr 1 0), (4, .sl (.int .i64)), (6, .ptr 2 0), (10, .int .i64), (11, .int .i64), (12, .int .i64), (94, .sl (.int .i64)), (95, .int .i64), (96, .int .i64)], [.cells [.int .i64, .sl (.int .u32)], .cells [.int .i64, .sl (.int .u32)], .cells [.int .i64, .sl (.int .u32), .sl (.int .i64), .sl (.int .i64), .int .i64, .int .i64, .bool]]⟩ [2, 3, 6] .none))) .none)))) .none))))) .none))))))))
    (by kernel_rfl) rfl (by kernel_rfl) (by kernel_rfl) ⟨rfl, by unfold TOk; kernel_rfl, gOk_of rfl rfl (List.forall_mem_cons.2 ⟨en_keep_sound _N, (List.forall_mem_cons.2 ⟨en_keep_refused _N, (List.forall_mem_cons.2 ⟨qen_polar_Complete _N, (List.forall_mem_cons.2 ⟨qen_keep_open _N, (List.forall_mem_cons.2 ⟨en_keep_within _N, (List.forall_mem_cons.2 ⟨qen_lattice_Make _N, (List.forall_mem_cons.2 ⟨en_keep_below _N, (List.forall_mem_cons.2 ⟨en_keep_board_or _N, (List.forall_mem_cons.2 ⟨en_keep_board_and _N, (List.forall_mem_nil _)⟩)⟩)⟩)⟩)⟩)⟩)⟩)⟩)⟩), iOk_of rfl rfl (List.forall_mem_nil _), rfl⟩ (fun _x => by kernel_rfl)
theorem en_keep_PolarMacNeille (_N : Nat) : EntOk Tryd.prog Gs (mkP 4 Ks_keep_PolarMacNeille Rk_keep_PolarMacNeille (D_keep_PolarMacNeille _N)) := entP ⟨Tryd.f4, bodyOf Tryd.f4, by kernel_rfl, by kernel_rfl, rfl⟩ (by kernel_rfl) (sp_keep_PolarMacNeille _N)
theorem law_PolarMacNeille (o : Int × List Int) (wo : wfS (.pair (.int .i64) (.sl (.int .u32))) o) : ∃ N, D_keep_PolarMacNeille N (o, ()) = some (true, ()) := by
  obtain ⟨n, up⟩ := o
  have hw : WL up := WL_of wo.2
  refine ⟨1000, ?_⟩
  have hN : 1000 ≤ 1000 := Nat.le_refl _
  simp only [D_keep_PolarMacNeille, keep_PolarMacNeille_10]
  obtain ⟨s, s1, s2⟩ := sound_eq (N := 1000) (by omega) hw n
  obtain ⟨r, r1, r2⟩ := refused_eq (N := 1000) (by omega) hw n
  rw [s1, Option.bind_some]
  by_cases ho : Ord n up
  case neg =>
    have hs : s = false := by cases s with
      | false => rfl
      | true => exact absurd (s2.1 rfl) ho
    obtain rfl := r2.2 ho
    rw [hs, r1]; rfl
  obtain rfl := s2.2 ho
  obtain ⟨m, rfl⟩ : ∃ m : Nat, n = (m : Int) := ⟨n.toNat, by have := ho.h0; omega⟩
  have hm : m ≤ 16 := by have := ho.h1; omega
  have hl : up.length = m := by have := ho.len; simpa using this
  simp only [Bool.not_true, cond_false]
  rcases Complete_eq hN hw ho with h1 | ⟨cs, up', A, M, hA, hat, h1⟩
  · rw [h1]; rfl
  rw [h1]
  have hk := M.few
  have hlat := M.lat hw ho
  rcases open_spec hN M.w (cs.length : Int) with ⟨e, -, -, h2, -⟩ | ⟨k, J, K, b, t, hk', -, hlu, hO, hL, -, h2⟩
  · exact absurd hlat (h2 M.ord).2
  obtain rfl : cs.length = k := by omega
  obtain ⟨wb, w1, w2⟩ := within_eq (N := 1000) (n := (cs.length : Int)) (xs := A) (by omega) (by omega)
  obtain rfl := w2.2 fun x hx => by
    obtain ⟨i, hi, rfl⟩ := mem_nth (z := (0 : Int)) hx
    obtain ⟨a, a1, a2, -⟩ := hat i (by omega)
    omega
  obtain ⟨at_, hat_⟩ : ∃ at_ : Nat → Nat, ∀ x, x < m → at_ x < cs.length ∧ nth 0 A x = (at_ x : Int) ∧ nth 0 cs (at_ x) = dnw up m x := ⟨fun x => (nth 0 A x).toNat, fun x hx => by
    obtain ⟨a, a1, a2, a3⟩ := hat x hx
    simp only [a2, Int.toNat_natCast]
    exact ⟨a1, trivial, a3⟩⟩
  have hatM : ∀ x, x < m → at_ x < cs.length ∧ nth 0 cs (at_ x) = dnw up m x := fun x hx => ⟨(hat_ x hx).1, (hat_ x hx).2.2⟩
  simp only [Option.bind_some, bne_self_eq_false, cond_false, h2, Bool.not_true, hA, w1, joinD, loopE]
  refine loopD_pass (n := m) (by omega) (fun i hi kn => ?_) (fun kn => ?_) (by omega)
  · simp only [keep_PolarMacNeille_9, joinD, loopE, lt_d hi, cond_true, keep_PolarMacNeille_7, backE_eq, w64 (n := (i : Int) + 1) (by omega) (by omega)]
    refine loopD_pass (n := m) (by omega) (fun j hj kn2 => ?_) (fun kn2 => ?_) (by omega)
    · obtain ⟨a1, a2, a3⟩ := hat_ i hi
      obtain ⟨b1, b2, b3⟩ := hat_ j hj
      have hb1 := kbelow_eq (n := (m : Int)) 1000 hw (i := i) (j := j) (by omega) (by omega)
      have hb2 := kbelow_eq (n := (cs.length : Int)) 1000 M.w (i := at_ i) (j := at_ j) (by omega) (by omega)
      have hsame : bt (nth 0 up i) j = bt (nth 0 up' (at_ i)) (at_ j) := Bool.eq_iff_iff.2 (by
        show le up i j ↔ le up' (at_ i) (at_ j)
        rw [M.lei _ _ a1, a3, b3, dn_le hw ho hi hj]
        exact ⟨fun h => ⟨b1, h⟩, fun h => h.2⟩)
      simp only [keep_PolarMacNeille_8, lt_d hj, hA, lt_d hi, ge0_d, Bool.and_self, cond_true, Int.toNat_natCast, a2, b2, hb1, hb2, Option.bind_some, hsame, beq_self_eq_true, Bool.not_true, cond_false, backE_eq, w64 (n := (j : Int) + 1) (by omega) (by omega)]
    · simp only [keep_PolarMacNeille_8, lt_self, cond_false, backE_eq, w64 (n := (i : Int) + 1) (by omega) (by omega)]
  · simp only [keep_PolarMacNeille_9, lt_self, cond_false, keep_PolarMacNeille_6, joinD, loopE]
    have hLt := hL.lat
    simp only [Int.toNat_natCast] at hLt
    refine loopD_pass (n := cs.length) (by omega) (fun x hx kn => ?_) (fun kn => ?_) (by omega)
    · simp only [keep_PolarMacNeille_5, joinD, loopE, lt_d hx, cond_true, hA]
      obtain ⟨s', ⟨j, u, rfl, hj, hu, hjx, hxu, hjs, hus⟩, e⟩ := loopD_inv (g := fun (s : Int × Int × Int) kn2 => keep_PolarMacNeille_4 1000 (fun s => keep_PolarMacNeille_3 1000 (fun s => keep_PolarMacNeille_2 1000 (backE (A, (m : Int), up, (cs.length : Int), up', (cs.length : Int), up', J, K, (b : Int), (t : Int), false) kn) s.1 s.2.1 s.2.2.2.2.2.1 s.2.2.2.2.2.2.1 s.2.2.2.2.2.2.2.1 s.2.2.2.2.2.2.2.2.1 s.2.2.2.2.2.2.2.2.2.1 s.2.2.2.2.2.2.2.2.2.2.1 s.2.2.2.2.2.2.2.2.2.2.2.1 s.2.2.2.2.2.2.2.2.2.2.2.2.1 s.2.2.2.2.2.2.2.2.2.2.2.2.2.1 s.2.2.2.2.2.2.2.2.2.2.2.2.2.2.1 s.2.2.2.2.2.2.2.2.2.2.2.2.2.2.2) s.1 s.2.1 s.2.2.1 s.2.2.2.1 s.2.2.2.2.1 s.2.2.2.2.2.1 s.2.2.2.2.2.2.1 s.2.2.2.2.2.2.2.1 s.2.2.2.2.2.2.2.2.1 s.2.2.2.2.2.2.2.2.2.1 s.2.2.2.2.2.2.2.2.2.2.1 s.2.2.2.2.2.2.2.2.2.2.2.1 s.2.2.2.2.2.2.2.2.2.2.2.2.1 s.2.2.2.2.2.2.2.2.2.2.2.2.2.1 s.2.2.2.2.2.2.2.2.2.2.2.2.2.2)
          A (x : Int) A (m : Int) (m : Int) up (cs.length : Int) up' (cs.length : Int) up' J K (b : Int) (t : Int) false s.1 s.2.1 s.2.2 (backE (A, (x : Int), A, (m : Int), (m : Int), up, (cs.length : Int), up', (cs.length : Int), up', J, K, (b : Int), (t : Int), false) kn2))
        (k := fun s => bif s.1 != (x : Int) then some (false, ()) else bif s.2.1 != (x : Int) then some (false, ()) else kn ((x : Int) + 1)) m
        (fun y s => ∃ j u : Nat, s = ((j : Int), (u : Int), (y : Int)) ∧ j < cs.length ∧ u < cs.length ∧ le up' j x ∧ le up' x u ∧ (∀ z, z < y → le up' (at_ z) x → le up' (at_ z) j) ∧ (∀ z, z < y → le up' x (at_ z) → le up' u (at_ z))) (N := 1000) (s := ((b : Int), (t : Int), (0 : Int)))
        (by
          rintro y _ hy ⟨j, u, rfl, hj, hu, hjx, hxu, hjs, hus⟩
          obtain ⟨a1, a2, a3⟩ := hat_ y hy
          have hb1 := kbelow_eq (n := (cs.length : Int)) 1000 M.w (i := at_ y) (j := x) (by omega) (by omega)
          have hb2 := kbelow_eq (n := (cs.length : Int)) 1000 M.w (i := x) (j := at_ y) (by omega) (by omega)
          have ho1 := or_eq (N := 1000) hL hk false j (at_ y) hj a1
          have ho2 := and_eq (N := 1000) hL hk false u (at_ y) hu a1
          have hJl := hLt.jlt j (at_ y) hj a1
          have hKl := hLt.klt u (at_ y) hu a1
          refine ⟨_, ⟨bif bt (nth 0 up' (at_ y)) x then jo cs.length J j (at_ y) else j, bif bt (nth 0 up' x) (at_ y) then jo cs.length K u (at_ y) else u, rfl, ?_, ?_, ?_, ?_, fun z hz hzx => ?_, fun z hz hzx => ?_⟩, fun kn2 => ?_⟩
          · cases bt (nth 0 up' (at_ y)) x <;> assumption
          · cases bt (nth 0 up' x) (at_ y) <;> assumption
          · cases q : bt (nth 0 up' (at_ y)) x with
            | false => exact hjx
            | true => exact (hLt.jle j (at_ y) x hj a1 hx).2 ⟨hjx, q⟩
          · cases q : bt (nth 0 up' x) (at_ y) with
            | false => exact hxu
            | true => exact (hLt.kle u (at_ y) x hu a1 hx).2 ⟨hxu, q⟩
          · cases q : bt (nth 0 up' (at_ y)) x with
            | false =>
              rcases Nat.lt_or_ge z y with h | h
              · exact hjs z h hzx
              · obtain rfl : z = y := by omega
                have hzx' : bt (nth 0 up' (at_ z)) x = true := hzx
                rw [q] at hzx'; cases hzx'
            | true =>
              rcases Nat.lt_or_ge z y with h | h
              · exact hLt.trans _ j _ (hat_ z (by omega)).1 hj hJl (hjs z h hzx) (hLt.jl hj a1)
              · obtain rfl : z = y := by omega
                exact hLt.jr hj a1
          · cases q : bt (nth 0 up' x) (at_ y) with
            | false =>
              rcases Nat.lt_or_ge z y with h | h
              · exact hus z h hzx
              · obtain rfl : z = y := by omega
                have hzx' : bt (nth 0 up' x) (at_ z) = true := hzx
                rw [q] at hzx'; cases hzx'
            | true =>
              rcases Nat.lt_or_ge z y with h | h
              · exact hLt.trans _ u _ hKl hu (hat_ z (by omega)).1 (hLt.kl hu a1) (hus z h hzx)
              · obtain rfl : z = y := by omega
                exact hLt.kr hu a1
          · simp only [keep_PolarMacNeille_4, lt_d hy, hA, ge0_d, Bool.and_self, cond_true, Int.toNat_natCast, a2, hb1, hb2, Option.bind_some, w64 (n := (y : Int) + 1) (by omega) (by omega), backE_eq]
            cases bt (nth 0 up' (at_ y)) x <;> cases bt (nth 0 up' x) (at_ y) <;> simp only [cond_true, cond_false, ho1, ho2, Option.bind_some] <;> rfl)
        (by
          rintro _ ⟨j, u, rfl, -⟩ kn2
          simp only [keep_PolarMacNeille_4, lt_self, cond_false, keep_PolarMacNeille_3, keep_PolarMacNeille_2, backE_eq, w64 (n := (x : Int) + 1) (by omega) (by omega)])
        (by omega) ⟨b, t, rfl, hLt.blt, hLt.tlt, hLt.ble x hx, hLt.tle x hx, fun z hz => absurd hz (Nat.not_lt_zero _), fun z hz => absurd hz (Nat.not_lt_zero _)⟩
      refine e.trans ?_
      obtain rfl : j = x := hLt.anti j x hj hx hjx (M.joins hw ho hatM hx hj hjs)
      obtain rfl : u = j := hLt.anti u j hu hx (M.meets hw ho hatM hx hu hus) hxu
      simp only [bne_self_eq_false, cond_false]
    · simp only [keep_PolarMacNeille_5, lt_self, cond_false, keep_PolarMacNeille_1]
      rcases LatOf_spec hN hw (m : Int) with ⟨e, he, h3, -⟩ | ⟨m', J', K', B, T, hm', -, hL', h3⟩
      · simp only [D_lattice_Make, lattice_Make_1, h3, Option.bind_some, show (e != 0) = true from bne_iff_ne.2 he, cond_true]
      · obtain rfl : m = m' := by omega
        have hs := M.same hw ho ⟨_, _, _, _, hL'.lat⟩
        simp only [D_lattice_Make, lattice_Make_1, h3, Option.bind_some, bne_self_eq_false, cond_false, hs, beq_self_eq_true]
set_option maxRecDepth 100000 in
theorem lifted_PolarMacNeille (os : Os) (started : os.Started) (H : Type) (enc : TypeId × Value → H) :
    ReturnsInHanded {} Tryd.checked os 4 .any (fun w args => (Rows.polarMacNeilleSpec.pre enc Tryd.prog Tryd.f4 [] false w args ∧ laidMetH Tryd.prog Rows.polarMacNeilleRow.laid w) ∧ sizedMet enc Tryd.prog Tryd.f4 (OpenSpec.ofChange Rows.polarMacNeilleSpec) false w args) (Rows.polarMacNeilleSpec.post enc Tryd.prog Tryd.f4 false true false false) := by
  refine returnsInHanded_of_change_and (C := Tryd.checked) (X := fun w _ => laidMetH Tryd.prog Rows.polarMacNeilleRow.laid w) (fun _ _ _ hh h => h.of_heap hh) own started (by kernel_rfl) Tryd.func4
    (ChangeSpec.witness_shaped (enc := enc) (C := Tryd.checked) (os := os) (X := fun w _ => laidMetH Tryd.prog Rows.polarMacNeilleRow.laid w) false (World.doorLaid Tryd.prog 400 os) #[.agg #[.int .i64 0, .slice none 0 0]] 8 rfl (World.shaped_of_RefB (by kernel_rfl) (by kernel_rfl)) (by kernel_rfl) (by kernel_rfl) (by kernel_rfl) (door_met os _)) ?_
  intro W base args ds gs before hval0 hW _ hsz0 hL _
  have hgw : GW Gs W := gw_of hL
  have hval : ∀ (j : Nat) t v, Tryd.f4.params[j]? = some t → args[j]? = some v → Value.okWide Tryd.prog W .any base t v := hval0
  have hW' := hW
  obtain ⟨p, q, hA0, hV, rfl, _, _⟩ := hW
  have hA : DataW.TrodAll enc Tryd.prog W 0 (fun _ => true) true Tryd.f4.params.toList args.toList ds p := hA0
  rw [Tryd.params4] at hA hval
  obtain ⟨v0, vs0, d0, ds0, p0, q0, hargs, rfl, rfl, h0, r0⟩ := trodAll_cons hA
  obtain ⟨rfl, rfl, rfl⟩ := trodAll_nil r0
  obtain rfl : args = #[v0] := by cases args; simp_all
  obtain ⟨rfl, rfl⟩ := trodVars_none hV
  have hall := List.all_eq_true.1 hsz0
  clear hA0 hval0 hsz0
  simp only [List.append_nil] at hW'
  have hlt0 : ∀ x ∈ p0, x.block < W.heap.size := fun x hx => hW'.lt x (by simp [hx])
  obtain ⟨x0, g0, w0⟩ := open_kd (k := .dat (.pair (.int .i64) (.sl (.int .u32)))) (by kernel_rfl) (hval 0 37 v0 rfl rfl) h0
  obtain ⟨N, hN⟩ := law_PolarMacNeille x0 w0
  refine (sp_keep_PolarMacNeille N (fun _ => False) W (x0, ()) (true, ()) [v0] (fun _ h => h.elim) hgw ⟨v0, _, rfl, g0, rfl⟩ hN).mono ?_
  rintro e W' ⟨v, rfl, hg, hr⟩
  replace hg := hg.old
  have hr : v = .bool true := by simpa only [kvals, retV, Kd.val, Go.Abs.enc, RV] using hr
  subst hr
  exact ⟨_, rfl, _, _, _, [], p0 ++ [], [], hW', (trodAll_cons_mk (shut_bool (show Tryd.prog.underlying 4 = some .bool by kernel_rfl) _) trodAll_mk0), (trodAll_cons_mk (Below.trod laidOut (by kernel_rfl) (of_decide_eq_true (by kernel_rfl)) h0 hg hlt0) trodAll_mk0), rfl, hg.frame _, fun h => by cases h⟩

/-- The statement: whatever the arguments, the law's function returns true and leaves them as they were. -/
theorem polarMacNeille_holds : Rows.PolarMacNeilleSaid :=
  OpenClaim.holds_of_wide 4 Tryd.f4 rfl rfl rfl rfl rfl rfl rfl ⟨rfl, rfl, rfl, rfl, rfl⟩ rfl rfl rfl rfl rfl (by kernel_rfl) Tryd.func4 (by kernel_rfl)
    (of_decide_eq_true (by kernel_rfl)) (by unfold Func.isWrapper; first | (rw [if_pos (by decide +kernel)]; kernel_rfl) | (rw [if_neg (by decide +kernel)]; exact ⟨rfl, rfl⟩))
    (fun os started H enc _ => lifted_PolarMacNeille os started H enc)
/-- The statement's card: the variable that the road reads is tied to the program's text. -/
theorem polarMacNeille_card : Rows.PolarMacNeilleCardSaid :=
  Claim7.holds_tied_plain_at .later [] [.data] true (true, "eebcbe0f3c8be3f0a6d70c5c4bf7b8bb5613e0469acd865ab9a669de598ee326") false polarMacNeille_holds (fun _ h => by cases h) (by kernel_rfl) (fun _ h => by cases h) polarMacNeille_row_tie rfl ⟨rfl, rfl⟩ (by kernel_rfl) rfl
    (fun f fn hf hfn => by
      obtain rfl : f = 4 := Option.some.inj ((show Tryd.prog.funcNamed "watershed/watershedkeep.PolarMacNeille" = some 4 by kernel_rfl).symm.trans hf) |>.symm
      obtain rfl : fn = Tryd.f4 := (Option.some.inj (Tryd.func4.symm.trans hfn)).symm
      exact ⟨by kernel_rfl, fun j t ht => by
        have h3 := List.all_eq_true.1 (show (Tryd.f4.params.toList.all fun t => !(Tryd.prog.wantsStandIn t)) = true by kernel_rfl) t (by rw [← Array.getElem?_toList] at ht; exact List.mem_of_getElem? ht)
        have h4 : Tryd.prog.wantsStandIn t = false := by simpa using h3
        exact h4⟩)
    (by kernel_rfl)
end Go.Proofs.YtkijpiphgnnonaaDoor
