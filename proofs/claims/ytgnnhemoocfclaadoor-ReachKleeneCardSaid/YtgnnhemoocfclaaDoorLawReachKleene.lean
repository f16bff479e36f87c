import Derived.Test.YtgnnhemoocfclaaDoorReaL
import Derived.Test.YtgnnhemoocfclaaDoorReaM
import Derived.Test.YtgnnhemoocfclaaDoorFrame
namespace Go.Proofs.YtgnnhemoocfclaaDoor
open Go Go.ChangeShapes Go.WideShapes Go.ChangeAt Go.WideMaps Go.WideElems Go.RowKit Go.Abs
abbrev SK : Sh:=.pair (.int .i64) (.pair (.int .i64) (.sl (.int .i64)))
abbrev SI : Sh:=.pair (.int .i64) (.pair (.int .i64) (.int .i64))
abbrev Yt : Type:=Int × Int × Int
abbrev Yr : Type:=Int × Int × List Int
abbrev Yq : Type:=List (Int × Int × Int)
abbrev Yp : Type:=Int × Int × Int × Int × Int
abbrev Yo : Type:=List (Int × Int × List Int)
abbrev qfQ : List Kd:=[.dat (.pair (.sl (.pair (.int .i64) (.pair (.int .i64) SI))) (.sl SI))]
abbrev qfO : List Kd:=[.dat (.bool)]
abbrev qc : Type:=Dens qfO
noncomputable def qkv (_N : Nat) : Ctx:={ T:=[(3,⟨.int .i64,1,8,some (.int .i64),[.int .i64 (0 : Int)],false,[]⟩),(22,⟨.slice 37,1,24,some (.sl (.pair (.int .i64) (.pair (.int .i64) SI))),[.nil],false,[]⟩),(23,⟨.slice 42,1,24,some (.sl SI),[.nil],false,[]⟩),(25,⟨.struct [(0,22),(1,23)],2,48,some (.pair (.sl (.pair (.int .i64) (.pair (.int .i64) SI))) (.sl SI)),[.nil,.nil],false,[]⟩),(26,⟨.slice 33,1,24,some (.sl (.sl SK)),[.nil],false,[]⟩),(27,⟨.int .i64,1,8,some (.int .i64),[.int .i64 (0 : Int)],false,[]⟩),(29,⟨.struct [(0,27),(1,3)],2,16,some (.pair (.int .i64) (.int .i64)),[.int .i64 (0 : Int),.int .i64 (0 : Int)],true,[]⟩),(33,⟨.slice 40,1,24,some (.sl SK),[.nil],false,[]⟩),(37,⟨.struct [(0,3),(1,3),(2,35)],5,40,some (.pair (.int .i64) (.pair (.int .i64) SI)),[.int .i64 (0 : Int),.int .i64 (0 : Int),.int .i64 (0 : Int),.int .i64 (0 : Int),.int .i64 (0 : Int)],true,[]⟩),(40,⟨.struct [(0,3),(1,3),(2,38)],3,40,some SK,[.int .i64 (0 : Int),.int .i64 (0 : Int),.nil],false,[]⟩),(42,⟨.struct [(0,3),(1,3),(2,3)],3,24,some SI,[.int .i64 (0 : Int),.int .i64 (0 : Int),.int .i64 (0 : Int)],true,[]⟩)],G:=findE [mkQ 11 qep qej (qbv _N),mkP 12 qcN qcJ (qbp _N),mkP 15 qeP qeN (qaE _N),mkQ 13 qeB qey (qbT _N),mkQ 14 qcx qcw (qaV _N)],I:=findI [],N:=_N,n:=170,fx:=[2,3],fl:=0,gs:=Gs }
noncomputable def qgh (_N : Nat) : Option qc :=
 (some (true,()))
noncomputable def qgg (_N : Nat) (_kn258 : ((List Yo) × Int × (List Yp) × Yq × Int × Int) × Int -> Option qc) (_v184 : List Yo) (_v185 : Int) (_v186 : Int) (_v187 : List Yp) (_v188 : List Yt) (_v189 : Int) (_v190 : Int) : Option qc :=
 (_kn258 ((_v184,_v185,_v187,_v188,_v189,_v190),(IntKind.i64.wrap (_v186 + (1 : Int)))))
noncomputable def qdQ (_N : Nat) (_kn260 : ((List Yo) × Int × Int × (List Yp) × Yq × Int × Int) × Int -> Option qc) (_v145 : List Yo) (_v146 : Int) (_v147 : Int) (_v148 : Int) (_v149 : List Yp) (_v150 : List Yt) (_v151 : Int) (_v152 : Int) : Option qc :=
 (_kn260 ((_v145,_v146,_v147,_v149,_v150,_v151,_v152),(IntKind.i64.wrap (_v148 + (1 : Int)))))
noncomputable def qdP (_N : Nat) (_k261 : ((List Yo) × Int × Int × Int × (List Yp) × Yq × Int × Int × Yo) -> Option qc) (_v106 : List Yo) (_v107 : Int) (_v108 : Int) (_v109 : Int) (_v110 : List Yr) (_v111 : Int) (_v113 : List Yp) (_v114 : List Yt) (_v115 : Int) (_v116 : Int) (_v117 : List Yr) (_v118 : List Yr) (_v112 : Int) (_kn262 : ((List Yo) × Int × Int × Int × Yo × Int × (List Yp) × Yq × Int × Int × Yo × Yo) × Int -> Option qc) : Option qc :=
 (bif (decide (_v112 < _v111)) then (bif (decide (0 <= _v112) && decide (_v112 < (_v110.length : Int))) then ((qaE _N (_v118,((nth ((0 : Int),((0 : Int),[])) _v110 (_v112).toNat).1,(((nth ((0 : Int),((0 : Int),[])) _v110 (_v112).toNat).2).1,((nth ((0 : Int),((0 : Int),[])) _v110 (_v112).toNat).2).2)),())).bind fun _y263=>(bif (!_y263.1) then (some (false,())) else (_kn262 ((_v106,_v107,_v108,_v109,_v110,_v111,_v113,_v114,_v115,_v116,_v117,_v118),(IntKind.i64.wrap (_v112 + (1 : Int))))))) else none) else (_k261 (_v106,_v107,_v108,_v109,_v113,_v114,_v115,_v116,_v117)))
noncomputable def qgf (_N : Nat) (_k261 : ((List Yo) × Int × Int × Int × (List Yp) × Yq × Int × Int × Yo) -> Option qc) (_v96 : List Yo) (_v97 : Int) (_v98 : Int) (_v99 : Int) (_v100 : List Yp) (_v101 : List Yt) (_v102 : Int) (_v103 : Int) (_v104 : List Yr) (_v105 : List Yr) : Option qc :=
 (bif (decide (0 <= (IntKind.i64.wrap ((IntKind.i64.wrap (_v98 * _v97)) + _v99))) && decide ((IntKind.i64.wrap ((IntKind.i64.wrap (_v98 * _v97)) + _v99)) < (_v96.length : Int))) then (loopE (fun (_c : (List Yo) × Int × Int × Int × Yo × Int × (List Yp) × Yq × Int × Int × Yo × Yo) (_s : Int) _kn=>qdP _N _k261 _c.1 _c.2.1 _c.2.2.1 _c.2.2.2.1 _c.2.2.2.2.1 _c.2.2.2.2.2.1 _c.2.2.2.2.2.2.1 _c.2.2.2.2.2.2.2.1 _c.2.2.2.2.2.2.2.2.1 _c.2.2.2.2.2.2.2.2.2.1 _c.2.2.2.2.2.2.2.2.2.2.1 _c.2.2.2.2.2.2.2.2.2.2.2 _s _kn) _N (_v96,_v97,_v98,_v99,(nth ([]) _v96 (IntKind.i64.wrap ((IntKind.i64.wrap (_v98 * _v97)) + _v99)).toNat),((nth ([]) _v96 (IntKind.i64.wrap ((IntKind.i64.wrap (_v98 * _v97)) + _v99)).toNat).length : Int),_v100,_v101,_v102,_v103,_v104,_v105) (0 : Int)) else none)
noncomputable def qdO (_N : Nat) (_k264 : ((List Yo) × Int × Int × Int × (List Yp) × Yq × Int × Int × Yo × Yo) -> Option qc) (_v82 : List Yo) (_v83 : Int) (_v84 : Int) (_v85 : Int) (_v86 : Int) (_v88 : List Yp) (_v89 : List Yt) (_v90 : Int) (_v91 : Int) (_v92 : List Yr) (_v93 : List Yr) (_v87 : Int) (_kn265 : ((List Yo) × Int × Int × Int × Int × (List Yp) × Yq × Int × Int × Yo × Yo) × Int -> Option qc) : Option qc :=
 (bif (decide (_v87 < _v86)) then (bif (decide (0 <= _v87) && decide (_v87 < (_v93.length : Int))) then (bif (decide (0 <= (IntKind.i64.wrap ((IntKind.i64.wrap (_v84 * _v83)) + _v85))) && decide ((IntKind.i64.wrap ((IntKind.i64.wrap (_v84 * _v83)) + _v85)) < (_v82.length : Int))) then ((qaE _N ((nth ([]) _v82 (IntKind.i64.wrap ((IntKind.i64.wrap (_v84 * _v83)) + _v85)).toNat),((nth ((0 : Int),((0 : Int),[])) _v93 ((_v87).toNat)).1,(((nth ((0 : Int),((0 : Int),[])) _v93 ((_v87).toNat)).2).1,((nth ((0 : Int),((0 : Int),[])) _v93 ((_v87).toNat)).2).2)),())).bind fun _y266=>(bif (!_y266.1) then (some (false,())) else (_kn265 ((_v82,_v83,_v84,_v85,_v86,_v88,_v89,_v90,_v91,_v92,_v93),(IntKind.i64.wrap (_v87 + (1 : Int))))))) else none) else none) else (_k264 (_v82,_v83,_v84,_v85,_v88,_v89,_v90,_v91,_v92,_v93)))
noncomputable def qdN (_N : Nat) (_k261 : ((List Yo) × Int × Int × Int × (List Yp) × Yq × Int × Int × Yo) -> Option qc) (_v72 : List Yo) (_v73 : Int) (_v74 : Int) (_v75 : Int) (_v76 : List Yp) (_v77 : List Yt) (_v78 : Int) (_v79 : Int) (_v80 : List Yr) (_v81 : List Yr) : Option qc :=
 (joinD (fun (_s : (List Yo) × Int × Int × Int × (List Yp) × Yq × Int × Int × Yo × Yo)=>qgf _N _k261 _s.1 _s.2.1 _s.2.2.1 _s.2.2.2.1 _s.2.2.2.2.1 _s.2.2.2.2.2.1 _s.2.2.2.2.2.2.1 _s.2.2.2.2.2.2.2.1 _s.2.2.2.2.2.2.2.2.1 _s.2.2.2.2.2.2.2.2.2) fun _k264=>(loopE (fun (_c : (List Yo) × Int × Int × Int × Int × (List Yp) × Yq × Int × Int × Yo × Yo) (_s : Int) _kn=>qdO _N _k264 _c.1 _c.2.1 _c.2.2.1 _c.2.2.2.1 _c.2.2.2.2.1 _c.2.2.2.2.2.1 _c.2.2.2.2.2.2.1 _c.2.2.2.2.2.2.2.1 _c.2.2.2.2.2.2.2.2.1 _c.2.2.2.2.2.2.2.2.2.1 _c.2.2.2.2.2.2.2.2.2.2 _s _kn) _N (_v72,_v73,_v74,_v75,(_v81.length : Int),_v76,_v77,_v78,_v79,_v80,_v81) (0 : Int)))
noncomputable def qcj (_N : Nat) (_kn268 : ((List Yo) × Int × Int × Int × Yq × Int × (List Yp) × Yq × Int × Int × Yo) × (Int × Yo) -> Option qc) (_v52 : List Yo) (_v53 : Int) (_v54 : Int) (_v55 : Int) (_v56 : List Yt) (_v57 : Int) (_v58 : Int) (_v59 : List Yp) (_v60 : List Yt) (_v61 : Int) (_v62 : Int) (_v63 : List Yr) (_v64 : List Yr) : Option qc :=
 (_kn268 ((_v52,_v53,_v54,_v55,_v56,_v57,_v59,_v60,_v61,_v62,_v63),((IntKind.i64.wrap (_v58 + (1 : Int))),_v64)))
noncomputable def qci (_N : Nat) (_k269 : ((List Yo) × Int × Int × Int × Yq × Int × Int × (List Yp) × Yq × Int × Int × Yo × Yo × Int × Int × Int) -> Option qc) (_v31 : List Yo) (_v32 : Int) (_v33 : Int) (_v34 : Int) (_v36 : List Yt) (_v37 : Int) (_v38 : Int) (_v39 : List Yp) (_v40 : List Yt) (_v41 : Int) (_v42 : Int) (_v43 : List Yr) (_v45 : Int) (_v46 : Int) (_v47 : Int) (_v35 : Int) (_v44 : List Yr) (_kn270 : ((List Yo) × Int × Int × Int × Yq × Int × Int × (List Yp) × Yq × Int × Int × Yo × Int × Int × Int) × (Int × Yo) -> Option qc) : Option qc :=
 (bif (_v45 == _v33) then (bif (decide (0 <= (IntKind.i64.wrap ((IntKind.i64.wrap (_v46 * _v32)) + _v34))) && decide ((IntKind.i64.wrap ((IntKind.i64.wrap (_v46 * _v32)) + _v34)) < (_v31.length : Int))) then (bif (decide (_v35 < ((nth ([]) _v31 (IntKind.i64.wrap ((IntKind.i64.wrap (_v46 * _v32)) + _v34)).toNat).length : Int))) then (bif (decide (0 <= _v33) && decide (_v33 < (_v39.length : Int))) then ((qbT _N (((nth ((0 : Int),((0 : Int),((0 : Int),((0 : Int),(0 : Int))))) _v39 (_v33).toNat).1,(((nth ((0 : Int),((0 : Int),((0 : Int),((0 : Int),(0 : Int))))) _v39 (_v33).toNat).2).1,((((nth ((0 : Int),((0 : Int),((0 : Int),((0 : Int),(0 : Int))))) _v39 (_v33).toNat).2).2).1,(((((nth ((0 : Int),((0 : Int),((0 : Int),((0 : Int),(0 : Int))))) _v39 (_v33).toNat).2).2).2).1,((((nth ((0 : Int),((0 : Int),((0 : Int),((0 : Int),(0 : Int))))) _v39 (_v33).toNat).2).2).2).2)))),())).bind fun _y271=>(bif (decide (0 <= (IntKind.i64.wrap ((IntKind.i64.wrap (_v46 * _v32)) + _v34))) && decide ((IntKind.i64.wrap ((IntKind.i64.wrap (_v46 * _v32)) + _v34)) < (_v31.length : Int))) then (bif (decide (0 <= _v35) && decide (_v35 < ((nth ([]) _v31 (IntKind.i64.wrap ((IntKind.i64.wrap (_v46 * _v32)) + _v34)).toNat).length : Int))) then ((qaV _N ((_y271.1.1,(_y271.1.2.1,_y271.1.2.2)),((nth ((0 : Int),((0 : Int),[])) (nth ([]) _v31 (IntKind.i64.wrap ((IntKind.i64.wrap (_v46 * _v32)) + _v34)).toNat) (_v35).toNat).1,(((nth ((0 : Int),((0 : Int),[])) (nth ([]) _v31 (IntKind.i64.wrap ((IntKind.i64.wrap (_v46 * _v32)) + _v34)).toNat) (_v35).toNat).2).1,((nth ((0 : Int),((0 : Int),[])) (nth ([]) _v31 (IntKind.i64.wrap ((IntKind.i64.wrap (_v46 * _v32)) + _v34)).toNat) (_v35).toNat).2).2)),())).bind fun _y272=>(bif (_y272.2.1 == (0 : Int)) then (bif (decide ((_v44.length + ([(_y272.1.1,(_y272.1.2.1,_y272.1.2.2))]).length) * 40 <= 140737488355328) && Nat.ble 1 40) then (_kn270 ((_v31,_v32,_v33,_v34,_v36,_v37,_v38,_v39,_v40,_v41,_v42,_v43,_v45,_v46,_v47),((IntKind.i64.wrap (_v35 + (1 : Int))),(_v44 ++ [(_y272.1.1,(_y272.1.2.1,_y272.1.2.2))])))) else none) else (_kn270 ((_v31,_v32,_v33,_v34,_v36,_v37,_v38,_v39,_v40,_v41,_v42,_v43,_v45,_v46,_v47),((IntKind.i64.wrap (_v35 + (1 : Int))),_v44))))) else none) else none)) else none) else (_k269 (_v31,_v32,_v33,_v34,_v36,_v37,_v38,_v39,_v40,_v41,_v42,_v43,_v44,_v45,_v46,_v47))) else none) else (_k269 (_v31,_v32,_v33,_v34,_v36,_v37,_v38,_v39,_v40,_v41,_v42,_v43,_v44,_v45,_v46,_v47)))
noncomputable def qbO (_N : Nat) (_k267 : ((List Yo) × Int × Int × Int × (List Yp) × Yq × Int × Int × Yo × Yo) -> Option qc) (_v18 : List Yo) (_v19 : Int) (_v20 : Int) (_v21 : Int) (_v22 : List Yt) (_v23 : Int) (_v25 : List Yp) (_v26 : List Yt) (_v27 : Int) (_v28 : Int) (_v29 : List Yr) (_v24 : Int) (_v30 : List Yr) (_kn268 : ((List Yo) × Int × Int × Int × Yq × Int × (List Yp) × Yq × Int × Int × Yo) × (Int × Yo) -> Option qc) : Option qc :=
 (bif (decide (_v24 < _v23)) then (joinD (fun (_s : (List Yo) × Int × Int × Int × Yq × Int × Int × (List Yp) × Yq × Int × Int × Yo × Yo × Int × Int × Int)=>qcj _N _kn268 _s.1 _s.2.1 _s.2.2.1 _s.2.2.2.1 _s.2.2.2.2.1 _s.2.2.2.2.2.1 _s.2.2.2.2.2.2.1 _s.2.2.2.2.2.2.2.1 _s.2.2.2.2.2.2.2.2.1 _s.2.2.2.2.2.2.2.2.2.1 _s.2.2.2.2.2.2.2.2.2.2.1 _s.2.2.2.2.2.2.2.2.2.2.2.1 _s.2.2.2.2.2.2.2.2.2.2.2.2.1) fun _k269=>(bif (decide (0 <= _v24) && decide (_v24 < (_v22.length : Int))) then (loopE (fun (_c : (List Yo) × Int × Int × Int × Yq × Int × Int × (List Yp) × Yq × Int × Int × Yo × Int × Int × Int) (_s : Int × Yo) _kn=>qci _N _k269 _c.1 _c.2.1 _c.2.2.1 _c.2.2.2.1 _c.2.2.2.2.1 _c.2.2.2.2.2.1 _c.2.2.2.2.2.2.1 _c.2.2.2.2.2.2.2.1 _c.2.2.2.2.2.2.2.2.1 _c.2.2.2.2.2.2.2.2.2.1 _c.2.2.2.2.2.2.2.2.2.2.1 _c.2.2.2.2.2.2.2.2.2.2.2.1 _c.2.2.2.2.2.2.2.2.2.2.2.2.1 _c.2.2.2.2.2.2.2.2.2.2.2.2.2.1 _c.2.2.2.2.2.2.2.2.2.2.2.2.2.2 _s.1 _s.2 _kn) _N (_v18,_v19,_v20,_v21,_v22,_v23,_v24,_v25,_v26,_v27,_v28,_v29,(nth ((0 : Int),((0 : Int),(0 : Int))) _v22 (_v24).toNat).1,((nth ((0 : Int),((0 : Int),(0 : Int))) _v22 (_v24).toNat).2).1,((nth ((0 : Int),((0 : Int),(0 : Int))) _v22 (_v24).toNat).2).2) ((0 : Int),_v30)) else none)) else (_k267 (_v18,_v19,_v20,_v21,_v25,_v26,_v27,_v28,_v29,_v30)))
noncomputable def qdw (_N : Nat) (_k261 : ((List Yo) × Int × Int × Int × (List Yp) × Yq × Int × Int × Yo) -> Option qc) (_v106 : List Yo) (_v107 : Int) (_v108 : Int) (_v109 : Int) (_v110 : List Yr) (_v111 : Int) (_v113 : List Yp) (_v114 : List Yt) (_v115 : Int) (_v116 : Int) (_v117 : List Yr) (_v112 : Int) (_kn273 : ((List Yo) × Int × Int × Int × Yo × Int × (List Yp) × Yq × Int × Int × Yo) × Int -> Option qc) : Option qc :=
 (bif (decide (_v112 < _v111)) then (bif (decide (0 <= _v112) && decide (_v112 < (_v110.length : Int))) then ((qaE _N (_v117,((nth ((0 : Int),((0 : Int),[])) _v110 (_v112).toNat).1,(((nth ((0 : Int),((0 : Int),[])) _v110 (_v112).toNat).2).1,((nth ((0 : Int),((0 : Int),[])) _v110 (_v112).toNat).2).2)),())).bind fun _y274=>(bif (!_y274.1) then (some (false,())) else (_kn273 ((_v106,_v107,_v108,_v109,_v110,_v111,_v113,_v114,_v115,_v116,_v117),(IntKind.i64.wrap (_v112 + (1 : Int))))))) else none) else (_k261 (_v106,_v107,_v108,_v109,_v113,_v114,_v115,_v116,_v117)))
noncomputable def qfq (_N : Nat) (_k261 : ((List Yo) × Int × Int × Int × (List Yp) × Yq × Int × Int × Yo) -> Option qc) (_v96 : List Yo) (_v97 : Int) (_v98 : Int) (_v99 : Int) (_v100 : List Yp) (_v101 : List Yt) (_v102 : Int) (_v103 : Int) (_v104 : List Yr) : Option qc :=
 (bif (decide (0 <= (IntKind.i64.wrap ((IntKind.i64.wrap (_v98 * _v97)) + _v99))) && decide ((IntKind.i64.wrap ((IntKind.i64.wrap (_v98 * _v97)) + _v99)) < (_v96.length : Int))) then (loopE (fun (_c : (List Yo) × Int × Int × Int × Yo × Int × (List Yp) × Yq × Int × Int × Yo) (_s : Int) _kn=>qdw _N _k261 _c.1 _c.2.1 _c.2.2.1 _c.2.2.2.1 _c.2.2.2.2.1 _c.2.2.2.2.2.1 _c.2.2.2.2.2.2.1 _c.2.2.2.2.2.2.2.1 _c.2.2.2.2.2.2.2.2.1 _c.2.2.2.2.2.2.2.2.2.1 _c.2.2.2.2.2.2.2.2.2.2 _s _kn) _N (_v96,_v97,_v98,_v99,(nth ([]) _v96 (IntKind.i64.wrap ((IntKind.i64.wrap (_v98 * _v97)) + _v99)).toNat),((nth ([]) _v96 (IntKind.i64.wrap ((IntKind.i64.wrap (_v98 * _v97)) + _v99)).toNat).length : Int),_v100,_v101,_v102,_v103,_v104) (0 : Int)) else none)
noncomputable def qdv (_N : Nat) (_k275 : ((List Yo) × Int × Int × Int × (List Yp) × Yq × Int × Int × Yo) -> Option qc) (_v82 : List Yo) (_v83 : Int) (_v84 : Int) (_v85 : Int) (_v86 : Int) (_v88 : List Yp) (_v89 : List Yt) (_v90 : Int) (_v91 : Int) (_v92 : List Yr) (_v87 : Int) (_kn276 : ((List Yo) × Int × Int × Int × Int × (List Yp) × Yq × Int × Int × Yo) × Int -> Option qc) : Option qc :=
 (bif (decide (_v87 < _v86)) then (bif (decide (0 <= _v87) && decide (_v87 < (_v92.length : Int))) then (bif (decide (0 <= (IntKind.i64.wrap ((IntKind.i64.wrap (_v84 * _v83)) + _v85))) && decide ((IntKind.i64.wrap ((IntKind.i64.wrap (_v84 * _v83)) + _v85)) < (_v82.length : Int))) then ((qaE _N ((nth ([]) _v82 (IntKind.i64.wrap ((IntKind.i64.wrap (_v84 * _v83)) + _v85)).toNat),((nth ((0 : Int),((0 : Int),[])) _v92 ((_v87).toNat)).1,(((nth ((0 : Int),((0 : Int),[])) _v92 ((_v87).toNat)).2).1,((nth ((0 : Int),((0 : Int),[])) _v92 ((_v87).toNat)).2).2)),())).bind fun _y277=>(bif (!_y277.1) then (some (false,())) else (_kn276 ((_v82,_v83,_v84,_v85,_v86,_v88,_v89,_v90,_v91,_v92),(IntKind.i64.wrap (_v87 + (1 : Int))))))) else none) else none) else (_k275 (_v82,_v83,_v84,_v85,_v88,_v89,_v90,_v91,_v92)))
noncomputable def qdu (_N : Nat) (_k261 : ((List Yo) × Int × Int × Int × (List Yp) × Yq × Int × Int × Yo) -> Option qc) (_v72 : List Yo) (_v73 : Int) (_v74 : Int) (_v75 : Int) (_v76 : List Yp) (_v77 : List Yt) (_v78 : Int) (_v79 : Int) (_v80 : List Yr) : Option qc :=
 (joinD (fun (_s : (List Yo) × Int × Int × Int × (List Yp) × Yq × Int × Int × Yo)=>qfq _N _k261 _s.1 _s.2.1 _s.2.2.1 _s.2.2.2.1 _s.2.2.2.2.1 _s.2.2.2.2.2.1 _s.2.2.2.2.2.2.1 _s.2.2.2.2.2.2.2.1 _s.2.2.2.2.2.2.2.2) fun _k275=>(loopE (fun (_c : (List Yo) × Int × Int × Int × Int × (List Yp) × Yq × Int × Int × Yo) (_s : Int) _kn=>qdv _N _k275 _c.1 _c.2.1 _c.2.2.1 _c.2.2.2.1 _c.2.2.2.2.1 _c.2.2.2.2.2.1 _c.2.2.2.2.2.2.1 _c.2.2.2.2.2.2.2.1 _c.2.2.2.2.2.2.2.2.1 _c.2.2.2.2.2.2.2.2.2 _s _kn) _N (_v72,_v73,_v74,_v75,(_v80.length : Int),_v76,_v77,_v78,_v79,_v80) (0 : Int)))
noncomputable def qbN (_N : Nat) (_kn279 : ((List Yo) × Int × Int × Int × Yq × Int × (List Yp) × Yq × Int × Int) × (Int × Yo) -> Option qc) (_v52 : List Yo) (_v53 : Int) (_v54 : Int) (_v55 : Int) (_v56 : List Yt) (_v57 : Int) (_v58 : Int) (_v59 : List Yp) (_v60 : List Yt) (_v61 : Int) (_v62 : Int) (_v63 : List Yr) : Option qc :=
 (_kn279 ((_v52,_v53,_v54,_v55,_v56,_v57,_v59,_v60,_v61,_v62),((IntKind.i64.wrap (_v58 + (1 : Int))),_v63)))
noncomputable def qbM (_N : Nat) (_k280 : ((List Yo) × Int × Int × Int × Yq × Int × Int × (List Yp) × Yq × Int × Int × Yo × Int × Int × Int) -> Option qc) (_v31 : List Yo) (_v32 : Int) (_v33 : Int) (_v34 : Int) (_v36 : List Yt) (_v37 : Int) (_v38 : Int) (_v39 : List Yp) (_v40 : List Yt) (_v41 : Int) (_v42 : Int) (_v122 : Int) (_v45 : Int) (_v46 : Int) (_v35 : Int) (_v43 : List Yr) (_kn281 : ((List Yo) × Int × Int × Int × Yq × Int × Int × (List Yp) × Yq × Int × Int × Int × Int × Int) × (Int × Yo) -> Option qc) : Option qc :=
 (bif (_v122 == _v33) then (bif (decide (0 <= (IntKind.i64.wrap ((IntKind.i64.wrap (_v45 * _v32)) + _v34))) && decide ((IntKind.i64.wrap ((IntKind.i64.wrap (_v45 * _v32)) + _v34)) < (_v31.length : Int))) then (bif (decide (_v35 < ((nth ([]) _v31 (IntKind.i64.wrap ((IntKind.i64.wrap (_v45 * _v32)) + _v34)).toNat).length : Int))) then (bif (decide (0 <= _v33) && decide (_v33 < (_v39.length : Int))) then ((qbT _N (((nth ((0 : Int),((0 : Int),((0 : Int),((0 : Int),(0 : Int))))) _v39 (_v33).toNat).1,(((nth ((0 : Int),((0 : Int),((0 : Int),((0 : Int),(0 : Int))))) _v39 (_v33).toNat).2).1,((((nth ((0 : Int),((0 : Int),((0 : Int),((0 : Int),(0 : Int))))) _v39 (_v33).toNat).2).2).1,(((((nth ((0 : Int),((0 : Int),((0 : Int),((0 : Int),(0 : Int))))) _v39 (_v33).toNat).2).2).2).1,((((nth ((0 : Int),((0 : Int),((0 : Int),((0 : Int),(0 : Int))))) _v39 (_v33).toNat).2).2).2).2)))),())).bind fun _y282=>(bif (decide (0 <= (IntKind.i64.wrap ((IntKind.i64.wrap (_v45 * _v32)) + _v34))) && decide ((IntKind.i64.wrap ((IntKind.i64.wrap (_v45 * _v32)) + _v34)) < (_v31.length : Int))) then (bif (decide (0 <= _v35) && decide (_v35 < ((nth ([]) _v31 (IntKind.i64.wrap ((IntKind.i64.wrap (_v45 * _v32)) + _v34)).toNat).length : Int))) then ((qaV _N ((_y282.1.1,(_y282.1.2.1,_y282.1.2.2)),((nth ((0 : Int),((0 : Int),[])) (nth ([]) _v31 (IntKind.i64.wrap ((IntKind.i64.wrap (_v45 * _v32)) + _v34)).toNat) (_v35).toNat).1,(((nth ((0 : Int),((0 : Int),[])) (nth ([]) _v31 (IntKind.i64.wrap ((IntKind.i64.wrap (_v45 * _v32)) + _v34)).toNat) (_v35).toNat).2).1,((nth ((0 : Int),((0 : Int),[])) (nth ([]) _v31 (IntKind.i64.wrap ((IntKind.i64.wrap (_v45 * _v32)) + _v34)).toNat) (_v35).toNat).2).2)),())).bind fun _y283=>(bif (_y283.2.1 == (0 : Int)) then (bif (decide ((_v43.length + ([(_y283.1.1,(_y283.1.2.1,_y283.1.2.2))]).length) * 40 <= 140737488355328) && Nat.ble 1 40) then (_kn281 ((_v31,_v32,_v33,_v34,_v36,_v37,_v38,_v39,_v40,_v41,_v42,_v122,_v45,_v46),((IntKind.i64.wrap (_v35 + (1 : Int))),(_v43 ++ [(_y283.1.1,(_y283.1.2.1,_y283.1.2.2))])))) else none) else (_kn281 ((_v31,_v32,_v33,_v34,_v36,_v37,_v38,_v39,_v40,_v41,_v42,_v122,_v45,_v46),((IntKind.i64.wrap (_v35 + (1 : Int))),_v43))))) else none) else none)) else none) else (_k280 (_v31,_v32,_v33,_v34,_v36,_v37,_v38,_v39,_v40,_v41,_v42,_v43,_v122,_v45,_v46))) else none) else (_k280 (_v31,_v32,_v33,_v34,_v36,_v37,_v38,_v39,_v40,_v41,_v42,_v43,_v122,_v45,_v46)))
noncomputable def qbL (_N : Nat) (_k278 : ((List Yo) × Int × Int × Int × (List Yp) × Yq × Int × Int × Yo) -> Option qc) (_v18 : List Yo) (_v19 : Int) (_v20 : Int) (_v21 : Int) (_v22 : List Yt) (_v23 : Int) (_v25 : List Yp) (_v26 : List Yt) (_v27 : Int) (_v28 : Int) (_v24 : Int) (_v29 : List Yr) (_kn279 : ((List Yo) × Int × Int × Int × Yq × Int × (List Yp) × Yq × Int × Int) × (Int × Yo) -> Option qc) : Option qc :=
 (bif (decide (_v24 < _v23)) then (joinD (fun (_s : (List Yo) × Int × Int × Int × Yq × Int × Int × (List Yp) × Yq × Int × Int × Yo × Int × Int × Int)=>qbN _N _kn279 _s.1 _s.2.1 _s.2.2.1 _s.2.2.2.1 _s.2.2.2.2.1 _s.2.2.2.2.2.1 _s.2.2.2.2.2.2.1 _s.2.2.2.2.2.2.2.1 _s.2.2.2.2.2.2.2.2.1 _s.2.2.2.2.2.2.2.2.2.1 _s.2.2.2.2.2.2.2.2.2.2.1 _s.2.2.2.2.2.2.2.2.2.2.2.1) fun _k280=>(bif (decide (0 <= _v24) && decide (_v24 < (_v22.length : Int))) then (loopE (fun (_c : (List Yo) × Int × Int × Int × Yq × Int × Int × (List Yp) × Yq × Int × Int × Int × Int × Int) (_s : Int × Yo) _kn=>qbM _N _k280 _c.1 _c.2.1 _c.2.2.1 _c.2.2.2.1 _c.2.2.2.2.1 _c.2.2.2.2.2.1 _c.2.2.2.2.2.2.1 _c.2.2.2.2.2.2.2.1 _c.2.2.2.2.2.2.2.2.1 _c.2.2.2.2.2.2.2.2.2.1 _c.2.2.2.2.2.2.2.2.2.2.1 _c.2.2.2.2.2.2.2.2.2.2.2.1 _c.2.2.2.2.2.2.2.2.2.2.2.2.1 _c.2.2.2.2.2.2.2.2.2.2.2.2.2 _s.1 _s.2 _kn) _N (_v18,_v19,_v20,_v21,_v22,_v23,_v24,_v25,_v26,_v27,_v28,(nth ((0 : Int),((0 : Int),(0 : Int))) _v22 (_v24).toNat).1,((nth ((0 : Int),((0 : Int),(0 : Int))) _v22 (_v24).toNat).2).1,((nth ((0 : Int),((0 : Int),(0 : Int))) _v22 (_v24).toNat).2).2) ((0 : Int),_v29)) else none)) else (_k278 (_v18,_v19,_v20,_v21,_v25,_v26,_v27,_v28,_v29)))
noncomputable def qbK (_N : Nat) (_k259 : ((List Yo) × Int × Int × (List Yp) × Yq × Int × Int) -> Option qc) (_v10 : List Yo) (_v11 : Int) (_v12 : Int) (_v14 : List Yp) (_v15 : List Yt) (_v16 : Int) (_v17 : Int) (_v13 : Int) (_kn260 : ((List Yo) × Int × Int × (List Yp) × Yq × Int × Int) × Int -> Option qc) : Option qc :=
 (bif (decide (_v13 < _v11)) then (joinD (fun (_s : (List Yo) × Int × Int × Int × (List Yp) × Yq × Int × Int × Yo)=>qdQ _N _kn260 _s.1 _s.2.1 _s.2.2.1 _s.2.2.2.1 _s.2.2.2.2.1 _s.2.2.2.2.2.1 _s.2.2.2.2.2.2.1 _s.2.2.2.2.2.2.2.1) fun _k261=>(bif (_v12 == _v13) then (bif (decide (0 <= _v12) && decide (_v12 < (_v14.length : Int))) then (bif (decide (([(((nth ((0 : Int),((0 : Int),((0 : Int),((0 : Int),(0 : Int))))) _v14 (_v12).toNat).2).1,((0 : Int),[]))] : List Yr).length * 40 <= 140737488355328) && Nat.ble 1 40) then (joinD (fun (_s : (List Yo) × Int × Int × Int × (List Yp) × Yq × Int × Int × Yo × Yo)=>qdN _N _k261 _s.1 _s.2.1 _s.2.2.1 _s.2.2.2.1 _s.2.2.2.2.1 _s.2.2.2.2.2.1 _s.2.2.2.2.2.2.1 _s.2.2.2.2.2.2.2.1 _s.2.2.2.2.2.2.2.2.1 _s.2.2.2.2.2.2.2.2.2) fun _k267=>(loopE (fun (_c : (List Yo) × Int × Int × Int × Yq × Int × (List Yp) × Yq × Int × Int × Yo) (_s : Int × Yo) _kn=>qbO _N _k267 _c.1 _c.2.1 _c.2.2.1 _c.2.2.2.1 _c.2.2.2.2.1 _c.2.2.2.2.2.1 _c.2.2.2.2.2.2.1 _c.2.2.2.2.2.2.2.1 _c.2.2.2.2.2.2.2.2.1 _c.2.2.2.2.2.2.2.2.2.1 _c.2.2.2.2.2.2.2.2.2.2 _s.1 _s.2 _kn) _N (_v10,_v11,_v12,_v13,_v15,(_v15.length : Int),_v14,_v15,_v16,_v17,[(((nth ((0 : Int),((0 : Int),((0 : Int),((0 : Int),(0 : Int))))) _v14 (_v12).toNat).2).1,((0 : Int),[]))]) ((0 : Int),([(((nth ((0 : Int),((0 : Int),((0 : Int),((0 : Int),(0 : Int))))) _v14 (_v12).toNat).2).1,((0 : Int),[]))] : List Yr)))) else none) else none) else (joinD (fun (_s : (List Yo) × Int × Int × Int × (List Yp) × Yq × Int × Int × Yo)=>qdu _N _k261 _s.1 _s.2.1 _s.2.2.1 _s.2.2.2.1 _s.2.2.2.2.1 _s.2.2.2.2.2.1 _s.2.2.2.2.2.2.1 _s.2.2.2.2.2.2.2.1 _s.2.2.2.2.2.2.2.2) fun _k278=>(loopE (fun (_c : (List Yo) × Int × Int × Int × Yq × Int × (List Yp) × Yq × Int × Int) (_s : Int × Yo) _kn=>qbL _N _k278 _c.1 _c.2.1 _c.2.2.1 _c.2.2.2.1 _c.2.2.2.2.1 _c.2.2.2.2.2.1 _c.2.2.2.2.2.2.1 _c.2.2.2.2.2.2.2.1 _c.2.2.2.2.2.2.2.2.1 _c.2.2.2.2.2.2.2.2.2 _s.1 _s.2 _kn) _N (_v10,_v11,_v12,_v13,_v15,(_v15.length : Int),_v14,_v15,_v16,_v17) ((0 : Int),[]))))) else (_k259 (_v10,_v11,_v12,_v14,_v15,_v16,_v17)))
noncomputable def qdt (_N : Nat) (_k257 : ((List Yp) × Yq × Int × Int) -> Option qc) (_v3 : List Yo) (_v4 : Int) (_v6 : List Yp) (_v7 : List Yt) (_v8 : Int) (_v9 : Int) (_v5 : Int) (_kn258 : ((List Yo) × Int × (List Yp) × Yq × Int × Int) × Int -> Option qc) : Option qc :=
 (bif (decide (_v5 < _v4)) then (joinD (fun (_s : (List Yo) × Int × Int × (List Yp) × Yq × Int × Int)=>qgg _N _kn258 _s.1 _s.2.1 _s.2.2.1 _s.2.2.2.1 _s.2.2.2.2.1 _s.2.2.2.2.2.1 _s.2.2.2.2.2.2) fun _k259=>(loopE (fun (_c : (List Yo) × Int × Int × (List Yp) × Yq × Int × Int) (_s : Int) _kn=>qbK _N _k259 _c.1 _c.2.1 _c.2.2.1 _c.2.2.2.1 _c.2.2.2.2.1 _c.2.2.2.2.2.1 _c.2.2.2.2.2.2 _s _kn) _N (_v3,_v4,_v5,_v6,_v7,_v8,_v9) (0 : Int))) else (_k257 (_v6,_v7,_v8,_v9)))
noncomputable def qfp (_N : Nat) (_x1 : List Yp × List Yt) : Option qc :=
 ((qbv _N ((_x1.1,_x1.2),())).bind fun _y255=>((qbp _N ((_x1.1,_x1.2),())).bind fun _y256=>(bif (_y256.1.1 != (0 : Int)) then (bif (_y255.2.1.1 != (0 : Int)) then (some (((_y255.1.length : Int) == (0 : Int)),())) else (some (false,()))) else (bif (_y255.2.1.1 != (0 : Int)) then (some (false,())) else (bif ((_y255.1.length : Int) != (IntKind.i64.wrap ((_x1.1.length : Int) * (_x1.1.length : Int)))) then (some (false,())) else (joinD (fun (_s : (List Yp) × Yq × Int × Int)=>qgh _N) fun _k257=>(loopE (fun (_c : (List Yo) × Int × (List Yp) × Yq × Int × Int) (_s : Int) _kn=>qdt _N _k257 _c.1 _c.2.1 _c.2.2.1 _c.2.2.2.1 _c.2.2.2.2.1 _c.2.2.2.2.2 _s _kn) _N (_y255.1,(_x1.1.length : Int),_x1.1,_x1.2,_y255.2.1.1,_y255.2.1.2) (0 : Int))))))))
noncomputable def qdT (_N : Nat) (_x : Dens qfQ) : Option qc:=qfp _N _x.1
theorem qjc (_N : Nat) : SpecD Tryd.prog Gs 3 qfQ qfO (qdT _N):=mkSpD (fn:=Tryd.f3) (c:=qJ Tryd.f3) (C:=qkv _N)
  (a:=.two .none (.two .none (.two .none (.two .none (.two .none (.join 2 ⟨[],[.cells [.sl (.pair (.int .i64) (.pair (.int .i64) SI)),.sl SI],.cells [.int .i64,.int .i64]]⟩ (.two .none (.one (.loop 2 ⟨[(1,.ptr 0 0),(3,.sl (.sl SK)),(5,.int .i64),(6,.int .i64)],[.cells [.sl (.pair (.int .i64) (.pair (.int .i64) SI)),.sl SI],.cells [.int .i64,.int .i64]]⟩ [2] (.two .none (.join 2 ⟨[(1,.ptr 0 0),(3,.sl (.sl SK)),(5,.int .i64),(6,.int .i64)],[.cells [.sl (.pair (.int .i64) (.pair (.int .i64) SI)),.sl SI],.cells [.int .i64,.int .i64]]⟩ (.one (.two .none (.one (.loop 2 ⟨[(1,.ptr 0 0),(3,.sl (.sl SK)),(5,.int .i64),(6,.int .i64),(7,.int .i64)],[.cells [.sl (.pair (.int .i64) (.pair (.int .i64) SI)),.sl SI],.cells [.int .i64,.int .i64]]⟩ [3] (.two .none (.join 3 ⟨[(1,.ptr 0 0),(3,.sl (.sl SK)),(5,.int .i64),(6,.int .i64),(7,.int .i64)],[.cells [.sl (.pair (.int .i64) (.pair (.int .i64) SI)),.sl SI],.cells [.int .i64,.int .i64],.row false 0 40 SK]⟩ (.one (.two .none (.two .none (.sel 8 999999998 (.join 4 ⟨[(1,.ptr 0 0),(3,.sl (.sl SK)),(5,.int .i64),(6,.int .i64),(7,.int .i64),(8,.slc 3 0)],[.cells [.sl (.pair (.int .i64) (.pair (.int .i64) SI)),.sl SI],.cells [.int .i64,.int .i64],.row false 0 40 SK,.row false 0 40 SK]⟩ (.two .none (.one (.loop 4 ⟨[(1,.ptr 0 0),(3,.sl (.sl SK)),(5,.int .i64),(6,.int .i64),(7,.int .i64),(8,.slc 3 0),(75,.sl SI),(76,.int .i64),(77,.int .i64)],[.cells [.sl (.pair (.int .i64) (.pair (.int .i64) SI)),.sl SI],.cells [.int .i64,.int .i64],.row false 0 40 SK,.row false 0 40 SK]⟩ [6,12] (.two .none (.two .none (.join 5 ⟨[(1,.ptr 0 0),(3,.sl (.sl SK)),(5,.int .i64),(6,.int .i64),(7,.int .i64),(8,.slc 3 0),(75,.sl SI),(76,.int .i64),(77,.int .i64)],[.cells [.sl (.pair (.int .i64) (.pair (.int .i64) SI)),.sl SI],.cells [.int .i64,.int .i64],.row false 0 40 SK,.row false 0 40 SK,.cells [.int .i64,.int .i64,.int .i64]]⟩ (.one (.two .none (.two .none (.one (.loop 5 ⟨[(1,.ptr 0 0),(3,.sl (.sl SK)),(5,.int .i64),(6,.int .i64),(7,.int .i64),(8,.slc 3 0),(10,.ptr 4 0),(11,.int .i64),(75,.sl SI),(76,.int .i64),(77,.int .i64)],[.cells [.sl (.pair (.int .i64) (.pair (.int .i64) SI)),.sl SI],.cells [.int .i64,.int .i64],.row false 0 40 SK,.row false 0 40 SK,.cells [.int .i64,.int .i64,.int .i64]]⟩ [4,13] (.two .none (.two (.one (.two .none (.two (.draw 1 [.rd [5],.pure,.pure,.rd [4],.pure,.pure,.pure,.pure,.pure,.pure,.pure,.pure,.pure,.pure,.pure,.pure,.pure,.new 6,.wr [6],.pure]) .none))) .none))))))) .none)))))) (.join 4 ⟨[(1,.ptr 0 0),(3,.sl (.sl SK)),(5,.int .i64),(6,.int .i64),(7,.int .i64),(8,.slc 3 0)],[.cells [.sl (.pair (.int .i64) (.pair (.int .i64) SI)),.sl SI],.cells [.int .i64,.int .i64],.row false 0 40 SK,.row false 0 40 SK]⟩ (.two .none (.one (.loop 4 ⟨[(1,.ptr 0 0),(3,.sl (.sl SK)),(5,.int .i64),(6,.int .i64),(7,.int .i64),(8,.slc 3 0),(134,.slc 3 0),(135,.int .i64),(136,.int .i64)],[.cells [.sl (.pair (.int .i64) (.pair (.int .i64) SI)),.sl SI],.cells [.int .i64,.int .i64],.row false 0 40 SK,.row false 0 40 SK]⟩ [5] (.two .none (.two .none (.two (.one (.two .none (.two (.draw 0 [.pure,.pure,.pure,.pure,.pure,.pure,.pure,.pure,.rd [4],.pure,.pure]) .none))) .none)))))) (.two .none (.one (.loop 4 ⟨[(1,.ptr 0 0),(3,.sl (.sl SK)),(5,.int .i64),(6,.int .i64),(7,.int .i64),(8,.slc 3 0),(159,.sl SK),(160,.int .i64),(161,.int .i64)],[.cells [.sl (.pair (.int .i64) (.pair (.int .i64) SI)),.sl SI],.cells [.int .i64,.int .i64],.row false 0 40 SK,.row false 0 40 SK]⟩ [6] .none))))) (.join 3 ⟨[(1,.ptr 0 0),(3,.sl (.sl SK)),(5,.int .i64),(6,.int .i64),(7,.int .i64),(8,.slc 2 0)],[.cells [.sl (.pair (.int .i64) (.pair (.int .i64) SI)),.sl SI],.cells [.int .i64,.int .i64],.row false 0 40 SK]⟩ (.two .none (.one (.obj 8 40 SK (.loop 3 ⟨[(1,.ptr 0 0),(3,.sl (.sl SK)),(5,.int .i64),(6,.int .i64),(7,.int .i64),(8,.slc 2 0),(75,.sl SI),(76,.int .i64),(77,.int .i64)],[.cells [.sl (.pair (.int .i64) (.pair (.int .i64) SI)),.sl SI],.cells [.int .i64,.int .i64],.row false 0 40 SK]⟩ [6,11] (.two .none (.two .none (.join 4 ⟨[(1,.ptr 0 0),(3,.sl (.sl SK)),(5,.int .i64),(6,.int .i64),(7,.int .i64),(8,.slc 2 0),(75,.sl SI),(76,.int .i64),(77,.int .i64)],[.cells [.sl (.pair (.int .i64) (.pair (.int .i64) SI)),.sl SI],.cells [.int .i64,.int .i64],.row false 0 40 SK,.cells [.int .i64,.int .i64,.int .i64]]⟩ (.one (.two .none (.two .none (.one (.loop 4 ⟨[(1,.ptr 0 0),(3,.sl (.sl SK)),(5,.int .i64),(6,.int .i64),(7,.int .i64),(8,.slc 2 0),(10,.ptr 3 0),(11,.int .i64),(75,.sl SI),(76,.int .i64),(77,.int .i64)],[.cells [.sl (.pair (.int .i64) (.pair (.int .i64) SI)),.sl SI],.cells [.int .i64,.int .i64],.row false 0 40 SK,.cells [.int .i64,.int .i64,.int .i64]]⟩ [4,12] (.two .none (.two (.one (.two .none (.two (.draw 1 [.rd [4],.pure,.pure,.rd [3],.pure,.pure,.pure,.pure,.pure,.pure,.pure,.pure,.pure,.pure,.pure,.pure,.pure,.new 5,.wr [5],.pure]) .none))) .none))))))) .none))))))) (.join 3 ⟨[(1,.ptr 0 0),(3,.sl (.sl SK)),(5,.int .i64),(6,.int .i64),(7,.int .i64),(8,.slc 2 0)],[.cells [.sl (.pair (.int .i64) (.pair (.int .i64) SI)),.sl SI],.cells [.int .i64,.int .i64],.row false 0 40 SK]⟩ (.two .none (.one (.loop 3 ⟨[(1,.ptr 0 0),(3,.sl (.sl SK)),(5,.int .i64),(6,.int .i64),(7,.int .i64),(8,.slc 2 0),(134,.slc 2 0),(135,.int .i64),(136,.int .i64)],[.cells [.sl (.pair (.int .i64) (.pair (.int .i64) SI)),.sl SI],.cells [.int .i64,.int .i64],.row false 0 40 SK]⟩ [5] (.two .none (.two .none (.two (.one (.two .none (.two (.draw 0 [.pure,.pure,.pure,.pure,.pure,.pure,.pure,.pure,.rd [3],.pure,.pure]) .none))) .none)))))) (.two .none (.one (.loop 3 ⟨[(1,.ptr 0 0),(3,.sl (.sl SK)),(5,.int .i64),(6,.int .i64),(7,.int .i64),(8,.slc 2 0),(159,.sl SK),(160,.int .i64),(161,.int .i64)],[.cells [.sl (.pair (.int .i64) (.pair (.int .i64) SI)),.sl SI],.cells [.int .i64,.int .i64],.row false 0 40 SK]⟩ [6] .none))))))))) .none)))))) .none))))) .none))))))
  (by kernel_rfl) rfl (by kernel_rfl) (by kernel_rfl) ⟨rfl,by unfold TOk; kernel_rfl,qaC rfl rfl (List.forall_mem_cons.2 ⟨qmB _N,(List.forall_mem_cons.2 ⟨qkT _N,(List.forall_mem_cons.2 ⟨qqk _N,(List.forall_mem_cons.2 ⟨qjL _N,(List.forall_mem_cons.2 ⟨qhI _N,(List.forall_mem_nil _)⟩)⟩)⟩)⟩)⟩),qaB rfl rfl (List.forall_mem_nil _),rfl⟩ (fun _x=>by kernel_rfl)
open Rea
open Gh (Nd Ed qam GrOk nsum)
open Go.Smy (qaN thenS qev)
section
variable {N : Nat} {ns : List Nd} {es : List Ed} {P : List (List Tr)}
theorem ixw {n : Nat} (hn : n <= 12) {x y : Int} (x0 : 0 <= x) (xn : x < n) (y0 : 0 <= y) (yn : y < n) : IntKind.i64.wrap (IntKind.i64.wrap (x * (n : Int)) + y) = ((x.toNat * n + y.toNat : Nat) : Int):=by
 have hm0 : 0 <= x * (n : Int):=Int.mul_nonneg x0 (by omega)
 have hm2 : x * (n : Int) <= 12 * 12:=Int.mul_le_mul (by omega) (by omega) (by omega) (by omega)
 rw [w64 (show -9223372036854775808 <= x * (n : Int) by omega) (by omega),w64 (by omega) (by omega),Int.natCast_add,Int.natCast_mul,show ((x.toNat : Nat) : Int) = x by omega,show ((y.toNat : Nat) : Int) = y by omega]
def addE (ns : List Nd) (P : List (List Tr)) (a b : Int) (e : Ed) : List Tr:=if e.1 = a then (rw_ ns.length P e.2.1 b).map (T (qn ns a)) else []
theorem qqu (hP : ReachOk ns es P) (a b : Int) (e : Ed) : (addE ns P a b e).length <= 22277520:=by
 unfold addE
 split
 ·rw [List.length_map]; exact hP.len _
 ·exact Nat.zero_le _
theorem quv (hP : ReachOk ns es P) (a b : Int) : ∀ l : List Ed,(l.flatMap (addE ns P a b)).length <= l.length * 22277520
 | []=>by simp
 | e :: l=>by
  have h1:=qqu hP a b e
  have h2:=quv hP a b l
  rw [List.flatMap_cons,List.length_append,List.length_cons,Nat.succ_mul]; omega
theorem qmb (h : GrOk ns es) (hP : ReachOk ns es P) {b : Int} (b0 : 0 <= b) (bn : b < ns.length) {e : Ed} (he : e ∈ es) {r : Tr} (hr : r ∈ rw_ ns.length P e.2.1 b) : qaN (sm (qn ns e.1)) (sm r) = 0 /\ Rea.Way ns es e.1 b (T (qn ns e.1) r):=by
 have x:=edgeF h he
 have w:=qtw h he
 have v:=hP.sound e.2.1 b x.t0 x.tn b0 bn r hr
 have fs:=w.fit h x.f0 x.fn
 have fr:=v.fit h x.t0 x.tn
 exact ⟨qwy h fs (fun i hi=>by have:=w.small i hi; omega) fr (fun i hi=>by have:=v.small i hi; omega),(w.way h x.f0 x.fn).two h x.f0 x.fn (fun i hi=>by have:=w.small i hi; omega) v⟩
theorem qwZ (h : GrOk ns es) (hP : ReachOk ns es P) {a b : Int} (a0 : 0 <= a) (an : a < ns.length) (b0 : 0 <= b) (bn : b < ns.length) {z : List Tr} (hz : ∀ s ∈ z,a = b /\ s = idT ns a) :
  ∀ s ∈ z ++ es.flatMap (addE ns P a b),cov (rw_ ns.length P a b) s:=fun s hs=>by
 rcases List.mem_append.1 hs with hs | hs
 ·obtain ⟨rfl,rfl⟩:=hz s hs
  exact hP.full a a a0 an _ .nil
 ·obtain ⟨e,he,hs⟩:=List.mem_flatMap.1 hs
  unfold addE at hs
  split at hs
  ·rename_i hea
   subst hea
   obtain ⟨r,hr,rfl⟩:=List.mem_map.1 hs
   exact hP.full e.1 b a0 an _ (qmb h hP b0 bn he hr).2
  ·cases hs
theorem qwH (h : GrOk ns es) (hP : ReachOk ns es P) {a b : Int} (a0 : 0 <= a) (an : a < ns.length) (b0 : 0 <= b) (bn : b < ns.length) {z : List Tr} (hz : a = b -> idT ns a ∈ z) :
  ∀ s ∈ rw_ ns.length P a b,cov (z ++ es.flatMap (addE ns P a b)) s:=fun s hs=>by
 have v:=hP.sound a b a0 an b0 bn s hs
 have fs:=v.fit h a0 an
 rcases v.head h a0 an with ⟨e1,e2⟩ | ⟨e,he,rfl,r,hr,rfl⟩
 ·exact ⟨_,List.mem_append_left _ (hz e1),by rw [e2]; exact qjW (e2 ▸ fs.chk)⟩
 ·have x:=edgeF h he
  obtain ⟨t,t1,t2⟩:=hP.full e.2.1 b x.t0 x.tn r (hr.way h x.t0 x.tn)
  have w:=qtw h he
  have fr:=hr.fit h x.t0 x.tn
  have fw:=w.fit h x.f0 x.fn
  refine ⟨T (qn ns e.1) t,List.mem_append_right _ (List.mem_flatMap.2 ⟨e,he,?_⟩),qiu (qev (qhm.1 t2) (qmb h hP b0 bn he t1).1 (qwy h fw (fun i hi=>by have:=w.small i hi; omega) fr (fun i hi=>by have:=hr.small i hi; omega)))⟩
  unfold addE
  rw [if_pos rfl]
  exact List.mem_map.2 ⟨t,t1,rfl⟩
theorem qzr (hN : 600000000 <= N) (h : GrOk ns es) (hP : ReachOk ns es P) {a b : Int} (a0 : 0 <= a) (an : a < ns.length) (b0 : 0 <= b) (bn : b < ns.length) {i : Nat} (hi : i < es.length) (z L : List Tr) (hL : L.length <= 423300000) (k kn) :
  qbO N k P (ns.length : Int) a b es (es.length : Int) ns es 0 0 z (i : Int) L (backE (P,(ns.length : Int),a,b,es,(es.length : Int),ns,es,(0 : Int),(0 : Int),z) kn) = kn (((i + 1 : Nat) : Int),L ++ addE ns P a b (nth Gh.z3 es i)):=by
 have he20:=h.e20
 have hn:=h.n12
 have he:=qaJ (z:=Gh.z3) hi
 have x:=edgeF h he
 have hw : IntKind.i64.wrap ((i : Int) + 1) = ((i + 1 : Nat) : Int):=w64 (by omega) (by omega)
 have hlen:=qqu hP a b (nth Gh.z3 es i)
 simp only [qbO,lt_d hi,ge0_d,Bool.and_self,cond_true,Int.toNat_natCast,joinD,loopE,qcj,hw,qB]
 unfold addE at hlen ⊢
 have two:=fun r (hr : r ∈ rw_ ns.length P (nth Gh.z3 es i).2.1 b)=>(qmb h hP b0 bn he hr).1
 generalize nth Gh.z3 es i = e at x hlen two ⊢
 by_cases hea : e.1 = a
 ·rw [if_pos hea] at hlen ⊢
  rw [List.length_map] at hlen
  have hix:=ixw hn x.t0 x.tn b0 bn
  have hlt : e.2.1.toNat * ns.length + b.toNat < P.length:=by rw [hP.pn]; exact ix_lt (by have:=x.t0; have:=x.tn; omega) (by omega)
  have hsum:=qxb N (qmE h a0 an)
  have hq3 : ((nsum (nth Gh.z5 ns a.toNat)).1,(nsum (nth Gh.z5 ns a.toNat)).2.1,(nsum (nth Gh.z5 ns a.toNat)).2.2) = qn ns a:=rfl
  rw [hea] at two
  obtain ⟨row,hrow⟩ : ∃ row : List Tr,nth [] P (e.2.1.toNat * ns.length + b.toNat) = row:=⟨_,rfl⟩
  have hrow' : rw_ ns.length P e.2.1 b = row:=hrow
  rw [hrow'] at hlen two ⊢
  obtain ⟨st,hst⟩ : ∃ st : Nat -> Int × List Tr,st = fun k : Nat=>((k : Int),L ++ (row.take k).map (T (qn ns a))):=⟨_,rfl⟩
  have e00 : ((0 : Int),L) = st 0:=by rw [hst]; simp
  rw [e00]
  refine qbm row.length st (fun j hj k=>?_) (fun k=>?_) (by omega) <;> subst hst <;> clear e00 <;> dsimp only
  ·have hwj : IntKind.i64.wrap ((j : Int) + 1) = ((j + 1 : Nat) : Int):=w64 (by omega) (by omega)
   have hll : (L ++ (row.take j).map (T (qn ns a))).length <= 450000000:=by
    rw [List.length_append,List.length_map,List.length_take]; omega
   obtain ⟨r,hr⟩ : ∃ r : Tr,nth z3 row j = r:=⟨_,rfl⟩
   have hth:=qtp (N:=N) (by omega) (qn ns a) r
   rw [if_pos (two r (hr ▸ qaJ hj))] at hth
   have hr3 : (r.1,r.2.1,r.2.2) = r:=rfl
   simp only [qci,hea,beq_self_eq_true,cond_true,hix,ge0_d,lt_d hlt,Bool.and_self,Int.toNat_natCast,hrow,lt_d hj,qx a0,qx an,Gh.nd_eta,hsum,Option.bind_some,hq3,hr,hr3,hth,List.length_singleton,hwj,qB]
   rw [qx (show ((L ++ (row.take j).map (T (qn ns a))).length + 1) * 40 <= 140737488355328 by omega),show Nat.ble 1 40 = true from rfl,Bool.and_self,cond_true,List.take_succ_eq_append_getElem hj,List.map_append,<- List.append_assoc,<- qch (z:=z3) hj,hr]
   rfl
  ·simp only [qci,hea,beq_self_eq_true,cond_true,hix,ge0_d,lt_d hlt,Bool.and_self,Int.toNat_natCast,hrow,qab,cond_false,List.take_length,qcj,qB,hw]
 ·rw [if_neg hea,List.append_nil]
  obtain ⟨N,rfl⟩ : ∃ M,N = M + 1:=⟨N - 1,by omega⟩
  rw [Gh.loopD_s]
  simp only [qci,beq_false_of_ne hea,cond_false,qcj,qB,hw]
theorem qzo (hN : 600000000 <= N) (h : GrOk ns es) (hP : ReachOk ns es P) {a b : Int} (a0 : 0 <= a) (an : a < ns.length) (b0 : 0 <= b) (bn : b < ns.length) (z all : List Tr) (hall : all.length <= 450000000) (h1 : ∀ s ∈ all,cov (rw_ ns.length P a b) s) (h2 : ∀ s ∈ rw_ ns.length P a b,cov all s) (k) :
  qdN N k P (ns.length : Int) a b ns es 0 0 z all = k (P,(ns.length : Int),a,b,ns,es,(0 : Int),(0 : Int),z):=by
 have hn:=h.n12
 have hix:=ixw hn a0 an b0 bn
 have hlt : a.toNat * ns.length + b.toNat < P.length:=by rw [hP.pn]; exact ix_lt (by omega) (by omega)
 have hrl:=hP.len (a.toNat * ns.length + b.toNat)
 have hl1 : ∀ s ∈ all,qaE N (nth [] P (a.toNat * ns.length + b.toNat),s,()) = some (true,()):=fun s hs=>by
  obtain ⟨t,e5,e6⟩:=qlY (N:=N) (by omega) (l:=nth [] P (a.toNat * ns.length + b.toNat)) (Nat.le_trans hrl (by decide)) s
  have ht : t = true:=e6.2 (h1 s hs)
  rw [e5,ht]
 have hl2 : ∀ s ∈ nth [] P (a.toNat * ns.length + b.toNat),qaE N (all,s,()) = some (true,()):=fun s hs=>by
  obtain ⟨t,e5,e6⟩:=qlY (N:=N) (by omega) hall s
  have ht : t = true:=e6.2 (h2 s hs)
  rw [e5,ht]
 have h3 : ∀ s : Tr,(s.1,s.2.1,s.2.2) = s:=fun _=>rfl
 simp only [qdN,joinD,loopE]
 refine qcs (n:=all.length) (fun i hi kn=>?_) (fun kn=>?_) (by omega)
 ·have hw : IntKind.i64.wrap ((i : Int) + 1) = (i : Int) + 1:=w64 (by omega) (by omega)
  have hd:=hl1 _ (qaJ (z:=z3) hi)
  simp only [qdO,lt_d hi,ge0_d,Bool.and_self,cond_true,Int.toNat_natCast,hix,lt_d hlt,h3,hd,Option.bind_some,Bool.not_true,cond_false,qB,hw]
 ·simp only [qdO,qab,cond_false,qgf,hix,lt_d hlt,ge0_d,Bool.and_self,cond_true,Int.toNat_natCast,loopE]
  refine qcs (n:=(nth [] P (a.toNat * ns.length + b.toNat)).length) (fun i hi kn=>?_) (fun kn=>?_) (by omega)
  ·have hw : IntKind.i64.wrap ((i : Int) + 1) = (i : Int) + 1:=w64 (by omega) (by omega)
   have hd:=hl2 _ (qaJ (z:=z3) hi)
   simp only [qdP,lt_d hi,ge0_d,Bool.and_self,cond_true,Int.toNat_natCast,h3,hd,Option.bind_some,Bool.not_true,cond_false,qB,hw]
  ·simp only [qdP,qab,cond_false]
theorem qzq (hN : 600000000 <= N) (h : GrOk ns es) (hP : ReachOk ns es P) {a b : Int} (a0 : 0 <= a) (an : a < ns.length) (b0 : 0 <= b) (bn : b < ns.length) {i : Nat} (hi : i < es.length) (z L : List Tr) (hL : L.length <= 423300000) (k kn) :
  qbL N k P (ns.length : Int) a b es (es.length : Int) ns es 0 0 (i : Int) L (backE (P,(ns.length : Int),a,b,es,(es.length : Int),ns,es,(0 : Int),(0 : Int)) kn) = kn (((i + 1 : Nat) : Int),L ++ addE ns P a b (nth Gh.z3 es i)):=by
 have he20:=h.e20
 have hn:=h.n12
 have he:=qaJ (z:=Gh.z3) hi
 have x:=edgeF h he
 have hw : IntKind.i64.wrap ((i : Int) + 1) = ((i + 1 : Nat) : Int):=w64 (by omega) (by omega)
 have hlen:=qqu hP a b (nth Gh.z3 es i)
 simp only [qbL,lt_d hi,ge0_d,Bool.and_self,cond_true,Int.toNat_natCast,joinD,loopE,qbN,hw,qB]
 unfold addE at hlen ⊢
 have two:=fun r (hr : r ∈ rw_ ns.length P (nth Gh.z3 es i).2.1 b)=>(qmb h hP b0 bn he hr).1
 generalize nth Gh.z3 es i = e at x hlen two ⊢
 by_cases hea : e.1 = a
 ·rw [if_pos hea] at hlen ⊢
  rw [List.length_map] at hlen
  have hix:=ixw hn x.t0 x.tn b0 bn
  have hlt : e.2.1.toNat * ns.length + b.toNat < P.length:=by rw [hP.pn]; exact ix_lt (by have:=x.t0; have:=x.tn; omega) (by omega)
  have hsum:=qxb N (qmE h a0 an)
  have hq3 : ((nsum (nth Gh.z5 ns a.toNat)).1,(nsum (nth Gh.z5 ns a.toNat)).2.1,(nsum (nth Gh.z5 ns a.toNat)).2.2) = qn ns a:=rfl
  rw [hea] at two
  obtain ⟨row,hrow⟩ : ∃ row : List Tr,nth [] P (e.2.1.toNat * ns.length + b.toNat) = row:=⟨_,rfl⟩
  have hrow' : rw_ ns.length P e.2.1 b = row:=hrow
  rw [hrow'] at hlen two ⊢
  obtain ⟨st,hst⟩ : ∃ st : Nat -> Int × List Tr,st = fun k : Nat=>((k : Int),L ++ (row.take k).map (T (qn ns a))):=⟨_,rfl⟩
  have e00 : ((0 : Int),L) = st 0:=by rw [hst]; simp
  rw [e00]
  refine qbm row.length st (fun j hj k=>?_) (fun k=>?_) (by omega) <;> subst hst <;> clear e00 <;> dsimp only
  ·have hwj : IntKind.i64.wrap ((j : Int) + 1) = ((j + 1 : Nat) : Int):=w64 (by omega) (by omega)
   have hll : (L ++ (row.take j).map (T (qn ns a))).length <= 450000000:=by
    rw [List.length_append,List.length_map,List.length_take]; omega
   obtain ⟨r,hr⟩ : ∃ r : Tr,nth z3 row j = r:=⟨_,rfl⟩
   have hth:=qtp (N:=N) (by omega) (qn ns a) r
   rw [if_pos (two r (hr ▸ qaJ hj))] at hth
   have hr3 : (r.1,r.2.1,r.2.2) = r:=rfl
   simp only [qbM,hea,beq_self_eq_true,cond_true,hix,ge0_d,lt_d hlt,Bool.and_self,Int.toNat_natCast,hrow,lt_d hj,qx a0,qx an,Gh.nd_eta,hsum,Option.bind_some,hq3,hr,hr3,hth,List.length_singleton,hwj,qB]
   rw [qx (show ((L ++ (row.take j).map (T (qn ns a))).length + 1) * 40 <= 140737488355328 by omega),show Nat.ble 1 40 = true from rfl,Bool.and_self,cond_true,List.take_succ_eq_append_getElem hj,List.map_append,<- List.append_assoc,<- qch (z:=z3) hj,hr]
   rfl
  ·simp only [qbM,hea,beq_self_eq_true,cond_true,hix,ge0_d,lt_d hlt,Bool.and_self,Int.toNat_natCast,hrow,qab,cond_false,List.take_length,qbN,qB,hw]
 ·rw [if_neg hea,List.append_nil]
  obtain ⟨N,rfl⟩ : ∃ M,N = M + 1:=⟨N - 1,by omega⟩
  rw [Gh.loopD_s]
  simp only [qbM,beq_false_of_ne hea,cond_false,qbN,qB,hw]
theorem qzn (hN : 600000000 <= N) (h : GrOk ns es) (hP : ReachOk ns es P) {a b : Int} (a0 : 0 <= a) (an : a < ns.length) (b0 : 0 <= b) (bn : b < ns.length) (z all : List Tr) (hall : all.length <= 450000000) (h1 : ∀ s ∈ all,cov (rw_ ns.length P a b) s) (h2 : ∀ s ∈ rw_ ns.length P a b,cov all s) (k) :
  qdu N k P (ns.length : Int) a b ns es 0 0 all = k (P,(ns.length : Int),a,b,ns,es,(0 : Int),(0 : Int),all):=by
 have hn:=h.n12
 have hix:=ixw hn a0 an b0 bn
 have hlt : a.toNat * ns.length + b.toNat < P.length:=by rw [hP.pn]; exact ix_lt (by omega) (by omega)
 have hrl:=hP.len (a.toNat * ns.length + b.toNat)
 have hl1 : ∀ s ∈ all,qaE N (nth [] P (a.toNat * ns.length + b.toNat),s,()) = some (true,()):=fun s hs=>by
  obtain ⟨t,e5,e6⟩:=qlY (N:=N) (by omega) (l:=nth [] P (a.toNat * ns.length + b.toNat)) (Nat.le_trans hrl (by decide)) s
  have ht : t = true:=e6.2 (h1 s hs)
  rw [e5,ht]
 have hl2 : ∀ s ∈ nth [] P (a.toNat * ns.length + b.toNat),qaE N (all,s,()) = some (true,()):=fun s hs=>by
  obtain ⟨t,e5,e6⟩:=qlY (N:=N) (by omega) hall s
  have ht : t = true:=e6.2 (h2 s hs)
  rw [e5,ht]
 have h3 : ∀ s : Tr,(s.1,s.2.1,s.2.2) = s:=fun _=>rfl
 simp only [qdu,joinD,loopE]
 refine qcs (n:=all.length) (fun i hi kn=>?_) (fun kn=>?_) (by omega)
 ·have hw : IntKind.i64.wrap ((i : Int) + 1) = (i : Int) + 1:=w64 (by omega) (by omega)
  have hd:=hl1 _ (qaJ (z:=z3) hi)
  simp only [qdv,lt_d hi,ge0_d,Bool.and_self,cond_true,Int.toNat_natCast,hix,lt_d hlt,h3,hd,Option.bind_some,Bool.not_true,cond_false,qB,hw]
 ·simp only [qdv,qab,cond_false,qfq,hix,lt_d hlt,ge0_d,Bool.and_self,cond_true,Int.toNat_natCast,loopE]
  refine qcs (n:=(nth [] P (a.toNat * ns.length + b.toNat)).length) (fun i hi kn=>?_) (fun kn=>?_) (by omega)
  ·have hw : IntKind.i64.wrap ((i : Int) + 1) = (i : Int) + 1:=w64 (by omega) (by omega)
   have hd:=hl2 _ (qaJ (z:=z3) hi)
   simp only [qdw,lt_d hi,ge0_d,Bool.and_self,cond_true,Int.toNat_natCast,h3,hd,Option.bind_some,Bool.not_true,cond_false,qB,hw]
  ·simp only [qdw,qab,cond_false]
theorem qzf (hN : 600000000 <= N) (h : GrOk ns es) (hP : ReachOk ns es P) {a b : Nat} (ha : a < ns.length) (hb : b < ns.length) (k kn) :
  qbK N k P (ns.length : Int) (a : Int) ns es 0 0 (b : Int) (backE (P,(ns.length : Int),(a : Int),ns,es,(0 : Int),(0 : Int)) kn) = kn ((b : Int) + 1):=by
 have hn:=h.n12
 have he20:=h.e20
 have a0 : (0 : Int) <= a:=by omega
 have an : (a : Int) < ns.length:=by omega
 have b0 : (0 : Int) <= b:=by omega
 have bn : (b : Int) < ns.length:=by omega
 have hwb : IntKind.i64.wrap ((b : Int) + 1) = (b : Int) + 1:=w64 (by omega) (by omega)
 have hlen:=fun l : List Ed=>quv hP (a : Int) (b : Int) l
 have hl20:=hlen es
 have hm : es.length * 22277520 <= 20 * 22277520:=Nat.mul_le_mul_right _ he20
 unfold qbK
 simp only [lt_d hb,cond_true,joinD,loopE]
 by_cases hab : (a : Int) = b
 ·rw [beq_iff_eq.2 hab,cond_true,qx a0,qx an,Bool.and_self,cond_true]
  have hid : ((nth ((0 : Int),((0 : Int),((0 : Int),((0 : Int),(0 : Int))))) ns ((a : Int)).toNat).2.1,((0 : Int),([] : List Int))) = idT ns (a : Int):=rfl
  simp only [hid]
  rw [show decide ([idT ns (a : Int)].length * 40 <= 140737488355328) = true from rfl,show Nat.ble 1 40 = true from rfl,Bool.and_self,cond_true]
  obtain ⟨st,hst⟩ : ∃ st : Nat -> Int × List Tr,st = fun i : Nat=>((i : Int),[idT ns (a : Int)] ++ (es.take i).flatMap (addE ns P (a : Int) (b : Int))):=⟨_,rfl⟩
  have e00 : ((0 : Int),[idT ns (a : Int)]) = st 0:=by rw [hst]; simp
  refine Eq.trans (congrArg _ e00) ?_
  refine qbm es.length st (fun i hi k=>?_) (fun k=>?_) (by omega) <;> subst hst <;> clear e00 <;> dsimp only
  ·have h1:=hlen (es.take i)
   rw [qzr hN h hP a0 an b0 bn hi,List.take_succ_eq_append_getElem hi,List.flatMap_append,<- List.append_assoc,<- qch (z:=Gh.z3) hi]
   ·simp
   ·rw [List.length_append,List.length_singleton]
    have : (es.take i).length * 22277520 <= 19 * 22277520:=Nat.mul_le_mul_right _ (by rw [List.length_take]; omega)
    omega
  ·rw [List.take_length]
   simp only [qbO,qab,cond_false]
   rw [qzo hN h hP a0 an b0 bn _ _ (by rw [List.length_append,List.length_singleton]; omega) (qwZ h hP a0 an b0 bn fun s hs=>⟨hab,List.mem_singleton.1 hs⟩) (qwH h hP a0 an b0 bn fun _=>List.mem_singleton.2 rfl)]
   simp only [qdQ,qB,hwb]
 ·rw [beq_false_of_ne hab,cond_false]
  obtain ⟨st,hst⟩ : ∃ st : Nat -> Int × List Tr,st = fun i : Nat=>((i : Int),[] ++ (es.take i).flatMap (addE ns P (a : Int) (b : Int))):=⟨_,rfl⟩
  have e00 : ((0 : Int),([] : List Tr)) = st 0:=by rw [hst]; simp
  refine Eq.trans (congrArg _ e00) ?_
  refine qbm es.length st (fun i hi k=>?_) (fun k=>?_) (by omega) <;> subst hst <;> clear e00 <;> dsimp only
  ·have h1:=hlen (es.take i)
   rw [qzq hN h hP a0 an b0 bn hi [],List.take_succ_eq_append_getElem hi,List.flatMap_append,<- List.append_assoc,<- qch (z:=Gh.z3) hi]
   ·simp
   ·rw [List.nil_append]
    have : (es.take i).length * 22277520 <= 19 * 22277520:=Nat.mul_le_mul_right _ (by rw [List.length_take]; omega)
    omega
  ·rw [List.take_length]
   simp only [qbL,qab,cond_false]
   rw [qzn hN h hP a0 an b0 bn [] _ (by rw [List.nil_append]; omega) (qwZ h hP a0 an b0 bn fun s hs=>by cases hs) (qwH h hP a0 an b0 bn fun e=>absurd e hab)]
   simp only [qdQ,qB,hwb]
end
theorem law_ReachKleene (g : List Nd × List Ed) (_h1 : wfS (.pair (.sl (.pair (.int .i64) (.pair (.int .i64) SI))) (.sl SI)) g) : ∃ N,qdT N (g,()) = some (true,()):=by
 obtain ⟨ns,es⟩:=g
 obtain ⟨N,hN⟩ : ∃ N : Nat,600000000 <= N:=⟨600000000,Nat.le_refl _⟩
 refine ⟨N,?_⟩
 obtain ⟨c,p,e1,e2⟩:=Gh.GraphCheck_eq (N:=N) (by omega) ns es
 simp only [qdT,qfp]
 rcases qya (N:=N) (by omega) ns es with ⟨c',p',h1,h2,h3⟩ | ⟨h,P,hP,h2⟩
 ·simp only [h2,e1,Option.bind_some]
  rw [bne_iff_ne.2 (fun hc=>h3 (e2.1 hc)),cond_true,bne_iff_ne.2 h1,cond_true]; rfl
 ·have hc:=e2.2 h
  subst hc
  have hn:=h.n12
  have hm1 : ns.length * ns.length <= 12 * 12:=Nat.mul_le_mul hn hn
  have hmc : (ns.length : Int) * (ns.length : Int) = ((ns.length * ns.length : Nat) : Int):=by rw [Int.natCast_mul]
  have hw1 : IntKind.i64.wrap ((ns.length : Int) * (ns.length : Int)) = (P.length : Int):=by rw [hmc,hP.pn]; exact w64 (by omega) (by omega)
  simp only [h2,e1,Option.bind_some,bne_self_eq_false,cond_false,hw1,joinD,loopE]
  refine qcs (n:=ns.length) (fun a ha kn=>?_) (fun kn=>?_) (by omega)
  ·have hwa : IntKind.i64.wrap ((a : Int) + 1) = (a : Int) + 1:=w64 (by omega) (by omega)
   simp only [qdt,lt_d ha,cond_true,joinD,loopE]
   refine qcs (n:=ns.length) (fun b hb kn=>qzf (by omega) h hP ha hb _ _) (fun kn=>?_) (by omega)
   simp only [qbK,qab,cond_false,qgg,qB,hwa]
  ·simp only [qdt,qab,cond_false,qgh]
set_option maxRecDepth 100000 in
theorem lifted_ReachKleene (os : Os) (started : os.Started) (H : Type) (enc : TypeId × Value -> H) :
  ReturnsInHanded {} Tryd.checked os 3 .any (fun w args=>(Rows.reachKleeneSpec.pre enc Tryd.prog Tryd.f3 [] false w args /\ laidMetH Tryd.prog Rows.reachKleeneRow.laid w) /\ sizedMet enc Tryd.prog Tryd.f3 (OpenSpec.ofChange Rows.reachKleeneSpec) false w args) (Rows.reachKleeneSpec.post enc Tryd.prog Tryd.f3 false true false false):=by
 refine returnsInHanded_of_change_and (C:=Tryd.checked) (X:=fun w _=>laidMetH Tryd.prog Rows.reachKleeneRow.laid w) (fun _ _ _ hh h=>h.of_heap hh) own started (by kernel_rfl) Tryd.func3
  (ChangeSpec.witness_shaped (enc:=enc) (C:=Tryd.checked) (os:=os) (X:=fun w _=>laidMetH Tryd.prog Rows.reachKleeneRow.laid w) false (World.doorLaid Tryd.prog 400 os) #[.agg #[.slice none 0 0,.slice none 0 0]] 8 rfl (World.shaped_of_RefB (by kernel_rfl) (by kernel_rfl)) (by kernel_rfl) (by kernel_rfl) (by kernel_rfl) (door_met os _)) ?_
 intro W base args ds gs before hval0 hW _ hsz0 hL _
 have hgw : GW Gs W:=gw_of hL
 have hval : ∀ (j : Nat) t v,Tryd.f3.params[j]? = some t -> args[j]? = some v -> Value.okWide Tryd.prog W .any base t v:=hval0
 have hW':=hW
 obtain ⟨p,q,hA0,hV,rfl,_,_⟩:=hW
 have hA : DataW.TrodAll enc Tryd.prog W 0 (fun _=>true) true Tryd.f3.params.toList args.toList ds p:=hA0
 rw [Tryd.params3] at hA hval
 obtain ⟨v0,vs0,d0,ds0,p0,q0,hargs,rfl,rfl,h0,r0⟩:=trodAll_cons hA
 obtain ⟨rfl,rfl,rfl⟩:=trodAll_nil r0
 obtain rfl : args = #[v0]:=by cases args; simp_all
 obtain ⟨rfl,rfl⟩:=trodVars_none hV
 have hall:=List.all_eq_true.1 hsz0
 clear hA0 hval0 hsz0
 simp only [List.append_nil] at hW'
 have hlt0 : ∀ x ∈ p0,x.block < W.heap.size:=fun x hx=>hW'.lt x (by simp [hx])
 obtain ⟨x0,g0,w0⟩:=qyA (k:=.dat (.pair (.sl (.pair (.int .i64) (.pair (.int .i64) SI))) (.sl SI))) (by kernel_rfl) (hval 0 25 v0 rfl rfl) h0
 obtain ⟨N,hN⟩:=law_ReachKleene x0 w0
 refine (qjc N (fun _=>False) W (x0,()) (true,()) [v0] (fun _ h=>h.elim) hgw ⟨v0,_,rfl,g0,rfl⟩ hN).mono ?_
 rintro e W' ⟨v,rfl,hg,hr⟩
 replace hg:=hg.old
 have hr : v = .bool true:=by simpa only [kvals,retV,Kd.val,Go.Abs.enc,RV] using hr
 subst hr
 exact ⟨_,rfl,_,_,_,[],p0 ++ [],[],hW',(trodAll_cons_mk (shut_bool (show Tryd.prog.underlying 4 = some .bool by kernel_rfl) _) trodAll_mk0),(trodAll_cons_mk (Below.trod laidOut (by kernel_rfl) (of_decide_eq_true (by kernel_rfl)) h0 hg hlt0) trodAll_mk0),rfl,hg.frame _,fun h=>by cases h⟩
theorem reachKleene_holds : Rows.ReachKleeneSaid :=
 OpenClaim.holds_of_wide 3 Tryd.f3 rfl rfl rfl rfl rfl rfl rfl ⟨rfl,rfl,rfl,rfl,rfl⟩ rfl rfl rfl rfl rfl (by kernel_rfl) Tryd.func3 (by kernel_rfl)
  (of_decide_eq_true (by kernel_rfl)) (by unfold Func.isWrapper; first | (rw [if_pos (by decide +kernel)]; kernel_rfl) | (rw [if_neg (by decide +kernel)]; exact ⟨rfl,rfl⟩))
  (fun os started H enc _=>lifted_ReachKleene os started H enc)
theorem reachKleene_card : Rows.ReachKleeneCardSaid :=
 Claim7.holds_tied_plain_at .later [] [.data] true (true, "b049033100521c0328afe8a8273d62bdb84d2c9756645822752d68c43c86d84a") false reachKleene_holds (fun _ h => by cases h) (by kernel_rfl) (fun _ h => by cases h) reachKleene_row_tie rfl ⟨rfl, rfl⟩ (by kernel_rfl) rfl
  (fun f fn hf hfn=>by
   obtain rfl : f = 3 := Option.some.inj ((show Tryd.prog.funcNamed "watershed/watershedkeep.ReachKleene" = some 3 by kernel_rfl).symm.trans hf) |>.symm
   obtain rfl : fn = Tryd.f3:=(Option.some.inj (Tryd.func3.symm.trans hfn)).symm
   exact ⟨by kernel_rfl,fun j t ht=>by
    have h3:=List.all_eq_true.1 (show (Tryd.f3.params.toList.all fun t=>!(Tryd.prog.wantsStandIn t)) = true by kernel_rfl) t (by rw [<- Array.getElem?_toList] at ht; exact List.mem_of_getElem? ht)
    have h4 : Tryd.prog.wantsStandIn t = false:=by simpa using h3
    exact h4⟩)
  (by kernel_rfl)
end Go.Proofs.YtgnnhemoocfclaaDoor
