import Derived.Test.YtgnnhemoocfclaaDoorReaA
import Derived.Test.YtgnnhemoocfclaaDoorReaM
noncomputable section
namespace Go.Proofs.YtgnnhemoocfclaaDoor
open Go.Abs
abbrev SX:Sh:=.sl (.int .i64)
abbrev SV:Sh:=.pair (.int .i64) (.pair (.int .i64) (.int .i64))
abbrev SS:Sh:=.pair (.int .i64) (.sl (.int .i64))
abbrev SQ:Sh:=.pair (.int .i64) (.pair (.int .i64) (.pair (.int .i64) (.pair (.int .i64) (.int .i64))))
abbrev SN:Sh:=.pair (.pair (.sl (.pair (.int .i64) (.pair (.int .i64) (.pair (.int .i64) (.pair (.int .i64) (.int .i64)))))) (.sl (.pair (.int .i64) (.pair (.int .i64) (.int .i64))))) (.sl (.sl (.pair (.int .i64) (.pair (.int .i64) (.sl (.int .i64))))))
abbrev Yv:Type:=Int×Int×Int
abbrev Yu:Type:=List (List Int)
abbrev Yt:Type:=Int×List Int
abbrev Yr:Type:=Int×Int×Int×Int×Int
abbrev Yq:Type:=List (Int×Int×List Int)
abbrev Yp:Type:=List (Int×Int×Int×Int×Int)×List (Int×Int×Int)
abbrev qcM:List Kd:=[.ptr SN,.dat SS,.dat SS]
abbrev qcK:List Kd:=[.dat (.bool)]
abbrev qbY:Type:=Dens qcK
def qmh(_N:Nat):Ctx:={ T:=[(3,⟨.int .i64,1,8,some (.int .i64),[.int .i64 (0:Int)],false,[]⟩),(4,⟨.bool,1,1,some .bool,[.bool false],false,[]⟩),(38,⟨.slice 3,1,24,some SX,[.nil],false,[]⟩),(52,⟨.struct [(0,3),(1,38)],2,32,some SS,[.int .i64 (0:Int),.nil],false,[]⟩)],G:=findE [mkB3 55 qbs 76 SN SS (.int .i64) (qau _N),mkP 56 qda qcX (qbi _N)],I:=findI [mkI3 76 SN SS (.int .i64) SX arrOk arrXs],N:=_N,n:=18,fx:=[],fl:=0,gs:=Gs }
def qlu(_N:Nat):Option qbY:=
 (some (false,()))
def qdf(_N:Nat)(_v3:Int)(_v4:List Int)(_v5:Int)(_v6:List Int)(_v7:Bool)(_kn16:(Int×List Int×Int×List Int×Bool)×Unit->Option qbY)(_y2:List Int):Option qbY:=
 ((qbi _N (_y2,_v6,())).bind fun _y17=>(bif _y17.1 then (some (true,())) else (_kn16 ((_v3,_v4,_v5,_v6,_v7),()))))
def qhi(_N:Nat)(_x1:Yp×List Yq)(_x2:Int×List Int)(_x3:Int×List Int):Option qbY:=
 (joinD (fun (_s:Int×List Int×Int×List Int×Bool)=>qlu _N) fun _k14=>((qau _N (_x1,(_x2.1,_x2.2),_x3.1,())).bind fun _y15=>(bif arrOk _y15.1 _y15.2.1 _y15.2.2 then (forE (fun (_c:Int×List Int×Int×List Int×Bool) (_y:List Int) (_s:Unit) _kn=>qdf _N _c.1 _c.2.1 _c.2.2.1 _c.2.2.2.1 _c.2.2.2.2 _kn _y) (fun (_c:Int×List Int×Int×List Int×Bool) (_s:Unit)=>(_k14 (_c.1,_c.2.1,_c.2.2.1,_c.2.2.2.1,_c.2.2.2.2))) (arrXs _y15.1 _y15.2.1 _y15.2.2) (_x2.1,_x2.2,_x3.1,_x3.2,false) ()) else none)))
def qbD(_N:Nat)(_x:Dens qcM):Option qbY:=qhi _N _x.1 _x.2.1 _x.2.2.1
theorem qkH(_N:Nat):SpecD Tryd.prog Gs 39 qcM qcK (qbD _N):=mkSpD (fn:=Tryd.f39) (c:=qw Tryd.f39) (C:=qmh _N)
  (a:=.two .none (.join 3 ⟨[(6,.ptr 2 0)],[.cells [.int .i64,.sl (.int .i64)],.cells [.int .i64,.sl (.int .i64)],.cells [.bool]]⟩ (.two .none (.one (.keep [5,6,12] 3 (.each 3 [.cells [.int .i64,.sl (.int .i64)],.cells [.int .i64,.sl (.int .i64)],.cells [.bool]] [] .none .none)))) .none))
  (by kernel_rfl) rfl (by kernel_rfl) (by kernel_rfl) ⟨rfl,by unfold TOk;kernel_rfl,qar rfl rfl (zF.2 ⟨qeT _N,(zF.2 ⟨qhF _N,(zC _)⟩)⟩),qaq rfl rfl (zF.2 ⟨qAU,(zC _)⟩),rfl⟩ (fun _x=>by kernel_rfl)
theorem qkU(_N:Nat):EntOk Tryd.prog Gs (mkP 39 qcM qcK (qbD _N)):=entP ⟨Tryd.f39,qw Tryd.f39,by kernel_rfl,by kernel_rfl,rfl⟩ (by kernel_rfl) (qkH _N)
abbrev qft:List Kd:=[.dat (.pair (.sl SQ) (.sl SV)),.dat SS,.dat SS]
abbrev qfn:List Kd:=[.dat (.bool),.dat (.int .i64)]
abbrev qbe:Type:=Dens qfn
def qsB(_N:Nat):Ctx:={ T:=[(25,⟨.struct [(0,22),(1,23)],2,48,some (.pair (.sl SQ) (.sl SV)),[.nil,.nil],false,[]⟩),(27,⟨.int .i64,1,8,some (.int .i64),[.int .i64 (0:Int)],false,[]⟩),(29,⟨.struct [(0,27),(1,3)],2,16,some (.pair (.int .i64) (.int .i64)),[.int .i64 (0:Int),.int .i64 (0:Int)],true,[]⟩),(52,⟨.struct [(0,3),(1,38)],2,32,some SS,[.int .i64 (0:Int),.nil],false,[]⟩),(95,⟨.array 2 52,4,64,none,[.int .i64 (0:Int),.nil,.int .i64 (0:Int),.nil],false,[]⟩)],G:=findE [mkHe 27 qfY (qbz _N),mkP 38 qee qeb (qaW _N),mkP 39 qcM qcK (qbD _N)],I:=findI [],N:=_N,n:=40,fx:=[],fl:=0,gs:=Gs }
def qrv(_N:Nat):Option qbe:=
 none
def qru(_N:Nat)(_k47:((List Yr)×(List Yv)×Int×List Int×Int×List Int×Int×Int)->Option qbe)(_v4:Int)(_v5:List Int)(_v6:Int)(_v7:List Int)(_v9:List Yr)(_v10:List Yv)(_v11:Int)(_v12:List Int)(_v13:Int)(_v14:List Int)(_v15:Int)(_v16:Int)(_v8:Int)(_kn48:(Int×List Int×Int×List Int×(List Yr)×(List Yv)×Int×List Int×Int×List Int×Int×Int)×Int->Option qbe):Option qbe:=
 (bif (decide (_v8<(2:Int))) then (bif (_v8==((0:Nat):Int)) then ((qaW _N ((_v9,_v10),(_v4,_v5),())).bind fun _y50=>(bif (_y50.1 != (0:Int)) then (some (false,_y50.1,())) else (_kn48 ((_v4,_v5,_v6,_v7,_v9,_v10,_v11,_v12,_v13,_v14,_v15,_v16),(IntKind.i64.wrap (_v8+(1:Int))))))) else (bif (_v8==((1:Nat):Int)) then ((qaW _N ((_v9,_v10),(_v6,_v7),())).bind fun _y49=>(bif (_y49.1 != (0:Int)) then (some (false,_y49.1,())) else (_kn48 ((_v4,_v5,_v6,_v7,_v9,_v10,_v11,_v12,_v13,_v14,_v15,_v16),(IntKind.i64.wrap (_v8+(1:Int))))))) else none)) else (_k47 (_v9,_v10,_v11,_v12,_v13,_v14,_v15,_v16)))
def qlw(_N:Nat)(_v23:Int)(_v24:List Int)(_v25:Int)(_v26:List Int)(_v38:List Yr)(_v39:List Yv)(_v40:List Yq):Option qbe:=
 ((qbD _N (((_v38,_v39),_v40),(_v23,_v24),(_v25,_v26),())).bind fun _y51=>(some (_y51.1,(0:Int),())))
def qlv(_N:Nat)(_k52:((List Yr)×(List Yv)×Int×List Int×Int×List Int×(List Yr)×(List Yv)×(List Yq)×Int×Int)->Option qbe)(_v4:Int)(_v5:List Int)(_v6:Int)(_v7:List Int)(_v9:List Yr)(_v10:List Yv)(_v11:Int)(_v12:List Int)(_v13:Int)(_v14:List Int)(_v29:List Yr)(_v30:List Yv)(_v31:List Yq)(_v32:Int)(_v33:Int)(_v8:Int)(_kn53:(Int×List Int×Int×List Int×(List Yr)×(List Yv)×Int×List Int×Int×List Int×(List Yr)×(List Yv)×(List Yq)×Int×Int)×Int->Option qbe):Option qbe:=
 (bif (decide (_v8<(2:Int))) then (bif (_v8==((0:Nat):Int)) then ((qaW _N ((_v9,_v10),(_v4,_v5),())).bind fun _y55=>(bif (_y55.1 != (0:Int)) then (some (false,_y55.1,())) else (_kn53 ((_v4,_v5,_v6,_v7,_v9,_v10,_v11,_v12,_v13,_v14,_v29,_v30,_v31,_v32,_v33),(IntKind.i64.wrap (_v8+(1:Int))))))) else (bif (_v8==((1:Nat):Int)) then ((qaW _N ((_v9,_v10),(_v6,_v7),())).bind fun _y54=>(bif (_y54.1 != (0:Int)) then (some (false,_y54.1,())) else (_kn53 ((_v4,_v5,_v6,_v7,_v9,_v10,_v11,_v12,_v13,_v14,_v29,_v30,_v31,_v32,_v33),(IntKind.i64.wrap (_v8+(1:Int))))))) else none)) else (_k52 (_v9,_v10,_v11,_v12,_v13,_v14,_v29,_v30,_v31,_v32,_v33)))
def qiu(_N:Nat)(_x1:List Yr×List Yv)(_x2:Int×List Int)(_x3:Int×List Int):Option qbe:=
 ((qbz _N (_x1.1,_x1.2)).bind fun _y44=>(caseD _y44 (fun _y45=>(bif (_y45.1 != (0:Int)) then (some (false,_y45.1,())) else (joinD (fun (_s:(List Yr)×(List Yv)×Int×List Int×Int×List Int×Int×Int)=>qrv _N) fun _k47=>(loopE (fun (_c:Int×List Int×Int×List Int×(List Yr)×(List Yv)×Int×List Int×Int×List Int×Int×Int) (_s:Int) _kn=>qru _N _k47 _c.1 _c.2.1 _c.2.2.1 _c.2.2.2.1 _c.2.2.2.2.1 _c.2.2.2.2.2.1 _c.2.2.2.2.2.2.1 _c.2.2.2.2.2.2.2.1 _c.2.2.2.2.2.2.2.2.1 _c.2.2.2.2.2.2.2.2.2.1 _c.2.2.2.2.2.2.2.2.2.2.1 _c.2.2.2.2.2.2.2.2.2.2.2 _s _kn) _N (_x2.1,_x2.2,_x3.1,_x3.2,_x1.1,_x1.2,_x2.1,_x2.2,_x3.1,_x3.2,_y45.1,_y45.2) (0:Int))))) fun _y46=>(bif (_y46.1.1 != (0:Int)) then (some (false,_y46.1.1,())) else (joinD (fun (_s:(List Yr)×(List Yv)×Int×List Int×Int×List Int×(List Yr)×(List Yv)×(List Yq)×Int×Int)=>qlw _N _s.2.2.1 _s.2.2.2.1 _s.2.2.2.2.1 _s.2.2.2.2.2.1 _s.2.2.2.2.2.2.1 _s.2.2.2.2.2.2.2.1 _s.2.2.2.2.2.2.2.2.1) fun _k52=>(loopE (fun (_c:Int×List Int×Int×List Int×(List Yr)×(List Yv)×Int×List Int×Int×List Int×(List Yr)×(List Yv)×(List Yq)×Int×Int) (_s:Int) _kn=>qlv _N _k52 _c.1 _c.2.1 _c.2.2.1 _c.2.2.2.1 _c.2.2.2.2.1 _c.2.2.2.2.2.1 _c.2.2.2.2.2.2.1 _c.2.2.2.2.2.2.2.1 _c.2.2.2.2.2.2.2.2.1 _c.2.2.2.2.2.2.2.2.2.1 _c.2.2.2.2.2.2.2.2.2.2.1 _c.2.2.2.2.2.2.2.2.2.2.2.1 _c.2.2.2.2.2.2.2.2.2.2.2.2.1 _c.2.2.2.2.2.2.2.2.2.2.2.2.2.1 _c.2.2.2.2.2.2.2.2.2.2.2.2.2.2 _s _kn) _N (_x2.1,_x2.2,_x3.1,_x3.2,_x1.1,_x1.2,_x2.1,_x2.2,_x3.1,_x3.2,_y46.2.1,_y46.2.2.1,_y46.2.2.2,_y46.1.1,_y46.1.2) (0:Int))))))
def qbm(_N:Nat)(_x:Dens qft):Option qbe:=qiu _N _x.1 _x.2.1 _x.2.2.1
theorem qpI(_N:Nat):SpecD Tryd.prog Gs 17 qft qfn (qbm _N):=mkSpD (fn:=Tryd.f17) (c:=qw Tryd.f17) (C:=qsB _N)
  (a:=.two .none (.two .none (.sel 8 999999999 (.two (.two .none (.two (.two (.draw 0 [.pure,.rd [8],.pure,.pure]) .none) .none)) (.join 9 ⟨[(4,.ptr 1 0),(5,.ptr 2 0),(8,.ptr 7 0)],[.cells [.sl SQ,.sl SV],.cells [.int .i64,.sl (.int .i64)],.cells [.int .i64,.sl (.int .i64)],.none,.none,.none,.none,.cells [.sl SQ,.sl SV,.sl (.sl (.pair (.int .i64) SS))],.cells [.int .i64,.int .i64]]⟩ (.two .none (.one (.loop 9 ⟨[(3,.ptr 0 0),(4,.ptr 1 0),(5,.ptr 2 0),(8,.ptr 7 0),(25,.agg [.int .i64,.sl (.int .i64),.int .i64,.sl (.int .i64)]),(26,.int .i64)],[.cells [.sl SQ,.sl SV],.cells [.int .i64,.sl (.int .i64)],.cells [.int .i64,.sl (.int .i64)],.none,.none,.none,.none,.cells [.sl SQ,.sl SV,.sl (.sl (.pair (.int .i64) SS))],.cells [.int .i64,.int .i64]]⟩ [4] .none))) .none)) (.two (.two .none (.two (.two (.draw 0 [.pure,.rd [3],.pure,.pure]) .none) .none)) (.join 4 ⟨[(4,.ptr 1 0),(5,.ptr 2 0),(8,.nl .ptr)],[.cells [.sl SQ,.sl SV],.cells [.int .i64,.sl (.int .i64)],.cells [.int .i64,.sl (.int .i64)],.cells [.int .i64,.int .i64]]⟩ (.two .none (.one (.loop 4 ⟨[(3,.ptr 0 0),(4,.ptr 1 0),(5,.ptr 2 0),(8,.nl .ptr),(25,.agg [.int .i64,.sl (.int .i64),.int .i64,.sl (.int .i64)]),(26,.int .i64)],[.cells [.sl SQ,.sl SV],.cells [.int .i64,.sl (.int .i64)],.cells [.int .i64,.sl (.int .i64)],.cells [.int .i64,.int .i64]]⟩ [4] .none))) .none)))))
  (by kernel_rfl) rfl (by kernel_rfl) (by kernel_rfl) ⟨rfl,by unfold TOk;kernel_rfl,qar rfl rfl (zF.2 ⟨qlW _N,(zF.2 ⟨qko _N,(zF.2 ⟨qkU _N,(zC _)⟩)⟩)⟩),qaq rfl rfl (zC _),rfl⟩ (fun _x=>by kernel_rfl)
theorem qqh(_N:Nat):EntOk Tryd.prog Gs (mkP 17 qft qfn (qbm _N)):=entP ⟨Tryd.f17,qw Tryd.f17,by kernel_rfl,by kernel_rfl,rfl⟩ (by kernel_rfl) (qpI _N)
abbrev qcb:List Kd:=[.ptr SN,.dat (.sl SS)]
abbrev qca:List Kd:=[.dat (.sl (.sl SX))]
abbrev qj:Type:=Dens qca
def qjH(_N:Nat):Ctx:={ T:=[(22,⟨.slice 37,1,24,some (.sl SQ),[.nil],false,[]⟩),(25,⟨.struct [(0,22),(1,23)],2,48,some (.pair (.sl SQ) (.sl SV)),[.nil,.nil],false,[]⟩),(38,⟨.slice 3,1,24,some SX,[.nil],false,[]⟩),(52,⟨.struct [(0,3),(1,38)],2,32,some SS,[.int .i64 (0:Int),.nil],false,[]⟩),(62,⟨.slice 52,1,24,some (.sl SS),[.nil],false,[]⟩),(63,⟨.slice 68,1,24,some (.sl (.sl SX)),[.nil],false,[]⟩),(68,⟨.slice 38,1,24,some (.sl SX),[.nil],false,[]⟩),(82,⟨.struct [(0,25),(2,26)],3,72,some SN,[.nil,.nil,.nil],false,[]⟩)],G:=findE [mkG 57 qfr 38 SX (qcN _N),mkB3 55 qbs 76 SN SS (.int .i64) (qau _N)],I:=findI [mkI3 76 SN SS (.int .i64) SX arrOk arrXs],N:=_N,n:=46,fx:=[2,3],fl:=0,gs:=Gs }
def qfy(_N:Nat)(_v61:List Yu):Option qj:=
 (some (_v61,()))
def qdp(_N:Nat)(_kn63:((Yp×List Yq)×(List Yt)×Int)×(Int×List Yu)->Option qj)(_v50:Yp×List Yq)(_v51:List Yt)(_v52:Int)(_v53:Int)(_v54:List Yu):Option qj:=
 (_kn63 ((_v50,_v51,_v52),((IntKind.i64.wrap (_v53+(1:Int))),_v54)))
def qdo(_N:Nat)(_k64:((Yp×List Yq)×(List Yt)×Int×Int×List Yu×List (List Int)×List (List Int))->Option qj)(_v42:Yp×List Yq)(_v43:List Yt)(_v44:Int)(_v45:Int)(_v46:Int)(_v47:List Yu)(_v48:List (List Int)):Option qj:=
 ((qcN _N (_v48,())).bind fun _y65=>(bif (decide (0<=_v44)&&decide (_v44<(_v47.length:Int))) then (_k64 (_v42,_v43,_v45,_v46,(_v47.set ((_v44).toNat) _y65),_v48,_y65)) else none))
def qfx(_N:Nat)(_kn67:((Yp×List Yq)×(List Yt)×Int×Int×Int×(List Yt)×Int×List Yu)×(Int×List (List Int))->Option qj)(_v21:Yp×List Yq)(_v22:List Yt)(_v23:Int)(_v24:Int)(_v25:Int)(_v26:List Yt)(_v27:Int)(_v28:Int)(_v29:List Yu)(_v38:List (List Int)):Option qj:=
 (_kn67 ((_v21,_v22,_v23,_v24,_v25,_v26,_v27,_v29),((IntKind.i64.wrap (_v28+(1:Int))),_v38)))
def qcj(_N:Nat)(_v17:List Yu)(_v36:Int)(_v37:List Int)(_v35:List (List Int))(_kn70:(List Yu×Int×List Int)×List (List Int)->Option qj)(_y16:List Int):Option qj:=
 (bif (decide ((_v35.length+([_y16]).length)*24<=140737488355328)&&Nat.ble 1 24) then (_kn70 ((_v17,_v36,_v37),(_v35 ++ [_y16]))) else none)
def qci(_N:Nat)(_k66:((Yp×List Yq)×(List Yt)×Int×Int×Int×List Yu×List (List Int))->Option qj)(_v6:Yp×List Yq)(_v7:List Yt)(_v8:Int)(_v9:Int)(_v10:Int)(_v11:List Yt)(_v12:Int)(_v14:List Yu)(_v13:Int)(_v33:List (List Int))(_kn67:((Yp×List Yq)×(List Yt)×Int×Int×Int×(List Yt)×Int×List Yu)×(Int×List (List Int))->Option qj):Option qj:=
 (bif (decide (_v13<_v12)) then (joinD (fun (_s:(Yp×List Yq)×(List Yt)×Int×Int×Int×(List Yt)×Int×Int×List Yu×List (List Int)×Int×List Int)=>qfx _N _kn67 _s.1 _s.2.1 _s.2.2.1 _s.2.2.2.1 _s.2.2.2.2.1 _s.2.2.2.2.2.1 _s.2.2.2.2.2.2.1 _s.2.2.2.2.2.2.2.1 _s.2.2.2.2.2.2.2.2.1 _s.2.2.2.2.2.2.2.2.2.1) fun _k68=>(bif (decide (0<=_v13)&&decide (_v13<(_v11.length:Int))) then ((qau _N (_v6,((nth ((0:Int),[]) _v11 (_v13).toNat).1,(nth ((0:Int),[]) _v11 (_v13).toNat).2),_v8,())).bind fun _y69=>(bif arrOk _y69.1 _y69.2.1 _y69.2.2 then (forE (fun (_c:List Yu×Int×List Int) (_y:List Int) (_s:List (List Int)) _kn=>qcj _N _c.1 _c.2.1 _c.2.2 _s _kn _y) (fun (_c:List Yu×Int×List Int) (_s:List (List Int))=>(_k68 (_v6,_v7,_v8,_v9,_v10,_v11,_v12,_v13,_c.1,_s,_c.2.1,_c.2.2))) (arrXs _y69.1 _y69.2.1 _y69.2.2) (_v14,(nth ((0:Int),[]) _v11 (_v13).toNat).1,(nth ((0:Int),[]) _v11 (_v13).toNat).2) _v33) else none)) else none)) else (_k66 (_v6,_v7,_v8,_v9,_v10,_v14,_v33)))
def qdn(_N:Nat)(_k62:(List Yu)->Option qj)(_v1:Yp×List Yq)(_v2:List Yt)(_v3:Int)(_v4:Int)(_v5:List Yu)(_kn63:((Yp×List Yq)×(List Yt)×Int)×(Int×List Yu)->Option qj):Option qj:=
 (bif (decide (_v4<_v3)) then (joinD (fun (_s:(Yp×List Yq)×(List Yt)×Int×Int×List Yu×List (List Int)×List (List Int))=>qdp _N _kn63 _s.1 _s.2.1 _s.2.2.1 _s.2.2.2.1 _s.2.2.2.2.1) fun _k64=>(joinD (fun (_s:(Yp×List Yq)×(List Yt)×Int×Int×Int×List Yu×List (List Int))=>qdo _N _k64 _s.1 _s.2.1 _s.2.2.1 _s.2.2.2.1 _s.2.2.2.2.1 _s.2.2.2.2.2.1 _s.2.2.2.2.2.2) fun _k66=>(loopE (fun (_c:(Yp×List Yq)×(List Yt)×Int×Int×Int×(List Yt)×Int×List Yu) (_s:Int×List (List Int)) _kn=>qci _N _k66 _c.1 _c.2.1 _c.2.2.1 _c.2.2.2.1 _c.2.2.2.2.1 _c.2.2.2.2.2.1 _c.2.2.2.2.2.2.1 _c.2.2.2.2.2.2.2 _s.1 _s.2 _kn) _N (_v1,_v2,_v4,_v3,_v4,_v2,(_v2.length:Int),_v5) ((0:Int),[])))) else (_k62 _v5))
def qfw(_N:Nat)(_x1:Yp×List Yq)(_x2:List Yt):Option qj:=
 (bif (decide (0<=(_x1.1.1.length:Int))&&(decide ((_x1.1.1.length:Int)<=(_x1.1.1.length:Int))&&decide ((_x1.1.1.length:Int)*24<=281474976710656))) then (joinD (fun (_s:List Yu)=>qfy _N _s) fun _k62=>(loopE (fun (_c:(Yp×List Yq)×(List Yt)×Int) (_s:Int×List Yu) _kn=>qdn _N _k62 _c.1 _c.2.1 _c.2.2 _s.1 _s.2 _kn) _N (_x1,_x2,((List.replicate (_x1.1.1.length:Int).toNat ([]:List (List Int))).length:Int)) ((0:Int),(List.replicate (_x1.1.1.length:Int).toNat ([]:List (List Int)))))) else none)
def qba(_N:Nat)(_x:Dens qcb):Option qj:=qfw _N _x.1 _x.2.1
theorem qiV(_N:Nat):SpecD Tryd.prog Gs 43 qcb qca (qba _N):=mkSpD (fn:=Tryd.f43) (c:=qw Tryd.f43) (C:=qjH _N)
  (a:=.two .none (.two .none (.join 1 ⟨[(5,.slc 0 0)],[.row false 0 68 (.sl SX)]⟩ (.two .none (.one (.loop 1 ⟨[(0,.fptr SN),(1,.sl SS),(5,.slc 0 0),(19,.int .i64),(20,.int .i64)],[.row false 0 68 (.sl SX)]⟩ [3,4] (.two .none (.two .none (.join 4 ⟨[(0,.fptr SN),(1,.sl SS),(5,.slc 0 0),(19,.int .i64),(20,.int .i64)],[.row false 0 68 (.sl SX),.cells [.slc 2 0],.row true 0 38 SX,.row true 0 38 SX]⟩ (.one (.two .none (.two .none (.join 3 ⟨[(0,.fptr SN),(1,.sl SS),(5,.slc 0 0),(6,.int .i64),(7,.ptr 1 0),(19,.int .i64),(20,.int .i64)],[.row false 0 68 (.sl SX),.cells [.slc 2 0],.row false 0 38 SX]⟩ (.two .none (.one (.objc 1 0 38 SX (.loop 3 ⟨[(0,.fptr SN),(1,.sl SS),(5,.slc 0 0),(6,.int .i64),(7,.ptr 1 0),(19,.int .i64),(20,.int .i64),(23,.sl SS),(24,.int .i64),(25,.int .i64)],[.row false 0 68 (.sl SX),.cells [.slc 2 0],.row false 0 38 SX]⟩ [7,9] (.two .none (.two .none (.join 4 ⟨[(0,.fptr SN),(1,.sl SS),(5,.slc 0 0),(6,.int .i64),(7,.ptr 1 0),(19,.int .i64),(20,.int .i64),(23,.sl SS),(24,.int .i64),(25,.int .i64)],[.row false 0 68 (.sl SX),.cells [.slc 2 0],.row false 0 38 SX,.cells [.int .i64,.sl (.int .i64)]]⟩ (.one (.two .none (.two .none (.one (.keep [0,1,5,6,7,19,20,23,24,25,32] 4 (.each 4 [.row false 0 68 (.sl SX),.cells [.slc 2 0],.row false 0 38 SX,.cells [.int .i64,.sl (.int .i64)]] [1] .none .none)))))) .none))))))) .none)))) .none)))))) .none)))
  (by kernel_rfl) rfl (by kernel_rfl) (by kernel_rfl) ⟨rfl,by unfold TOk;kernel_rfl,qar rfl rfl (zF.2 ⟨qqf _N,(zF.2 ⟨qeT _N,(zC _)⟩)⟩),qaq rfl rfl (zF.2 ⟨qAU,(zC _)⟩),rfl⟩ (fun _x=>by kernel_rfl)
theorem qiv(_N:Nat):EntOk Tryd.prog Gs (mkQ 43 qcb qca (qba _N)):=entQ ⟨Tryd.f43,qw Tryd.f43,by kernel_rfl,by kernel_rfl,rfl⟩ (qiV _N)
end Go.Proofs.YtgnnhemoocfclaaDoor
namespace Go.Proofs.YtgnnhemoocfclaaDoor.Rea
open Go.Abs
open Go.Smy (Sm qB qA qaH qaT qaY leqP qbb thenS)
open Go.Proofs.YtgnnhemoocfclaaDoor.Gh (Nd Ed nsum qbr GrOk qcG)
theorem qrc{t:List Int}(h:tok t=true):∀ i,0<=nth 0 t i/\nth 0 t i<=1048576:=fun i=>by
 simp only [tok,zA,zb,zM] at h
 by_cases hi:i<t.length
 ·exact h.2 _ (qbK hi)
 ·have e:nth (0:Int) t i=0:=by simp [nth,List.getD,zP (show t.length<=i by omega)]
  rw [e];decide
structure AplOk (x:Tr) (t:List Int):Prop where
 tk:tok t=true
 chk:qB (sm x) t.length=0
 big:nth 0 t (x.1.toNat - 1)+x.2.1<=1048576
theorem qBc{α:Type}(a b:List α)(i:Nat)(v:α)(h:i<a.length):(a++b).set i v=a.set i v++b:=by
 rw [List.set_append,zH h]
theorem qwL{N:Nat}(hN:200000000<=N)(x:Tr)(t:List Int):∃ y e,qdw N (x,t,())=some (y,e,())/\(e=0↔AplOk x t)/\(e=0->y=apl x t):=by
 obtain⟨k,a,p⟩:=x
 obtain⟨c,hc,hc0⟩:=Check_eq hN t
 simp only [qdw,qjf,hc,Option.bind_some]
 by_cases h0:c=0
 case neg=>exact⟨[],c,by rw [bne_iff_ne.2 h0,cond_true],⟨fun e=>absurd e h0,fun h=>absurd (hc0.2 h.tk) h0⟩,fun e=>absurd e h0⟩
 subst h0
 have htk:=hc0.1 rfl
 have hsc:=qjF hN (k,a,p) (t.length:Int)
 simp only [bne_self_eq_false,cond_false,hsc,Option.bind_some]
 by_cases h1:qB (sm (k,a,p)) t.length=0
 case neg=>exact⟨[],_,by rw [bne_iff_ne.2 h1,cond_true],⟨fun e=>absurd e h1,fun h=>absurd h.chk h1⟩,fun e=>absurd e h1⟩
 obtain⟨-,n4,k1,kn,ko,abad,pbad⟩:=qA.1 h1
 simp only [sm] at k1 kn ko abad pbad
 have hkn:k.toNat<=t.length:=by omega
 have hlt:(t.take k.toNat).length=k.toNat:=by rw [zw];omega
 have hw:IntKind.i64.wrap (k - 1)=((k.toNat - 1:Nat):Int):=by rw [w64 (by omega) (by omega)];omega
 have hcl:=qnR (N:=N) (a:=t.take k.toNat) (by omega)
 have hlen:(t.take k.toNat++p).length=k.toNat+p.length:=by rw [zR,hlt]
 have hn:nth (0:Int) (t.take k.toNat++p) (k.toNat - 1)=nth 0 t (k.toNat - 1):=by
  rw [show nth (0:Int) (t.take k.toNat++p) (k.toNat - 1)=nth 0 (t.take k.toNat) (k.toNat - 1) from Go.Smy.nth_append_left _ _ _ (by omega)]
  exact Go.Smy.nth_take t _ _ (by omega)
 have hbt:=qrc htk (k.toNat - 1)
 have hadd:IntKind.i64.wrap (nth 0 t (k.toNat - 1)+a)=nth 0 t (k.toNat - 1)+a:=w64 (by omega) (by omega)
 have hset:nth (0:Int) ((t.take k.toNat++p).set (k.toNat - 1) (nth 0 t (k.toNat - 1)+a)) (k.toNat - 1)=nth 0 t (k.toNat - 1)+a:=by
  rw [nth_set (by omega),zH rfl]
 simp only [h1,bne_self_eq_false,cond_false,Int.toNat_zero,List.drop_zero,hcl,Option.bind_some,hw,hn,hadd,Int.toNat_natCast,hset,zAf]
 rw [qx (show (0:Int)<=0 by omega),qx (show (0:Int)<=k by omega),qx (show k<=(t.length:Int) by omega),hlt,qx (show (k.toNat+p.length)*8<=140737488355328 by omega),qx (show (0:Int)<=((k.toNat - 1:Nat):Int) by omega),qx (show ((k.toNat - 1:Nat):Int)<((t.take k.toNat++p).length:Int) by omega)]
 simp only [Bool.and_self,cond_true,show Nat.ble 1 8=true from rfl]
 rw [qiX N (nth 0 t (k.toNat - 1)+a)]
 simp only [Option.bind_some,Bool.not_not]
 cases hb:qaH (nth 0 t (k.toNat - 1)+a) with
 | true=>
  refine⟨[],6,rfl,⟨fun e=>(by cases e),fun h=>?_⟩,fun e=>(by cases e)⟩
  have:=h.big
  have h2:qaH (nth 0 t (k.toNat - 1)+a)=false:=qaT.2 ⟨by omega,this⟩
  rw [hb] at h2;cases h2
 | false=>
  refine⟨_,0,rfl,⟨fun _=>⟨htk,h1,(qaT.1 hb).2⟩,fun _=>rfl⟩,fun _=>?_⟩
  show _=(t.take k.toNat).set (k.toNat - 1) (nth 0 t (k.toNat - 1)+a)++p
  exact qBc _ _ _ _ (by omega)
section
variable {ns : List Nd} {es : List Ed}
structure Sok (ns:List Nd) (s:Int×List Int):Prop where
 a0:0<=s.1
 an:s.1<ns.length
 tk:tok s.2=true
 len:(s.2.length:Int)=dp ns s.1
theorem qmN{N:Nat}(hN:200000000<=N)(s:Int×List Int):∃ e,qaW N ((ns,es),s,())=some (e,())/\(e=0↔Sok ns s):=by
 simp only [qaW,qlx]
 by_cases h0:s.1<0
 ·exact⟨2,by rw [qx h0,cond_true],⟨fun e=>(by cases e),fun h=>(by have:=h.a0;omega)⟩⟩
 by_cases hn:s.1>=ns.length
 ·exact⟨2,by rw [qJ h0,qx hn,cond_true,cond_false],⟨fun e=>(by cases e),fun h=>(by have:=h.an;omega)⟩⟩
 rw [qJ h0,qJ hn,cond_false,cond_false]
 obtain⟨c,hc,hc0⟩:=Check_eq hN s.2
 simp only [hc,Option.bind_some]
 by_cases h1:c=0
 case neg=>exact⟨c,by rw [bne_iff_ne.2 h1,cond_true],fun e=>absurd e h1,fun h=>absurd (hc0.2 h.tk) h1⟩
 subst h1
 rw [bne_self_eq_false,cond_false,qx (show 0<=s.1 by omega),qx (show s.1<(ns.length:Int) by omega),Bool.and_self,cond_true]
 by_cases h2:(s.2.length:Int)=dp ns s.1
 ·refine⟨0,?_,fun _=>⟨by omega,by omega,hc0.1 rfl,h2⟩,fun _=>rfl⟩
  rw [show ((s.2.length:Int) != ((nth ((0:Int),((0:Int),((0:Int),((0:Int),(0:Int))))) ns s.1.toNat).2).1)=false from bne_eq_false_iff_eq.2 h2,cond_false]
 ·refine⟨7,?_,⟨fun e=>(by cases e),fun h=>absurd h.len h2⟩⟩
  rw [show ((s.2.length:Int) != ((nth ((0:Int),((0:Int),((0:Int),((0:Int),(0:Int))))) ns s.1.toNat).2).1)=true from bne_iff_ne.2 h2,cond_true]
def could(ns:List Nd)(P:List (List Tr))(a b:Int×List Int):Prop:=∃ r∈rw_ ns.length P a.1 b.1,AplOk r a.2/\undr (apl r a.2) b.2=true
theorem ix_eq(h:GrOk ns es){a b:Int}(a0:0<=a)(an:a<ns.length)(b0:0<=b)(bn:b<ns.length):IntKind.i64.wrap (IntKind.i64.wrap (a*(ns.length:Int))+b)=((a.toNat*ns.length+b.toNat:Nat):Int):=by
 have hn:=h.n12
 have hm0:0<=a*(ns.length:Int):=Int.mul_nonneg a0 (by omega)
 have hm2:a*(ns.length:Int)<=12*12:=Int.mul_le_mul (by omega) (by omega) (by omega) (by omega)
 rw [w64 (show -9223372036854775808<=a*(ns.length:Int) by omega) (by omega),w64 (by omega) (by omega),Int.natCast_add,Int.natCast_mul,show ((a.toNat:Nat):Int)=a by omega,show ((b.toNat:Nat):Int)=b by omega]
theorem qwq(h:GrOk ns es){a b:Int}{r:Tr}{t:List Int}(fr:Fit ns a b r)(hl:(t.length:Int)=dp ns a)(d4:dp ns b<=4):Fits r t:=⟨fr.k1,by rw [hl];exact fr.keep,by rw [fr.out];exact d4⟩
theorem qzs(x:Tr)(t:List Int):((aplD x t).2.1=0↔AplOk x t)/\((aplD x t).2.1=0->(aplD x t).1=apl x t):=by
 obtain⟨y,e,h1,h2,h3⟩:=qwL (N:=aN) (Nat.le_refl _) x t
 have:aplD x t=(y,e,()):=by unfold aplD;rw [h1];rfl
 rw [this]
 exact⟨h2,h3⟩
theorem qwC(h:GrOk ns es){P:List (List Tr)}(hP:ReachOk ns es P){a:Int×List Int}{c:Int}(a0:0<=a.1)(an:a.1<ns.length)(b0:0<=c)(bn:c<ns.length):arrOk ((ns,es),P) a c=true/\qkr ((ns,es),P) a c=rw_ ns.length P a.1 c:=by
 have e:=ix_eq h a0 an b0 bn
 have e1:arrIx ((ns,es),P) a c=((a.1.toNat*ns.length+c.toNat:Nat):Int):=e
 have hlt:a.1.toNat*ns.length+c.toNat<P.length:=by rw [hP.pn];exact ix_lt (by omega) (by omega)
 refine⟨?_,by rw [qkr,e1,Int.toNat_natCast]⟩
 simp only [arrOk,e1,zA,zM,zb]
 refine⟨⟨by omega,by omega⟩,fun x _=>?_⟩
 obtain⟨y,e,h1,-⟩:=qwL (N:=aN) (Nat.le_refl _) x a.2
 rw [h1];rfl
theorem quR(h:GrOk ns es){P:List (List Tr)}(hP:ReachOk ns es P){a:Int×List Int}{c:Int}(a0:0<=a.1)(an:a.1<ns.length)(b0:0<=c)(bn:c<ns.length){y:List Int}:y∈arrXs ((ns,es),P) a c↔∃ r∈rw_ ns.length P a.1 c,AplOk r a.2/\y=apl r a.2:=by
 rw [arrXs,(qwC h hP a0 an b0 bn).2]
 simp only [zAB,zj,beq_iff_eq]
 constructor
 ·rintro⟨r,⟨h1,h2⟩,rfl⟩
  obtain⟨h3,h4⟩:=qzs r a.2
  exact⟨r,h1,h3.1 h2,h4 h2⟩
 ·rintro⟨r,h1,h2,rfl⟩
  obtain⟨h3,h4⟩:=qzs r a.2
  exact⟨r,⟨h1,h3.2 h2⟩,h4 (h3.2 h2)⟩
theorem qzx{N:Nat}(hN:200000000<=N)(h:GrOk ns es){P:List (List Tr)}(hP:ReachOk ns es P){a b:Int×List Int}(sa:Sok ns a)(sb:Sok ns b):∃ c,qbD N (((ns,es),P),a,b,())=some (c,())/\(c=true↔could ns P a b):=by
 obtain⟨k1,-⟩:=qwC h hP sa.a0 sa.an sb.a0 sb.an
 have hmem:=fun y=>quR h hP (y:=y) sa.a0 sa.an sb.a0 sb.an
 have hlen:∀ y∈arrXs ((ns,es),P) a b.1,y.length=b.2.length:=fun y hy=>by
  obtain⟨r,hr,hk,rfl⟩:=(hmem y).1 hy
  have fr:=(hP.sound _ _ sa.a0 sa.an sb.a0 sb.an r hr).fit h sa.a0 sa.an
  have h1:=qvu (qwq h fr sa.len (qyX h sb.a0 sb.an).2)
  have h2:=fr.out
  have h3:=sb.len
  omega
 have hU:∀ y∈arrXs ((ns,es),P) a b.1,qbi N (y,b.2,())=some (undr y b.2,()):=fun y hy=>qso (hlen y hy) (by rw [hlen y hy];exact (qrd sb.tk).2) hN
 simp only [qbD,qhi,joinD,qau,qdq,Option.bind_some]
 have ea:(a.1,a.2)=a:=rfl
 simp only [ea,k1,cond_true,forE]
 have hc:could ns P a b↔∃ y∈arrXs ((ns,es),P) a b.1,undr y b.2=true:=by
  constructor
  ·rintro⟨r,h1,h2,h3⟩
   exact⟨_,(hmem _).2 ⟨r,h1,h2,rfl⟩,h3⟩
  ·rintro⟨y,h1,h2⟩
   obtain⟨r,h3,h4,rfl⟩:=(hmem y).1 h1
   exact⟨r,h3,h4,h2⟩
 by_cases hex:could ns P a b
 ·refine⟨true,?_,by simp [hex]⟩
  refine qwo (r:=some (true,())) (fun y=>undr y b.2=true) _ (fun y hy hb kn=>?_) (fun y hy hb kn=>?_) (hc.1 hex)
  ·simp only [qdf,hU y hy,Option.bind_some,hb,cond_true]
  ·simp only [qdf,hU y hy,Option.bind_some,zBJ _▸hb,cond_false,qU]
 ·refine⟨false,?_,by simp [hex]⟩
  refine (qtM _ (fun y hy kn=>?_)).trans ?_
  ·have hb:undr y b.2=false:=by
    cases e:undr y b.2 with
    | false=>rfl
    | true=>exact absurd (hc.2 ⟨y,hy,e⟩) hex
   simp only [qdf,hU y hy,Option.bind_some,hb,cond_false,qU]
  ·rfl
theorem qzC{N:Nat}(hN:500000000<=N)(hg:¬ GrOk ns es)(a b:Int×List Int):∃ e,qbm N ((ns,es),a,b,())=some (false,e,())/\e≠0:=by
 rcases Of_eq hN ns es with⟨c,p,h1,h2,-⟩ | ⟨h,-⟩
 ·refine⟨c,?_,h1⟩
  simp only [qbm,qiu,h2,Option.bind_some,caseD]
  rw [bne_iff_ne.2 h1,cond_true]
 ·exact absurd h hg
theorem lD2{R S:Type}(f:S->(S->Option R)->Option R)(n:Nat)(s:S):loopD f (n+1) s=f s (loopD f n):=rfl
theorem qwK{N:Nat}(hN:500000000<=N)(h:GrOk ns es){P:List (List Tr)}(hP:ReachOk ns es P)(hO:qbz N (ns,es)=some (Sum.inr (((0:Int),(0:Int)),ns,es,P)))(a b:Int×List Int):∃ c e,qbm N ((ns,es),a,b,())=some (c,e,())/\(e=0↔Sok ns a/\Sok ns b)/\(e=0->(c=true↔could ns P a b)):=by
 obtain⟨M,rfl⟩:∃ M,N=M+3:=⟨N - 3,by omega⟩
 obtain⟨e1,h1,h2⟩:=qmN (ns:=ns) (es:=es) (N:=M+3) (by omega) a
 obtain⟨e2,h3,h4⟩:=qmN (ns:=ns) (es:=es) (N:=M+3) (by omega) b
 have ea:(a.1,a.2)=a:=rfl
 have eb:(b.1,b.2)=b:=rfl
 simp only [qbm,qiu,hO,Option.bind_some,caseD,bne_self_eq_false,cond_false,joinD,loopE]
 rw [lD2]
 simp only [qlv,qx (show (0:Int)<2 by decide),cond_true,ea,eb,h1,Option.bind_some,show ((0:Int)==((0:Nat):Int))=true from rfl]
 by_cases q1:e1=0
 case neg=>
  refine⟨false,e1,by rw [bne_iff_ne.2 q1,cond_true],⟨fun e=>absurd e q1,fun e=>absurd (h2.2 e.1) q1⟩,fun e=>absurd e q1⟩
 subst q1
 have w1:IntKind.i64.wrap (0+1)=1:=by decide
 have w2:IntKind.i64.wrap (1+1)=2:=by decide
 simp only [bne_self_eq_false,cond_false,qU,w1]
 rw [lD2]
 simp only [qx (show (1:Int)<2 by decide),cond_true,show ((1:Int)==((0:Nat):Int))=false from rfl,cond_false,show ((1:Int)==((1:Nat):Int))=true from rfl,h3,Option.bind_some]
 by_cases q2:e2=0
 case neg=>
  refine⟨false,e2,by rw [bne_iff_ne.2 q2,cond_true],⟨fun e=>absurd e q2,fun e=>absurd (h4.2 e.2) q2⟩,fun e=>absurd e q2⟩
 subst q2
 simp only [bne_self_eq_false,cond_false,qU,w2]
 rw [lD2]
 simp only [qJ (show ¬ (2:Int)<2 by decide),cond_false,qlw]
 have sa:=h2.1 rfl
 have sb:=h4.1 rfl
 obtain⟨c,h5,h6⟩:=qzx (N:=M+3) (by omega) h hP sa sb
 simp only [ea,eb,h5,Option.bind_some]
 exact⟨c,0,rfl,⟨fun _=>⟨sa,sb⟩,fun _=>rfl⟩,fun _=>h6⟩
end
end Go.Proofs.YtgnnhemoocfclaaDoor.Rea
namespace Go.Proofs.YtgnnhemoocfclaaDoor.Rea
open Go.Abs
open Go.Smy (Sm qB qA qaH qaT qaY leqP qbb thenS)
open Go.Proofs.YtgnnhemoocfclaaDoor.Gh (Nd Ed nsum qbr GrOk qcG)
theorem qBK{x:Tr}{t:List Int}(h:AplOk x t):tok (apl x t)=true:=by
 obtain⟨-,n4,k1,kn,ko,abad,pbad⟩:=qA.1 h.chk
 simp only [sm] at k1 kn ko abad pbad
 have hf:=qBv h.chk
 have hl:=qvu hf
 simp only [outT] at hl
 have hb:=h.big
 have hall:∀ y∈apl x t,0<=y/\y<=1048576:=by
  intro y hy
  unfold apl at hy
  rcases zL.1 hy with hy | hy
  ·rcases List.mem_or_eq_of_mem_set hy with hy | rfl
   ·obtain⟨i,hi,rfl⟩:=mem_nth (z:=(0:Int)) (zAN hy)
    exact qrc h.tk i
   ·have:=qrc h.tk (x.1.toNat - 1)
    omega
  ·obtain⟨i,hi,rfl⟩:=mem_nth (z:=(0:Int)) hy
   exact pbad i hi
 simp only [tok,zA,zb,zM]
 exact⟨⟨by omega,by omega⟩,hall⟩
section
variable {ns : List Nd} {es : List Ed} {P : List (List Tr)}
theorem qzD{N:Nat}(hN:500000000<=N)(ns:List Nd)(es:List Ed):(¬ GrOk ns es/\∀ a b,∃ c e,qbm N ((ns,es),a,b,())=some (c,e,())/\e≠0) \/
  (GrOk ns es/\∃ P,ReachOk ns es P/\∀ a b,∃ c e,qbm N ((ns,es),a,b,())=some (c,e,())/\(e=0↔Sok ns a/\Sok ns b)/\(e=0->(c=true↔could ns P a b))):=by
 rcases Of_eq hN ns es with⟨c,p,h1,h2,h3⟩ | ⟨h,P,hP,hO⟩
 ·refine .inl ⟨h3,fun a b=>?_⟩
  obtain⟨e,h4,h5⟩:=qzC hN h3 a b
  exact⟨_,e,h4,h5⟩
 ·exact .inr ⟨h,P,hP,fun a b=>qwK hN h hP hO a b⟩
end
end Go.Proofs.YtgnnhemoocfclaaDoor.Rea
namespace Go.Proofs.YtgnnhemoocfclaaDoor.Rea
open Go.Abs
open Go.Proofs.YtgnnhemoocfclaaDoor.Gh (Nd Ed nsum qbr GrOk qcG)
section
variable {ns : List Nd} {es : List Ed} {P : List (List Tr)}
def allA(ns:List Nd)(es:List Ed)(P:List (List Tr))(l:List Yt)(i:Nat):List (List Int):=l.flatMap fun s=>arrXs ((ns,es),P) s (i:Int)
theorem quS(h:GrOk ns es)(hP:ReachOk ns es P){l:List Yt}(hs:∀ s∈l,Sok ns s){i:Nat}(hi:i<ns.length){y:List Int}:y∈allA ns es P l i↔∃ a∈l,∃ r∈rw_ ns.length P a.1 i,AplOk r a.2/\y=apl r a.2:=by
 unfold allA
 rw [zBH]
 constructor
 ·rintro⟨a,ha,hy⟩
  have sa:=hs a ha
  exact⟨a,ha,(quR h hP sa.a0 sa.an (by omega) (by omega)).1 hy⟩
 ·rintro⟨a,ha,hy⟩
  have sa:=hs a ha
  exact⟨a,ha,(quR h hP sa.a0 sa.an (by omega) (by omega)).2 hy⟩
theorem qzo(h:GrOk ns es)(hP:ReachOk ns es P){a:Int×List Int}(sa:Sok ns a){i:Nat}(hi:i<ns.length):(arrXs ((ns,es),P) a (i:Int)).length<=22277520:=by
 unfold arrXs
 rw [zAQ,(qwC h hP sa.a0 sa.an (show (0:Int)<=i by omega) (show (i:Int)<ns.length by omega)).2]
 exact zy (zAZ _ _) (hP.len _)
theorem qvv(h:GrOk ns es)(hP:ReachOk ns es P){i:Nat}(hi:i<ns.length):∀ {l:List Yt},(∀ s∈l,Sok ns s)->(allA ns es P l i).length<=l.length*22277520
 | [],_=>by simp [allA]
 | a :: l,hs=>by
  have h1:=qvv h hP hi (l:=l) fun s hm=>hs s (by simp [hm])
  have h2:=qzo h hP (hs a (by simp)) hi
  have e:allA ns es P (a :: l) i=arrXs ((ns,es),P) a (i:Int)++allA ns es P l i:=rfl
  rw [e,zR,List.length_cons]
  omega
theorem qpp(h:GrOk ns es)(hP:ReachOk ns es P){l:List Yt}(hs:∀ s∈l,Sok ns s){i:Nat}(hi:i<ns.length){y:List Int}(hy:y∈allA ns es P l i):tok y=true/\(y.length:Int)=dp ns i:=by
 obtain⟨a,ha,r,hr,hk,rfl⟩:=(quS h hP hs hi).1 hy
 have sa:=hs a ha
 have fr:=(hP.sound _ _ sa.a0 sa.an (by omega) (by omega) r hr).fit h sa.a0 sa.an
 exact⟨qBK hk,by rw [qvu (qwq h fr sa.len (qyX h (by omega) (by omega)).2),fr.out]⟩
theorem qCi(h:GrOk ns es)(hP:ReachOk ns es P){l:List Yt}(hl:l.length<=64)(hs:∀ s∈l,Sok ns s){i:Nat}(hi:i<ns.length):TL (allA ns es P l i) where
 len:=by have:=qvv h hP hi hs;omega
 tok:=fun t ht=>(qpp h hP hs hi ht).1
 one:=fun t ht=>by
  have h1:=(qpp h hP hs hi ht).2
  have hpos:0<(allA ns es P l i).length:=zAp ht
  have h2:=(qpp h hP hs hi (qbK (z:=([]:List Int)) hpos)).2
  omega
theorem qwn{N:Nat}{C:List Yu×Int×List Int}(K:List Yu×Int×List Int->List (List Int)->Option qj):∀ (xs all:List (List Int)),(all.length+xs.length)*24<=140737488355328 ->
  forE (fun (c:List Yu×Int×List Int) (y:List Int) (s:List (List Int)) kn=>qcj N c.1 c.2.1 c.2.2 s kn y) K xs C all=K C (all++xs)
 | [],all,_=>by rw [List.append_nil];rfl
 | y :: xs,all,hl=>by
  have h1:=qwn (N:=N) (C:=C) K xs (all ++ [y]) (by simp only [zR,List.length_cons,List.length_nil] at hl ⊢;omega)
  simp only [forE] at h1 ⊢
  rw [qjv]
  generalize forD (fun (y:List Int) (s:List (List Int)) kn=>qcj N C.1 C.2.1 C.2.2 s (backE C kn) y) (K C) xs=G at h1 ⊢
  simp only [qcj]
  rw [qx (by simp only [List.length_cons,List.length_nil] at hl ⊢;omega),show Nat.ble 1 24=true from rfl,Bool.and_self,cond_true,qU]
  rw [h1,zT,List.singleton_append]
theorem qyI{l:List Yt}{i:Nat}(hi:i<l.length)(k:Nat):allA ns es P (l.take (i+1)) k=allA ns es P (l.take i) k++arrXs ((ns,es),P) (nth ((0:Int),([]:List Int)) l i) (k:Int):=by
 unfold allA
 rw [zm hi,List.flatMap_append,qcR hi]
 simp
theorem qxw{N:Nat}(hN:5000000000<=N)(h:GrOk ns es)(hP:ReachOk ns es P){l:List Yt}(hl:l.length<=64)(hs:∀ s∈l,Sok ns s) :
  ∃ f,qba N (((ns,es),P),l,())=some (f,())/\f.length=ns.length/\∀ i,i<ns.length->(∀ t,t∈nth [] f i↔isMin (allA ns es P l i) t)/\(nth [] f i).length<=2000000000:=by
 have hn:=h.n12
 have hch:∀ i:Nat,∃ f:List (List Int),i<ns.length->qcN N (allA ns es P l i,())=some f/\(∀ t,t∈f↔isMin (allA ns es P l i) t)/\f.length<=2000000000:=fun i=>by
  by_cases hi:i<ns.length
  ·have htl:=qCi h hP hl hs hi
   obtain⟨f,h1,-,h3,h4⟩:=qAB hN htl
   exact⟨f,fun _=>⟨h1,h3,zy h4 htl.len⟩⟩
  ·exact⟨[],fun hi'=>absurd hi' hi⟩
 obtain⟨F,hF⟩:=Classical.axiomOfChoice hch
 refine⟨(List.range ns.length).map F,?main,by simp,fun i hi=>?tail⟩
 case tail=>
  have e:nth [] ((List.range ns.length).map F) i=F i:=by rw [qcR (by simpa using hi)];simp
  rw [e]
  exact (hF i hi).2
 simp only [qba,qfw,joinD,loopE]
 rw [qx (show (0:Int)<=ns.length by omega),qx (zAS _),qx (by omega),Bool.and_self,Bool.and_self,cond_true]
 have hr:(List.replicate ((ns.length:Int)).toNat ([]:List (List Int))).length=ns.length:=by simp
 have e00:List.replicate ((ns.length:Int)).toNat ([]:List (List Int))=(List.range ns.length).map fun j=>if j<0 then F j else []:=by
  simp only [zAV,if_false,Int.toNat_natCast]
  rw [List.map_const',zAY]
 rw [hr,e00]
 refine qcA (N:=N) ns.length (fun i=>((i:Int),(List.range ns.length).map fun j=>if j<i then F j else [])) (fun i hi kn=>?_) (fun kn=>?_) (by omega)
 ·simp only [qdn,lt_d hi,cond_true,joinD,loopE]
  have hstep:loopD (fun (s:Int×List (List Int)) kn2=>qci N (fun s=>qdo N (fun s=>qdp N (backE (((ns,es),P),l,(ns.length:Int)) kn) s.1 s.2.1 s.2.2.1 s.2.2.2.1 s.2.2.2.2.1) s.1 s.2.1 s.2.2.1 s.2.2.2.1 s.2.2.2.2.1 s.2.2.2.2.2.1 s.2.2.2.2.2.2) ((ns,es),P) l (i:Int) (ns.length:Int) (i:Int) l (l.length:Int) ((List.range ns.length).map fun j=>if j<i then F j else []) s.1 s.2 (backE (((ns,es),P),l,(i:Int),(ns.length:Int),(i:Int),l,(l.length:Int),(List.range ns.length).map fun j=>if j<i then F j else []) kn2)) N ((0:Int),[])=kn (((i+1:Nat):Int),(List.range ns.length).map fun j=>if j<i+1 then F j else []):=by
   refine qcA (N:=N) l.length (fun j=>((j:Int),allA ns es P (l.take j) i)) (fun j hj kn2=>?_) (fun kn2=>?_) (by omega)
   ·have sa:=hs _ (qbK (z:=((0:Int),([]:List Int))) hj)
    have k1:=(qwC h hP sa.a0 sa.an (show (0:Int)<=i by omega) (show (i:Int)<ns.length by omega)).1
    have hlen:=qvv h hP hi (l:=l.take j) fun s hm=>hs s (zAN hm)
    have ha:=qzo h hP sa hi
    have hj2:(l.take j).length<=64:=by rw [zw];omega
    have ee:((nth ((0:Int),([]:List Int)) l j).1,(nth ((0:Int),([]:List Int)) l j).2)=nth ((0:Int),([]:List Int)) l j:=rfl
    simp only [qci,lt_d hj,ge0_d,Bool.and_self,cond_true,joinD,Int.toNat_natCast,qau,qdq,Option.bind_some,ee,k1]
    rw [qwn (N:=N) _ _ _ (by omega)]
    simp only [qfx,qU,ix1 hj (show l.length<=1000000000 by omega)]
    rw [qyI hj i]
    rfl
   ·simp only [qci,qbE,cond_false,qdo,zAP]
    rw [(hF i hi).1]
    have hsl:((List.range ns.length).map fun j=>if j<i then F j else []).length=ns.length:=by simp
    simp only [Option.bind_some,ge0_d,hsl,lt_d hi,Bool.and_self,cond_true,Int.toNat_natCast,qdp,qU]
    have hset:((List.range ns.length).map fun j=>if j<i then F j else []).set i (F i)=(List.range ns.length).map fun j=>if j<i+1 then F j else []:=by
     refine List.ext_getElem (by simp) fun k h1 h2=>?_
     rw [List.getElem_set]
     simp only [List.getElem_map,List.getElem_range]
     by_cases e:i=k
     ·subst e;rw [zH rfl,zH (by omega)]
     ·rw [zK e]
      by_cases e2:k<i
      ·rw [zH e2,zH (by omega)]
      ·rw [zK e2,zK (by omega)]
    rw [hset,ix1 hi (show ns.length<=1000000000 by omega)]
    rfl
  exact hstep
 ·simp only [qdn,qbE,cond_false,qfy]
  congr 2
  refine List.map_congr_left fun j hj=>?_
  rw [zH (zf.1 hj)]
theorem qxi{N:Nat}(hN:5000000000<=N)(h:GrOk ns es)(hP:ReachOk ns es P){l:List Yt}(hs:∀ s∈l,Sok ns s){s:Int×List Int}(ss:Sok ns s){g:List (List Int)}(hg:∀ t,t∈g↔isMin (allA ns es P l s.1.toNat) t)(hl:g.length<=2000000000) :
  ∃ b,qdv N (g,s.2,())=some (b,())/\(b=true↔∃ a∈l,could ns P a s):=by
 have hi:s.1.toNat<ns.length:=by have:=ss.a0;have:=ss.an;omega
 have e1:((s.1.toNat:Nat):Int)=s.1:=by have:=ss.a0;omega
 refine⟨_,qBN hN hl s.2,?_⟩
 rw [zAX]
 constructor
 ·rintro⟨u,hu,hle⟩
  have hm:=((hg u).1 hu).1
  obtain⟨a,ha,r,hr,hk,rfl⟩:=(quS h hP hs hi).1 hm
  rw [e1] at hr
  simp only [leqT,zA] at hle
  exact⟨a,ha,r,hr,hk,hle.2⟩
 ·rintro⟨a,ha,r,hr,hk,hu⟩
  have hy:apl r a.2∈allA ns es P l s.1.toNat:=(quS h hP hs hi).2 ⟨a,ha,r,by rw [e1];exact hr,hk,rfl⟩
  obtain⟨u,h1,h2⟩:=qvg (k:=(dp ns s.1).toNat) (fun t ht=>by have:=(qpp h hP hs hi ht).2;rw [e1] at this;omega) hg hy
  have hf:=qpp h hP hs hi ((hg u).1 h1).1
  rw [e1] at hf
  have hls:=ss.len
  refine⟨u,h1,?_⟩
  simp only [leqT,zA]
  exact⟨qzw.2 ⟨by omega,hf.1,ss.tk⟩,qhK h2 hu⟩
end
end Go.Proofs.YtgnnhemoocfclaaDoor.Rea
namespace Go.Proofs.YtgnnhemoocfclaaDoor
open Go.Abs
abbrev qdF:List Kd:=[.dat SX]
abbrev qdB:List Kd:=[.dat (.int .i64)]
abbrev qbR:Type:=Dens qdB
def qnJ(_N:Nat):Ctx:={ T:=[(3,⟨.int .i64,1,8,some (.int .i64),[.int .i64 (0:Int)],false,[]⟩),(38,⟨.slice 3,1,24,some SX,[.nil],false,[]⟩)],G:=findE [],I:=findI [],N:=_N,n:=26,fx:=[],fl:=0,gs:=Gs }
def qfK(_N:Nat):Option qbR:=
 (some ((0:Int),()))
def qei(_N:Nat)(_k4:Unit->Option qbR)(_v1:List Int)(_v2:Int)(_v3:Int)(_kn5:(List Int×Int)×Int->Option qbR):Option qbR:=
 (bif (decide (_v3<_v2)) then (bif (decide (0<=_v3)&&decide (_v3<(_v1.length:Int))) then (bif (decide ((nth (0:Int) _v1 (_v3).toNat)<(0:Int))) then (some ((2:Int),())) else (bif (decide ((nth (0:Int) _v1 (_v3).toNat)>(1048576:Int))) then (some ((2:Int),())) else (_kn5 ((_v1,_v2),(IntKind.i64.wrap (_v3+(1:Int))))))) else none) else (_k4 ()))
def qiM(_N:Nat)(_x1:List Int):Option qbR:=
 (bif (decide ((_x1.length:Int)<(1:Int))) then (some ((1:Int),())) else (bif (decide ((_x1.length:Int)>(4:Int))) then (some ((1:Int),())) else (joinD (fun (_s:Unit)=>qfK _N) fun _k4=>(loopE (fun (_c:List Int×Int) (_s:Int) _kn=>qei _N _k4 _c.1 _c.2 _s _kn) _N (_x1,(_x1.length:Int)) (0:Int)))))
def qbI(_N:Nat)(_x:Dens qdF):Option qbR:=qiM _N _x.1
theorem qmm(_N:Nat):SpecD Tryd.prog Gs 41 qdF qdB (qbI _N):=mkSpD (fn:=Tryd.f41) (c:=qw Tryd.f41) (C:=qnJ _N)
  (a:=.two .none (.two .none (.join 0 ⟨[],[]⟩ (.two .none (.one (.loop 0 ⟨[(13,.sl (.int .i64)),(14,.int .i64),(15,.int .i64)],[]⟩ [2] .none))) .none)))
  (by kernel_rfl) rfl (by kernel_rfl) (by kernel_rfl) ⟨rfl,by unfold TOk;kernel_rfl,qar rfl rfl (zC _),qaq rfl rfl (zC _),rfl⟩ (fun _x=>by kernel_rfl)
theorem qmE(_N:Nat):EntOk Tryd.prog Gs (mkP 41 qdF qdB (qbI _N)):=entP ⟨Tryd.f41,qw Tryd.f41,by kernel_rfl,by kernel_rfl,rfl⟩ (by kernel_rfl) (qmm _N)
abbrev qdG:List Kd:=[.dat (.pair (.sl SQ) (.sl SV)),.dat (.int .i64),.dat SX]
abbrev qdC:List Kd:=[.dat (.int .i64)]
abbrev qim:Type:=Dens qdC
def qnK(_N:Nat):Ctx:={ T:=[(3,⟨.int .i64,1,8,some (.int .i64),[.int .i64 (0:Int)],false,[]⟩),(22,⟨.slice 37,1,24,some (.sl SQ),[.nil],false,[]⟩),(25,⟨.struct [(0,22),(1,23)],2,48,some (.pair (.sl SQ) (.sl SV)),[.nil,.nil],false,[]⟩),(37,⟨.struct [(0,3),(1,3),(2,35)],5,40,some SQ,[.int .i64 (0:Int),.int .i64 (0:Int),.int .i64 (0:Int),.int .i64 (0:Int),.int .i64 (0:Int)],true,[]⟩),(38,⟨.slice 3,1,24,some SX,[.nil],false,[]⟩)],G:=findE [mkP 41 qdF qdB (qbI _N)],I:=findI [],N:=_N,n:=30,fx:=[],fl:=0,gs:=Gs }
def qiN(_N:Nat)(_x1:List Yr×List Yv)(_x2:Int)(_x3:List Int):Option qim:=
 (bif (decide (_x2<(0:Int))) then (some ((2:Int),())) else (bif (decide (_x2>=(_x1.1.length:Int))) then (some ((2:Int),())) else ((qbI _N (_x3,())).bind fun _y3=>(bif (_y3.1 != (0:Int)) then ((qbI _N (_x3,())).bind fun _y4=>(some (_y4.1,()))) else (bif (decide (0<=_x2)&&decide (_x2<(_x1.1.length:Int))) then (bif ((_x3.length:Int) != (((nth ((0:Int),((0:Int),((0:Int),((0:Int),(0:Int))))) _x1.1 (_x2).toNat).2).1)) then (some ((7:Int),())) else (some ((0:Int),()))) else none)))))
def qcf(_N:Nat)(_x:Dens qdG):Option qim:=qiN _N _x.1 _x.2.1 _x.2.2.1
theorem qmn(_N:Nat):SpecD Tryd.prog Gs 22 qdG qdC (qcf _N):=mkSpD (fn:=Tryd.f22) (c:=qw Tryd.f22) (C:=qnK _N)
  (a:=.none)
  (by kernel_rfl) rfl (by kernel_rfl) (by kernel_rfl) ⟨rfl,by unfold TOk;kernel_rfl,qar rfl rfl (zF.2 ⟨qmE _N,(zC _)⟩),qaq rfl rfl (zC _),rfl⟩ (fun _x=>by kernel_rfl)
theorem qmF(_N:Nat):EntOk Tryd.prog Gs (mkP 22 qdG qdC (qcf _N)):=entP ⟨Tryd.f22,qw Tryd.f22,by kernel_rfl,by kernel_rfl,rfl⟩ (by kernel_rfl) (qmn _N)
namespace Rea
open Go.Proofs.YtgnnhemoocfclaaDoor.Gh (Nd Ed nsum qbr GrOk qcG)
theorem qzz{N:Nat}(hN:200000000<=N)(t:List Int):∃ e,qbI N (t,())=some (e,())/\(e=0↔tok t=true):=by
 simp only [qbI,qiM]
 by_cases h0:t.length<1
 ·refine⟨1,by rw [qx (by omega),cond_true],by simp [Rea.tok];omega⟩
 rw [qJ (by omega),cond_false]
 by_cases h4:4<t.length
 ·refine⟨1,by rw [qx (by omega),cond_true],by simp [Rea.tok];omega⟩
 rw [qJ (by omega),cond_false]
 simp only [joinD,loopE]
 have hbody:∀ i,i<t.length->∀ kn,qei N (fun _=>qfK N) t (t.length:Int) (i:Int) (backE (t,(t.length:Int)) kn)=if 0<=nth 0 t i/\nth 0 t i<=1048576 then kn ((i:Int)+1) else some (2,()):=fun i hi kn=>by
  simp only [qei,lt_d hi,ge0_d,Bool.and_self,cond_true,Int.toNat_natCast,qU,ix1 hi (by omega)]
  by_cases q1:nth 0 t i<0
  ·rw [qx q1,cond_true,zK (by omega)]
  ·rw [qJ q1,cond_false]
   by_cases q2:nth 0 t i>1048576
   ·rw [qx q2,cond_true,zK (by omega)]
   ·rw [qJ q2,cond_false,zH (by omega)]
 have htok:tok t=true↔∀ i,i<t.length->0<=nth 0 t i/\nth 0 t i<=1048576:=by
  refine⟨fun h i _=>qrc h i,fun h=>?_⟩
  simp only [Rea.tok,zA,zb,zM]
  refine⟨⟨by omega,by omega⟩,fun x hx=>?_⟩
  obtain⟨i,hi,rfl⟩:=mem_nth (z:=(0:Int)) hx
  exact h i hi
 by_cases hg:∀ i,i<t.length->0<=nth 0 t i/\nth 0 t i<=1048576
 ·refine⟨0,qeZ (n:=t.length) (by omega) (fun i hi kn=>by rw [hbody i hi,zH (hg i hi)]) (fun kn=>by simp only [qei,qbE,cond_false,qfK]) (by omega),by rw [htok];exact⟨fun _=>hg,fun _=>rfl⟩⟩
 ·refine⟨2,qjs (n:=t.length) (by omega) (fun i=>¬ (0<=nth 0 t i/\nth 0 t i<=1048576)) (fun i hi hb kn=>by rw [hbody i hi,zK hb]) (fun i hi hb kn=>by rw [hbody i hi,zH (zBu.1 hb)]) (by omega) ?_,by rw [htok];exact⟨fun h=>absurd h (by decide),fun h=>absurd h hg⟩⟩
  exact Classical.byContradiction fun hn=>hg fun i hi=>Classical.byContradiction fun hb=>hn ⟨i,hi,hb⟩
theorem qzy{N:Nat}(hN:200000000<=N)(ns:List Nd)(es:List Ed)(a:Int)(t:List Int):∃ e,qcf N ((ns,es),a,t,())=some (e,())/\(e=0↔Sok ns (a,t)):=by
 simp only [qcf,qiN]
 by_cases h0:a<0
 ·exact⟨2,by rw [qx h0,cond_true],⟨fun e=>(by cases e),fun h=>(by have:=h.a0;dsimp only at this;omega)⟩⟩
 by_cases hn:a>=ns.length
 ·exact⟨2,by rw [qJ h0,qx hn,cond_true,cond_false],⟨fun e=>(by cases e),fun h=>(by have:=h.an;dsimp only at this;omega)⟩⟩
 rw [qJ h0,qJ hn,cond_false,cond_false]
 obtain⟨c,hc,hc0⟩:=qzz hN t
 simp only [hc,Option.bind_some]
 by_cases h1:c=0
 case neg=>exact⟨c,by rw [bne_iff_ne.2 h1,cond_true],⟨fun e=>absurd e h1,fun h=>absurd (hc0.2 h.tk) h1⟩⟩
 subst h1
 rw [bne_self_eq_false,cond_false,qx (show 0<=a by omega),qx (show a<(ns.length:Int) by omega),Bool.and_self,cond_true]
 by_cases h2:(t.length:Int)=dp ns a
 ·refine⟨0,?_,fun _=>⟨by dsimp only;omega,by dsimp only;omega,hc0.1 rfl,h2⟩,fun _=>rfl⟩
  rw [show ((t.length:Int) != ((nth ((0:Int),((0:Int),((0:Int),((0:Int),(0:Int))))) ns a.toNat).2).1)=false from bne_eq_false_iff_eq.2 h2,cond_false]
 ·refine⟨7,?_,⟨fun e=>(by cases e),fun h=>absurd h.len h2⟩⟩
  rw [show ((t.length:Int) != ((nth ((0:Int),((0:Int),((0:Int),((0:Int),(0:Int))))) ns a.toNat).2).1)=true from bne_iff_ne.2 h2,cond_true]
end Rea
end Go.Proofs.YtgnnhemoocfclaaDoor
end
