import Derived.Test.YtgnnhemoocfclaaGreatDoorTrk
import Derived.Test.YtgnnhemoocfclaaGreatDoorFrame
noncomputable section
namespace Go.Proofs.YtgnnhemoocfclaaGreatDoor
open Go Go.ChangeShapes Go.WideShapes Go.ChangeAt Go.WideMaps Go.WideElems Go.RowKit Go.Abs
abbrev Sah:Sh:=.sl (.int .i64)
abbrev Sag:Sh:=.sl (.sl (.int .i64))
abbrev Saf:Sh:=.pair (.int .i64) (.pair (.sl (.int .i64)) (.int .i64))
abbrev Sae:Sh:=.pair (.int .i64) (.sl (.int .i64))
abbrev Sad:Sh:=.pair (.int .i64) (.pair (.int .i64) (.int .i64))
abbrev YG:Type:=List (List Int)
abbrev YF:Type:=List (Int×Int×List Int)
abbrev YE:Type:=Int×List Int×Int
abbrev YD:Type:=Int×List Int
abbrev YC:Type:=Int×Int×Int
abbrev YB:Type:=Int×Int×Int×Int×Int
abbrev qhn:List Kd:=[.dat Sae,.dat Sae]
abbrev qhl:List Kd:=[.dat (.bool)]
abbrev qof:Type:=Dens qhl
def qxk(_N:Nat):Ctx:={ T:=[(3,⟨.int .i64,1,8,some (.int .i64),[.int .i64 (0:Int)],false,[]⟩),(27,⟨.slice 3,1,24,some Sah,[.nil],false,[]⟩),(29,⟨.struct [(0,3),(1,27)],2,32,some Sae,[.int .i64 (0:Int),.nil],false,[]⟩),(101,⟨.struct [(0,3),(1,3),(2,99)],6,48,some (.pair (.int .i64) (.pair (.int .i64) (.pair (.int .i64) Sad))),[.int .i64 (0:Int),.int .i64 (0:Int),.int .i64 (0:Int),.int .i64 (0:Int),.int .i64 (0:Int),.int .i64 (0:Int)],true,[]⟩)],G:=findE [mkP 68 qeO qeK (qcH _N)],I:=findI [],N:=_N,n:=16,fx:=[],fl:=0,gs:=Gs }
def qpb(_N:Nat)(_x1:Int×List Int)(_x2:Int×List Int):Option qof:=
 ((qcH _N (_x1.1,_x1.2,())).bind fun _y3=>((qcH _N (_x2.1,_x2.2,())).bind fun _y4=>(some ((eqD (.pair (.int .i64) (.pair (.int .i64) (.pair (.int .i64) Sad))) (_y3.1.1,(_y3.1.2.1,(_y3.1.2.2.1,(_y3.1.2.2.2.1,(_y3.1.2.2.2.2.1,_y3.1.2.2.2.2.2))))) (_y4.1.1,(_y4.1.2.1,(_y4.1.2.2.1,(_y4.1.2.2.2.1,(_y4.1.2.2.2.2.1,_y4.1.2.2.2.2.2)))))),()))))
def qgR(_N:Nat)(_x:Dens qhn):Option qof:=qpb _N _x.1 _x.2.1
theorem qtS(_N:Nat):SpecD Tryz.prog Gs 52 qhn qhl (qgR _N):=mkSpD (fn:=Tryz.f52) (c:=qh Tryz.f52) (C:=qxk _N)
  (a:=.two .none (.two (.draw 0 [.pure,.rd [0],.pure,.rd [0],.pure,.pure,.rd [1],.pure,.rd [1],.pure,.pure,.pure]) .none))
  (by kernel_rfl) rfl (by kernel_rfl) (by kernel_rfl) ⟨rfl,by unfold TOk;kernel_rfl,qak rfl rfl (zD.2 ⟨qmk _N,(zC _)⟩),qaj rfl rfl (zC _),rfl⟩ (fun _x=>by kernel_rfl)
theorem quT(_N:Nat):EntOk Tryz.prog Gs (mkP 52 qhn qhl (qgR _N)):=entP ⟨Tryz.f52,qh Tryz.f52,by kernel_rfl,by kernel_rfl,rfl⟩ (by kernel_rfl) (qtS _N)
abbrev qha:Sig:=⟨[.form (.ptr 0 0),.dat false Sae,.dat false Sae],[.cells [.sl (.pair (.int .i64) (.pair (.int .i64) Sad)),.sl Sad,.sl (.sl (.pair (.int .i64) Sae))]],
 [.dat false .bool],[.cells [.sl (.pair (.int .i64) (.pair (.int .i64) Sad)),.sl Sad,.sl (.sl (.pair (.int .i64) Sae))]],[]⟩
abbrev qkv:Type:=Bool×(List YB)×(List YC)×(List YF)
def qsa(_N:Nat):Ctx:={ T:=[(29,⟨.struct [(0,3),(1,27)],2,32,some Sae,[.int .i64 (0:Int),.nil],false,[]⟩)],G:=findE [mkP 19 qdr qdp (qbX _N),mkP 52 qhn qhl (qgR _N)],I:=findI [],N:=_N,n:=17,fx:=[],fl:=1,gs:=Gs }
def qkK(_N:Nat)(_x1:Int×List Int)(_x2:Int×List Int)(_x3:List YB)(_x4:List YC)(_x5:List YF):Option qkv:=
 ((qbX _N (((_x3,_x4),_x5),(_x1.1,_x1.2),(_x2.1,_x2.2),())).bind fun _y3=>(bif _y3.1 then ((qgR _N ((_x1.1,_x1.2),(_x2.1,_x2.2),())).bind fun _y4=>(some ((!_y4.1),_x3,_x4,_x5))) else (some (false,_x3,_x4,_x5))))
def qdd(_N:Nat)(_x:YD×YD×(List YB)×(List YC)×(List YF)):Option qkv:=qkK _N _x.1 _x.2.1 _x.2.2.1 _x.2.2.2.1 _x.2.2.2.2
theorem qpG(_N:Nat):SpecH Tryz.prog Gs 30 qha (qdd _N):=mkSpH (fn:=Tryz.f30) (c:=qh Tryz.f30) (C:=(qsa _N))
  (a:=.none)
  (by kernel_rfl) rfl (by kernel_rfl) (by kernel_rfl) (by kernel_rfl) rfl ⟨rfl,by unfold TOk;kernel_rfl,qak rfl rfl (zD.2 ⟨qmX _N,(zD.2 ⟨quT _N,(zC _)⟩)⟩),qaj rfl rfl (zC _),rfl⟩ (fun _x=>by kernel_rfl)
theorem qpT(_N:Nat):EntOk Tryz.prog Gs (mkHe 30 qha (qdd _N)):=entH ⟨Tryz.f30,qh Tryz.f30,by kernel_rfl,by kernel_rfl,rfl⟩ (qpG _N)
abbrev qgl:Sig:=⟨[.dat false Sae,.form (.ptr 0 0),.form (.ptr 1 0)],[.cells [.ptr 2 0],.cells [.int .i64,.sl (.int .i64)],.cells [.sl (.pair (.int .i64) (.pair (.int .i64) Sad)),.sl Sad,.sl (.sl (.pair (.int .i64) Sae))]],
 [.dat false .bool],[.cells [.ptr 2 0],.cells [.int .i64,.sl (.int .i64)],.cells [.sl (.pair (.int .i64) (.pair (.int .i64) Sad)),.sl Sad,.sl (.sl (.pair (.int .i64) Sae))]],[]⟩
abbrev qjF:Type:=Bool×Int×List Int×(List YB)×(List YC)×(List YF)
def qpY(_N:Nat):Ctx:={ T:=[(29,⟨.struct [(0,3),(1,27)],2,32,some Sae,[.int .i64 (0:Int),.nil],false,[]⟩),(52,⟨.ptr,1,8,none,[.nl .ptr],false,[]⟩)],G:=findE [mkHe 30 qha (qdd _N)],I:=findI [],N:=_N,n:=10,fx:=[],fl:=3,gs:=Gs }
def qkm(_N:Nat)(_x1:Int×List Int)(_x2:Int)(_x3:List Int)(_x4:List YB)(_x5:List YC)(_x6:List YF):Option qjF:=
 ((qdd _N ((_x2,_x3),(_x1.1,_x1.2),_x4,_x5,_x6)).bind fun _y2=>(some ((!_y2.1),_x2,_x3,_y2.2.1,_y2.2.2.1,_y2.2.2.2)))
def qdz(_N:Nat)(_x:YD×Int×List Int×(List YB)×(List YC)×(List YF)):Option qjF:=qkm _N _x.1 _x.2.1 _x.2.2.1 _x.2.2.2.1 _x.2.2.2.2.1 _x.2.2.2.2.2
theorem qon(_N:Nat):SpecH Tryz.prog Gs 29 qgl (qdz _N):=mkSpH (fn:=Tryz.f29) (c:=qh Tryz.f29) (C:=(qpY _N))
  (a:=.none)
  (by kernel_rfl) rfl (by kernel_rfl) (by kernel_rfl) (by kernel_rfl) rfl ⟨rfl,by unfold TOk;kernel_rfl,qak rfl rfl (zD.2 ⟨qpT _N,(zC _)⟩),qaj rfl rfl (zC _),rfl⟩ (fun _x=>by kernel_rfl)
theorem qoL(_N:Nat):EntOk Tryz.prog Gs (mkHe 29 qgl (qdz _N)):=entH ⟨Tryz.f29,qh Tryz.f29,by kernel_rfl,by kernel_rfl,rfl⟩ (qon _N)
abbrev qaG:Sig:=⟨[.dat false (.sl Sae),.form (.clo 29 [.ptr 0 0,.ptr 1 0])],[.cells [.ptr 2 0],.cells [.int .i64,.sl (.int .i64)],.cells [.sl (.pair (.int .i64) (.pair (.int .i64) Sad)),.sl Sad,.sl (.sl (.pair (.int .i64) Sae))]],
 [.dat false (.int .i64)],[.cells [.ptr 2 0],.cells [.int .i64,.sl (.int .i64)],.cells [.sl (.pair (.int .i64) (.pair (.int .i64) Sad)),.sl Sad,.sl (.sl (.pair (.int .i64) Sae))]],[]⟩
abbrev qE:Type:=Int×Int×List Int×(List YB)×(List YC)×(List YF)
def qdO(_N:Nat):Ctx:={ T:=[(29,⟨.struct [(0,3),(1,27)],2,32,some Sae,[.int .i64 (0:Int),.nil],false,[]⟩),(47,⟨.slice 29,1,24,some (.sl Sae),[.nil],false,[]⟩)],G:=findE [mkHe 29 qgl (qdz _N)],I:=findI [],N:=_N,n:=19,fx:=[],fl:=3,gs:=Gs }
def qbH(_N:Nat)(_v11:Int)(_v12:List Int)(_v13:List YB)(_v14:List YC)(_v15:List YF):Option qE:=
 (some ((-1:Int),_v11,_v12,_v13,_v14,_v15))
def qaM(_N:Nat)(_k16:(Int×List Int×(List YB)×(List YC)×(List YF))->Option qE)(_v1:List YD)(_v2:Int)(_v3:Int)(_v4:Int)(_v5:List Int)(_v6:List YB)(_v7:List YC)(_v8:List YF)(_kn17:((List YD)×Int)×(Int×Int×List Int×(List YB)×(List YC)×(List YF))->Option qE):Option qE:=
 (bif (decide (_v3<_v2)) then (bif (decide (0<=_v3)&&decide (_v3<(_v1.length:Int))) then ((qdz _N (((nth ((0:Int),[]) _v1 (_v3).toNat).1,(nth ((0:Int),[]) _v1 (_v3).toNat).2),_v4,_v5,_v6,_v7,_v8)).bind fun _y18=>(bif _y18.1 then (some (_v3,_y18.2.1,_y18.2.2.1,_y18.2.2.2.1,_y18.2.2.2.2.1,_y18.2.2.2.2.2)) else (_kn17 ((_v1,_v2),((IntKind.i64.wrap (_v3+(1:Int))),_y18.2.1,_y18.2.2.1,_y18.2.2.2.1,_y18.2.2.2.2.1,_y18.2.2.2.2.2))))) else none) else (_k16 (_v4,_v5,_v6,_v7,_v8)))
def qbG(_N:Nat)(_x1:List YD)(_x2:Int)(_x3:List Int)(_x4:List YB)(_x5:List YC)(_x6:List YF):Option qE:=
 (joinD (fun (_s:Int×List Int×(List YB)×(List YC)×(List YF))=>qbH _N _s.1 _s.2.1 _s.2.2.1 _s.2.2.2.1 _s.2.2.2.2) fun _k16=>(loopE (fun (_c:(List YD)×Int) (_s:Int×Int×List Int×(List YB)×(List YC)×(List YF)) _kn=>qaM _N _k16 _c.1 _c.2 _s.1 _s.2.1 _s.2.2.1 _s.2.2.2.1 _s.2.2.2.2.1 _s.2.2.2.2.2 _kn) _N (_x1,(_x1.length:Int)) ((0:Int),_x2,_x3,_x4,_x5,_x6)))
def qJ(_N:Nat)(_x:(List YD)×Int×List Int×(List YB)×(List YC)×(List YF)):Option qE:=qbG _N _x.1 _x.2.1 _x.2.2.1 _x.2.2.2.1 _x.2.2.2.2.1 _x.2.2.2.2.2
theorem qdw(_N:Nat):SpecH Tryz.prog Gs 51 qaG (qJ _N):=mkSpH (fn:=Tryz.f51) (c:=qh Tryz.f51) (C:=(qdO _N))
  (a:=.two .none (.join 3 ⟨[],[.cells [.ptr 2 0],.cells [.int .i64,.sl (.int .i64)],.cells [.sl (.pair (.int .i64) (.pair (.int .i64) Sad)),.sl Sad,.sl (.sl (.pair (.int .i64) Sae))]]⟩ (.two .none (.one (.loop 3 ⟨[(0,.sl Sae),(1,.clo 29 [.ptr 0 0,.ptr 1 0]),(7,.int .i64),(8,.int .i64)],[.cells [.ptr 2 0],.cells [.int .i64,.sl (.int .i64)],.cells [.sl (.pair (.int .i64) (.pair (.int .i64) Sad)),.sl Sad,.sl (.sl (.pair (.int .i64) Sae))]]⟩ [2,3,4,5,6,7] .none))) .none))
  (by kernel_rfl) rfl (by kernel_rfl) (by kernel_rfl) (by kernel_rfl) rfl ⟨rfl,by unfold TOk;kernel_rfl,qak rfl rfl (zD.2 ⟨qoL _N,(zC _)⟩),qaj rfl rfl (zC _),rfl⟩ (fun _x=>by kernel_rfl)
theorem qdy(_N:Nat):EntOk Tryz.prog Gs (mkHe 51 qaG (qJ _N)):=entH ⟨Tryz.f51,qh Tryz.f51,by kernel_rfl,by kernel_rfl,rfl⟩ (qdw _N)
abbrev qaz:Sig:=⟨[.dat false (.sl Sae),.form (.clo 29 [.ptr 0 0,.ptr 1 0])],[.cells [.ptr 2 0],.cells [.int .i64,.sl (.int .i64)],.cells [.sl (.pair (.int .i64) (.pair (.int .i64) Sad)),.sl Sad,.sl (.sl (.pair (.int .i64) Sae))]],
 [.dat false .bool],[.cells [.ptr 2 0],.cells [.int .i64,.sl (.int .i64)],.cells [.sl (.pair (.int .i64) (.pair (.int .i64) Sad)),.sl Sad,.sl (.sl (.pair (.int .i64) Sae))]],[]⟩
abbrev qbq:Type:=Bool×Int×List Int×(List YB)×(List YC)×(List YF)
def qdj(_N:Nat):Ctx:={ T:=[],G:=findE [mkHe 51 qaG (qJ _N)],I:=findI [],N:=_N,n:=9,fx:=[],fl:=3,gs:=Gs }
def qbt(_N:Nat)(_x1:List YD)(_x2:Int)(_x3:List Int)(_x4:List YB)(_x5:List YC)(_x6:List YF):Option qbq:=
 ((qJ _N (_x1,_x2,_x3,_x4,_x5,_x6)).bind fun _y2=>(some ((decide (_y2.1>=(0:Int))),_y2.2.1,_y2.2.2.1,_y2.2.2.2.1,_y2.2.2.2.2.1,_y2.2.2.2.2.2)))
def qV(_N:Nat)(_x:(List YD)×Int×List Int×(List YB)×(List YC)×(List YF)):Option qbq:=qbt _N _x.1 _x.2.1 _x.2.2.1 _x.2.2.2.1 _x.2.2.2.2.1 _x.2.2.2.2.2
theorem qcW(_N:Nat):SpecH Tryz.prog Gs 28 qaz (qV _N):=mkSpH (fn:=Tryz.f28) (c:=qh Tryz.f28) (C:=(qdj _N))
  (a:=.none)
  (by kernel_rfl) rfl (by kernel_rfl) (by kernel_rfl) (by kernel_rfl) rfl ⟨rfl,by unfold TOk;kernel_rfl,qak rfl rfl (zD.2 ⟨qdy _N,(zC _)⟩),qaj rfl rfl (zC _),rfl⟩ (fun _x=>by kernel_rfl)
theorem qcZ(_N:Nat):EntOk Tryz.prog Gs (mkHe 28 qaz (qV _N)):=entH ⟨Tryz.f28,qh Tryz.f28,by kernel_rfl,by kernel_rfl,rfl⟩ (qcW _N)
abbrev qiO:List Kd:=[.dat (.pair (.sl (.pair (.int .i64) (.pair (.int .i64) Sad))) (.sl Sad)),.dat Sae,.dat (.sl Sae)]
abbrev qiJ:List Kd:=[.dat (.bool),.dat (.int .i64)]
abbrev qbR:Type:=Dens qiJ
def qyo(_N:Nat):Ctx:={ T:=[(25,⟨.struct [(0,22),(1,23)],2,48,some (.pair (.sl (.pair (.int .i64) (.pair (.int .i64) Sad))) (.sl Sad)),[.nil,.nil],false,[]⟩),(29,⟨.struct [(0,3),(1,27)],2,32,some Sae,[.int .i64 (0:Int),.nil],false,[]⟩),(31,⟨.int .i64,1,8,some (.int .i64),[.int .i64 (0:Int)],false,[]⟩),(39,⟨.struct [(0,31),(1,3)],2,16,some (.pair (.int .i64) (.int .i64)),[.int .i64 (0:Int),.int .i64 (0:Int)],true,[]⟩),(47,⟨.slice 29,1,24,some (.sl Sae),[.nil],false,[]⟩),(52,⟨.ptr,1,8,none,[.nl .ptr],false,[]⟩)],G:=findE [mkHe 14 qfH (qbr _N),mkP 18 qeQ qeM (qcd _N),mkHe 28 qaz (qV _N)],I:=findI [],N:=_N,n:=46,fx:=[],fl:=0,gs:=Gs }
def qxq(_N:Nat):Option qbR:=
 none
def qxp(_N:Nat)(_k42:((List YD)×(List YB)×(List YC)×Int×List Int×Int×Int×(List YD))->Option qbR)(_v4:List YD)(_v5:Int)(_v7:List YB)(_v8:List YC)(_v9:Int)(_v10:List Int)(_v11:Int)(_v12:Int)(_v13:List YD)(_v6:Int)(_kn43:((List YD)×Int×(List YB)×(List YC)×Int×List Int×Int×Int×(List YD))×Int->Option qbR):Option qbR:=
 (bif (decide (_v6<_v5)) then (bif (decide (0<=_v6)&&decide (_v6<(_v13.length:Int))) then ((qcd _N ((_v7,_v8),((nth ((0:Int),[]) _v13 ((_v6).toNat)).1,(nth ((0:Int),[]) _v13 ((_v6).toNat)).2),())).bind fun _y44=>(bif (_y44.1 != (0:Int)) then (some (false,_y44.1,())) else (_kn43 ((_v4,_v5,_v7,_v8,_v9,_v10,_v11,_v12,_v13),(IntKind.i64.wrap (_v6+(1:Int))))))) else none) else (_k42 (_v4,_v7,_v8,_v9,_v10,_v11,_v12,_v13)))
def qqo(_N:Nat)(_v16:List YD)(_v19:Int)(_v20:List Int)(_v32:List YB)(_v33:List YC)(_v34:List YF):Option qbR:=
 ((qV _N (_v16,_v19,_v20,_v32,_v33,_v34)).bind fun _y45=>(some ((!_y45.1),(0:Int),())))
def qmA(_N:Nat)(_k46:((List YD)×(List YB)×(List YC)×Int×List Int×(List YB)×(List YC)×(List YF)×Int×Int×(List YD))->Option qbR)(_v4:List YD)(_v5:Int)(_v7:List YB)(_v8:List YC)(_v9:Int)(_v10:List Int)(_v24:List YB)(_v25:List YC)(_v26:List YF)(_v27:Int)(_v28:Int)(_v29:List YD)(_v6:Int)(_kn47:((List YD)×Int×(List YB)×(List YC)×Int×List Int×(List YB)×(List YC)×(List YF)×Int×Int×(List YD))×Int->Option qbR):Option qbR:=
 (bif (decide (_v6<_v5)) then (bif (decide (0<=_v6)&&decide (_v6<(_v29.length:Int))) then ((qcd _N ((_v7,_v8),((nth ((0:Int),[]) _v29 ((_v6).toNat)).1,(nth ((0:Int),[]) _v29 ((_v6).toNat)).2),())).bind fun _y48=>(bif (_y48.1 != (0:Int)) then (some (false,_y48.1,())) else (_kn47 ((_v4,_v5,_v7,_v8,_v9,_v10,_v24,_v25,_v26,_v27,_v28,_v29),(IntKind.i64.wrap (_v6+(1:Int))))))) else none) else (_k46 (_v4,_v7,_v8,_v9,_v10,_v24,_v25,_v26,_v27,_v28,_v29)))
def qqn(_N:Nat)(_x1:List YB×List YC)(_x2:Int×List Int)(_x3:List YD):Option qbR:=
 ((qbr _N (_x1.1,_x1.2)).bind fun _y39=>(caseD _y39 (fun _y40=>(bif (_y40.1 != (0:Int)) then (some (false,_y40.1,())) else (bif (decide ((_x3.length:Int)>(64:Int))) then (some (false,(1:Int),())) else (joinD (fun (_s:(List YD)×(List YB)×(List YC)×Int×List Int×Int×Int×(List YD))=>qxq _N) fun _k42=>(bif (decide ((([(_x2.1,_x2.2)]).length+_x3.length)*32<=140737488355328)&&Nat.ble 1 32) then (loopE (fun (_c:(List YD)×Int×(List YB)×(List YC)×Int×List Int×Int×Int×(List YD)) (_s:Int) _kn=>qxp _N _k42 _c.1 _c.2.1 _c.2.2.1 _c.2.2.2.1 _c.2.2.2.2.1 _c.2.2.2.2.2.1 _c.2.2.2.2.2.2.1 _c.2.2.2.2.2.2.2.1 _c.2.2.2.2.2.2.2.2 _s _kn) _N (_x3,(([(_x2.1,_x2.2)]++_x3).length:Int),_x1.1,_x1.2,_x2.1,_x2.2,_y40.1,_y40.2,([(_x2.1,_x2.2)]++_x3)) (0:Int)) else none))))) fun _y41=>(bif (_y41.1.1 != (0:Int)) then (some (false,_y41.1.1,())) else (bif (decide ((_x3.length:Int)>(64:Int))) then (some (false,(1:Int),())) else (joinD (fun (_s:(List YD)×(List YB)×(List YC)×Int×List Int×(List YB)×(List YC)×(List YF)×Int×Int×(List YD))=>qqo _N _s.1 _s.2.2.2.1 _s.2.2.2.2.1 _s.2.2.2.2.2.1 _s.2.2.2.2.2.2.1 _s.2.2.2.2.2.2.2.1) fun _k46=>(bif (decide ((([(_x2.1,_x2.2)]).length+_x3.length)*32<=140737488355328)&&Nat.ble 1 32) then (loopE (fun (_c:(List YD)×Int×(List YB)×(List YC)×Int×List Int×(List YB)×(List YC)×(List YF)×Int×Int×(List YD)) (_s:Int) _kn=>qmA _N _k46 _c.1 _c.2.1 _c.2.2.1 _c.2.2.2.1 _c.2.2.2.2.1 _c.2.2.2.2.2.1 _c.2.2.2.2.2.2.1 _c.2.2.2.2.2.2.2.1 _c.2.2.2.2.2.2.2.2.1 _c.2.2.2.2.2.2.2.2.2.1 _c.2.2.2.2.2.2.2.2.2.2.1 _c.2.2.2.2.2.2.2.2.2.2.2 _s _kn) _N (_x3,(([(_x2.1,_x2.2)]++_x3).length:Int),_x1.1,_x1.2,_x2.1,_x2.2,_y41.2.1,_y41.2.2.1,_y41.2.2.2,_y41.1.1,_y41.1.2,([(_x2.1,_x2.2)]++_x3)) (0:Int)) else none))))))
def qfk(_N:Nat)(_x:Dens qiO):Option qbR:=qqn _N _x.1 _x.2.1 _x.2.2.1
theorem qvC(_N:Nat):SpecD Tryz.prog Gs 11 qiO qiJ (qfk _N):=mkSpD (fn:=Tryz.f11) (c:=qh Tryz.f11) (C:=qyo _N)
  (a:=.two .none (.two .none (.sel 16 999999999 (.two (.two .none (.two (.two (.draw 0 [.pure,.rd [8],.pure,.pure]) .none) .none)) (.two .none (.join 10 ⟨[(2,.sl Sae),(4,.ptr 1 0),(8,.ptr 7 0)],[.cells [.sl (.pair (.int .i64) (.pair (.int .i64) Sad)),.sl Sad],.cells [.int .i64,.sl (.int .i64)],.none,.none,.none,.none,.cells [.sl (.pair (.int .i64) (.pair (.int .i64) Sad)),.sl Sad,.sl (.sl (.pair (.int .i64) Sae))],.cells [.ptr 6 0],.cells [.int .i64,.int .i64],.row false 1 29 Sae]⟩ (.two .none (.one (.loop 10 ⟨[(2,.sl Sae),(3,.ptr 0 0),(4,.ptr 1 0),(8,.ptr 7 0),(29,.slc 9 1),(30,.int .i64),(31,.int .i64)],[.cells [.sl (.pair (.int .i64) (.pair (.int .i64) Sad)),.sl Sad],.cells [.int .i64,.sl (.int .i64)],.none,.none,.none,.none,.cells [.sl (.pair (.int .i64) (.pair (.int .i64) Sad)),.sl Sad,.sl (.sl (.pair (.int .i64) Sae))],.cells [.ptr 6 0],.cells [.int .i64,.int .i64],.row false 1 29 Sae]⟩ [2] .none))) .none))) (.two (.two .none (.two (.two (.draw 0 [.pure,.rd [3],.pure,.pure]) .none) .none)) (.two .none (.join 5 ⟨[(2,.sl Sae),(4,.ptr 1 0),(8,.ptr 2 0)],[.cells [.sl (.pair (.int .i64) (.pair (.int .i64) Sad)),.sl Sad],.cells [.int .i64,.sl (.int .i64)],.cells [.nl .ptr],.cells [.int .i64,.int .i64],.row false 1 29 Sae]⟩ (.two .none (.one (.loop 5 ⟨[(2,.sl Sae),(3,.ptr 0 0),(4,.ptr 1 0),(8,.ptr 2 0),(29,.slc 4 1),(30,.int .i64),(31,.int .i64)],[.cells [.sl (.pair (.int .i64) (.pair (.int .i64) Sad)),.sl Sad],.cells [.int .i64,.sl (.int .i64)],.cells [.nl .ptr],.cells [.int .i64,.int .i64],.row false 1 29 Sae]⟩ [2] .none))) .none))))))
  (by kernel_rfl) rfl (by kernel_rfl) (by kernel_rfl) ⟨rfl,by unfold TOk;kernel_rfl,qak rfl rfl (zD.2 ⟨qkg _N,(zD.2 ⟨qmm _N,(zD.2 ⟨qcZ _N,(zC _)⟩)⟩)⟩),qaj rfl rfl (zC _),rfl⟩ (fun _x=>by kernel_rfl)
theorem qwK(_N:Nat):EntOk Tryz.prog Gs (mkP 11 qiO qiJ (qfk _N)):=entP ⟨Tryz.f11,qh Tryz.f11,by kernel_rfl,by kernel_rfl,rfl⟩ (by kernel_rfl) (qvC _N)
abbrev qeo:List Kd:=[.dat (.sl Sag),.dat (.sl Sag)]
abbrev qel:List Kd:=[.dat (.bool)]
abbrev qaA:Type:=Dens qel
def qqb(_N:Nat):Ctx:={ T:=[(27,⟨.slice 3,1,24,some Sah,[.nil],false,[]⟩),(30,⟨.slice 45,1,24,some (.sl Sag),[.nil],false,[]⟩),(45,⟨.slice 27,1,24,some Sag,[.nil],false,[]⟩)],G:=findE [mkP 10 qho qhm (qdk _N)],I:=findI [],N:=_N,n:=36,fx:=[],fl:=0,gs:=Gs }
def qks(_N:Nat):Option qaA:=
 (some (true,()))
def qkr(_N:Nat)(_kn18:(List YG×List YG)×Int->Option qaA)(_v12:List YG)(_v13:List YG)(_v14:Int):Option qaA:=
 (_kn18 ((_v12,_v13),(IntKind.i64.wrap (_v14+(1:Int)))))
def qgV(_N:Nat)(_k19:(List YG×List YG×Int)->Option qaA)(_v4:List YG)(_v5:List YG)(_v6:Int)(_v7:List (List Int))(_v8:Int)(_v9:Int)(_kn20:(List YG×List YG×Int×List (List Int)×Int)×Int->Option qaA):Option qaA:=
 (bif (decide (_v9<_v8)) then (bif (decide (0<=_v9)&&decide (_v9<(_v7.length:Int))) then (bif (decide (0<=_v6)&&decide (_v6<(_v4.length:Int))) then ((qdk _N ((nth ([]) _v4 (_v6).toNat),(nth ([]) _v7 (_v9).toNat),())).bind fun _y21=>(bif (!_y21.1) then (some (false,())) else (_kn20 ((_v4,_v5,_v6,_v7,_v8),(IntKind.i64.wrap (_v9+(1:Int))))))) else none) else none) else (_k19 (_v4,_v5,_v6)))
def qgU(_N:Nat)(_k17:Unit->Option qaA)(_v1:List YG)(_v2:List YG)(_v3:Int)(_kn18:(List YG×List YG)×Int->Option qaA):Option qaA:=
 (bif (decide (_v3<(_v2.length:Int))) then (joinD (fun (_s:List YG×List YG×Int)=>qkr _N _kn18 _s.1 _s.2.1 _s.2.2) fun _k19=>(bif (decide (0<=_v3)&&decide (_v3<(_v2.length:Int))) then (loopE (fun (_c:List YG×List YG×Int×List (List Int)×Int) (_s:Int) _kn=>qgV _N _k19 _c.1 _c.2.1 _c.2.2.1 _c.2.2.2.1 _c.2.2.2.2 _s _kn) _N (_v1,_v2,_v3,(nth ([]) _v2 (_v3).toNat),((nth ([]) _v2 (_v3).toNat).length:Int)) (0:Int)) else none)) else (_k17 ()))
def qkq(_N:Nat)(_x1:List YG)(_x2:List YG):Option qaA:=
 (bif ((_x1.length:Int) != (_x2.length:Int)) then (some (false,())) else (joinD (fun (_s:Unit)=>qks _N) fun _k17=>(loopE (fun (_c:List YG×List YG) (_s:Int) _kn=>qgU _N _k17 _c.1 _c.2 _s _kn) _N (_x1,_x2) (0:Int))))
def qcB(_N:Nat)(_x:Dens qeo):Option qaA:=qkq _N _x.1 _x.2.1
theorem qoq(_N:Nat):SpecD Tryz.prog Gs 13 qeo qel (qcB _N):=mkSpD (fn:=Tryz.f13) (c:=qh Tryz.f13) (C:=qqb _N)
  (a:=.two .none (.two .none (.join 0 ⟨[],[]⟩ (.two .none (.one (.loop 0 ⟨[(0,.sl Sag),(1,.sl Sag),(5,.int .i64)],[]⟩ [2] (.two .none (.join 0 ⟨[(0,.sl Sag),(1,.sl Sag),(5,.int .i64)],[]⟩ (.one (.two .none (.one (.loop 0 ⟨[(0,.sl Sag),(1,.sl Sag),(5,.int .i64),(22,.sl Sah),(23,.int .i64),(24,.int .i64)],[]⟩ [5] .none)))) .none))))) .none)))
  (by kernel_rfl) rfl (by kernel_rfl) (by kernel_rfl) ⟨rfl,by unfold TOk;kernel_rfl,qak rfl rfl (zD.2 ⟨quU _N,(zC _)⟩),qaj rfl rfl (zC _),rfl⟩ (fun _x=>by kernel_rfl)
theorem qoM(_N:Nat):EntOk Tryz.prog Gs (mkP 13 qeo qel (qcB _N)):=entP ⟨Tryz.f13,qh Tryz.f13,by kernel_rfl,by kernel_rfl,rfl⟩ (by kernel_rfl) (qoq _N)
abbrev qiQ:List Kd:=[.dat (.pair (.sl (.pair (.int .i64) (.pair (.int .i64) Sad))) (.sl Sad)),.dat (.sl Saf),.dat Sae,.dat (.sl Sae)]
abbrev qiL:List Kd:=[.dat (.bool)]
abbrev qI:Type:=Dens qiL
def qoZ(_N:Nat):Ctx:={ T:=[(2,⟨.int .i64,1,8,some (.int .i64),[.int .i64 (0:Int)],false,[]⟩),(3,⟨.int .i64,1,8,some (.int .i64),[.int .i64 (0:Int)],false,[]⟩),(25,⟨.struct [(0,22),(1,23)],2,48,some (.pair (.sl (.pair (.int .i64) (.pair (.int .i64) Sad))) (.sl Sad)),[.nil,.nil],false,[]⟩),(26,⟨.slice 43,1,24,some (.sl Saf),[.nil],false,[]⟩),(27,⟨.slice 3,1,24,some Sah,[.nil],false,[]⟩),(29,⟨.struct [(0,3),(1,27)],2,32,some Sae,[.int .i64 (0:Int),.nil],false,[]⟩),(30,⟨.slice 45,1,24,some (.sl Sag),[.nil],false,[]⟩),(43,⟨.struct [(0,3),(1,27),(2,2)],3,40,some Saf,[.int .i64 (0:Int),.nil,.int .i64 (0:Int)],false,[]⟩),(47,⟨.slice 29,1,24,some (.sl Sae),[.nil],false,[]⟩)],G:=findE [mkQ 6 qfN qfJ (qcO _N),mkQ 5 qdc qdb (qbv _N),mkP 11 qiO qiJ (qfk _N),mkD 5 qdc qdb (qbv _N),mkP 13 qeo qel (qcB _N),mkP 12 qfa qeW (qdf _N)],I:=findI [],N:=_N,n:=160,fx:=[2],fl:=0,gs:=Gs }
def qjv(_N:Nat)(_v76:List YG)(_v77:Bool)(_v78:List YB)(_v79:List YC)(_v82:List YE):Option qI:=
 ((qbv _N ((_v78,_v79),_v82,())).bind fun _y89=>(bif (_y89.2.1 != (0:Int)) then (some (false,())) else (bif ((_y89.1.length:Int) != (_v76.length:Int)) then (some (false,())) else (bif (!_v77) then (some (true,())) else ((qcB _N (_v76,_y89.1,())).bind fun _y90=>(some (_y90.1,())))))))
def qgg(_N:Nat)(_k91:(List YG×Bool×(List YB)×(List YC)×Int×List Int×(List YE))->Option qI)(_v66:List YG)(_v67:Bool)(_v68:List YD)(_v69:Int)(_v71:List YB)(_v72:List YC)(_v73:Int)(_v74:List Int)(_v70:Int)(_v75:List YE)(_kn92:(List YG×Bool×(List YD)×Int×(List YB)×(List YC)×Int×List Int)×(Int×(List YE))->Option qI):Option qI:=
 (bif (decide (_v70<_v69)) then (bif (decide (0<=_v70)&&decide (_v70<(_v68.length:Int))) then (bif (decide ((_v75.length+([((nth ((0:Int),[]) _v68 (_v70).toNat).1,((nth ((0:Int),[]) _v68 (_v70).toNat).2,(1:Int)))]:List YE).length)*40<=140737488355328)&&Nat.ble 1 40) then (_kn92 ((_v66,_v67,_v68,_v69,_v71,_v72,_v73,_v74),((IntKind.i64.wrap (_v70+(1:Int))),(_v75++([((nth ((0:Int),[]) _v68 (_v70).toNat).1,((nth ((0:Int),[]) _v68 (_v70).toNat).2,(1:Int)))]:List YE))))) else none) else none) else (_k91 (_v66,_v67,_v71,_v72,_v73,_v74,_v75)))
def qju(_N:Nat)(_v58:List YD)(_v59:List YG)(_v60:Bool)(_v61:List YB)(_v62:List YC)(_v63:Int)(_v64:List Int)(_v65:List YE):Option qI:=
 (joinD (fun (_s:List YG×Bool×(List YB)×(List YC)×Int×List Int×(List YE))=>qjv _N _s.1 _s.2.1 _s.2.2.1 _s.2.2.2.1 _s.2.2.2.2.2.2) fun _k91=>(loopE (fun (_c:List YG×Bool×(List YD)×Int×(List YB)×(List YC)×Int×List Int) (_s:Int×(List YE)) _kn=>qgg _N _k91 _c.1 _c.2.1 _c.2.2.1 _c.2.2.2.1 _c.2.2.2.2.1 _c.2.2.2.2.2.1 _c.2.2.2.2.2.2.1 _c.2.2.2.2.2.2.2 _s.1 _s.2 _kn) _N (_v59,_v60,_v58,(_v58.length:Int),_v61,_v62,_v63,_v64) ((0:Int),_v65)))
def qgf(_N:Nat)(_k93:((List YD)×List YG×Bool×(List YB)×(List YC)×Int×List Int×(List YE))->Option qI)(_v47:List YD)(_v48:List YG)(_v49:Bool)(_v50:List YE)(_v51:Int)(_v53:List YB)(_v54:List YC)(_v55:Int)(_v56:List Int)(_v52:Int)(_v57:List YE)(_kn94:((List YD)×List YG×Bool×(List YE)×Int×(List YB)×(List YC)×Int×List Int)×(Int×(List YE))->Option qI):Option qI:=
 (bif (decide (_v52<_v51)) then (bif (decide (0<=_v52)&&decide (_v52<(_v50.length:Int))) then (bif (decide ((_v57.length+([((nth ((0:Int),([],(0:Int))) _v50 (_v52).toNat).1,(((nth ((0:Int),([],(0:Int))) _v50 (_v52).toNat).2).1,((nth ((0:Int),([],(0:Int))) _v50 (_v52).toNat).2).2))]:List YE).length)*40<=140737488355328)&&Nat.ble 1 40) then (_kn94 ((_v47,_v48,_v49,_v50,_v51,_v53,_v54,_v55,_v56),((IntKind.i64.wrap (_v52+(1:Int))),(_v57++([((nth ((0:Int),([],(0:Int))) _v50 (_v52).toNat).1,(((nth ((0:Int),([],(0:Int))) _v50 (_v52).toNat).2).1,((nth ((0:Int),([],(0:Int))) _v50 (_v52).toNat).2).2))]:List YE))))) else none) else none) else (_k93 (_v47,_v48,_v49,_v53,_v54,_v55,_v56,_v57)))
def qjt(_N:Nat)(_v39:List YE)(_v40:List YD)(_v41:List YG)(_v42:Bool)(_v43:List YB)(_v44:List YC)(_v45:Int)(_v46:List Int):Option qI:=
 (joinD (fun (_s:(List YD)×List YG×Bool×(List YB)×(List YC)×Int×List Int×(List YE))=>qju _N _s.1 _s.2.1 _s.2.2.1 _s.2.2.2.1 _s.2.2.2.2.1 _s.2.2.2.2.2.1 _s.2.2.2.2.2.2.1 _s.2.2.2.2.2.2.2) fun _k93=>(loopE (fun (_c:(List YD)×List YG×Bool×(List YE)×Int×(List YB)×(List YC)×Int×List Int) (_s:Int×(List YE)) _kn=>qgf _N _k93 _c.1 _c.2.1 _c.2.2.1 _c.2.2.2.1 _c.2.2.2.2.1 _c.2.2.2.2.2.1 _c.2.2.2.2.2.2.1 _c.2.2.2.2.2.2.2.1 _c.2.2.2.2.2.2.2.2 _s.1 _s.2 _kn) _N (_v40,_v41,_v42,_v39,(_v39.length:Int),_v43,_v44,_v45,_v46) ((0:Int),[(_v45,(_v46,(-1:Int)))])))
def qgd(_N:Nat)(_k95:((List YE)×(List YD)×List YG×Bool×(List YB)×(List YC)×Int×List Int)->Option qI)(_v26:List YE)(_v27:List YD)(_v28:List YG)(_v30:List YE)(_v31:Int)(_v33:List YB)(_v34:List YC)(_v35:Int)(_v36:List Int)(_v29:Bool)(_v32:Int)(_kn96:((List YE)×(List YD)×List YG×(List YE)×Int×(List YB)×(List YC)×Int×List Int)×(Bool×Int)->Option qI):Option qI:=
 (bif (decide (_v32<_v31)) then (bif (decide (0<=_v32)&&decide (_v32<(_v30.length:Int))) then (bif _v29 then (_kn96 ((_v26,_v27,_v28,_v30,_v31,_v33,_v34,_v35,_v36),(true,(IntKind.i64.wrap (_v32+(1:Int)))))) else (bif (((nth ((0:Int),([],(0:Int))) _v30 (_v32).toNat).1)==_v35) then ((qdf _N (((nth ((0:Int),([],(0:Int))) _v30 (_v32).toNat).2).1,_v36,())).bind fun _y97=>(bif _y97.1 then (_kn96 ((_v26,_v27,_v28,_v30,_v31,_v33,_v34,_v35,_v36),((decide ((((nth ((0:Int),([],(0:Int))) _v30 (_v32).toNat).2).2)>(0:Int))),(IntKind.i64.wrap (_v32+(1:Int)))))) else (_kn96 ((_v26,_v27,_v28,_v30,_v31,_v33,_v34,_v35,_v36),(false,(IntKind.i64.wrap (_v32+(1:Int)))))))) else (_kn96 ((_v26,_v27,_v28,_v30,_v31,_v33,_v34,_v35,_v36),(false,(IntKind.i64.wrap (_v32+(1:Int)))))))) else none) else (_k95 (_v26,_v27,_v28,_v29,_v33,_v34,_v35,_v36)))
def qjs(_N:Nat)(_v17:List YE)(_v18:List YD)(_v19:List YE)(_v20:List YG)(_v21:Bool)(_v22:List YB)(_v23:List YC)(_v24:Int)(_v25:List Int):Option qI:=
 (bif _v21 then (some (true,())) else (joinD (fun (_s:(List YE)×(List YD)×List YG×Bool×(List YB)×(List YC)×Int×List Int)=>qjt _N _s.1 _s.2.1 _s.2.2.1 _s.2.2.2.1 _s.2.2.2.2.1 _s.2.2.2.2.2.1 _s.2.2.2.2.2.2.1 _s.2.2.2.2.2.2.2) fun _k95=>(loopE (fun (_c:(List YE)×(List YD)×List YG×(List YE)×Int×(List YB)×(List YC)×Int×List Int) (_s:Bool×Int) _kn=>qgd _N _k95 _c.1 _c.2.1 _c.2.2.1 _c.2.2.2.1 _c.2.2.2.2.1 _c.2.2.2.2.2.1 _c.2.2.2.2.2.2.1 _c.2.2.2.2.2.2.2.1 _c.2.2.2.2.2.2.2.2 _s.1 _s.2 _kn) _N (_v17,_v18,_v20,_v19,(_v19.length:Int),_v22,_v23,_v24,_v25) (false,(0:Int)))))
def qgc(_N:Nat)(_v5:List YE)(_v6:List YD)(_v7:List YE)(_v8:Int)(_v9:List YG)(_v10:Int)(_v11:Bool)(_v12:Int)(_v13:List YB)(_v14:List YC)(_v15:Int)(_v16:List Int):Option qI:=
 (joinD (fun (_s:(List YE)×(List YD)×(List YE)×List YG×Bool×(List YB)×(List YC)×Int×List Int)=>qjs _N _s.1 _s.2.1 _s.2.2.1 _s.2.2.2.1 _s.2.2.2.2.1 _s.2.2.2.2.2.1 _s.2.2.2.2.2.2.1 _s.2.2.2.2.2.2.2.1 _s.2.2.2.2.2.2.2.2) fun _k98=>(bif (_v8 != (0:Int)) then (_k98 (_v5,_v6,_v7,_v9,true,_v13,_v14,_v15,_v16)) else (bif (_v10 != (0:Int)) then (_k98 (_v5,_v6,_v7,_v9,true,_v13,_v14,_v15,_v16)) else (bif (_v12 != (0:Int)) then (_k98 (_v5,_v6,_v7,_v9,true,_v13,_v14,_v15,_v16)) else (bif (!_v11) then (_k98 (_v5,_v6,_v7,_v9,true,_v13,_v14,_v15,_v16)) else (_k98 (_v5,_v6,_v7,_v9,(decide ((IntKind.i64.wrap ((_v5.length:Int)+(_v6.length:Int)))>=(64:Int))),_v13,_v14,_v15,_v16)))))))
def qjr(_N:Nat)(_x1:List YB×List YC)(_x2:List YE)(_x3:Int×List Int)(_x4:List YD):Option qI:=
 ((qcO _N ((_x1.1,_x1.2),_x2,())).bind fun _y85=>((qbv _N ((_x1.1,_x1.2),_x2,())).bind fun _y86=>((qfk _N ((_x1.1,_x1.2),(_x3.1,_x3.2),_x4,())).bind fun _y87=>((qfk _N ((_x1.1,_x1.2),(_x3.1,_x3.2),[],())).bind fun _y88=>(joinD (fun (_s:(List YE)×(List YD)×(List YE)×Int×List YG×Int×Bool×Int×(List YB)×(List YC)×Int×List Int)=>qgc _N _s.1 _s.2.1 _s.2.2.1 _s.2.2.2.1 _s.2.2.2.2.1 _s.2.2.2.2.2.1 _s.2.2.2.2.2.2.1 _s.2.2.2.2.2.2.2.1 _s.2.2.2.2.2.2.2.2.1 _s.2.2.2.2.2.2.2.2.2.1 _s.2.2.2.2.2.2.2.2.2.2.1 _s.2.2.2.2.2.2.2.2.2.2.2) fun _k99=>(bif (_y88.2.1==(0:Int)) then (bif (!_y88.1) then (some (false,())) else (_k99 (_x2,_x4,_y85.1,_y85.2.1,_y86.1,_y86.2.1,_y87.1,_y87.2.1,_x1.1,_x1.2,_x3.1,_x3.2))) else (_k99 (_x2,_x4,_y85.1,_y85.2.1,_y86.1,_y86.2.1,_y87.1,_y87.2.1,_x1.1,_x1.2,_x3.1,_x3.2))))))))
def qgn(_N:Nat)(_x:Dens qiQ):Option qI:=qjr _N _x.1 _x.2.1 _x.2.2.1 _x.2.2.2.1
theorem qns(_N:Nat):SpecD Tryz.prog Gs 4 qiQ qiL (qgn _N):=mkSpD (fn:=Tryz.f4) (c:=qh Tryz.f4) (C:=qoZ _N)
  (a:=.two .none (.two .none (.two .none (.two .none (.two .none (.join 2 ⟨[(1,.sl Saf),(3,.sl Sae),(4,.ptr 0 0),(6,.ptr 1 0),(9,.sl Saf),(10,.int .i64),(11,.sl Sag),(12,.int .i64),(13,.bool),(14,.int .i64)],[.cells [.sl (.pair (.int .i64) (.pair (.int .i64) Sad)),.sl Sad],.cells [.int .i64,.sl (.int .i64)]]⟩ .none (.two (.join 2 ⟨[(1,.sl Saf),(3,.sl Sae),(4,.ptr 0 0),(6,.ptr 1 0),(9,.sl Saf),(11,.sl Sag),(78,.bool)],[.cells [.sl (.pair (.int .i64) (.pair (.int .i64) Sad)),.sl Sad],.cells [.int .i64,.sl (.int .i64)]]⟩ .none .none) (.two .none (.join 2 ⟨[(1,.sl Saf),(3,.sl Sae),(4,.ptr 0 0),(6,.ptr 1 0),(11,.sl Sag),(17,.bool)],[.cells [.sl (.pair (.int .i64) (.pair (.int .i64) Sad)),.sl Sad],.cells [.int .i64,.sl (.int .i64)]]⟩ (.two .none (.one (.loop 2 ⟨[(1,.sl Saf),(3,.sl Sae),(4,.ptr 0 0),(6,.ptr 1 0),(11,.sl Sag),(17,.bool),(79,.sl Saf),(80,.int .i64),(81,.int .i64)],[.cells [.sl (.pair (.int .i64) (.pair (.int .i64) Sad)),.sl Sad],.cells [.int .i64,.sl (.int .i64)]]⟩ [3,6] .none))) (.two .none (.join 3 ⟨[(3,.sl Sae),(4,.ptr 0 0),(11,.sl Sag),(17,.bool),(20,.slc 2 0)],[.cells [.sl (.pair (.int .i64) (.pair (.int .i64) Sad)),.sl Sad],.cells [.int .i64,.sl (.int .i64)],.row false 0 43 Saf]⟩ (.two .none (.one (.loop 3 ⟨[(3,.sl Sae),(4,.ptr 0 0),(11,.sl Sag),(17,.bool),(20,.slc 2 0),(112,.sl Saf),(113,.int .i64),(114,.int .i64)],[.cells [.sl (.pair (.int .i64) (.pair (.int .i64) Sad)),.sl Sad],.cells [.int .i64,.sl (.int .i64)],.row false 0 43 Saf]⟩ [5,10] .none))) (.join 3 ⟨[(4,.ptr 0 0),(11,.sl Sag),(17,.bool),(20,.slc 2 0)],[.cells [.sl (.pair (.int .i64) (.pair (.int .i64) Sad)),.sl Sad],.cells [.int .i64,.sl (.int .i64)],.row false 0 43 Saf]⟩ (.two .none (.one (.loop 3 ⟨[(4,.ptr 0 0),(11,.sl Sag),(17,.bool),(20,.slc 2 0),(123,.sl Sae),(124,.int .i64),(125,.int .i64)],[.cells [.sl (.pair (.int .i64) (.pair (.int .i64) Sad)),.sl Sad],.cells [.int .i64,.sl (.int .i64)],.row false 0 43 Saf]⟩ [4,9] .none))) .none))))))))))))
  (by kernel_rfl) rfl (by kernel_rfl) (by kernel_rfl) ⟨rfl,by unfold TOk;kernel_rfl,qak rfl rfl (zD.2 ⟨qpO _N,(zD.2 ⟨qpP _N,(zD.2 ⟨qwK _N,(zD.2 ⟨qrG _N,(zD.2 ⟨qoM _N,(zD.2 ⟨qpW _N,(zC _)⟩)⟩)⟩)⟩)⟩)⟩),qaj rfl rfl (zC _),rfl⟩ (fun _x=>by kernel_rfl)
open Rea
open Gh (Nd Ed qby GrOk nsum)
abbrev z0:Mk:=((0:Int),([]:List Int),(0:Int))
abbrev z2:Int×List Int:=((0:Int),([]:List Int))
theorem qDK{N:Nat}(hN:200000000<=N){a:List Int}(ha:a.length<=100000000)(b:List Int):∃ c,qdf N (a,b,())=some (c,())/\(c=true↔a=b):=by
 simp only [qdf,qkX]
 by_cases hl:a.length=b.length
 case neg=>
  refine⟨false,by rw [show ((a.length:Int) != (b.length:Int))=true from bne_iff_ne.2 (by omega),cond_true],⟨fun h=>(by cases h),fun h=>absurd (congrArg List.length h) hl⟩⟩
 rw [show ((a.length:Int) != (b.length:Int))=false by rw [hl];exact bne_self_eq_false _,cond_false]
 simp only [joinD,loopE]
 have hbody:∀ i,i<a.length->∀ kn,qfA N (fun _=>qhJ N) a b (i:Int) (backE (a,b) kn)=if nth 0 a i≠nth 0 b i then some (false,()) else kn ((i:Int)+1):=fun i hi kn=>by
  simp only [qfA,lt_d hi,ge0_d,lt_d (show i<b.length by omega),Bool.and_self,cond_true,Int.toNat_natCast,qK,ix1 hi (by omega)]
  by_cases q:nth 0 a i=nth 0 b i
  ·rw [q,bne_self_eq_false,cond_false,zJ (fun h=>h rfl)]
  ·rw [bne_iff_ne.2 q,cond_true,zH q]
 by_cases he:a=b
 ·refine⟨true,qei (n:=a.length) (by omega) (fun i hi kn=>by rw [hbody i hi,zJ (by rw [he];exact fun h=>h rfl)]) (fun kn=>by simp only [qfA,qbb,cond_false,qhJ]) (by omega),by simp [he]⟩
 ·refine⟨false,qlg (n:=a.length) (by omega) (fun i=>nth 0 a i≠nth 0 b i) (fun i hi hb kn=>by rw [hbody i hi,zH hb]) (fun i hi hb kn=>by rw [hbody i hi,zJ hb]) (by omega) ?_,by simp [he]⟩
  exact Classical.byContradiction fun hn=>he (Go.Smy.nth_ext hl fun i hi=>Classical.byContradiction fun hne=>hn ⟨i,hi,hne⟩)
theorem qDN{N:Nat}(hN:200000000<=N){ns:List Nd}{es:List Ed}(h:GrOk ns es){P:List (List Tr)}(hP:ReachOk ns es P){a b:Int×List Int}(sa:Sok ns a)(sb:Sok ns b):∃ c,qdd N (a,b,ns,es,P)=some (c,ns,es,P)/\(c=true->could ns P a b):=by
 obtain⟨c,h1,h2⟩:=qCI hN h hP sa sb
 have ea:(a.1,a.2)=a:=rfl
 have eb:(b.1,b.2)=b:=rfl
 simp only [qdd,qkK,ea,eb,h1,Option.bind_some,qgR,qpb]
 cases c with
 | false=>exact⟨false,rfl,fun h=>(by cases h)⟩
 | true=>
  simp only [cond_true,quG N a.1 a.2,quG N b.1 b.2,Option.bind_some]
  exact⟨_,rfl,fun _=>h2.1 rfl⟩
theorem qDO{N:Nat}(hN:200000000<=N){ns:List Nd}{es:List Ed}(h:GrOk ns es){P:List (List Tr)}(hP:ReachOk ns es P){tk:Int×List Int}{gv:List YD}(st:Sok ns tk)(sg:∀ s∈gv,Sok ns s)(hl:gv.length<=64) :
  ∃ i:Int,qJ N (gv,tk.1,tk.2,ns,es,P)=some (i,tk.1,tk.2,ns,es,P)/\(i<0->∀ s∈gv,could ns P tk s)/\(gv = []->i<0):=by
 simp only [qJ,qbG,joinD,loopE]
 obtain⟨Post,hPost⟩:∃ Post:Option qE->Prop,∀ o,Post o↔∃ i:Int,o=some (i,tk.1,tk.2,ns,es,P)/\(i<0->∀ s∈gv,could ns P tk s)/\(gv = []->i<0):=⟨_,fun _=>Iff.rfl⟩
 generalize hO2:loopD _ N ((0:Int),tk.1,tk.2,ns,es,P)=o
 refine (hPost o).1 ?_
 rw [<- hO2]
 refine qlK (fun s:Int×Int×List Int×List Nd×List Ed×List (List Tr)=>∃ i:Nat,s=((i:Int),tk.1,tk.2,ns,es,P)/\i<=gv.length/\∀ x∈gv.take i,could ns P tk x) (fun s=>gv.length - s.1.toNat) Post ?_ N _ ⟨0,rfl,zw _,fun s hs=>(nomatch hs)⟩ (by simp;omega)
 rintro _ ⟨i,rfl,hi,hp⟩ kn hkn
 by_cases hlt:i<gv.length
 ·have hmi:=qbJ (z:=z2) hlt
  obtain⟨c,c1,c2⟩:=qDN hN h hP st (sg _ hmi)
  have ee:((nth z2 gv i).1,(nth z2 gv i).2)=nth z2 gv i:=rfl
  have et:(tk.1,tk.2)=tk:=rfl
  simp only [qaM,lt_d hlt,ge0_d,Bool.and_self,cond_true,Int.toNat_natCast,qdz,qkm,ee,et,c1,Option.bind_some]
  cases c with
  | false=>
   simp only [Bool.not_false,cond_true]
   exact (hPost _).2 ⟨i,rfl,fun h=>absurd h (by omega),fun e=>by rw [e] at hlt;cases hlt⟩
  | true=>
   simp only [Bool.not_true,cond_false,qK,ix1 hlt (show gv.length<=1000000000 by omega)]
   refine hkn _ ⟨i+1,by simp,hlt,fun x hx=>?_⟩ (by simp;omega)
   rw [zW hlt,<- qcv (z:=z2) hlt] at hx
   rcases zL.1 hx with hx | hx
   ·exact hp x hx
   ·rw [zM.1 hx];exact c2 rfl
 ·obtain rfl:i=gv.length:=by omega
  rw [zAB] at hp
  simp only [qaM,qbb,cond_false,qbH]
  exact (hPost _).2 ⟨-1,rfl,fun _=>hp,fun _=>by decide⟩
theorem qEn{N:Nat}(hN:500000000<=N)(ns:List Nd)(es:List Ed)(tk:Int×List Int)(gv:List YD):∃ b e,qfk N ((ns,es),tk,gv,())=some (b,e,()) /\
  (e=0->(gv = []->b=true)/\gv.length<=64/\Sok ns tk/\(∀ s∈gv,Sok ns s)/\∀ P,qbr N (ns,es)=some (Sum.inr (((0:Int),(0:Int)),ns,es,P))->b=true->∀ s∈gv,could ns P tk s):=by
 simp only [qfk,qqn]
 rcases Of_eq (N:=N) (by omega) ns es with⟨c,p,h1,h2,h3⟩ | ⟨h,P,hP,hO⟩
 ·refine⟨false,c,?_,fun e=>absurd e h1⟩
  simp only [h2,Option.bind_some,caseD]
  rw [bne_iff_ne.2 h1,cond_true]
 simp only [hO,Option.bind_some,caseD,bne_self_eq_false,cond_false]
 by_cases hl:(gv.length:Int)>64
 ·exact⟨false,1,by rw [qy hl,cond_true],fun e=>(by cases e)⟩
 rw [qO hl,cond_false]
 simp only [joinD]
 rw [qy (show (([(tk.1,tk.2)]:List YD).length+gv.length)*32<=140737488355328 by simp only [zg];omega),show Nat.ble 1 32=true from rfl,Bool.and_self,cond_true]
 have e0:([(tk.1,tk.2)]:List YD)++gv=tk :: gv:=rfl
 simp only [e0,loopE]
 obtain⟨Post,hPost⟩:∃ Post:Option qbR->Prop,∀ o,Post o↔∃ b e,o=some (b,e,())/\(e=0->(gv = []->b=true)/\(∀ s∈tk :: gv,Sok ns s)/\(b=true->∀ s∈gv,could ns P tk s)):=⟨_,fun _=>Iff.rfl⟩
 generalize hO2:loopD _ N (0:Int)=o
 have key:Post o:=by
  rw [<- hO2]
  refine qlK (fun st:Int=>∃ i:Nat,st=(i:Int)/\i<=(tk :: gv).length/\∀ s∈(tk :: gv).take i,Sok ns s) (fun st=>(tk :: gv).length - st.toNat) Post ?_ N _ ⟨0,rfl,zw _,fun s hs=>(nomatch hs)⟩ (by simp;omega)
  rintro _ ⟨i,rfl,hi,hp⟩ kn hkn
  by_cases hlt:i<(tk :: gv).length
  ·obtain⟨e,h1,h2⟩:=qtI (ns:=ns) (es:=es) (N:=N) (by omega) ((nth z2 (tk :: gv) i).1,(nth z2 (tk :: gv) i).2)
   simp only [qmA,lt_d hlt,ge0_d,Bool.and_self,cond_true,Int.toNat_natCast,h1,Option.bind_some]
   by_cases q:e=0
   case neg=>exact (hPost _).2 ⟨false,e,by rw [bne_iff_ne.2 q,cond_true],fun h=>absurd h q⟩
   have hst:=h2.1 q
   rw [q,bne_self_eq_false,cond_false,qK,ix1 hlt (by rw [List.length_cons];omega)]
   refine hkn _ ⟨i+1,by simp,hlt,fun s hs=>?_⟩ (by have h9:=hlt;simp only [List.length_cons] at h9;simp;omega)
   rw [zW hlt,<- qcv (z:=z2) hlt] at hs
   rcases zL.1 hs with hs | hs
   ·exact hp s hs
   ·rw [zM.1 hs];exact hst
  ·obtain rfl:i=(tk :: gv).length:=by omega
   rw [zAB] at hp
   obtain⟨j,j1,j2,j3⟩:=qDO (N:=N) (by omega) h hP (tk:=tk) (gv:=gv) (hp tk (by simp)) (fun s hs=>hp s (by simp [hs])) (by omega)
   simp only [qmA,qbb,cond_false,qqo,qV,qbt,j1,Option.bind_some]
   refine (hPost _).2 ⟨_,0,rfl,fun _=>⟨fun e=>?_,hp,fun hb=>j2 ?_⟩⟩
   ·rw [qO (show ¬ j>=0 by have:=j3 e;omega)];rfl
   ·by_cases q:j>=0
    ·rw [qy q] at hb;cases hb
    ·omega
 obtain⟨b,e,k1,k2⟩:=(hPost _).1 key
 refine⟨b,e,k1,fun he=>?_⟩
 obtain⟨g1,g2,g3⟩:=k2 he
 refine⟨g1,by omega,g2 tk (by simp),fun s hs=>g2 s (by simp [hs]),fun P' hP'=>?_⟩
 have e1:P=P':=by
  have:=zBF hP'
  have:=Sum.inr.inj this
  simp only [zO] at this
  exact this.2.2.2
 rw [<- e1];exact g3
theorem qCY{N:Nat}(hN:5000000000<=N){f h:List YG}(hl:f.length=h.length)(hs:h.length<=1000)(hb:∀ i,i<h.length->(nth [] h i).length<=2000000000)(ho:∀ i,i<h.length->∀ t∈nth [] h i,qdk N (nth [] f i,t,())=some (true,())):qcB N (f,h,())=some (true,()):=by
 simp only [qcB,qkq]
 rw [show ((f.length:Int) != (h.length:Int))=false by rw [hl];exact bne_self_eq_false _,cond_false]
 simp only [joinD,loopE]
 refine qei (n:=h.length) (by omega) (fun i hi kn=>?_) (fun kn=>by simp only [qgU,qbb,cond_false,qks]) (by omega)
 simp only [qgU,lt_d hi,ge0_d,Bool.and_self,cond_true,Int.toNat_natCast,joinD,loopE]
 have hbi:=hb i hi
 refine (qei (n:=(nth [] h i).length) (k:=kn ((i:Int)+1)) (by omega) (fun j hj kn2=>?_) (fun kn2=>?_) (by omega))
 ·simp only [qgV,lt_d hj,ge0_d,lt_d (show i<f.length by omega),Bool.and_self,cond_true,Int.toNat_natCast,ho i hi _ (qbJ (z:=([]:List Int)) hj),Option.bind_some,Bool.not_true,cond_false,qK,ix2 hj (show (nth [] h i).length<=4611686018427387904 by omega)]
 ·simp only [qgV,qbb,cond_false,qkr,qK,ix1 hi (show h.length<=1000000000 by omega)]
def giv1(gv:List YD):List Mk:=gv.map fun s=>(s.1,s.2,(1:Int))
theorem qEL{gv:List YD}{a:Int}{t:List Int}(h:0<sumT (giv1 gv) a t):(a,t)∈gv:=by
 obtain⟨m,h1,rfl,rfl⟩:=qyy (l:=giv1 gv) (a:=a) (t:=t) (by omega)
 obtain⟨s,h2,rfl⟩:=zo.1 h1
 exact h2
theorem law_TrackNever(g:List Nd×List Ed)(l:List Mk)(tk:Int×List Int)(gv:List YD)(_h1:wfS (.pair (.sl (.pair (.int .i64) (.pair (.int .i64) Sad))) (.sl Sad)) g)(_h2:wfS (.sl Saf) l)(_h3:wfS Sae tk)(_h4:wfS (.sl Sae) gv):∃ N,qgn N (g,l,tk,gv,())=some (true,()):=by
 obtain⟨ns,es⟩:=g
 obtain⟨N,hN⟩:∃ N:Nat,6000000000<=N:=⟨6000000000,Nat.le_refl _⟩
 refine⟨N,?_⟩
 have et:(tk.1,tk.2)=tk:=rfl
 obtain⟨b1,y,m1,m2⟩:=qEn (N:=N) (by omega) ns es tk gv
 obtain⟨b2,z,n1,n2⟩:=qEn (N:=N) (by omega) ns es tk []
 have hz:z=0->b2=true:=fun e=>(n2 e).1 rfl
 have fin:∀ K:Option qI,K=some (true,())->(bif (z==(0:Int)) then (bif !b2 then some (false,()) else K) else K)=some (true,()):=fun K hK=>by
  by_cases q:z=0
  ·rw [hz q,beq_iff_eq.2 q,cond_true];exact hK
  ·rw [zb q,cond_false];exact hK
 simp only [qgn,qjr,joinD,et]
 rcases qzB (N:=N) (by omega) ns es l with⟨e,t1,t2,t3,t4⟩ | ⟨hg,hm,L,P,f,t1,t2,t3,hP,hO,t4,t5,t6⟩
 ·simp only [t1,t2,m1,n1,Option.bind_some]
  refine fin _ ?_
  simp only [qgc,joinD]
  rw [bne_iff_ne.2 t3,cond_true]
  rfl
 simp only [t1,t4,m1,n1,Option.bind_some]
 refine fin _ ?_
 simp only [qgc,joinD,bne_self_eq_false,cond_false]
 by_cases hy:y=0
 case neg=>rw [bne_iff_ne.2 hy,cond_true];rfl
 subst hy
 rw [bne_self_eq_false,cond_false]
 cases b1 with
 | false=>rfl
 | true=>
 obtain⟨-,hgl,stk,sgv,hc⟩:=m2 rfl
 have hlater:=hc P hO rfl
 have hll:=hm.len
 have hw:IntKind.i64.wrap ((l.length:Int)+(gv.length:Int))=((l.length+gv.length:Nat):Int):=by rw [w64 (by omega) (by omega)];omega
 rw [Bool.not_true,cond_false,hw]
 by_cases h64:((l.length+gv.length:Nat):Int)>=64
 ·rw [qy h64];rfl
 rw [qO h64]
 simp only [qjs,cond_false,joinD,loopE]
 have hL:=qxr hm t2
 obtain⟨cB,hcB⟩:∃ cB:Mk->Bool,∀ m,cB m=true↔(m.1=tk.1/\m.2.1=tk.2/\m.2.2>0):=⟨fun m=>@decide (m.1=tk.1/\m.2.1=tk.2/\m.2.2>0) (Classical.propDecidable _),fun m=>@decide_eq_true_iff _ (Classical.propDecidable _)⟩
 refine qbS (N:=N) L.length (fun i=>((L.take i).any cB,(i:Int))) (fun i hi kn=>?_) (fun kn=>?_) (by omega)
 ·have hmi:=qbJ (z:=z0) hi
  have htk:(L.take (i+1)).any cB=((L.take i).any cB||cB (nth z0 L i)):=by
   rw [zW hi,List.any_append,qcv hi];simp
  obtain⟨c,c1,c2⟩:=qDK (N:=N) (by omega) (a:=(nth z0 L i).2.1) (by have:=t2.l4 _ hmi;omega) tk.2
  simp only [qgd,lt_d hi,ge0_d,Bool.and_self,cond_true,Int.toNat_natCast,qK,ix1 hi (show L.length<=1000000000 by omega),htk]
  cases (L.take i).any cB with
  | true=>rfl
  | false=>
   simp only [cond_false,Bool.false_or]
   by_cases q:(nth z0 L i).1=tk.1
   ·rw [show ((nth z0 L i).1==tk.1)=true from beq_iff_eq.2 q,cond_true,c1]
    simp only [Option.bind_some]
    cases c with
    | true=>
     have e:cB (nth z0 L i)=decide ((nth z0 L i).2.2>0):=by
      rw [zBO,hcB,zN]
      exact⟨fun h=>h.2.2,fun h=>⟨q,c2.1 rfl,h⟩⟩
     rw [e];rfl
    | false=>
     have e:cB (nth z0 L i)=false:=by
      cases h:cB (nth z0 L i) with
      | false=>rfl
      | true=>exact absurd (c2.2 ((hcB _).1 h).2.1) (by simp)
     rw [e];rfl
   ·have e:cB (nth z0 L i)=false:=by
     cases h:cB (nth z0 L i) with
     | false=>rfl
     | true=>exact absurd ((hcB _).1 h).1 q
    rw [show ((nth z0 L i).1==tk.1)=false from zb q,cond_false,e];rfl
 simp only [qgd,qbb,cond_false,qjt,joinD,loopE,zAB]
 refine qbS (N:=N) l.length (fun i=>((i:Int),(tk.1,tk.2,(-1:Int)) :: l.take i)) (fun i hi kn=>?_) (fun kn=>?_) (by omega)
 ·have ee:((nth z0 l i).1,(nth z0 l i).2.1,(nth z0 l i).2.2)=nth z0 l i:=rfl
  simp only [qgf,lt_d hi,ge0_d,Bool.and_self,cond_true,Int.toNat_natCast,qK,ix1 hi (show l.length<=1000000000 by omega),ee]
  rw [qy (by simp only [List.length_cons,List.length_nil,zd];omega),show Nat.ble 1 40=true from rfl,Bool.and_self,cond_true,zW hi,qcv hi]
  rfl
 simp only [qgf,qbb,cond_false,qju,joinD,loopE,zAB]
 have e00:((0:Int),(tk.1,tk.2,(-1:Int)) :: l)=(((0:Nat):Int),((tk.1,tk.2,(-1:Int)) :: l)++giv1 (gv.take 0)):=by simp [giv1]
 refine (congrArg (loopD _ N) e00).trans ?_
 refine qbS (N:=N) gv.length (fun i=>((i:Int),((tk.1,tk.2,(-1:Int)) :: l)++giv1 (gv.take i))) (fun i hi kn=>?_) (fun kn=>?_) (by omega)
 ·simp only [qgg,lt_d hi,ge0_d,Bool.and_self,cond_true,Int.toNat_natCast,qK,ix1 hi (show gv.length<=1000000000 by omega)]
  have hgt:giv1 (gv.take (i+1))=giv1 (gv.take i) ++ [((nth z2 gv i).1,(nth z2 gv i).2,(1:Int))]:=by
   unfold giv1
   rw [zW hi,zAi,qcv hi];rfl
  rw [qy (by simp only [giv1,zQ,zh,List.length_cons,List.length_nil,zd];omega),show Nat.ble 1 40=true from rfl,Bool.and_self,cond_true,hgt,zT]
  rfl
 simp only [qgg,qbb,cond_false,qjv,zAB]
 have hok:MksOk ns (((tk.1,tk.2,(-1:Int)) :: l)++giv1 gv):=by
  refine⟨by simp only [giv1,zQ,List.length_cons,zh];omega,fun m hx=>?_,fun m hx=>?_⟩
  ·rcases zL.1 hx with hx | hx
   ·rcases zk.1 hx with e | hx
    ·rw [e];exact stk
    ·exact hm.st m hx
   ·obtain⟨s,hs,rfl⟩:=zo.1 hx
    exact sgv s hs
  ·rcases zL.1 hx with hx | hx
   ·rcases zk.1 hx with e | hx
    ·rw [e];exact⟨(by decide:(-1099511627776:Int) <= -1),(by decide:(-1:Int)<=1099511627776)⟩
    ·exact hm.n m hx
   ·obtain⟨s,hs,rfl⟩:=zo.1 hx
    exact⟨(by decide:(-1099511627776:Int)<=1),(by decide:(1:Int)<=1099511627776)⟩
 rcases qzB (N:=N) (by omega) ns es (((tk.1,tk.2,(-1:Int)) :: l)++giv1 gv) with⟨e,-,-,-,u4⟩ | ⟨-,-,L',P',h',u1,u2,u3,hP',hO',u4,u5,u6⟩
 ·exact absurd ⟨hg,hok⟩ u4
 have eP:P=P':=by
  rw [hO] at hO'
  have:=zBF hO'
  have:=Sum.inr.inj this
  simp only [zO] at this
  exact this.2.2.2
 subst eP
 simp only [u4,Option.bind_some,bne_self_eq_false,cond_false]
 rw [show ((h'.length:Int) != (f.length:Int))=false by rw [u5,t5];exact bne_self_eq_false _,cond_false]
 cases hst:L.any cB with
 | false=>rfl
 | true=>
 rw [Bool.not_true,cond_false]
 obtain⟨ms,ms1,ms2⟩:=zAS.1 hst
 obtain⟨q1,q2,q3⟩:=(hcB ms).1 ms2
 have htkL:tk∈posS L:=quu.2 ⟨ms.2.2,by rw [<- q1,<- q2];exact ms1,q3⟩
 have hn12:=hg.n12
 have hnv:=qCY (N:=N) (by omega) (f:=f) (h:=h') (by rw [t5,u5]) (by omega) (fun i hi=>(u6 i (by omega)).2) (fun i hi t ht=>by
  have hi':i<ns.length:=by omega
  have hmin:=((u6 i hi').1 t).1 ht
  have hL':=qxr hok u2
  obtain⟨a,ha,r,hr,hk,hta⟩:=(qux hg hP (qyP hL') hi').1 hmin.1
  have hfit:=qoV hg hP (qyP hL') hi' hmin.1
  have sit:Sok ns ((i:Int),t):=⟨by dsimp only;omega,by dsimp only;omega,hfit.1,hfit.2⟩
  have hcat:could ns P a ((i:Int),t):=⟨r,hr,hk,by rw [hta];exact qhB _⟩
  have hex:∃ a∈posS L,could ns P a ((i:Int),t):=by
   obtain⟨n,hn1,hn2⟩:=quu.1 ha
   have ha4:=u2.l4 _ hn1
   obtain⟨e1,e2⟩:=(u2.mem _ _ _ ha4).1 hn1
   rw [qmB] at e1
   simp only [sumT] at e1
   by_cases q:0<sumT l a.1 a.2
   ·refine⟨a,quu.2 ⟨sumT l a.1 a.2,(t2.mem _ _ _ ha4).2 ⟨rfl,by omega⟩,q⟩,hcat⟩
   ·have hgp:0<sumT (giv1 gv) a.1 a.2:=by
     split at e1 <;> omega
    have hmem:=qEL hgp
    have hca:=hlater _ hmem
    exact⟨tk,htkL,qyg hg hP stk (sgv _ hmem) sit hca hcat⟩
  obtain⟨w1,w2⟩:=t6 i hi'
  obtain⟨b,o1,o2⟩:=qAe (N:=N) (by omega) hg hP (qyP hL) (s:=((i:Int),t)) sit w1 w2
  rw [o1,o2.2 hex])
 rw [hnv]
 rfl
set_option maxRecDepth 100000 in
theorem lifted_TrackNever(os:Os)(started:os.Started)(H:Type)(enc:TypeId×Value->H) :
  ReturnsInHanded {} Tryz.checked os 4 .any (fun w args=>(Rows.trackNeverSpec.pre enc Tryz.prog Tryz.f4 [] false w args/\laidMetH Tryz.prog Rows.trackNeverRow.laid w)/\sizedMet enc Tryz.prog Tryz.f4 (OpenSpec.ofChange Rows.trackNeverSpec) false w args) (Rows.trackNeverSpec.post enc Tryz.prog Tryz.f4 false true false false):=by
 refine returnsInHanded_of_change_and (C:=Tryz.checked) (X:=fun w _=>laidMetH Tryz.prog Rows.trackNeverRow.laid w) (fun _ _ _ hh h=>h.of_heap hh) own started (by kernel_rfl) Tryz.func4
  (ChangeSpec.witness_shaped (enc:=enc) (C:=Tryz.checked) (os:=os) (X:=fun w _=>laidMetH Tryz.prog Rows.trackNeverRow.laid w) false (World.doorLaid Tryz.prog 400 os) #[.agg #[.slice none 0 0,.slice none 0 0],.slice none 0 0,.agg #[.int .i64 0,.slice none 0 0],.slice none 0 0] 8 rfl (World.shaped_of_RefB (by kernel_rfl) (by kernel_rfl)) (by kernel_rfl) (by kernel_rfl) (by kernel_rfl) (door_met os _)) ?_
 intro W base args ds gs before hval0 hW _ hsz0 hL _
 have hgw:GW Gs W:=gw_of hL
 have hval:∀ (j:Nat) t v,Tryz.f4.params[j]? = some t->args[j]? = some v->Value.okWide Tryz.prog W .any base t v:=hval0
 have hW':=hW
 obtain⟨p,q,hA0,hV,rfl,_,_⟩:=hW
 have hA:DataW.TrodAll enc Tryz.prog W 0 (fun _=>true) true Tryz.f4.params.toList args.toList ds p:=hA0
 rw [Tryz.params4] at hA hval
 obtain⟨v0,vs0,d0,ds0,p0,q0,hargs,rfl,rfl,h0,r0⟩:=trodAll_cons hA
 obtain⟨v1,vs1,d1,ds1,p1,q1,rfl,rfl,rfl,h1,r1⟩:=trodAll_cons r0
 obtain⟨v2,vs2,d2,ds2,p2,q2,rfl,rfl,rfl,h2,r2⟩:=trodAll_cons r1
 obtain⟨v3,vs3,d3,ds3,p3,q3,rfl,rfl,rfl,h3,r3⟩:=trodAll_cons r2
 obtain⟨rfl,rfl,rfl⟩:=trodAll_nil r3
 obtain rfl:args = #[v0,v1,v2,v3]:=by cases args;simp_all
 obtain⟨rfl,rfl⟩:=trodVars_none hV
 have hall:=zj.1 hsz0
 clear hA0 hval0 hsz0
 simp only [List.append_nil] at hW'
 have hlt0:∀ x∈p0,x.block<W.heap.size:=fun x hx=>hW'.lt x (by simp [hx])
 have hlt1:∀ x∈p1,x.block<W.heap.size:=fun x hx=>hW'.lt x (by simp [hx])
 have hlt2:∀ x∈p2,x.block<W.heap.size:=fun x hx=>hW'.lt x (by simp [hx])
 have hlt3:∀ x∈p3,x.block<W.heap.size:=fun x hx=>hW'.lt x (by simp [hx])
 obtain⟨x0,g0,w0⟩:=qul (k:=.dat (.pair (.sl (.pair (.int .i64) (.pair (.int .i64) Sad))) (.sl Sad))) (by kernel_rfl) (hval 0 25 v0 rfl rfl) h0
 obtain⟨x1,g1,w1⟩:=qul (k:=.dat (.sl Saf)) (by kernel_rfl) (hval 1 26 v1 rfl rfl) h1
 obtain⟨x2,g2,w2⟩:=qul (k:=.dat Sae) (by kernel_rfl) (hval 2 29 v2 rfl rfl) h2
 obtain⟨x3,g3,w3⟩:=qul (k:=.dat (.sl Sae)) (by kernel_rfl) (hval 3 47 v3 rfl rfl) h3
 obtain⟨N,hN⟩:=law_TrackNever x0 x1 x2 x3 w0 w1 w2 w3
 refine (qns N (fun _=>False) W (x0,x1,x2,x3,()) (true,()) [v0,v1,v2,v3] (fun _ h=>h.elim) hgw ⟨v0,_,rfl,g0,⟨v1,_,rfl,g1,⟨v2,_,rfl,g2,⟨v3,_,rfl,g3,rfl⟩⟩⟩⟩ hN).mono ?_
 rintro e W' ⟨v,rfl,hg,hr⟩
 replace hg:=hg.old
 have hr:v=.bool true:=by simpa only [kvals,retV,Kd.val,Go.Abs.enc,RV] using hr
 subst hr
 exact⟨_,rfl,_,_,_,[],p0++(p1++(p2++(p3 ++ []))),[],hW',(trodAll_cons_mk (shut_bool (show Tryz.prog.underlying 4=some .bool by kernel_rfl) _) trodAll_mk0),(trodAll_cons_mk (Below.trod laidOut (by kernel_rfl) (zr (by kernel_rfl)) h0 hg hlt0) (trodAll_cons_mk (Below.trod laidOut (by kernel_rfl) (zr (by kernel_rfl)) h1 hg hlt1) (trodAll_cons_mk (Below.trod laidOut (by kernel_rfl) (zr (by kernel_rfl)) h2 hg hlt2) (trodAll_cons_mk (Below.trod laidOut (by kernel_rfl) (zr (by kernel_rfl)) h3 hg hlt3) trodAll_mk0)))),rfl,hg.frame _,fun h=>by cases h⟩
theorem trackNever_holds:Rows.TrackNeverSaid:=
 OpenClaim.holds_of_wide 4 Tryz.f4 rfl rfl rfl rfl rfl rfl rfl ⟨rfl,rfl,rfl,rfl,rfl⟩ rfl rfl rfl rfl rfl (by kernel_rfl) Tryz.func4 (by kernel_rfl)
  (zr (by kernel_rfl)) (by unfold Func.isWrapper;first | (rw [zH (by decide +kernel)];kernel_rfl) | (rw [zJ (by decide +kernel)];exact⟨rfl,rfl⟩))
  (fun os started H enc _=>lifted_TrackNever os started H enc)
theorem trackNever_card:Rows.TrackNeverCardSaid:=
 Claim7.holds_tied_plain_at .later [] [.data] true (true, "5fb6730809145aa88e6f66dc0995df30f2b37791de800d636984173ba9eaa620") false trackNever_holds (fun _ h => by cases h) (by kernel_rfl) (fun _ h => by cases h) trackNever_row_tie rfl ⟨rfl, rfl⟩ (by kernel_rfl) rfl
  (fun f fn hf hfn=>by
   obtain rfl : f = 4 := Option.some.inj ((show Tryz.prog.funcNamed "watershed/watershedkeep.TrackNever" = some 4 by kernel_rfl).symm.trans hf) |>.symm
   obtain rfl:fn=Tryz.f4:=(zBF (Tryz.func4.symm.trans hfn)).symm
   exact⟨by kernel_rfl,fun j t ht=>by
    have h3:=zj.1 (show (Tryz.f4.params.toList.all fun t=>!(Tryz.prog.wantsStandIn t))=true by kernel_rfl) t (by rw [<- zu] at ht;exact zAC ht)
    have h4:Tryz.prog.wantsStandIn t=false:=by simpa using h3
    exact h4⟩)
  (by kernel_rfl)
end Go.Proofs.YtgnnhemoocfclaaGreatDoor
end
