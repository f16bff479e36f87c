import Derived.Test.YtgnnhemoocfclaaGreatDoorRTim
noncomputable section
namespace Go.Proofs.YtgnnhemoocfclaaGreatDoor
open Go.Abs
abbrev SA:Sh:=.sl (.int .i64)
abbrev Sz:Sh:=.pair (.int .i64) (.bool)
abbrev Sv:Sh:=.pair (.int .i64) (.pair (.int .i64) (.sl (.int .i64)))
abbrev Yh:Type:=Int×Bool
abbrev Yg:Type:=List (Int×Bool)
abbrev Yf:Type:=Int×Int×List Int
abbrev qdL:List Kd:=[.dat Sv]
abbrev qdI:List Kd:=[.dat (.int .i64)]
abbrev qmu:Type:=Dens qdI
def qvn(_N:Nat):Ctx:={ T:=[(3,⟨.int .i64,1,8,some (.int .i64),[.int .i64 (0:Int)],false,[]⟩),(27,⟨.slice 3,1,24,some SA,[.nil],false,[]⟩),(87,⟨.struct [(0,3),(1,3),(2,27)],3,40,some Sv,[.int .i64 (0:Int),.int .i64 (0:Int),.nil],false,[]⟩)],G:=findE [],I:=findI [],N:=_N,n:=9,fx:=[],fl:=0,gs:=Gs }
def qnn(_N:Nat)(_x1:Int×Int×List Int):Option qmu:=
 (some ((IntKind.i64.wrap (_x1.1+(_x1.2.2.length:Int))),()))
def qbC(_N:Nat)(_x:Dens qdL):Option qmu:=qnn _N _x.1
theorem qso(_N:Nat):SpecD Tryz.prog Gs 66 qdL qdI (qbC _N):=mkSpD (fn:=Tryz.f66) (c:=qh Tryz.f66) (C:=qvn _N)
  (a:=.none)
  (by kernel_rfl) rfl (by kernel_rfl) (by kernel_rfl) ⟨rfl,by unfold TOk;kernel_rfl,qak rfl rfl (zC _),qaj rfl rfl (zC _),rfl⟩ (fun _x=>by kernel_rfl)
theorem qja(_N:Nat):EntOk Tryz.prog Gs (mkP 66 qdL qdI (qbC _N)):=entP ⟨Tryz.f66,qh Tryz.f66,by kernel_rfl,by kernel_rfl,rfl⟩ (by kernel_rfl) (qso _N)
abbrev qcl:List Kd:=[.dat (.int .i64)]
abbrev qck:List Kd:=[.dat (.bool)]
abbrev qjG:Type:=Dens qck
def qpZ(_N:Nat):Ctx:={ T:=[],G:=findE [],I:=findI [],N:=_N,n:=9,fx:=[],fl:=0,gs:=Gs }
def qkn(_N:Nat)(_x1:Int):Option qjG:=
 (bif (decide (_x1>=(0:Int))) then (some ((decide (_x1<=(1048576:Int))),())) else (some (false,())))
def qay(_N:Nat)(_x:Dens qcl):Option qjG:=qkn _N _x.1
theorem qoo(_N:Nat):SpecD Tryz.prog Gs 67 qcl qck (qay _N):=mkSpD (fn:=Tryz.f67) (c:=qh Tryz.f67) (C:=qpZ _N)
  (a:=.none)
  (by kernel_rfl) rfl (by kernel_rfl) (by kernel_rfl) ⟨rfl,by unfold TOk;kernel_rfl,qak rfl rfl (zC _),qaj rfl rfl (zC _),rfl⟩ (fun _x=>by kernel_rfl)
theorem qgk(_N:Nat):EntOk Tryz.prog Gs (mkP 67 qcl qck (qay _N)):=entP ⟨Tryz.f67,qh Tryz.f67,by kernel_rfl,by kernel_rfl,rfl⟩ (by kernel_rfl) (qoo _N)
abbrev qcz:List Kd:=[.dat Sv,.dat (.int .i64)]
abbrev qcy:List Kd:=[.dat (.int .i64)]
abbrev qbZ:Type:=Dens qcy
def qsd(_N:Nat):Ctx:={ T:=[(3,⟨.int .i64,1,8,some (.int .i64),[.int .i64 (0:Int)],false,[]⟩),(27,⟨.slice 3,1,24,some SA,[.nil],false,[]⟩),(87,⟨.struct [(0,3),(1,3),(2,27)],3,40,some Sv,[.int .i64 (0:Int),.int .i64 (0:Int),.nil],false,[]⟩)],G:=findE [mkP 67 qcl qck (qay _N)],I:=findI [],N:=_N,n:=48,fx:=[],fl:=0,gs:=Gs }
def qhH(_N:Nat):Option qbZ:=
 (some ((0:Int),()))
def qfw(_N:Nat)(_k17:(Int×Int×List Int×List Int)->Option qbZ)(_v5:Int)(_v7:Int)(_v8:Int)(_v9:List Int)(_v10:List Int)(_v6:Int)(_kn18:(Int×Int×Int×List Int×List Int)×Int->Option qbZ):Option qbZ:=
 (bif (decide (_v6<_v5)) then (bif (decide (0<=_v6)&&decide (_v6<(_v10.length:Int))) then ((qay _N ((nth (0:Int) _v10 ((_v6).toNat)),())).bind fun _y19=>(bif (!_y19.1) then (some ((2:Int),())) else (_kn18 ((_v5,_v7,_v8,_v9,_v10),(IntKind.i64.wrap (_v6+(1:Int))))))) else none) else (_k17 (_v7,_v8,_v9,_v10)))
def qkR(_N:Nat)(_v1:Bool)(_v2:Int)(_v3:Int)(_v4:List Int):Option qbZ:=
 (bif _v1 then (some ((1:Int),())) else (joinD (fun (_s:Int×Int×List Int×List Int)=>qhH _N) fun _k17=>(bif (decide ((([_v3]).length+_v4.length)*8<=140737488355328)&&Nat.ble 1 8) then (loopE (fun (_c:Int×Int×Int×List Int×List Int) (_s:Int) _kn=>qfw _N _k17 _c.1 _c.2.1 _c.2.2.1 _c.2.2.2.1 _c.2.2.2.2 _s _kn) _N ((([_v3]++_v4).length:Int),_v2,_v3,_v4,([_v3]++_v4)) (0:Int)) else none)))
def qkQ(_N:Nat)(_x1:Int×Int×List Int)(_x2:Int):Option qbZ:=
 (joinD (fun (_s:Bool×Int×Int×List Int)=>qkR _N _s.1 _s.2.1 _s.2.2.1 _s.2.2.2) fun _k20=>(bif (decide (_x2<(1:Int))) then (_k20 (true,_x1.1,_x1.2.1,_x1.2.2)) else (bif (decide (_x2>(4:Int))) then (_k20 (true,_x1.1,_x1.2.1,_x1.2.2)) else (bif (decide (_x1.1<(1:Int))) then (_k20 (true,_x1.1,_x1.2.1,_x1.2.2)) else (bif (decide (_x1.1>_x2)) then (_k20 (true,_x1.1,_x1.2.1,_x1.2.2)) else (_k20 ((decide ((_x1.2.2.length:Int)>(IntKind.i64.wrap ((4:Int) - _x1.1)))),_x1.1,_x1.2.1,_x1.2.2)))))))
def qaH(_N:Nat)(_x:Dens qcz):Option qbZ:=qkQ _N _x.1 _x.2.1
theorem qpJ(_N:Nat):SpecD Tryz.prog Gs 65 qcz qcy (qaH _N):=mkSpD (fn:=Tryz.f65) (c:=qh Tryz.f65) (C:=qsd _N)
  (a:=.two .none (.two (.join 1 ⟨[(2,.ptr 0 0),(32,.bool)],[.cells [.int .i64,.int .i64,.sl (.int .i64)]]⟩ .none .none) (.join 2 ⟨[],[.cells [.int .i64,.int .i64,.sl (.int .i64)],.row false 1 3 (.int .i64)]⟩ (.two .none (.one (.loop 2 ⟨[(38,.slc 1 1),(39,.int .i64),(40,.int .i64)],[.cells [.int .i64,.int .i64,.sl (.int .i64)],.row false 1 3 (.int .i64)]⟩ [1] .none))) .none)))
  (by kernel_rfl) rfl (by kernel_rfl) (by kernel_rfl) ⟨rfl,by unfold TOk;kernel_rfl,qak rfl rfl (zD.2 ⟨qgk _N,(zC _)⟩),qaj rfl rfl (zC _),rfl⟩ (fun _x=>by kernel_rfl)
theorem qgZ(_N:Nat):EntOk Tryz.prog Gs (mkP 65 qcz qcy (qaH _N)):=entP ⟨Tryz.f65,qh Tryz.f65,by kernel_rfl,by kernel_rfl,rfl⟩ (by kernel_rfl) (qpJ _N)
abbrev qen:List Kd:=[.dat Sv]
abbrev qaI:Type:=List Yh
def qqa(_N:Nat):Ctx:={ T:=[(3,⟨.int .i64,1,8,some (.int .i64),[.int .i64 (0:Int)],false,[]⟩),(4,⟨.bool,1,1,some .bool,[.bool false],false,[]⟩),(27,⟨.slice 3,1,24,some SA,[.nil],false,[]⟩),(87,⟨.struct [(0,3),(1,3),(2,27)],3,40,some Sv,[.int .i64 (0:Int),.int .i64 (0:Int),.nil],false,[]⟩),(149,⟨.slice 152,1,24,some (.sl Sz),[.nil],false,[]⟩),(152,⟨.struct [(0,3),(1,4)],2,16,some Sz,[.int .i64 (0:Int),.bool false],true,[]⟩)],G:=findE [mkP 66 qdL qdI (qbC _N)],I:=findI [],N:=_N,n:=44,fx:=[1],fl:=0,gs:=Gs }
def qgT(_N:Nat)(_v22:List Yh):Option qaI:=
 (some _v22)
def qeT(_N:Nat)(_k24:(Int×Int×List Int×Yg)->Option qaI)(_v12:List Int)(_v13:Int)(_v15:Int)(_v16:Int)(_v17:List Int)(_v14:Int)(_v18:List Yh)(_kn25:(List Int×Int×Int×Int×List Int)×(Int×Yg)->Option qaI):Option qaI:=
 (bif (decide (_v14<_v13)) then (bif (decide (0<=_v14)&&decide (_v14<(_v12.length:Int))) then (bif (decide ((_v18.length+([((nth (0:Int) _v12 (_v14).toNat),false)]).length)*16<=140737488355328)&&Nat.ble 1 16) then (_kn25 ((_v12,_v13,_v15,_v16,_v17),((IntKind.i64.wrap (_v14+(1:Int))),(_v18 ++ [((nth (0:Int) _v12 (_v14).toNat),false)])))) else none) else none) else (_k24 (_v15,_v16,_v17,_v18)))
def qgS(_N:Nat)(_v8:Int)(_v9:Int)(_v10:List Int)(_v11:List Yh):Option qaI:=
 (bif (decide (0<=(IntKind.i64.wrap (_v8 - (1:Int))))&&decide ((IntKind.i64.wrap (_v8 - (1:Int)))<(_v11.length:Int))) then (joinD (fun (_s:Int×Int×List Int×Yg)=>qgT _N _s.2.2.2) fun _k24=>(loopE (fun (_c:List Int×Int×Int×Int×List Int) (_s:Int×Yg) _kn=>qeT _N _k24 _c.1 _c.2.1 _c.2.2.1 _c.2.2.2.1 _c.2.2.2.2 _s.1 _s.2 _kn) _N (_v10,(_v10.length:Int),_v8,_v9,_v10) ((0:Int),(_v11.set ((IntKind.i64.wrap (_v8 - (1:Int))).toNat) (_v9,(nth ((0:Int),false) _v11 ((IntKind.i64.wrap (_v8 - (1:Int))).toNat)).2))))) else none)
def qeS(_N:Nat)(_k26:(Int×Int×List Int×Yg)->Option qaI)(_v2:Int)(_v4:Int)(_v5:Int)(_v6:List Int)(_v3:Int)(_v7:List Yh)(_kn27:(Int×Int×Int×List Int)×(Int×Yg)->Option qaI):Option qaI:=
 (bif (decide (_v3<_v2)) then (bif (decide (0<=_v3)&&decide (_v3<(_v7.length:Int))) then (_kn27 ((_v2,_v4,_v5,_v6),((IntKind.i64.wrap (_v3+(1:Int))),(_v7.set ((_v3).toNat) ((nth ((0:Int),false) _v7 ((_v3).toNat)).1,true))))) else none) else (_k26 (_v4,_v5,_v6,_v7)))
def qko(_N:Nat)(_x1:Int×Int×List Int):Option qaI:=
 ((qbC _N ((_x1.1,(_x1.2.1,_x1.2.2)),())).bind fun _y23=>(bif (decide (0<=_x1.1)&&(decide (_x1.1<=_y23.1)&&decide (_y23.1*16<=281474976710656))) then (joinD (fun (_s:Int×Int×List Int×Yg)=>qgS _N _s.1 _s.2.1 _s.2.2.1 _s.2.2.2) fun _k26=>(loopE (fun (_c:Int×Int×Int×List Int) (_s:Int×Yg) _kn=>qeS _N _k26 _c.1 _c.2.1 _c.2.2.1 _c.2.2.2 _s.1 _s.2 _kn) _N (((List.replicate _x1.1.toNat ((0:Int),false)).length:Int),_x1.1,_x1.2.1,_x1.2.2) ((0:Int),(List.replicate _x1.1.toNat ((0:Int),false))))) else none))
def qca(_N:Nat)(_x:Dens qen):Option qaI:=qko _N _x.1
theorem qop(_N:Nat):SpecF Tryz.prog Gs 82 qen 152 Sz (qca _N):=mkSpF (fn:=Tryz.f82) (c:=qh Tryz.f82) (C:=qqa _N)
  (a:=.two .none (.two (.draw 1 [.pure,.rd [0],.rd [0],.pure,.new 1,.pure]) (.join 2 ⟨[(1,.ptr 0 0),(3,.slc 1 0)],[.cells [.int .i64,.int .i64,.sl (.int .i64)],.row false 0 152 Sz]⟩ (.two .none (.one (.loop 2 ⟨[(1,.ptr 0 0),(3,.slc 1 0),(13,.int .i64),(14,.int .i64)],[.cells [.int .i64,.int .i64,.sl (.int .i64)],.row false 0 152 Sz]⟩ [1,5] .none))) (.two .none (.join 2 ⟨[(3,.slc 1 0)],[.cells [.int .i64,.int .i64,.sl (.int .i64)],.row false 0 152 Sz]⟩ (.two .none (.one (.loop 2 ⟨[(3,.slc 1 0),(31,.sl (.int .i64)),(32,.int .i64),(33,.int .i64)],[.cells [.int .i64,.int .i64,.sl (.int .i64)],.row false 0 152 Sz]⟩ [2,6] .none))) .none)))))
  (by kernel_rfl) rfl (by kernel_rfl) (by kernel_rfl) ⟨rfl,by unfold TOk;kernel_rfl,qak rfl rfl (zD.2 ⟨qja _N,(zC _)⟩),qaj rfl rfl (zC _),rfl⟩ (fun _x=>by kernel_rfl)
theorem qnz(_N:Nat):EntOk Tryz.prog Gs (mkQ 82 qen [.dat (.sl Sz)] (fun _x=>(qca _N _x).map fun _y=>(_y,()))):=entQ ⟨Tryz.f82,qh Tryz.f82,by kernel_rfl,by kernel_rfl,rfl⟩ (qsX (qop _N))
abbrev qeP:List Kd:=[.dat Sv,.dat Sv]
abbrev qeL:List Kd:=[.dat (.bool)]
abbrev qcf:Type:=Dens qeL
def qvo(_N:Nat):Ctx:={ T:=[(3,⟨.int .i64,1,8,some (.int .i64),[.int .i64 (0:Int)],false,[]⟩),(4,⟨.bool,1,1,some .bool,[.bool false],false,[]⟩),(87,⟨.struct [(0,3),(1,3),(2,27)],3,40,some Sv,[.int .i64 (0:Int),.int .i64 (0:Int),.nil],false,[]⟩),(149,⟨.slice 152,1,24,some (.sl Sz),[.nil],false,[]⟩),(152,⟨.struct [(0,3),(1,4)],2,16,some Sz,[.int .i64 (0:Int),.bool false],true,[]⟩)],G:=findE [mkP 65 qcz qcy (qaH _N),mkP 66 qdL qdI (qbC _N),mkQ 82 qen [.dat (.sl Sz)] (fun _x=>(qca _N _x).map fun _y=>(_y,()))],I:=findI [],N:=_N,n:=59,fx:=[],fl:=0,gs:=Gs }
def qjL(_N:Nat):Option qcf:=
 (some (true,()))
def qnp(_N:Nat)(_kn47:(Yg×Yg×Int×Int×Int×List Int×Int×Int×List Int)×Int->Option qcf)(_v17:List Yh)(_v18:List Yh)(_v19:Int)(_v20:Int)(_v28:Int)(_v29:Int)(_v30:List Int)(_v31:Int)(_v32:Int)(_v33:List Int):Option qcf:=
 (_kn47 ((_v17,_v18,_v19,_v28,_v29,_v30,_v31,_v32,_v33),(IntKind.i64.wrap (_v20+(1:Int)))))
def qhi(_N:Nat)(_k46:(Int×Int×List Int×Int×Int×List Int)->Option qcf)(_v7:List Yh)(_v8:List Yh)(_v9:Int)(_v11:Int)(_v12:Int)(_v13:List Int)(_v14:Int)(_v15:Int)(_v16:List Int)(_v10:Int)(_kn47:(Yg×Yg×Int×Int×Int×List Int×Int×Int×List Int)×Int->Option qcf):Option qcf:=
 (bif (decide (_v10<_v9)) then (joinD (fun (_s:Yg×Yg×Int×Int×Yg×Int×Yh×Bool×Bool×Bool×Bool×Int×Int×List Int×Int×Int×List Int)=>qnp _N _kn47 _s.1 _s.2.1 _s.2.2.1 _s.2.2.2.1 _s.2.2.2.2.2.2.2.2.2.2.2.1 _s.2.2.2.2.2.2.2.2.2.2.2.2.1 _s.2.2.2.2.2.2.2.2.2.2.2.2.2.1 _s.2.2.2.2.2.2.2.2.2.2.2.2.2.2.1 _s.2.2.2.2.2.2.2.2.2.2.2.2.2.2.2.1 _s.2.2.2.2.2.2.2.2.2.2.2.2.2.2.2.2) fun _k48=>(bif (decide (0<=_v10)&&decide (_v10<(_v7.length:Int))) then (bif (decide (0<=_v10)&&decide (_v10<(_v8.length:Int))) then (bif (decide (((nth ((0:Int),false) _v7 (_v10).toNat).1)>((nth ((0:Int),false) _v8 (_v10).toNat).1))) then (some (false,())) else (bif (decide (0<=_v10)&&decide (_v10<(_v7.length:Int))) then (bif (nth ((0:Int),false) _v7 (_v10).toNat).2 then (bif (decide (0<=_v10)&&decide (_v10<(_v8.length:Int))) then (bif (!(nth ((0:Int),false) _v8 (_v10).toNat).2) then (some (false,())) else (_k48 (_v7,_v8,_v9,_v10,_v7,_v10,(nth ((0:Int),false) _v7 (_v10).toNat),(nth ((0:Int),false) _v7 (_v10).toNat).2,(nth ((0:Int),false) _v7 (_v10).toNat).2,true,(!(nth ((0:Int),false) _v8 (_v10).toNat).2),_v11,_v12,_v13,_v14,_v15,_v16))) else none) else (_k48 (_v7,_v8,_v9,_v10,_v7,_v10,(nth ((0:Int),false) _v7 (_v10).toNat),(nth ((0:Int),false) _v7 (_v10).toNat).2,(nth ((0:Int),false) _v7 (_v10).toNat).2,false,false,_v11,_v12,_v13,_v14,_v15,_v16))) else none)) else none) else none)) else (_k46 (_v11,_v12,_v13,_v14,_v15,_v16)))
def qno(_N:Nat)(_x1:Int×Int×List Int)(_x2:Int×Int×List Int):Option qcf:=
 ((qaH _N ((_x1.1,(_x1.2.1,_x1.2.2)),(4:Int),())).bind fun _y40=>(bif (_y40.1 != (0:Int)) then (some (false,())) else ((qaH _N ((_x2.1,(_x2.2.1,_x2.2.2)),(4:Int),())).bind fun _y41=>(bif (_y41.1 != (0:Int)) then (some (false,())) else ((qbC _N ((_x1.1,(_x1.2.1,_x1.2.2)),())).bind fun _y42=>((qbC _N ((_x2.1,(_x2.2.1,_x2.2.2)),())).bind fun _y43=>(bif (_y42.1 != _y43.1) then (some (false,())) else (((fun _x=>(qca _N _x).map fun _y=>(_y,())) ((_x1.1,(_x1.2.1,_x1.2.2)),())).bind fun _y44=>(((fun _x=>(qca _N _x).map fun _y=>(_y,())) ((_x2.1,(_x2.2.1,_x2.2.2)),())).bind fun _y45=>(joinD (fun (_s:Int×Int×List Int×Int×Int×List Int)=>qjL _N) fun _k46=>(loopE (fun (_c:Yg×Yg×Int×Int×Int×List Int×Int×Int×List Int) (_s:Int) _kn=>qhi _N _k46 _c.1 _c.2.1 _c.2.2.1 _c.2.2.2.1 _c.2.2.2.2.1 _c.2.2.2.2.2.1 _c.2.2.2.2.2.2.1 _c.2.2.2.2.2.2.2.1 _c.2.2.2.2.2.2.2.2 _s _kn) _N (_y44.1,_y45.1,(_y44.1.length:Int),_x1.1,_x1.2.1,_x1.2.2,_x2.1,_x2.2.1,_x2.2.2) (0:Int))))))))))))
def qcJ(_N:Nat)(_x:Dens qeP):Option qcf:=qno _N _x.1 _x.2.1
theorem qsp(_N:Nat):SpecD Tryz.prog Gs 59 qeP qeL (qcJ _N):=mkSpD (fn:=Tryz.f59) (c:=qh Tryz.f59) (C:=qvo _N)
  (a:=.two .none (.two (.two (.draw 0 [.rd [0],.pure,.pure,.pure,.rd [1],.pure,.pure,.pure,.pure,.rd [0],.pure,.rd [1],.pure,.pure,.pure]) .none) (.two (.draw 0 [.rd [0],.pure,.rd [1],.pure,.pure,.pure]) (.join 2 ⟨[],[.cells [.int .i64,.int .i64,.sl (.int .i64)],.cells [.int .i64,.int .i64,.sl (.int .i64)]]⟩ (.two .none (.one (.loop 2 ⟨[(5,.sl Sz),(6,.sl Sz),(28,.int .i64),(29,.int .i64)],[.cells [.int .i64,.int .i64,.sl (.int .i64)],.cells [.int .i64,.int .i64,.sl (.int .i64)]]⟩ [3] (.two .none (.two .none (.join 2 ⟨[(5,.sl Sz),(6,.sl Sz),(28,.int .i64),(29,.int .i64),(44,.sl Sz),(45,.int .i64),(46,.fptr Sz),(47,.fptr .bool),(48,.bool),(49,.bool),(56,.bool)],[.cells [.int .i64,.int .i64,.sl (.int .i64)],.cells [.int .i64,.int .i64,.sl (.int .i64)]]⟩ (.one (.two .none (.two (.draw 0 (.pure :: .pure :: .pure :: .pure :: .pure :: .pure :: .pure :: .pure :: .pure :: .pure :: .pure :: .pure :: .pure :: .pure :: .pure :: .pure :: .pure :: .pure :: .pure :: .pure :: .pure :: .pure :: .pure :: .pure :: .pure :: .pure :: [])) .none))) .none)))))) .none))))
  (by kernel_rfl) rfl (by kernel_rfl) (by kernel_rfl) ⟨rfl,by unfold TOk;kernel_rfl,qak rfl rfl (zD.2 ⟨qgZ _N,(zD.2 ⟨qja _N,(zD.2 ⟨qnz _N,(zC _)⟩)⟩)⟩),qaj rfl rfl (zC _),rfl⟩ (fun _x=>by kernel_rfl)
theorem qml(_N:Nat):EntOk Tryz.prog Gs (mkP 59 qeP qeL (qcJ _N)):=entP ⟨Tryz.f59,qh Tryz.f59,by kernel_rfl,by kernel_rfl,rfl⟩ (by kernel_rfl) (qsp _N)
abbrev qfP:List Kd:=[.dat Sv,.dat Sv]
abbrev qfL:List Kd:=[.dat Sv,.dat (.int .i64)]
abbrev qly:Type:=Dens qfL
def qsS(_N:Nat):Ctx:={ T:=[(3,⟨.int .i64,1,8,some (.int .i64),[.int .i64 (0:Int)],false,[]⟩),(27,⟨.slice 3,1,24,some SA,[.nil],false,[]⟩),(87,⟨.struct [(0,3),(1,3),(2,27)],3,40,some Sv,[.int .i64 (0:Int),.int .i64 (0:Int),.nil],false,[]⟩)],G:=findE [mkP 65 qcz qcy (qaH _N),mkP 66 qdL qdI (qbC _N),mkP 67 qcl qck (qay _N),mkF 38 qai 3 (.int .i64) (qB _N)],I:=findI [],N:=_N,n:=83,fx:=[],fl:=0,gs:=Gs }
def qmf(_N:Nat)(_x1:Int×Int×List Int)(_x2:Int×Int×List Int):Option qly:=
 ((qaH _N ((_x1.1,(_x1.2.1,_x1.2.2)),(4:Int),())).bind fun _y8=>(bif (_y8.1 != (0:Int)) then (some (((0:Int),((0:Int),[])),_y8.1,())) else ((qbC _N ((_x1.1,(_x1.2.1,_x1.2.2)),())).bind fun _y9=>((qaH _N ((_x2.1,(_x2.2.1,_x2.2.2)),_y9.1,())).bind fun _y10=>(bif (_y10.1 != (0:Int)) then (some (((0:Int),((0:Int),[])),_y10.1,())) else (bif ((IntKind.i64.wrap (_x2.1 - _x1.1))==(0:Int)) then ((qay _N ((IntKind.i64.wrap (_x2.2.1+_x1.2.1)),())).bind fun _y11=>(bif (!_y11.1) then (some (((0:Int),((0:Int),[])),(6:Int),())) else (bif (decide (_x2.2.2.length*8<=140737488355328)&&Nat.ble 1 8) then (some ((_x2.1,((IntKind.i64.wrap (_x2.2.1+_x1.2.1)),_x2.2.2)),(0:Int),())) else none))) else (bif (decide ((IntKind.i64.wrap (_x2.1 - _x1.1))>(0:Int))) then (bif (decide (0<=(0:Int))&&(decide ((0:Int)<=(IntKind.i64.wrap (_x2.1 - _x1.1)))&&decide ((IntKind.i64.wrap (_x2.1 - _x1.1))<=(_x1.2.2.length:Int)))) then ((qB _N (((_x1.2.2.take (IntKind.i64.wrap (_x2.1 - _x1.1)).toNat).drop (0:Int).toNat),())).bind fun _y12=>(bif (decide (0<=(IntKind.i64.wrap ((IntKind.i64.wrap (_x2.1 - _x1.1)) - (1:Int))))&&decide ((IntKind.i64.wrap ((IntKind.i64.wrap (_x2.1 - _x1.1)) - (1:Int)))<(_y12.length:Int))) then ((qay _N ((nth (0:Int) (_y12.set ((IntKind.i64.wrap ((IntKind.i64.wrap (_x2.1 - _x1.1)) - (1:Int))).toNat) (IntKind.i64.wrap ((nth (0:Int) _y12 ((IntKind.i64.wrap ((IntKind.i64.wrap (_x2.1 - _x1.1)) - (1:Int))).toNat))+_x2.2.1))) ((IntKind.i64.wrap ((IntKind.i64.wrap (_x2.1 - _x1.1)) - (1:Int))).toNat)),())).bind fun _y13=>(bif (!_y13.1) then (some (((0:Int),((0:Int),[])),(6:Int),())) else (bif (decide (((_y12.set ((IntKind.i64.wrap ((IntKind.i64.wrap (_x2.1 - _x1.1)) - (1:Int))).toNat) (IntKind.i64.wrap ((nth (0:Int) _y12 ((IntKind.i64.wrap ((IntKind.i64.wrap (_x2.1 - _x1.1)) - (1:Int))).toNat))+_x2.2.1))).length+_x2.2.2.length)*8<=140737488355328)&&Nat.ble 1 8) then (some ((_x1.1,(_x1.2.1,((_y12.set ((IntKind.i64.wrap ((IntKind.i64.wrap (_x2.1 - _x1.1)) - (1:Int))).toNat) (IntKind.i64.wrap ((nth (0:Int) _y12 ((IntKind.i64.wrap ((IntKind.i64.wrap (_x2.1 - _x1.1)) - (1:Int))).toNat))+_x2.2.1)))++_x2.2.2))),(0:Int),())) else none))) else none)) else none) else ((qay _N (_x2.2.1,())).bind fun _y14=>(bif (!_y14.1) then (some (((0:Int),((0:Int),[])),(6:Int),())) else (bif (decide (_x2.2.2.length*8<=140737488355328)&&Nat.ble 1 8) then (some ((_x2.1,(_x2.2.1,_x2.2.2)),(0:Int),())) else none))))))))))
def qdM(_N:Nat)(_x:Dens qfP):Option qly:=qmf _N _x.1 _x.2.1
theorem qqy(_N:Nat):SpecD Tryz.prog Gs 35 qfP qfL (qdM _N):=mkSpD (fn:=Tryz.f35) (c:=qh Tryz.f35) (C:=qsS _N)
  (a:=.two .none (.two .none (.two (.two (.draw 0 [.rd [1],.rd [0],.pure,.pure,.pure]) .none) (.two .none (.two .none (.two (.two .none (.one (.two .none (.two .none (.two .none (.two (.two (.draw 1 [.pure,.rd [0],.pure,.rd [0],.pure,.rd [0],.pure,.pure,.new 4,.pure,.wr [3,4]]) (.two .none (.draw 0 [.pure,.rd [4],.rd [4],.pure,.rd [1],.pure,.rd [4],.wr [4]]))) .none)))))) .none))))))
  (by kernel_rfl) rfl (by kernel_rfl) (by kernel_rfl) ⟨rfl,by unfold TOk;kernel_rfl,qak rfl rfl (zD.2 ⟨qgZ _N,(zD.2 ⟨qja _N,(zD.2 ⟨qgk _N,(zD.2 ⟨qbU _N,(zC _)⟩)⟩)⟩)⟩),qaj rfl rfl (zC _),rfl⟩ (fun _x=>by kernel_rfl)
theorem qpQ(_N:Nat):EntOk Tryz.prog Gs (mkQ 35 qfP qfL (qdM _N)):=entQ ⟨Tryz.f35,qh Tryz.f35,by kernel_rfl,by kernel_rfl,rfl⟩ (qqy _N)
abbrev qfQ:List Kd:=[.dat SA]
abbrev qfM:List Kd:=[.dat (.int .i64)]
abbrev qek:Type:=Dens qfM
def qxn(_N:Nat):Ctx:={ T:=[(3,⟨.int .i64,1,8,some (.int .i64),[.int .i64 (0:Int)],false,[]⟩),(27,⟨.slice 3,1,24,some SA,[.nil],false,[]⟩)],G:=findE [],I:=findI [],N:=_N,n:=18,fx:=[],fl:=0,gs:=Gs }
def qgL(_N:Nat)(_v5:Int):Option qek:=
 (some (_v5,()))
def qfs(_N:Nat)(_k6:Int->Option qek)(_v1:Int)(_v2:List Int)(_v3:Int)(_v4:Int)(_kn7:(Int×List Int×Int)×Int->Option qek):Option qek:=
 (bif (decide (_v4<_v3)) then (bif (decide (0<=_v4)&&decide (_v4<(_v2.length:Int))) then (bif ((nth (0:Int) _v2 (_v4).toNat) != _v1) then (some ((nth (0:Int) _v2 (_v4).toNat),())) else (_kn7 ((_v1,_v2,_v3),(IntKind.i64.wrap (_v4+(1:Int)))))) else none) else (_k6 _v1))
def qlp(_N:Nat)(_x1:List Int):Option qek:=
 (joinD (fun (_s:Int)=>qgL _N _s) fun _k6=>(loopE (fun (_c:Int×List Int×Int) (_s:Int) _kn=>qfs _N _k6 _c.1 _c.2.1 _c.2.2 _s _kn) _N ((0:Int),_x1,(_x1.length:Int)) (0:Int)))
def qch(_N:Nat)(_x:Dens qfQ):Option qek:=qlp _N _x.1
theorem qtV(_N:Nat):SpecD Tryz.prog Gs 41 qfQ qfM (qch _N):=mkSpD (fn:=Tryz.f41) (c:=qh Tryz.f41) (C:=qxn _N)
  (a:=.two .none (.two .none (.join 0 ⟨[(3,.int .i64)],[]⟩ (.two .none (.one (.loop 0 ⟨[(3,.int .i64),(6,.sl (.int .i64)),(7,.int .i64),(8,.int .i64)],[]⟩ [3] .none))) .none)))
  (by kernel_rfl) rfl (by kernel_rfl) (by kernel_rfl) ⟨rfl,by unfold TOk;kernel_rfl,qak rfl rfl (zC _),qaj rfl rfl (zC _),rfl⟩ (fun _x=>by kernel_rfl)
theorem qnY(_N:Nat):EntOk Tryz.prog Gs (mkP 41 qfQ qfM (qch _N)):=entP ⟨Tryz.f41,qh Tryz.f41,by kernel_rfl,by kernel_rfl,rfl⟩ (by kernel_rfl) (qtV _N)
abbrev qdS:List Kd:=[.dat Sv,.dat Sv]
abbrev qdQ:List Kd:=[.dat (.int .i64)]
abbrev qiG:Type:=Dens qdQ
def qoX(_N:Nat):Ctx:={ T:=[(3,⟨.int .i64,1,8,some (.int .i64),[.int .i64 (0:Int)],false,[]⟩),(27,⟨.slice 3,1,24,some SA,[.nil],false,[]⟩),(87,⟨.struct [(0,3),(1,3),(2,27)],3,40,some Sv,[.int .i64 (0:Int),.int .i64 (0:Int),.nil],false,[]⟩)],G:=findE [mkP 42 qbW qbV (qaB _N),mkP 43 qaZ qaY (qH _N),mkP 41 qfQ qfM (qch _N)],I:=findI [],N:=_N,n:=22,fx:=[],fl:=0,gs:=Gs }
def qjf(_N:Nat)(_x1:Int×Int×List Int)(_x2:Int×Int×List Int):Option qiG:=
 ((qaB _N (_x1.1,_x2.1,())).bind fun _y5=>((qaB _N (_x1.2.1,_x2.2.1,())).bind fun _y6=>((qH _N (_x1.2.2,_x2.2.2,())).bind fun _y7=>((qch _N ([_y5.1,_y6.1,_y7.1],())).bind fun _y8=>(some (_y8.1,()))))))
def qaJ(_N:Nat)(_x:Dens qdS):Option qiG:=qjf _N _x.1 _x.2.1
theorem qiz(_N:Nat):SpecD Tryz.prog Gs 62 qdS qdQ (qaJ _N):=mkSpD (fn:=Tryz.f62) (c:=qh Tryz.f62) (C:=qoX _N)
  (a:=.two .none (.two (.draw 1 [.pure,.rd [0],.pure,.rd [1],.pure,.pure,.rd [0],.pure,.rd [1],.pure,.pure,.rd [0],.pure,.rd [1],.pure,.new 2,.rd [2],.pure]) .none))
  (by kernel_rfl) rfl (by kernel_rfl) (by kernel_rfl) ⟨rfl,by unfold TOk;kernel_rfl,qak rfl rfl (zD.2 ⟨qfF _N,(zD.2 ⟨qeu _N,(zD.2 ⟨qnY _N,(zC _)⟩)⟩)⟩),qaj rfl rfl (zC _),rfl⟩ (fun _x=>by kernel_rfl)
theorem qnW(_N:Nat):EntOk Tryz.prog Gs (mkP 62 qdS qdQ (qaJ _N)):=entP ⟨Tryz.f62,qh Tryz.f62,by kernel_rfl,by kernel_rfl,rfl⟩ (by kernel_rfl) (qiz _N)
shelf_lay_g SlLaysF0.n6 Slsf 6 at Tryz 61 as lay_sortS
theorem qDu:qcN Tryz.prog 61:=⟨Tryz.f61,qh Tryz.f61,by kernel_rfl,by kernel_rfl,rfl⟩
theorem qDs:qcN Tryz.prog 62:=⟨Tryz.f62,qh Tryz.f62,by kernel_rfl,by kernel_rfl,rfl⟩
theorem qDC(_N:Nat):EntOk Tryz.prog Gs (mkS 61 87 Sv 62 (fun p q=>(qaJ _N (p,q,())).map (·.1))):=entSK lay_sortS Tryz.isAgg87 Tryz.sizeOf87 qDu qDs (by kernel_rfl) rfl (qiz _N)
abbrev qas:List Kd:=[.dat (.sl Sv)]
abbrev qbN:Type:=List Yf
def qeg(_N:Nat):Ctx:={ T:=[(87,⟨.struct [(0,3),(1,3),(2,27)],3,40,some Sv,[.int .i64 (0:Int),.int .i64 (0:Int),.nil],false,[]⟩),(91,⟨.slice 87,1,24,some (.sl Sv),[.nil],false,[]⟩)],G:=findE [],I:=findI [],N:=_N,n:=8,fx:=[],fl:=0,gs:=Gs }
def qbP(_N:Nat)(_x1:List Yf):Option qbN:=
 (bif _x1.isEmpty then (dem2 (some []) (bif (decide ((([]:List Yf).length+_x1.length)*40<=140737488355328)&&Nat.ble 1 40) then (some (([]:List Yf)++_x1)) else none)) else (bif (decide ((([]:List Yf).length+_x1.length)*40<=140737488355328)&&Nat.ble 1 40) then (some (([]:List Yf)++_x1)) else none))
def qP(_N:Nat)(_x:Dens qas):Option qbN:=qbP _N _x.1
theorem qdU(_N:Nat):SpecF Tryz.prog Gs 60 qas 87 Sv (qP _N):=mkSpF (fn:=Tryz.f60) (c:=qh Tryz.f60) (C:=qeg _N)
  (a:=.none)
  (by kernel_rfl) rfl (by kernel_rfl) (by kernel_rfl) ⟨rfl,by unfold TOk;kernel_rfl,qak rfl rfl (zC _),qaj rfl rfl (zC _),rfl⟩ (fun _x=>by kernel_rfl)
theorem qdV(_N:Nat):EntOk Tryz.prog Gs (mkG 60 qas 87 Sv (qP _N)):=entG ⟨Tryz.f60,qh Tryz.f60,by kernel_rfl,by kernel_rfl,rfl⟩ (zG (by kernel_rfl)) (qdU _N)
abbrev qdq:List Kd:=[.dat Sv,.dat Sv]
abbrev qdo:List Kd:=[.dat (.bool)]
abbrev qiq:Type:=Dens qdo
def qoj(_N:Nat):Ctx:={ T:=[(87,⟨.struct [(0,3),(1,3),(2,27)],3,40,some Sv,[.int .i64 (0:Int),.int .i64 (0:Int),.nil],false,[]⟩)],G:=findE [mkP 62 qdS qdQ (qaJ _N)],I:=findI [],N:=_N,n:=9,fx:=[],fl:=0,gs:=Gs }
def qiy(_N:Nat)(_x1:Int×Int×List Int)(_x2:Int×Int×List Int):Option qiq:=
 ((qaJ _N ((_x1.1,(_x1.2.1,_x1.2.2)),(_x2.1,(_x2.2.1,_x2.2.2)),())).bind fun _y2=>(some ((_y2.1==(0:Int)),())))
def qbD(_N:Nat)(_x:Dens qdq):Option qiq:=qiy _N _x.1 _x.2.1
theorem qmG(_N:Nat):SpecD Tryz.prog Gs 64 qdq qdo (qbD _N):=mkSpD (fn:=Tryz.f64) (c:=qh Tryz.f64) (C:=qoj _N)
  (a:=.none)
  (by kernel_rfl) rfl (by kernel_rfl) (by kernel_rfl) ⟨rfl,by unfold TOk;kernel_rfl,qak rfl rfl (zD.2 ⟨qnW _N,(zC _)⟩),qaj rfl rfl (zC _),rfl⟩ (fun _x=>by kernel_rfl)
theorem qmW(_N:Nat):EntOk Tryz.prog Gs (mkP 64 qdq qdo (qbD _N)):=entP ⟨Tryz.f64,qh Tryz.f64,by kernel_rfl,by kernel_rfl,rfl⟩ (by kernel_rfl) (qmG _N)
abbrev qau:Sig:=⟨[.form (.slc 0 0),.form (.clo 64 [])],[.row false 0 87 Sv],
 [.dat false (.sl Sv)],[.row true 0 87 Sv],[]⟩
abbrev qf:Type:=(List Yf)×(List Yf)
def qcP(_N:Nat):Ctx:={ T:=[(87,⟨.struct [(0,3),(1,3),(2,27)],3,40,some Sv,[.int .i64 (0:Int),.int .i64 (0:Int),.nil],false,[]⟩),(91,⟨.slice 87,1,24,some (.sl Sv),[.nil],false,[]⟩)],G:=findE [mkP 64 qdq qdo (qbD _N)],I:=findI [],N:=_N,n:=66,fx:=[],fl:=1,gs:=Gs }
def qbk(_N:Nat)(_v17:List Yf):Option qf:=
 (some (_v17,_v17))
def qbj(_N:Nat)(_kn19:(List Yf)×Int->Option qf)(_v12:Int)(_v13:List Yf):Option qf:=
 (_kn19 (_v13,(IntKind.i64.wrap (_v12+(1:Int)))))
def qM(_N:Nat)(_v10:Int)(_v11:List Yf):Option qf:=
 (bif (decide (0<=_v10)&&decide (_v10<=(_v11.length:Int))) then (bif (decide (0<=(0:Int))&&(decide ((0:Int)<=_v10)&&decide (_v10<=((_v11.take _v10.toNat++List.replicate (_v11.length - _v10.toNat) ((0:Int),((0:Int),[]))).length:Int)))) then (some ((((_v11.take _v10.toNat++List.replicate (_v11.length - _v10.toNat) ((0:Int),((0:Int),[]))).take _v10.toNat).drop (0:Int).toNat),(_v11.take _v10.toNat++List.replicate (_v11.length - _v10.toNat) ((0:Int),((0:Int),[]))))) else none) else none)
def qL(_N:Nat)(_k22:(Int×(List Yf))->Option qf)(_v5:Nat)(_v4:Int)(_v6:Int)(_v7:List Yf)(_kn23:Nat×(Int×Int×(List Yf))->Option qf):Option qf:=
 (bif (decide (_v6<((_v7.length - _v5:Nat):Int))) then (bif (decide (0<=_v6)&&decide (_v6<((_v7.length - _v5:Nat):Int))) then (bif (decide (0<=(IntKind.i64.wrap (_v6 - (1:Int))))&&decide ((IntKind.i64.wrap (_v6 - (1:Int)))<((_v7.length - _v5:Nat):Int))) then ((qbD _N (((nth ((0:Int),((0:Int),[])) _v7 (_v5+(_v6).toNat)).1,(((nth ((0:Int),((0:Int),[])) _v7 (_v5+(_v6).toNat)).2).1,((nth ((0:Int),((0:Int),[])) _v7 (_v5+(_v6).toNat)).2).2)),((nth ((0:Int),((0:Int),[])) _v7 (_v5+(IntKind.i64.wrap (_v6 - (1:Int))).toNat)).1,(((nth ((0:Int),((0:Int),[])) _v7 (_v5+(IntKind.i64.wrap (_v6 - (1:Int))).toNat)).2).1,((nth ((0:Int),((0:Int),[])) _v7 (_v5+(IntKind.i64.wrap (_v6 - (1:Int))).toNat)).2).2)),())).bind fun _y24=>(bif (!_y24.1) then (bif (decide (0<=_v6)&&decide (_v6<((_v7.length - _v5:Nat):Int))) then (bif (decide (0<=_v4)&&decide (_v4<(_v7.length:Int))) then (_kn23 (_v5,((IntKind.i64.wrap (_v4+(1:Int))),(IntKind.i64.wrap (_v6+(1:Int))),(_v7.set ((_v4).toNat) ((nth ((0:Int),((0:Int),[])) _v7 (_v5+(_v6).toNat)).1,(((nth ((0:Int),((0:Int),[])) _v7 (_v5+(_v6).toNat)).2).1,((nth ((0:Int),((0:Int),[])) _v7 (_v5+(_v6).toNat)).2).2)))))) else none) else none) else (_kn23 (_v5,(_v4,(IntKind.i64.wrap (_v6+(1:Int))),_v7))))) else none) else none) else (_k22 (_v4,_v7)))
def qbi(_N:Nat)(_k18:(List Yf)->Option qf)(_v2:List Yf)(_v1:Int)(_kn19:(List Yf)×Int->Option qf):Option qf:=
 (bif (decide (_v1<(_v2.length:Int))) then (joinD (fun (_s:Int×(List Yf))=>qbj _N _kn19 _s.1 _s.2) fun _k20=>(bif (decide (0<=_v1)&&decide (_v1<(_v2.length:Int))) then (bif (decide (0<=(IntKind.i64.wrap (_v1 - (1:Int))))&&decide ((IntKind.i64.wrap (_v1 - (1:Int)))<(_v2.length:Int))) then ((qbD _N (((nth ((0:Int),((0:Int),[])) _v2 ((_v1).toNat)).1,(((nth ((0:Int),((0:Int),[])) _v2 ((_v1).toNat)).2).1,((nth ((0:Int),((0:Int),[])) _v2 ((_v1).toNat)).2).2)),((nth ((0:Int),((0:Int),[])) _v2 ((IntKind.i64.wrap (_v1 - (1:Int))).toNat)).1,(((nth ((0:Int),((0:Int),[])) _v2 ((IntKind.i64.wrap (_v1 - (1:Int))).toNat)).2).1,((nth ((0:Int),((0:Int),[])) _v2 ((IntKind.i64.wrap (_v1 - (1:Int))).toNat)).2).2)),())).bind fun _y21=>(bif _y21.1 then (bif (decide (0<=_v1)&&decide (_v1<=(_v2.length:Int))) then (joinD (fun (_s:Int×(List Yf))=>qM _N _s.1 _s.2) fun _k22=>(loopE (fun (_c:Nat) (_s:Int×Int×(List Yf)) _kn=>qL _N _k22 _c _s.1 _s.2.1 _s.2.2 _kn) _N _v1.toNat (_v1,(1:Int),_v2))) else none) else (_k20 (_v1,_v2)))) else none) else none)) else (_k18 _v2))
def qbh(_N:Nat)(_x1:List Yf):Option qf:=
 (bif (decide ((_x1.length:Int)<(2:Int))) then (some (_x1,_x1)) else (joinD (fun (_s:(List Yf))=>qbk _N _s) fun _k18=>(loopE (fun (_c:(List Yf)) (_s:Int) _kn=>qbi _N _k18 _c _s _kn) _N _x1 (1:Int))))
def qF(_N:Nat)(_x:(List Yf)):Option qf:=qbh _N _x
theorem qcD(_N:Nat):SpecH Tryz.prog Gs 63 qau (qF _N):=mkSpH (fn:=Tryz.f63) (c:=qh Tryz.f63) (C:=(qcP _N))
  (a:=.two .none (.two (.two .none (.two (.two (.shut 0 .none) .none) .none)) (.join 1 ⟨[(0,.slc 0 0)],[.row false 0 87 Sv]⟩ (.two .none (.one (.loop 1 ⟨[(0,.slc 0 0),(1,.clo 64 []),(5,.int .i64)],[.row false 0 87 Sv]⟩ [0] (.two .none (.join 1 ⟨[(0,.slc 0 0),(1,.clo 64 []),(5,.int .i64)],[.row false 0 87 Sv]⟩ (.one (.two (.draw 0 [.pure,.pure,.pure,.rd [0],.rd [0],.pure,.pure,.pure,.rd [0],.rd [0],.pure]) (.two (.two .none (.join 1 ⟨[(0,.slc 0 0),(5,.int .i64)],[.row false 0 87 Sv]⟩ (.two .none (.one (.loop 1 ⟨[(0,.slc 0 0),(1,.clo 64 []),(5,.int .i64),(6,.tl 0 0),(7,.int .i64)],[.row false 0 87 Sv]⟩ [0,2,3] (.two .none (.two (.one (.two (.draw 0 [.pure,.pure,.pure,.rd [0],.rd [0],.pure,.pure,.pure,.rd [0],.rd [0],.pure,.pure]) .none)) .none))))) (.two .none (.two (.shut 0 .none) .none)))) .none))) .none))))) (.two (.shut 0 .none) .none))))
  (by kernel_rfl) rfl (by kernel_rfl) (by kernel_rfl) (by kernel_rfl) rfl ⟨rfl,by unfold TOk;kernel_rfl,qak rfl rfl (zD.2 ⟨qmW _N,(zC _)⟩),qaj rfl rfl (zC _),rfl⟩ (fun _x=>by kernel_rfl)
theorem qcG(_N:Nat):EntOk Tryz.prog Gs (mkHe 63 qau (qF _N)):=entH ⟨Tryz.f63,qh Tryz.f63,by kernel_rfl,by kernel_rfl,rfl⟩ (qcD _N)
abbrev qeZ:List Kd:=[.dat (.sl Sv)]
abbrev qat:Type:=List Yf
def qsc(_N:Nat):Ctx:={ T:=[(27,⟨.slice 3,1,24,some SA,[.nil],false,[]⟩),(87,⟨.struct [(0,3),(1,3),(2,27)],3,40,some Sv,[.int .i64 (0:Int),.int .i64 (0:Int),.nil],false,[]⟩),(91,⟨.slice 87,1,24,some (.sl Sv),[.nil],false,[]⟩)],G:=findE [mkG 60 qas 87 Sv (qP _N),mkS 61 87 Sv 62 (fun p q=>(qaJ _N (p,q,())).map (·.1)),mkHe 63 qau (qF _N),mkF 38 qai 3 (.int .i64) (qB _N),mkP 59 qeP qeL (qcJ _N)],I:=findI [],N:=_N,n:=53,fx:=[1],fl:=0,gs:=Gs }
def qkP(_N:Nat)(_v57:List Yf):Option qat:=
 (some _v57)
def qhG(_N:Nat)(_kn62:((List Yf)×(List Yf)×Int×(List Yf))×(Int×(List Yf))->Option qat)(_v44:List Yf)(_v45:List Yf)(_v46:Int)(_v47:Int)(_v48:List Yf)(_v49:List Yf):Option qat:=
 (_kn62 ((_v44,_v45,_v46,_v48),((IntKind.i64.wrap (_v47+(1:Int))),_v49)))
def qkO(_N:Nat)(_k63:((List Yf)×(List Yf)×Int×Int×(List Yf)×(List Yf)×Int×Int×List Int)->Option qat)(_v24:List Yf)(_v25:Bool)(_v26:List Yf)(_v27:Int)(_v28:Int)(_v29:List Yf)(_v40:List Yf)(_v31:Int)(_v41:Int)(_v42:List Int):Option qat:=
 (bif _v25 then ((qB _N (_v42,())).bind fun _y64=>(bif (decide ((_v40.length+([(_v31,(_v41,_y64))]).length)*40<=140737488355328)&&Nat.ble 1 40) then (_k63 (_v24,_v26,_v27,_v28,_v29,(_v40 ++ [(_v31,(_v41,_y64))]),_v31,_v41,_y64)) else none)) else (_k63 (_v24,_v26,_v27,_v28,_v29,_v40,_v31,_v41,_v42)))
def qhF(_N:Nat)(_k65:((List Yf)×Bool×(List Yf)×Int×Int×(List Yf)×(List Yf)×Int×Int×List Int)->Option qat)(_v9:List Yf)(_v10:Int)(_v12:List Yf)(_v13:Int)(_v14:Int)(_v15:List Yf)(_v16:Int)(_v18:List Yf)(_v35:List Yf)(_v20:Int)(_v36:Int)(_v37:List Int)(_v11:Bool)(_v17:Int)(_kn66:((List Yf)×Int×(List Yf)×Int×Int×(List Yf)×Int×(List Yf)×(List Yf)×Int×Int×List Int)×(Bool×Int)->Option qat):Option qat:=
 (bif (decide (_v17<_v16)) then (bif (decide (0<=_v17)&&decide (_v17<(_v15.length:Int))) then (bif _v11 then (bif (_v10==_v17) then (_kn66 ((_v9,_v10,_v12,_v13,_v14,_v15,_v16,_v18,_v35,_v20,_v36,_v37),(true,(IntKind.i64.wrap (_v17+(1:Int)))))) else ((qcJ _N (((nth ((0:Int),((0:Int),[])) _v15 (_v17).toNat).1,(((nth ((0:Int),((0:Int),[])) _v15 (_v17).toNat).2).1,((nth ((0:Int),((0:Int),[])) _v15 (_v17).toNat).2).2)),(_v20,(_v36,_v37)),())).bind fun _y67=>(_kn66 ((_v9,_v10,_v12,_v13,_v14,_v15,_v16,_v18,_v35,_v20,_v36,_v37),((!_y67.1),(IntKind.i64.wrap (_v17+(1:Int)))))))) else (_kn66 ((_v9,_v10,_v12,_v13,_v14,_v15,_v16,_v18,_v35,_v20,_v36,_v37),(false,(IntKind.i64.wrap (_v17+(1:Int))))))) else none) else (_k65 (_v9,_v11,_v12,_v13,_v14,_v18,_v35,_v20,_v36,_v37)))
def qhE(_N:Nat)(_k61:((List Yf)×(List Yf))->Option qat)(_v4:List Yf)(_v5:List Yf)(_v6:Int)(_v8:List Yf)(_v7:Int)(_v34:List Yf)(_kn62:((List Yf)×(List Yf)×Int×(List Yf))×(Int×(List Yf))->Option qat):Option qat:=
 (bif (decide (_v7<_v6)) then (joinD (fun (_s:(List Yf)×(List Yf)×Int×Int×(List Yf)×(List Yf)×Int×Int×List Int)=>qhG _N _kn62 _s.1 _s.2.1 _s.2.2.1 _s.2.2.2.1 _s.2.2.2.2.1 _s.2.2.2.2.2.1) fun _k63=>(bif (decide (0<=_v7)&&decide (_v7<(_v5.length:Int))) then (joinD (fun (_s:(List Yf)×Bool×(List Yf)×Int×Int×(List Yf)×(List Yf)×Int×Int×List Int)=>qkO _N _k63 _s.1 _s.2.1 _s.2.2.1 _s.2.2.2.1 _s.2.2.2.2.1 _s.2.2.2.2.2.1 _s.2.2.2.2.2.2.1 _s.2.2.2.2.2.2.2.1 _s.2.2.2.2.2.2.2.2.1 _s.2.2.2.2.2.2.2.2.2) fun _k65=>(loopE (fun (_c:(List Yf)×Int×(List Yf)×Int×Int×(List Yf)×Int×(List Yf)×(List Yf)×Int×Int×List Int) (_s:Bool×Int) _kn=>qhF _N _k65 _c.1 _c.2.1 _c.2.2.1 _c.2.2.2.1 _c.2.2.2.2.1 _c.2.2.2.2.2.1 _c.2.2.2.2.2.2.1 _c.2.2.2.2.2.2.2.1 _c.2.2.2.2.2.2.2.2.1 _c.2.2.2.2.2.2.2.2.2.1 _c.2.2.2.2.2.2.2.2.2.2.1 _c.2.2.2.2.2.2.2.2.2.2.2 _s.1 _s.2 _kn) _N (_v4,_v7,_v5,_v6,_v7,_v4,(_v4.length:Int),_v8,_v34,(nth ((0:Int),((0:Int),[])) _v5 (_v7).toNat).1,((nth ((0:Int),((0:Int),[])) _v5 (_v7).toNat).2).1,((nth ((0:Int),((0:Int),[])) _v5 (_v7).toNat).2).2) (true,(0:Int)))) else none)) else (_k61 (_v8,_v34)))
def qkN(_N:Nat)(_x1:List Yf):Option qat:=
 ((qP _N (_x1,())).bind fun _y58=>((sortR (fun p q=>(qaJ _N (p,q,())).map (·.1)) _y58).bind fun _y59=>((qF _N _y59).bind fun _y60=>(joinD (fun (_s:(List Yf)×(List Yf))=>qkP _N _s.2) fun _k61=>(loopE (fun (_c:(List Yf)×(List Yf)×Int×(List Yf)) (_s:Int×(List Yf)) _kn=>qhE _N _k61 _c.1 _c.2.1 _c.2.2.1 _c.2.2.2 _s.1 _s.2 _kn) _N (_y60.1,_y60.1,(_y60.1.length:Int),_y60.2) ((0:Int),[]))))))
def qde(_N:Nat)(_x:Dens qeZ):Option qat:=qkN _N _x.1
theorem qpI(_N:Nat):SpecF Tryz.prog Gs 33 qeZ 87 Sv (qde _N):=mkSpF (fn:=Tryz.f33) (c:=qh Tryz.f33) (C:=qsc _N)
  (a:=.two .none (.two .none (.two .none (.two .none (.two .none (.join 2 ⟨[(3,.slc 1 0)],[.row true 0 87 Sv,.row false 0 87 Sv]⟩ (.two .none (.one (.obj 3 87 Sv (.loop 2 ⟨[(0,.sl Sv),(3,.slc 1 0),(15,.sl Sv),(16,.int .i64),(17,.int .i64)],[.row true 0 87 Sv,.row false 0 87 Sv]⟩ [3,5] (.two .none (.two .none (.join 3 ⟨[(0,.sl Sv),(3,.slc 1 0),(15,.sl Sv),(16,.int .i64),(17,.int .i64)],[.row true 0 87 Sv,.row false 0 87 Sv,.cells [.int .i64,.int .i64,.sl (.int .i64)]]⟩ (.one (.two .none (.two .none (.join 3 ⟨[(0,.sl Sv),(3,.slc 1 0),(5,.ptr 2 0),(6,.bool),(15,.sl Sv),(16,.int .i64),(17,.int .i64)],[.row true 0 87 Sv,.row false 0 87 Sv,.cells [.int .i64,.int .i64,.sl (.int .i64)]]⟩ (.two .none (.one (.loop 3 ⟨[(0,.sl Sv),(3,.slc 1 0),(4,.int .i64),(5,.ptr 2 0),(6,.bool),(15,.sl Sv),(16,.int .i64),(17,.int .i64),(22,.sl Sv),(23,.int .i64),(24,.int .i64)],[.row true 0 87 Sv,.row false 0 87 Sv,.cells [.int .i64,.int .i64,.sl (.int .i64)]]⟩ [2,8] .none))) .none)))) .none))))))) .none))))))
  (by kernel_rfl) rfl (by kernel_rfl) (by kernel_rfl) ⟨rfl,by unfold TOk;kernel_rfl,qak rfl rfl (zD.2 ⟨qdV _N,(zD.2 ⟨qDC _N,(zD.2 ⟨qcG _N,(zD.2 ⟨qbU _N,(zD.2 ⟨qml _N,(zC _)⟩)⟩)⟩)⟩)⟩),qaj rfl rfl (zC _),rfl⟩ (fun _x=>by kernel_rfl)
theorem qpV(_N:Nat):EntOk Tryz.prog Gs (mkG 33 qeZ 87 Sv (qde _N)):=entG ⟨Tryz.f33,qh Tryz.f33,by kernel_rfl,by kernel_rfl,rfl⟩ (zG (by kernel_rfl)) (qpI _N)
end Go.Proofs.YtgnnhemoocfclaaGreatDoor
end
