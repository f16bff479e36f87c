import Derived.Test.YtgnnhemoocfclaaGreatDoorRTim
noncomputable section
namespace Go.Proofs.YtgnnhemoocfclaaGreatDoor
open Go.Abs
abbrev SB:Sh:=.sl (.int .i64)
abbrev SA:Sh:=.pair (.int .i64) (.bool)
abbrev Sz:Sh:=.pair (.int .i64) (.pair (.int .i64) (.sl (.int .i64)))
abbrev Yi:Type:=Int×Bool
abbrev Yh:Type:=List (Int×Bool)
abbrev Yg:Type:=Int×Int×List Int
abbrev qdy:List Kd:=[.dat Sz]
abbrev qdv:List Kd:=[.dat (.int .i64)]
abbrev qmD:Type:=Dens qdv
def qvM(_N:Nat):Ctx:={ T:=[(3,⟨.int .i64,1,8,some (.int .i64),[.int .i64 (0:Int)],false,[]⟩),(27,⟨.slice 3,1,24,some SB,[.nil],false,[]⟩),(87,⟨.struct [(0,3),(1,3),(2,27)],3,40,some Sz,[.int .i64 (0:Int),.int .i64 (0:Int),.nil],false,[]⟩)],G:=findE [],I:=findI [],N:=_N,n:=9,fx:=[],fl:=0,gs:=Gs }
def qnw(_N:Nat)(_x1:Int×Int×List Int):Option qmD:=
 (some ((IntKind.i64.wrap (_x1.1+(_x1.2.2.length:Int))),()))
def qbx(_N:Nat)(_x:Dens qdy):Option qmD:=qnw _N _x.1
theorem qsI(_N:Nat):SpecD Tryz.prog Gs 66 qdy qdv (qbx _N):=mkSpD (fn:=Tryz.f66) (c:=qj Tryz.f66) (C:=qvM _N)
  (a:=.none)
  (by kernel_rfl) rfl (by kernel_rfl) (by kernel_rfl) ⟨rfl,by unfold TOk;kernel_rfl,qag rfl rfl (zC _),qaf rfl rfl (zC _),rfl⟩ (fun _x=>by kernel_rfl)
theorem qjh(_N:Nat):EntOk Tryz.prog Gs (mkP 66 qdy qdv (qbx _N)):=entP ⟨Tryz.f66,qj Tryz.f66,by kernel_rfl,by kernel_rfl,rfl⟩ (by kernel_rfl) (qsI _N)
abbrev qci:List Kd:=[.dat (.int .i64)]
abbrev qch:List Kd:=[.dat (.bool)]
abbrev qjN:Type:=Dens qch
def qqj(_N:Nat):Ctx:={ T:=[],G:=findE [],I:=findI [],N:=_N,n:=9,fx:=[],fl:=0,gs:=Gs }
def qkx(_N:Nat)(_x1:Int):Option qjN:=
 (bif (decide (_x1>=(0:Int))) then (some ((decide (_x1<=(1048576:Int))),())) else (some (false,())))
def qay(_N:Nat)(_x:Dens qci):Option qjN:=qkx _N _x.1
theorem qoz(_N:Nat):SpecD Tryz.prog Gs 67 qci qch (qay _N):=mkSpD (fn:=Tryz.f67) (c:=qj Tryz.f67) (C:=qqj _N)
  (a:=.none)
  (by kernel_rfl) rfl (by kernel_rfl) (by kernel_rfl) ⟨rfl,by unfold TOk;kernel_rfl,qag rfl rfl (zC _),qaf rfl rfl (zC _),rfl⟩ (fun _x=>by kernel_rfl)
theorem qgk(_N:Nat):EntOk Tryz.prog Gs (mkP 67 qci qch (qay _N)):=entP ⟨Tryz.f67,qj Tryz.f67,by kernel_rfl,by kernel_rfl,rfl⟩ (by kernel_rfl) (qoz _N)
abbrev qcu:List Kd:=[.dat Sz,.dat (.int .i64)]
abbrev qct:List Kd:=[.dat (.int .i64)]
abbrev qbS:Type:=Dens qct
def qsy(_N:Nat):Ctx:={ T:=[(3,⟨.int .i64,1,8,some (.int .i64),[.int .i64 (0:Int)],false,[]⟩),(27,⟨.slice 3,1,24,some SB,[.nil],false,[]⟩),(87,⟨.struct [(0,3),(1,3),(2,27)],3,40,some Sz,[.int .i64 (0:Int),.int .i64 (0:Int),.nil],false,[]⟩)],G:=findE [mkP 67 qci qch (qay _N)],I:=findI [],N:=_N,n:=48,fx:=[],fl:=0,gs:=Gs }
def qhN(_N:Nat):Option qbS:=
 (some ((0:Int),()))
def qfx(_N:Nat)(_k17:(Int×Int×List Int×List Int)->Option qbS)(_v5:Int)(_v7:Int)(_v8:Int)(_v9:List Int)(_v10:List Int)(_v6:Int)(_kn18:(Int×Int×Int×List Int×List Int)×Int->Option qbS):Option qbS:=
 (bif (decide (_v6<_v5)) then (bif (decide (0<=_v6)&&decide (_v6<(_v10.length:Int))) then ((qay _N ((nth (0:Int) _v10 ((_v6).toNat)),())).bind fun _y19=>(bif (!_y19.1) then (some ((2:Int),())) else (_kn18 ((_v5,_v7,_v8,_v9,_v10),(IntKind.i64.wrap (_v6+(1:Int))))))) else none) else (_k17 (_v7,_v8,_v9,_v10)))
def qle(_N:Nat)(_v1:Bool)(_v2:Int)(_v3:Int)(_v4:List Int):Option qbS:=
 (bif _v1 then (some ((1:Int),())) else (joinD (fun (_s:Int×Int×List Int×List Int)=>qhN _N) fun _k17=>(bif (decide ((([_v3]).length+_v4.length)*8<=140737488355328)&&Nat.ble 1 8) then (loopE (fun (_c:Int×Int×Int×List Int×List Int) (_s:Int) _kn=>qfx _N _k17 _c.1 _c.2.1 _c.2.2.1 _c.2.2.2.1 _c.2.2.2.2 _s _kn) _N ((([_v3]++_v4).length:Int),_v2,_v3,_v4,([_v3]++_v4)) (0:Int)) else none)))
def qld(_N:Nat)(_x1:Int×Int×List Int)(_x2:Int):Option qbS:=
 (joinD (fun (_s:Bool×Int×Int×List Int)=>qle _N _s.1 _s.2.1 _s.2.2.1 _s.2.2.2) fun _k20=>(bif (decide (_x2<(1:Int))) then (_k20 (true,_x1.1,_x1.2.1,_x1.2.2)) else (bif (decide (_x2>(4:Int))) then (_k20 (true,_x1.1,_x1.2.1,_x1.2.2)) else (bif (decide (_x1.1<(1:Int))) then (_k20 (true,_x1.1,_x1.2.1,_x1.2.2)) else (bif (decide (_x1.1>_x2)) then (_k20 (true,_x1.1,_x1.2.1,_x1.2.2)) else (_k20 ((decide ((_x1.2.2.length:Int)>(IntKind.i64.wrap ((4:Int) - _x1.1)))),_x1.1,_x1.2.1,_x1.2.2)))))))
def qaG(_N:Nat)(_x:Dens qcu):Option qbS:=qld _N _x.1 _x.2.1
theorem qpX(_N:Nat):SpecD Tryz.prog Gs 65 qcu qct (qaG _N):=mkSpD (fn:=Tryz.f65) (c:=qj Tryz.f65) (C:=qsy _N)
  (a:=.two .none (.two (.join 1 ⟨[(2,.ptr 0 0),(32,.bool)],[.cells [.int .i64,.int .i64,.sl (.int .i64)]]⟩ .none .none) (.join 2 ⟨[],[.cells [.int .i64,.int .i64,.sl (.int .i64)],.row false 1 3 (.int .i64)]⟩ (.two .none (.one (.loop 2 ⟨[(38,.slc 1 1),(39,.int .i64),(40,.int .i64)],[.cells [.int .i64,.int .i64,.sl (.int .i64)],.row false 1 3 (.int .i64)]⟩ [1] .none))) .none)))
  (by kernel_rfl) rfl (by kernel_rfl) (by kernel_rfl) ⟨rfl,by unfold TOk;kernel_rfl,qag rfl rfl (zD.2 ⟨qgk _N,(zC _)⟩),qaf rfl rfl (zC _),rfl⟩ (fun _x=>by kernel_rfl)
theorem qhi(_N:Nat):EntOk Tryz.prog Gs (mkP 65 qcu qct (qaG _N)):=entP ⟨Tryz.f65,qj Tryz.f65,by kernel_rfl,by kernel_rfl,rfl⟩ (by kernel_rfl) (qpX _N)
abbrev qeh:List Kd:=[.dat Sz]
abbrev qaH:Type:=List Yi
def qqk(_N:Nat):Ctx:={ T:=[(3,⟨.int .i64,1,8,some (.int .i64),[.int .i64 (0:Int)],false,[]⟩),(4,⟨.bool,1,1,some .bool,[.bool false],false,[]⟩),(27,⟨.slice 3,1,24,some SB,[.nil],false,[]⟩),(87,⟨.struct [(0,3),(1,3),(2,27)],3,40,some Sz,[.int .i64 (0:Int),.int .i64 (0:Int),.nil],false,[]⟩),(149,⟨.slice 152,1,24,some (.sl SA),[.nil],false,[]⟩),(152,⟨.struct [(0,3),(1,4)],2,16,some SA,[.int .i64 (0:Int),.bool false],true,[]⟩)],G:=findE [mkP 66 qdy qdv (qbx _N)],I:=findI [],N:=_N,n:=44,fx:=[1],fl:=0,gs:=Gs }
def qhd(_N:Nat)(_v22:List Yi):Option qaH:=
 (some _v22)
def qeQ(_N:Nat)(_k24:(Int×Int×List Int×Yh)->Option qaH)(_v12:List Int)(_v13:Int)(_v15:Int)(_v16:Int)(_v17:List Int)(_v14:Int)(_v18:List Yi)(_kn25:(List Int×Int×Int×Int×List Int)×(Int×Yh)->Option qaH):Option qaH:=
 (bif (decide (_v14<_v13)) then (bif (decide (0<=_v14)&&decide (_v14<(_v12.length:Int))) then (bif (decide ((_v18.length+([((nth (0:Int) _v12 (_v14).toNat),false)]).length)*16<=140737488355328)&&Nat.ble 1 16) then (_kn25 ((_v12,_v13,_v15,_v16,_v17),((IntKind.i64.wrap (_v14+(1:Int))),(_v18 ++ [((nth (0:Int) _v12 (_v14).toNat),false)])))) else none) else none) else (_k24 (_v15,_v16,_v17,_v18)))
def qhc(_N:Nat)(_v8:Int)(_v9:Int)(_v10:List Int)(_v11:List Yi):Option qaH:=
 (bif (decide (0<=(IntKind.i64.wrap (_v8 - (1:Int))))&&decide ((IntKind.i64.wrap (_v8 - (1:Int)))<(_v11.length:Int))) then (joinD (fun (_s:Int×Int×List Int×Yh)=>qhd _N _s.2.2.2) fun _k24=>(loopE (fun (_c:List Int×Int×Int×Int×List Int) (_s:Int×Yh) _kn=>qeQ _N _k24 _c.1 _c.2.1 _c.2.2.1 _c.2.2.2.1 _c.2.2.2.2 _s.1 _s.2 _kn) _N (_v10,(_v10.length:Int),_v8,_v9,_v10) ((0:Int),(_v11.set ((IntKind.i64.wrap (_v8 - (1:Int))).toNat) (_v9,(nth ((0:Int),false) _v11 ((IntKind.i64.wrap (_v8 - (1:Int))).toNat)).2))))) else none)
def qeP(_N:Nat)(_k26:(Int×Int×List Int×Yh)->Option qaH)(_v2:Int)(_v4:Int)(_v5:Int)(_v6:List Int)(_v3:Int)(_v7:List Yi)(_kn27:(Int×Int×Int×List Int)×(Int×Yh)->Option qaH):Option qaH:=
 (bif (decide (_v3<_v2)) then (bif (decide (0<=_v3)&&decide (_v3<(_v7.length:Int))) then (_kn27 ((_v2,_v4,_v5,_v6),((IntKind.i64.wrap (_v3+(1:Int))),(_v7.set ((_v3).toNat) ((nth ((0:Int),false) _v7 ((_v3).toNat)).1,true))))) else none) else (_k26 (_v4,_v5,_v6,_v7)))
def qky(_N:Nat)(_x1:Int×Int×List Int):Option qaH:=
 ((qbx _N ((_x1.1,(_x1.2.1,_x1.2.2)),())).bind fun _y23=>(bif (decide (0<=_x1.1)&&(decide (_x1.1<=_y23.1)&&decide (_y23.1*16<=281474976710656))) then (joinD (fun (_s:Int×Int×List Int×Yh)=>qhc _N _s.1 _s.2.1 _s.2.2.1 _s.2.2.2) fun _k26=>(loopE (fun (_c:Int×Int×Int×List Int) (_s:Int×Yh) _kn=>qeP _N _k26 _c.1 _c.2.1 _c.2.2.1 _c.2.2.2 _s.1 _s.2 _kn) _N (((List.replicate _x1.1.toNat ((0:Int),false)).length:Int),_x1.1,_x1.2.1,_x1.2.2) ((0:Int),(List.replicate _x1.1.toNat ((0:Int),false))))) else none))
def qbT(_N:Nat)(_x:Dens qeh):Option qaH:=qky _N _x.1
theorem qoA(_N:Nat):SpecF Tryz.prog Gs 82 qeh 152 SA (qbT _N):=mkSpF (fn:=Tryz.f82) (c:=qj Tryz.f82) (C:=qqk _N)
  (a:=.two .none (.two (.draw 1 [.pure,.rd [0],.rd [0],.pure,.new 1,.pure]) (.join 2 ⟨[(1,.ptr 0 0),(3,.slc 1 0)],[.cells [.int .i64,.int .i64,.sl (.int .i64)],.row false 0 152 SA]⟩ (.two .none (.one (.loop 2 ⟨[(1,.ptr 0 0),(3,.slc 1 0),(13,.int .i64),(14,.int .i64)],[.cells [.int .i64,.int .i64,.sl (.int .i64)],.row false 0 152 SA]⟩ [1,5] .none))) (.two .none (.join 2 ⟨[(3,.slc 1 0)],[.cells [.int .i64,.int .i64,.sl (.int .i64)],.row false 0 152 SA]⟩ (.two .none (.one (.loop 2 ⟨[(3,.slc 1 0),(31,.sl (.int .i64)),(32,.int .i64),(33,.int .i64)],[.cells [.int .i64,.int .i64,.sl (.int .i64)],.row false 0 152 SA]⟩ [2,6] .none))) .none)))))
  (by kernel_rfl) rfl (by kernel_rfl) (by kernel_rfl) ⟨rfl,by unfold TOk;kernel_rfl,qag rfl rfl (zD.2 ⟨qjh _N,(zC _)⟩),qaf rfl rfl (zC _),rfl⟩ (fun _x=>by kernel_rfl)
theorem qnM(_N:Nat):EntOk Tryz.prog Gs (mkQ 82 qeh [.dat (.sl SA)] (fun _x=>(qbT _N _x).map fun _y=>(_y,()))):=entQ ⟨Tryz.f82,qj Tryz.f82,by kernel_rfl,by kernel_rfl,rfl⟩ (qtx (qoA _N))
abbrev qeM:List Kd:=[.dat Sz,.dat Sz]
abbrev qeJ:List Kd:=[.dat (.bool)]
abbrev qbY:Type:=Dens qeJ
def qvN(_N:Nat):Ctx:={ T:=[(3,⟨.int .i64,1,8,some (.int .i64),[.int .i64 (0:Int)],false,[]⟩),(4,⟨.bool,1,1,some .bool,[.bool false],false,[]⟩),(87,⟨.struct [(0,3),(1,3),(2,27)],3,40,some Sz,[.int .i64 (0:Int),.int .i64 (0:Int),.nil],false,[]⟩),(149,⟨.slice 152,1,24,some (.sl SA),[.nil],false,[]⟩),(152,⟨.struct [(0,3),(1,4)],2,16,some SA,[.int .i64 (0:Int),.bool false],true,[]⟩)],G:=findE [mkP 65 qcu qct (qaG _N),mkP 66 qdy qdv (qbx _N),mkQ 82 qeh [.dat (.sl SA)] (fun _x=>(qbT _N _x).map fun _y=>(_y,()))],I:=findI [],N:=_N,n:=59,fx:=[],fl:=0,gs:=Gs }
def qjU(_N:Nat):Option qbY:=
 (some (true,()))
def qny(_N:Nat)(_kn47:(Yh×Yh×Int×Int×Int×List Int×Int×Int×List Int)×Int->Option qbY)(_v17:List Yi)(_v18:List Yi)(_v19:Int)(_v20:Int)(_v28:Int)(_v29:Int)(_v30:List Int)(_v31:Int)(_v32:Int)(_v33:List Int):Option qbY:=
 (_kn47 ((_v17,_v18,_v19,_v28,_v29,_v30,_v31,_v32,_v33),(IntKind.i64.wrap (_v20+(1:Int)))))
def qhq(_N:Nat)(_k46:(Int×Int×List Int×Int×Int×List Int)->Option qbY)(_v7:List Yi)(_v8:List Yi)(_v9:Int)(_v11:Int)(_v12:Int)(_v13:List Int)(_v14:Int)(_v15:Int)(_v16:List Int)(_v10:Int)(_kn47:(Yh×Yh×Int×Int×Int×List Int×Int×Int×List Int)×Int->Option qbY):Option qbY:=
 (bif (decide (_v10<_v9)) then (joinD (fun (_s:Yh×Yh×Int×Int×Yh×Int×Yi×Bool×Bool×Bool×Bool×Int×Int×List Int×Int×Int×List Int)=>qny _N _kn47 _s.1 _s.2.1 _s.2.2.1 _s.2.2.2.1 _s.2.2.2.2.2.2.2.2.2.2.2.1 _s.2.2.2.2.2.2.2.2.2.2.2.2.1 _s.2.2.2.2.2.2.2.2.2.2.2.2.2.1 _s.2.2.2.2.2.2.2.2.2.2.2.2.2.2.1 _s.2.2.2.2.2.2.2.2.2.2.2.2.2.2.2.1 _s.2.2.2.2.2.2.2.2.2.2.2.2.2.2.2.2) fun _k48=>(bif (decide (0<=_v10)&&decide (_v10<(_v7.length:Int))) then (bif (decide (0<=_v10)&&decide (_v10<(_v8.length:Int))) then (bif (decide (((nth ((0:Int),false) _v7 (_v10).toNat).1)>((nth ((0:Int),false) _v8 (_v10).toNat).1))) then (some (false,())) else (bif (decide (0<=_v10)&&decide (_v10<(_v7.length:Int))) then (bif (nth ((0:Int),false) _v7 (_v10).toNat).2 then (bif (decide (0<=_v10)&&decide (_v10<(_v8.length:Int))) then (bif (!(nth ((0:Int),false) _v8 (_v10).toNat).2) then (some (false,())) else (_k48 (_v7,_v8,_v9,_v10,_v7,_v10,(nth ((0:Int),false) _v7 (_v10).toNat),(nth ((0:Int),false) _v7 (_v10).toNat).2,(nth ((0:Int),false) _v7 (_v10).toNat).2,true,(!(nth ((0:Int),false) _v8 (_v10).toNat).2),_v11,_v12,_v13,_v14,_v15,_v16))) else none) else (_k48 (_v7,_v8,_v9,_v10,_v7,_v10,(nth ((0:Int),false) _v7 (_v10).toNat),(nth ((0:Int),false) _v7 (_v10).toNat).2,(nth ((0:Int),false) _v7 (_v10).toNat).2,false,false,_v11,_v12,_v13,_v14,_v15,_v16))) else none)) else none) else none)) else (_k46 (_v11,_v12,_v13,_v14,_v15,_v16)))
def qnx(_N:Nat)(_x1:Int×Int×List Int)(_x2:Int×Int×List Int):Option qbY:=
 ((qaG _N ((_x1.1,(_x1.2.1,_x1.2.2)),(4:Int),())).bind fun _y40=>(bif (_y40.1 != (0:Int)) then (some (false,())) else ((qaG _N ((_x2.1,(_x2.2.1,_x2.2.2)),(4:Int),())).bind fun _y41=>(bif (_y41.1 != (0:Int)) then (some (false,())) else ((qbx _N ((_x1.1,(_x1.2.1,_x1.2.2)),())).bind fun _y42=>((qbx _N ((_x2.1,(_x2.2.1,_x2.2.2)),())).bind fun _y43=>(bif (_y42.1 != _y43.1) then (some (false,())) else (((fun _x=>(qbT _N _x).map fun _y=>(_y,())) ((_x1.1,(_x1.2.1,_x1.2.2)),())).bind fun _y44=>(((fun _x=>(qbT _N _x).map fun _y=>(_y,())) ((_x2.1,(_x2.2.1,_x2.2.2)),())).bind fun _y45=>(joinD (fun (_s:Int×Int×List Int×Int×Int×List Int)=>qjU _N) fun _k46=>(loopE (fun (_c:Yh×Yh×Int×Int×Int×List Int×Int×Int×List Int) (_s:Int) _kn=>qhq _N _k46 _c.1 _c.2.1 _c.2.2.1 _c.2.2.2.1 _c.2.2.2.2.1 _c.2.2.2.2.2.1 _c.2.2.2.2.2.2.1 _c.2.2.2.2.2.2.2.1 _c.2.2.2.2.2.2.2.2 _s _kn) _N (_y44.1,_y45.1,(_y44.1.length:Int),_x1.1,_x1.2.1,_x1.2.2,_x2.1,_x2.2.1,_x2.2.2) (0:Int))))))))))))
def qcG(_N:Nat)(_x:Dens qeM):Option qbY:=qnx _N _x.1 _x.2.1
theorem qsJ(_N:Nat):SpecD Tryz.prog Gs 59 qeM qeJ (qcG _N):=mkSpD (fn:=Tryz.f59) (c:=qj Tryz.f59) (C:=qvN _N)
  (a:=.two .none (.two (.two (.draw 0 [.rd [0],.pure,.pure,.pure,.rd [1],.pure,.pure,.pure,.pure,.rd [0],.pure,.rd [1],.pure,.pure,.pure]) .none) (.two (.draw 0 [.rd [0],.pure,.rd [1],.pure,.pure,.pure]) (.join 2 ⟨[],[.cells [.int .i64,.int .i64,.sl (.int .i64)],.cells [.int .i64,.int .i64,.sl (.int .i64)]]⟩ (.two .none (.one (.loop 2 ⟨[(5,.sl SA),(6,.sl SA),(28,.int .i64),(29,.int .i64)],[.cells [.int .i64,.int .i64,.sl (.int .i64)],.cells [.int .i64,.int .i64,.sl (.int .i64)]]⟩ [3] (.two .none (.two .none (.join 2 ⟨[(5,.sl SA),(6,.sl SA),(28,.int .i64),(29,.int .i64),(44,.sl SA),(45,.int .i64),(46,.fptr SA),(47,.fptr .bool),(48,.bool),(49,.bool),(56,.bool)],[.cells [.int .i64,.int .i64,.sl (.int .i64)],.cells [.int .i64,.int .i64,.sl (.int .i64)]]⟩ (.one (.two .none (.two (.draw 0 (.pure :: .pure :: .pure :: .pure :: .pure :: .pure :: .pure :: .pure :: .pure :: .pure :: .pure :: .pure :: .pure :: .pure :: .pure :: .pure :: .pure :: .pure :: .pure :: .pure :: .pure :: .pure :: .pure :: .pure :: .pure :: .pure :: [])) .none))) .none)))))) .none))))
  (by kernel_rfl) rfl (by kernel_rfl) (by kernel_rfl) ⟨rfl,by unfold TOk;kernel_rfl,qag rfl rfl (zD.2 ⟨qhi _N,(zD.2 ⟨qjh _N,(zD.2 ⟨qnM _N,(zC _)⟩)⟩)⟩),qaf rfl rfl (zC _),rfl⟩ (fun _x=>by kernel_rfl)
theorem qmv(_N:Nat):EntOk Tryz.prog Gs (mkP 59 qeM qeJ (qcG _N)):=entP ⟨Tryz.f59,qj Tryz.f59,by kernel_rfl,by kernel_rfl,rfl⟩ (by kernel_rfl) (qsJ _N)
abbrev qfR:List Kd:=[.dat Sz,.dat Sz]
abbrev qfM:List Kd:=[.dat Sz,.dat (.int .i64)]
abbrev qlI:Type:=Dens qfM
def qts(_N:Nat):Ctx:={ T:=[(3,⟨.int .i64,1,8,some (.int .i64),[.int .i64 (0:Int)],false,[]⟩),(27,⟨.slice 3,1,24,some SB,[.nil],false,[]⟩),(87,⟨.struct [(0,3),(1,3),(2,27)],3,40,some Sz,[.int .i64 (0:Int),.int .i64 (0:Int),.nil],false,[]⟩)],G:=findE [mkP 65 qcu qct (qaG _N),mkP 66 qdy qdv (qbx _N),mkP 67 qci qch (qay _N),mkF 38 qai 3 (.int .i64) (qE _N)],I:=findI [],N:=_N,n:=83,fx:=[],fl:=0,gs:=Gs }
def qmq(_N:Nat)(_x1:Int×Int×List Int)(_x2:Int×Int×List Int):Option qlI:=
 ((qaG _N ((_x1.1,(_x1.2.1,_x1.2.2)),(4:Int),())).bind fun _y8=>(bif (_y8.1 != (0:Int)) then (some (((0:Int),((0:Int),[])),_y8.1,())) else ((qbx _N ((_x1.1,(_x1.2.1,_x1.2.2)),())).bind fun _y9=>((qaG _N ((_x2.1,(_x2.2.1,_x2.2.2)),_y9.1,())).bind fun _y10=>(bif (_y10.1 != (0:Int)) then (some (((0:Int),((0:Int),[])),_y10.1,())) else (bif ((IntKind.i64.wrap (_x2.1 - _x1.1))==(0:Int)) then ((qay _N ((IntKind.i64.wrap (_x2.2.1+_x1.2.1)),())).bind fun _y11=>(bif (!_y11.1) then (some (((0:Int),((0:Int),[])),(6:Int),())) else (bif (decide (_x2.2.2.length*8<=140737488355328)&&Nat.ble 1 8) then (some ((_x2.1,((IntKind.i64.wrap (_x2.2.1+_x1.2.1)),_x2.2.2)),(0:Int),())) else none))) else (bif (decide ((IntKind.i64.wrap (_x2.1 - _x1.1))>(0:Int))) then (bif (decide (0<=(0:Int))&&(decide ((0:Int)<=(IntKind.i64.wrap (_x2.1 - _x1.1)))&&decide ((IntKind.i64.wrap (_x2.1 - _x1.1))<=(_x1.2.2.length:Int)))) then ((qE _N (((_x1.2.2.take (IntKind.i64.wrap (_x2.1 - _x1.1)).toNat).drop (0:Int).toNat),())).bind fun _y12=>(bif (decide (0<=(IntKind.i64.wrap ((IntKind.i64.wrap (_x2.1 - _x1.1)) - (1:Int))))&&decide ((IntKind.i64.wrap ((IntKind.i64.wrap (_x2.1 - _x1.1)) - (1:Int)))<(_y12.length:Int))) then ((qay _N ((nth (0:Int) (_y12.set ((IntKind.i64.wrap ((IntKind.i64.wrap (_x2.1 - _x1.1)) - (1:Int))).toNat) (IntKind.i64.wrap ((nth (0:Int) _y12 ((IntKind.i64.wrap ((IntKind.i64.wrap (_x2.1 - _x1.1)) - (1:Int))).toNat))+_x2.2.1))) ((IntKind.i64.wrap ((IntKind.i64.wrap (_x2.1 - _x1.1)) - (1:Int))).toNat)),())).bind fun _y13=>(bif (!_y13.1) then (some (((0:Int),((0:Int),[])),(6:Int),())) else (bif (decide (((_y12.set ((IntKind.i64.wrap ((IntKind.i64.wrap (_x2.1 - _x1.1)) - (1:Int))).toNat) (IntKind.i64.wrap ((nth (0:Int) _y12 ((IntKind.i64.wrap ((IntKind.i64.wrap (_x2.1 - _x1.1)) - (1:Int))).toNat))+_x2.2.1))).length+_x2.2.2.length)*8<=140737488355328)&&Nat.ble 1 8) then (some ((_x1.1,(_x1.2.1,((_y12.set ((IntKind.i64.wrap ((IntKind.i64.wrap (_x2.1 - _x1.1)) - (1:Int))).toNat) (IntKind.i64.wrap ((nth (0:Int) _y12 ((IntKind.i64.wrap ((IntKind.i64.wrap (_x2.1 - _x1.1)) - (1:Int))).toNat))+_x2.2.1)))++_x2.2.2))),(0:Int),())) else none))) else none)) else none) else ((qay _N (_x2.2.1,())).bind fun _y14=>(bif (!_y14.1) then (some (((0:Int),((0:Int),[])),(6:Int),())) else (bif (decide (_x2.2.2.length*8<=140737488355328)&&Nat.ble 1 8) then (some ((_x2.1,(_x2.2.1,_x2.2.2)),(0:Int),())) else none))))))))))
def qdz(_N:Nat)(_x:Dens qfR):Option qlI:=qmq _N _x.1 _x.2.1
theorem qqK(_N:Nat):SpecD Tryz.prog Gs 35 qfR qfM (qdz _N):=mkSpD (fn:=Tryz.f35) (c:=qj Tryz.f35) (C:=qts _N)
  (a:=.two .none (.two .none (.two (.two (.draw 0 [.rd [1],.rd [0],.pure,.pure,.pure]) .none) (.two .none (.two .none (.two (.two .none (.one (.two .none (.two .none (.two .none (.two (.two (.draw 1 [.pure,.rd [0],.pure,.rd [0],.pure,.rd [0],.pure,.pure,.new 4,.pure,.wr [3,4]]) (.two .none (.draw 0 [.pure,.rd [4],.rd [4],.pure,.rd [1],.pure,.rd [4],.wr [4]]))) .none)))))) .none))))))
  (by kernel_rfl) rfl (by kernel_rfl) (by kernel_rfl) ⟨rfl,by unfold TOk;kernel_rfl,qag rfl rfl (zD.2 ⟨qhi _N,(zD.2 ⟨qjh _N,(zD.2 ⟨qgk _N,(zD.2 ⟨qbM _N,(zC _)⟩)⟩)⟩)⟩),qaf rfl rfl (zC _),rfl⟩ (fun _x=>by kernel_rfl)
theorem qqd(_N:Nat):EntOk Tryz.prog Gs (mkQ 35 qfR qfM (qdz _N)):=entQ ⟨Tryz.f35,qj Tryz.f35,by kernel_rfl,by kernel_rfl,rfl⟩ (qqK _N)
abbrev qfS:List Kd:=[.dat SB]
abbrev qfN:List Kd:=[.dat (.int .i64)]
abbrev qeb:Type:=Dens qfN
def qxN(_N:Nat):Ctx:={ T:=[(3,⟨.int .i64,1,8,some (.int .i64),[.int .i64 (0:Int)],false,[]⟩),(27,⟨.slice 3,1,24,some SB,[.nil],false,[]⟩)],G:=findE [],I:=findI [],N:=_N,n:=18,fx:=[],fl:=0,gs:=Gs }
def qgU(_N:Nat)(_v5:Int):Option qeb:=
 (some (_v5,()))
def qft(_N:Nat)(_k6:Int->Option qeb)(_v1:Int)(_v2:List Int)(_v3:Int)(_v4:Int)(_kn7:(Int×List Int×Int)×Int->Option qeb):Option qeb:=
 (bif (decide (_v4<_v3)) then (bif (decide (0<=_v4)&&decide (_v4<(_v2.length:Int))) then (bif ((nth (0:Int) _v2 (_v4).toNat) != _v1) then (some ((nth (0:Int) _v2 (_v4).toNat),())) else (_kn7 ((_v1,_v2,_v3),(IntKind.i64.wrap (_v4+(1:Int)))))) else none) else (_k6 _v1))
def qlA(_N:Nat)(_x1:List Int):Option qeb:=
 (joinD (fun (_s:Int)=>qgU _N _s) fun _k6=>(loopE (fun (_c:Int×List Int×Int) (_s:Int) _kn=>qft _N _k6 _c.1 _c.2.1 _c.2.2 _s _kn) _N ((0:Int),_x1,(_x1.length:Int)) (0:Int)))
def qca(_N:Nat)(_x:Dens qfS):Option qeb:=qlA _N _x.1
theorem qux(_N:Nat):SpecD Tryz.prog Gs 41 qfS qfN (qca _N):=mkSpD (fn:=Tryz.f41) (c:=qj Tryz.f41) (C:=qxN _N)
  (a:=.two .none (.two .none (.join 0 ⟨[(3,.int .i64)],[]⟩ (.two .none (.one (.loop 0 ⟨[(3,.int .i64),(6,.sl (.int .i64)),(7,.int .i64),(8,.int .i64)],[]⟩ [3] .none))) .none)))
  (by kernel_rfl) rfl (by kernel_rfl) (by kernel_rfl) ⟨rfl,by unfold TOk;kernel_rfl,qag rfl rfl (zC _),qaf rfl rfl (zC _),rfl⟩ (fun _x=>by kernel_rfl)
theorem qoj(_N:Nat):EntOk Tryz.prog Gs (mkP 41 qfS qfN (qca _N)):=entP ⟨Tryz.f41,qj Tryz.f41,by kernel_rfl,by kernel_rfl,rfl⟩ (by kernel_rfl) (qux _N)
abbrev qdE:List Kd:=[.dat Sz,.dat Sz]
abbrev qdC:List Kd:=[.dat (.int .i64)]
abbrev qiO:Type:=Dens qdC
def qpk(_N:Nat):Ctx:={ T:=[(3,⟨.int .i64,1,8,some (.int .i64),[.int .i64 (0:Int)],false,[]⟩),(27,⟨.slice 3,1,24,some SB,[.nil],false,[]⟩),(87,⟨.struct [(0,3),(1,3),(2,27)],3,40,some Sz,[.int .i64 (0:Int),.int .i64 (0:Int),.nil],false,[]⟩)],G:=findE [mkP 42 qbP qbO (qaA _N),mkP 43 qaX qaW (qK _N),mkP 41 qfS qfN (qca _N)],I:=findI [],N:=_N,n:=22,fx:=[],fl:=0,gs:=Gs }
def qjn(_N:Nat)(_x1:Int×Int×List Int)(_x2:Int×Int×List Int):Option qiO:=
 ((qaA _N (_x1.1,_x2.1,())).bind fun _y5=>((qaA _N (_x1.2.1,_x2.2.1,())).bind fun _y6=>((qK _N (_x1.2.2,_x2.2.2,())).bind fun _y7=>((qca _N ([_y5.1,_y6.1,_y7.1],())).bind fun _y8=>(some (_y8.1,()))))))
def qaI(_N:Nat)(_x:Dens qdE):Option qiO:=qjn _N _x.1 _x.2.1
theorem qiG(_N:Nat):SpecD Tryz.prog Gs 62 qdE qdC (qaI _N):=mkSpD (fn:=Tryz.f62) (c:=qj Tryz.f62) (C:=qpk _N)
  (a:=.two .none (.two (.draw 1 [.pure,.rd [0],.pure,.rd [1],.pure,.pure,.rd [0],.pure,.rd [1],.pure,.pure,.rd [0],.pure,.rd [1],.pure,.new 2,.rd [2],.pure]) .none))
  (by kernel_rfl) rfl (by kernel_rfl) (by kernel_rfl) ⟨rfl,by unfold TOk;kernel_rfl,qag rfl rfl (zD.2 ⟨qfF _N,(zD.2 ⟨qet _N,(zD.2 ⟨qoj _N,(zC _)⟩)⟩)⟩),qaf rfl rfl (zC _),rfl⟩ (fun _x=>by kernel_rfl)
theorem qoh(_N:Nat):EntOk Tryz.prog Gs (mkP 62 qdE qdC (qaI _N)):=entP ⟨Tryz.f62,qj Tryz.f62,by kernel_rfl,by kernel_rfl,rfl⟩ (by kernel_rfl) (qiG _N)
shelf_lay_g SlLaysF0.n6 Slsf 6 at Tryz 61 as lay_sortS
theorem qEf:qcK Tryz.prog 61:=⟨Tryz.f61,qj Tryz.f61,by kernel_rfl,by kernel_rfl,rfl⟩
theorem qEd:qcK Tryz.prog 62:=⟨Tryz.f62,qj Tryz.f62,by kernel_rfl,by kernel_rfl,rfl⟩
theorem qEn(_N:Nat):EntOk Tryz.prog Gs (mkS 61 87 Sz 62 (fun p q=>(qaI _N (p,q,())).map (·.1))):=entSK lay_sortS Tryz.isAgg87 Tryz.sizeOf87 qEf qEd (by kernel_rfl) rfl (qiG _N)
abbrev qar:List Kd:=[.dat (.sl Sz)]
abbrev qbH:Type:=List Yg
def qdV(_N:Nat):Ctx:={ T:=[(87,⟨.struct [(0,3),(1,3),(2,27)],3,40,some Sz,[.int .i64 (0:Int),.int .i64 (0:Int),.nil],false,[]⟩),(91,⟨.slice 87,1,24,some (.sl Sz),[.nil],false,[]⟩)],G:=findE [],I:=findI [],N:=_N,n:=8,fx:=[],fl:=0,gs:=Gs }
def qbJ(_N:Nat)(_x1:List Yg):Option qbH:=
 (bif _x1.isEmpty then (dem2 (some []) (bif (decide ((([]:List Yg).length+_x1.length)*40<=140737488355328)&&Nat.ble 1 40) then (some (([]:List Yg)++_x1)) else none)) else (bif (decide ((([]:List Yg).length+_x1.length)*40<=140737488355328)&&Nat.ble 1 40) then (some (([]:List Yg)++_x1)) else none))
def qO(_N:Nat)(_x:Dens qar):Option qbH:=qbJ _N _x.1
theorem qdG(_N:Nat):SpecF Tryz.prog Gs 60 qar 87 Sz (qO _N):=mkSpF (fn:=Tryz.f60) (c:=qj Tryz.f60) (C:=qdV _N)
  (a:=.none)
  (by kernel_rfl) rfl (by kernel_rfl) (by kernel_rfl) ⟨rfl,by unfold TOk;kernel_rfl,qag rfl rfl (zC _),qaf rfl rfl (zC _),rfl⟩ (fun _x=>by kernel_rfl)
theorem qdH(_N:Nat):EntOk Tryz.prog Gs (mkG 60 qar 87 Sz (qO _N)):=entG ⟨Tryz.f60,qj Tryz.f60,by kernel_rfl,by kernel_rfl,rfl⟩ (zG (by kernel_rfl)) (qdG _N)
abbrev qdf:List Kd:=[.dat Sz,.dat Sz]
abbrev qdd:List Kd:=[.dat (.bool)]
abbrev qix:Type:=Dens qdd
def qov(_N:Nat):Ctx:={ T:=[(87,⟨.struct [(0,3),(1,3),(2,27)],3,40,some Sz,[.int .i64 (0:Int),.int .i64 (0:Int),.nil],false,[]⟩)],G:=findE [mkP 62 qdE qdC (qaI _N)],I:=findI [],N:=_N,n:=9,fx:=[],fl:=0,gs:=Gs }
def qiF(_N:Nat)(_x1:Int×Int×List Int)(_x2:Int×Int×List Int):Option qix:=
 ((qaI _N ((_x1.1,(_x1.2.1,_x1.2.2)),(_x2.1,(_x2.2.1,_x2.2.2)),())).bind fun _y2=>(some ((_y2.1==(0:Int)),())))
def qby(_N:Nat)(_x:Dens qdf):Option qix:=qiF _N _x.1 _x.2.1
theorem qmP(_N:Nat):SpecD Tryz.prog Gs 64 qdf qdd (qby _N):=mkSpD (fn:=Tryz.f64) (c:=qj Tryz.f64) (C:=qov _N)
  (a:=.none)
  (by kernel_rfl) rfl (by kernel_rfl) (by kernel_rfl) ⟨rfl,by unfold TOk;kernel_rfl,qag rfl rfl (zD.2 ⟨qoh _N,(zC _)⟩),qaf rfl rfl (zC _),rfl⟩ (fun _x=>by kernel_rfl)
theorem qnf(_N:Nat):EntOk Tryz.prog Gs (mkP 64 qdf qdd (qby _N)):=entP ⟨Tryz.f64,qj Tryz.f64,by kernel_rfl,by kernel_rfl,rfl⟩ (by kernel_rfl) (qmP _N)
abbrev qat:Sig:=⟨[.form (.slc 0 0),.form (.clo 64 [])],[.row false 0 87 Sz],
 [.dat false (.sl Sz)],[.row true 0 87 Sz],[]⟩
abbrev qf:Type:=(List Yg)×(List Yg)
def qcN(_N:Nat):Ctx:={ T:=[(87,⟨.struct [(0,3),(1,3),(2,27)],3,40,some Sz,[.int .i64 (0:Int),.int .i64 (0:Int),.nil],false,[]⟩),(91,⟨.slice 87,1,24,some (.sl Sz),[.nil],false,[]⟩)],G:=findE [mkP 64 qdf qdd (qby _N)],I:=findI [],N:=_N,n:=66,fx:=[],fl:=1,gs:=Gs }
def qbg(_N:Nat)(_v17:List Yg):Option qf:=
 (some (_v17,_v17))
def qbf(_N:Nat)(_kn19:(List Yg)×Int->Option qf)(_v12:Int)(_v13:List Yg):Option qf:=
 (_kn19 (_v13,(IntKind.i64.wrap (_v12+(1:Int)))))
def qM(_N:Nat)(_v10:Int)(_v11:List Yg):Option qf:=
 (bif (decide (0<=_v10)&&decide (_v10<=(_v11.length:Int))) then (bif (decide (0<=(0:Int))&&(decide ((0:Int)<=_v10)&&decide (_v10<=((_v11.take _v10.toNat++List.replicate (_v11.length - _v10.toNat) ((0:Int),((0:Int),[]))).length:Int)))) then (some ((((_v11.take _v10.toNat++List.replicate (_v11.length - _v10.toNat) ((0:Int),((0:Int),[]))).take _v10.toNat).drop (0:Int).toNat),(_v11.take _v10.toNat++List.replicate (_v11.length - _v10.toNat) ((0:Int),((0:Int),[]))))) else none) else none)
def qL(_N:Nat)(_k22:(Int×(List Yg))->Option qf)(_v5:Nat)(_v4:Int)(_v6:Int)(_v7:List Yg)(_kn23:Nat×(Int×Int×(List Yg))->Option qf):Option qf:=
 (bif (decide (_v6<((_v7.length - _v5:Nat):Int))) then (bif (decide (0<=_v6)&&decide (_v6<((_v7.length - _v5:Nat):Int))) then (bif (decide (0<=(IntKind.i64.wrap (_v6 - (1:Int))))&&decide ((IntKind.i64.wrap (_v6 - (1:Int)))<((_v7.length - _v5:Nat):Int))) then ((qby _N (((nth ((0:Int),((0:Int),[])) _v7 (_v5+(_v6).toNat)).1,(((nth ((0:Int),((0:Int),[])) _v7 (_v5+(_v6).toNat)).2).1,((nth ((0:Int),((0:Int),[])) _v7 (_v5+(_v6).toNat)).2).2)),((nth ((0:Int),((0:Int),[])) _v7 (_v5+(IntKind.i64.wrap (_v6 - (1:Int))).toNat)).1,(((nth ((0:Int),((0:Int),[])) _v7 (_v5+(IntKind.i64.wrap (_v6 - (1:Int))).toNat)).2).1,((nth ((0:Int),((0:Int),[])) _v7 (_v5+(IntKind.i64.wrap (_v6 - (1:Int))).toNat)).2).2)),())).bind fun _y24=>(bif (!_y24.1) then (bif (decide (0<=_v6)&&decide (_v6<((_v7.length - _v5:Nat):Int))) then (bif (decide (0<=_v4)&&decide (_v4<(_v7.length:Int))) then (_kn23 (_v5,((IntKind.i64.wrap (_v4+(1:Int))),(IntKind.i64.wrap (_v6+(1:Int))),(_v7.set ((_v4).toNat) ((nth ((0:Int),((0:Int),[])) _v7 (_v5+(_v6).toNat)).1,(((nth ((0:Int),((0:Int),[])) _v7 (_v5+(_v6).toNat)).2).1,((nth ((0:Int),((0:Int),[])) _v7 (_v5+(_v6).toNat)).2).2)))))) else none) else none) else (_kn23 (_v5,(_v4,(IntKind.i64.wrap (_v6+(1:Int))),_v7))))) else none) else none) else (_k22 (_v4,_v7)))
def qbe(_N:Nat)(_k18:(List Yg)->Option qf)(_v2:List Yg)(_v1:Int)(_kn19:(List Yg)×Int->Option qf):Option qf:=
 (bif (decide (_v1<(_v2.length:Int))) then (joinD (fun (_s:Int×(List Yg))=>qbf _N _kn19 _s.1 _s.2) fun _k20=>(bif (decide (0<=_v1)&&decide (_v1<(_v2.length:Int))) then (bif (decide (0<=(IntKind.i64.wrap (_v1 - (1:Int))))&&decide ((IntKind.i64.wrap (_v1 - (1:Int)))<(_v2.length:Int))) then ((qby _N (((nth ((0:Int),((0:Int),[])) _v2 ((_v1).toNat)).1,(((nth ((0:Int),((0:Int),[])) _v2 ((_v1).toNat)).2).1,((nth ((0:Int),((0:Int),[])) _v2 ((_v1).toNat)).2).2)),((nth ((0:Int),((0:Int),[])) _v2 ((IntKind.i64.wrap (_v1 - (1:Int))).toNat)).1,(((nth ((0:Int),((0:Int),[])) _v2 ((IntKind.i64.wrap (_v1 - (1:Int))).toNat)).2).1,((nth ((0:Int),((0:Int),[])) _v2 ((IntKind.i64.wrap (_v1 - (1:Int))).toNat)).2).2)),())).bind fun _y21=>(bif _y21.1 then (bif (decide (0<=_v1)&&decide (_v1<=(_v2.length:Int))) then (joinD (fun (_s:Int×(List Yg))=>qM _N _s.1 _s.2) fun _k22=>(loopE (fun (_c:Nat) (_s:Int×Int×(List Yg)) _kn=>qL _N _k22 _c _s.1 _s.2.1 _s.2.2 _kn) _N _v1.toNat (_v1,(1:Int),_v2))) else none) else (_k20 (_v1,_v2)))) else none) else none)) else (_k18 _v2))
def qbc(_N:Nat)(_x1:List Yg):Option qf:=
 (bif (decide ((_x1.length:Int)<(2:Int))) then (some (_x1,_x1)) else (joinD (fun (_s:(List Yg))=>qbg _N _s) fun _k18=>(loopE (fun (_c:(List Yg)) (_s:Int) _kn=>qbe _N _k18 _c _s _kn) _N _x1 (1:Int))))
def qI(_N:Nat)(_x:(List Yg)):Option qf:=qbc _N _x
theorem qcA(_N:Nat):SpecH Tryz.prog Gs 63 qat (qI _N):=mkSpH (fn:=Tryz.f63) (c:=qj Tryz.f63) (C:=(qcN _N))
  (a:=.two .none (.two (.two .none (.two (.two (.shut 0 .none) .none) .none)) (.join 1 ⟨[(0,.slc 0 0)],[.row false 0 87 Sz]⟩ (.two .none (.one (.loop 1 ⟨[(0,.slc 0 0),(1,.clo 64 []),(5,.int .i64)],[.row false 0 87 Sz]⟩ [0] (.two .none (.join 1 ⟨[(0,.slc 0 0),(1,.clo 64 []),(5,.int .i64)],[.row false 0 87 Sz]⟩ (.one (.two (.draw 0 [.pure,.pure,.pure,.rd [0],.rd [0],.pure,.pure,.pure,.rd [0],.rd [0],.pure]) (.two (.two .none (.join 1 ⟨[(0,.slc 0 0),(5,.int .i64)],[.row false 0 87 Sz]⟩ (.two .none (.one (.loop 1 ⟨[(0,.slc 0 0),(1,.clo 64 []),(5,.int .i64),(6,.tl 0 0),(7,.int .i64)],[.row false 0 87 Sz]⟩ [0,2,3] (.two .none (.two (.one (.two (.draw 0 [.pure,.pure,.pure,.rd [0],.rd [0],.pure,.pure,.pure,.rd [0],.rd [0],.pure,.pure]) .none)) .none))))) (.two .none (.two (.shut 0 .none) .none)))) .none))) .none))))) (.two (.shut 0 .none) .none))))
  (by kernel_rfl) rfl (by kernel_rfl) (by kernel_rfl) (by kernel_rfl) rfl ⟨rfl,by unfold TOk;kernel_rfl,qag rfl rfl (zD.2 ⟨qnf _N,(zC _)⟩),qaf rfl rfl (zC _),rfl⟩ (fun _x=>by kernel_rfl)
theorem qcE(_N:Nat):EntOk Tryz.prog Gs (mkHe 63 qat (qI _N)):=entH ⟨Tryz.f63,qj Tryz.f63,by kernel_rfl,by kernel_rfl,rfl⟩ (qcA _N)
abbrev qfa:List Kd:=[.dat (.sl Sz)]
abbrev qas:Type:=List Yg
def qsx(_N:Nat):Ctx:={ T:=[(27,⟨.slice 3,1,24,some SB,[.nil],false,[]⟩),(87,⟨.struct [(0,3),(1,3),(2,27)],3,40,some Sz,[.int .i64 (0:Int),.int .i64 (0:Int),.nil],false,[]⟩),(91,⟨.slice 87,1,24,some (.sl Sz),[.nil],false,[]⟩)],G:=findE [mkG 60 qar 87 Sz (qO _N),mkS 61 87 Sz 62 (fun p q=>(qaI _N (p,q,())).map (·.1)),mkHe 63 qat (qI _N),mkF 38 qai 3 (.int .i64) (qE _N),mkP 59 qeM qeJ (qcG _N)],I:=findI [],N:=_N,n:=53,fx:=[1],fl:=0,gs:=Gs }
def qlc(_N:Nat)(_v57:List Yg):Option qas:=
 (some _v57)
def qhM(_N:Nat)(_kn62:((List Yg)×(List Yg)×Int×(List Yg))×(Int×(List Yg))->Option qas)(_v44:List Yg)(_v45:List Yg)(_v46:Int)(_v47:Int)(_v48:List Yg)(_v49:List Yg):Option qas:=
 (_kn62 ((_v44,_v45,_v46,_v48),((IntKind.i64.wrap (_v47+(1:Int))),_v49)))
def qlb(_N:Nat)(_k63:((List Yg)×(List Yg)×Int×Int×(List Yg)×(List Yg)×Int×Int×List Int)->Option qas)(_v24:List Yg)(_v25:Bool)(_v26:List Yg)(_v27:Int)(_v28:Int)(_v29:List Yg)(_v40:List Yg)(_v31:Int)(_v41:Int)(_v42:List Int):Option qas:=
 (bif _v25 then ((qE _N (_v42,())).bind fun _y64=>(bif (decide ((_v40.length+([(_v31,(_v41,_y64))]).length)*40<=140737488355328)&&Nat.ble 1 40) then (_k63 (_v24,_v26,_v27,_v28,_v29,(_v40 ++ [(_v31,(_v41,_y64))]),_v31,_v41,_y64)) else none)) else (_k63 (_v24,_v26,_v27,_v28,_v29,_v40,_v31,_v41,_v42)))
def qhL(_N:Nat)(_k65:((List Yg)×Bool×(List Yg)×Int×Int×(List Yg)×(List Yg)×Int×Int×List Int)->Option qas)(_v9:List Yg)(_v10:Int)(_v12:List Yg)(_v13:Int)(_v14:Int)(_v15:List Yg)(_v16:Int)(_v18:List Yg)(_v35:List Yg)(_v20:Int)(_v36:Int)(_v37:List Int)(_v11:Bool)(_v17:Int)(_kn66:((List Yg)×Int×(List Yg)×Int×Int×(List Yg)×Int×(List Yg)×(List Yg)×Int×Int×List Int)×(Bool×Int)->Option qas):Option qas:=
 (bif (decide (_v17<_v16)) then (bif (decide (0<=_v17)&&decide (_v17<(_v15.length:Int))) then (bif _v11 then (bif (_v10==_v17) then (_kn66 ((_v9,_v10,_v12,_v13,_v14,_v15,_v16,_v18,_v35,_v20,_v36,_v37),(true,(IntKind.i64.wrap (_v17+(1:Int)))))) else ((qcG _N (((nth ((0:Int),((0:Int),[])) _v15 (_v17).toNat).1,(((nth ((0:Int),((0:Int),[])) _v15 (_v17).toNat).2).1,((nth ((0:Int),((0:Int),[])) _v15 (_v17).toNat).2).2)),(_v20,(_v36,_v37)),())).bind fun _y67=>(_kn66 ((_v9,_v10,_v12,_v13,_v14,_v15,_v16,_v18,_v35,_v20,_v36,_v37),((!_y67.1),(IntKind.i64.wrap (_v17+(1:Int)))))))) else (_kn66 ((_v9,_v10,_v12,_v13,_v14,_v15,_v16,_v18,_v35,_v20,_v36,_v37),(false,(IntKind.i64.wrap (_v17+(1:Int))))))) else none) else (_k65 (_v9,_v11,_v12,_v13,_v14,_v18,_v35,_v20,_v36,_v37)))
def qhK(_N:Nat)(_k61:((List Yg)×(List Yg))->Option qas)(_v4:List Yg)(_v5:List Yg)(_v6:Int)(_v8:List Yg)(_v7:Int)(_v34:List Yg)(_kn62:((List Yg)×(List Yg)×Int×(List Yg))×(Int×(List Yg))->Option qas):Option qas:=
 (bif (decide (_v7<_v6)) then (joinD (fun (_s:(List Yg)×(List Yg)×Int×Int×(List Yg)×(List Yg)×Int×Int×List Int)=>qhM _N _kn62 _s.1 _s.2.1 _s.2.2.1 _s.2.2.2.1 _s.2.2.2.2.1 _s.2.2.2.2.2.1) fun _k63=>(bif (decide (0<=_v7)&&decide (_v7<(_v5.length:Int))) then (joinD (fun (_s:(List Yg)×Bool×(List Yg)×Int×Int×(List Yg)×(List Yg)×Int×Int×List Int)=>qlb _N _k63 _s.1 _s.2.1 _s.2.2.1 _s.2.2.2.1 _s.2.2.2.2.1 _s.2.2.2.2.2.1 _s.2.2.2.2.2.2.1 _s.2.2.2.2.2.2.2.1 _s.2.2.2.2.2.2.2.2.1 _s.2.2.2.2.2.2.2.2.2) fun _k65=>(loopE (fun (_c:(List Yg)×Int×(List Yg)×Int×Int×(List Yg)×Int×(List Yg)×(List Yg)×Int×Int×List Int) (_s:Bool×Int) _kn=>qhL _N _k65 _c.1 _c.2.1 _c.2.2.1 _c.2.2.2.1 _c.2.2.2.2.1 _c.2.2.2.2.2.1 _c.2.2.2.2.2.2.1 _c.2.2.2.2.2.2.2.1 _c.2.2.2.2.2.2.2.2.1 _c.2.2.2.2.2.2.2.2.2.1 _c.2.2.2.2.2.2.2.2.2.2.1 _c.2.2.2.2.2.2.2.2.2.2.2 _s.1 _s.2 _kn) _N (_v4,_v7,_v5,_v6,_v7,_v4,(_v4.length:Int),_v8,_v34,(nth ((0:Int),((0:Int),[])) _v5 (_v7).toNat).1,((nth ((0:Int),((0:Int),[])) _v5 (_v7).toNat).2).1,((nth ((0:Int),((0:Int),[])) _v5 (_v7).toNat).2).2) (true,(0:Int)))) else none)) else (_k61 (_v8,_v34)))
def qla(_N:Nat)(_x1:List Yg):Option qas:=
 ((qO _N (_x1,())).bind fun _y58=>((sortR (fun p q=>(qaI _N (p,q,())).map (·.1)) _y58).bind fun _y59=>((qI _N _y59).bind fun _y60=>(joinD (fun (_s:(List Yg)×(List Yg))=>qlc _N _s.2) fun _k61=>(loopE (fun (_c:(List Yg)×(List Yg)×Int×(List Yg)) (_s:Int×(List Yg)) _kn=>qhK _N _k61 _c.1 _c.2.1 _c.2.2.1 _c.2.2.2 _s.1 _s.2 _kn) _N (_y60.1,_y60.1,(_y60.1.length:Int),_y60.2) ((0:Int),[]))))))
def qcW(_N:Nat)(_x:Dens qfa):Option qas:=qla _N _x.1
theorem qpW(_N:Nat):SpecF Tryz.prog Gs 33 qfa 87 Sz (qcW _N):=mkSpF (fn:=Tryz.f33) (c:=qj Tryz.f33) (C:=qsx _N)
  (a:=.two .none (.two .none (.two .none (.two .none (.two .none (.join 2 ⟨[(3,.slc 1 0)],[.row true 0 87 Sz,.row false 0 87 Sz]⟩ (.two .none (.one (.obj 3 87 Sz (.loop 2 ⟨[(0,.sl Sz),(3,.slc 1 0),(15,.sl Sz),(16,.int .i64),(17,.int .i64)],[.row true 0 87 Sz,.row false 0 87 Sz]⟩ [3,5] (.two .none (.two .none (.join 3 ⟨[(0,.sl Sz),(3,.slc 1 0),(15,.sl Sz),(16,.int .i64),(17,.int .i64)],[.row true 0 87 Sz,.row false 0 87 Sz,.cells [.int .i64,.int .i64,.sl (.int .i64)]]⟩ (.one (.two .none (.two .none (.join 3 ⟨[(0,.sl Sz),(3,.slc 1 0),(5,.ptr 2 0),(6,.bool),(15,.sl Sz),(16,.int .i64),(17,.int .i64)],[.row true 0 87 Sz,.row false 0 87 Sz,.cells [.int .i64,.int .i64,.sl (.int .i64)]]⟩ (.two .none (.one (.loop 3 ⟨[(0,.sl Sz),(3,.slc 1 0),(4,.int .i64),(5,.ptr 2 0),(6,.bool),(15,.sl Sz),(16,.int .i64),(17,.int .i64),(22,.sl Sz),(23,.int .i64),(24,.int .i64)],[.row true 0 87 Sz,.row false 0 87 Sz,.cells [.int .i64,.int .i64,.sl (.int .i64)]]⟩ [2,8] .none))) .none)))) .none))))))) .none))))))
  (by kernel_rfl) rfl (by kernel_rfl) (by kernel_rfl) ⟨rfl,by unfold TOk;kernel_rfl,qag rfl rfl (zD.2 ⟨qdH _N,(zD.2 ⟨qEn _N,(zD.2 ⟨qcE _N,(zD.2 ⟨qbM _N,(zD.2 ⟨qmv _N,(zC _)⟩)⟩)⟩)⟩)⟩),qaf rfl rfl (zC _),rfl⟩ (fun _x=>by kernel_rfl)
theorem qqh(_N:Nat):EntOk Tryz.prog Gs (mkG 33 qfa 87 Sz (qcW _N)):=entG ⟨Tryz.f33,qj Tryz.f33,by kernel_rfl,by kernel_rfl,rfl⟩ (zG (by kernel_rfl)) (qpW _N)
end Go.Proofs.YtgnnhemoocfclaaGreatDoor
end
