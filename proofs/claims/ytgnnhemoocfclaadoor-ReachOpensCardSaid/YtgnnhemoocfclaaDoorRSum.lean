import Derived.Test.YtgnnhemoocfclaaDoorRTim
noncomputable section
namespace Go.Proofs.YtgnnhemoocfclaaDoor
open Go.Abs
abbrev SA:Sh:=.sl (.int .i64)
abbrev Sz:Sh:=.pair (.int .i64) (.bool)
abbrev Sv:Sh:=.pair (.int .i64) (.pair (.int .i64) (.sl (.int .i64)))
abbrev Yh:Type:=Int×Bool
abbrev Yg:Type:=List (Int×Bool)
abbrev Yf:Type:=Int×Int×List Int
abbrev qdc:List Kd:=[.dat Sv]
abbrev qcZ:List Kd:=[.dat (.int .i64)]
abbrev qkv:Type:=Dens qcZ
def qsy(_N:Nat):Ctx:={ T:=[(3,⟨.int .i64,1,8,some (.int .i64),[.int .i64 (0:Int)],false,[]⟩),(38,⟨.slice 3,1,24,some SA,[.nil],false,[]⟩),(40,⟨.struct [(0,3),(1,3),(2,38)],3,40,some Sv,[.int .i64 (0:Int),.int .i64 (0:Int),.nil],false,[]⟩)],G:=findE [],I:=findI [],N:=_N,n:=9,fx:=[],fl:=0,gs:=Gs }
def qlj(_N:Nat)(_x1:Int×Int×List Int):Option qkv:=
 (some ((IntKind.i64.wrap (_x1.1+(_x1.2.2.length:Int))),()))
def qbk(_N:Nat)(_x:Dens qdc):Option qkv:=qlj _N _x.1
theorem qpF(_N:Nat):SpecD Tryd.prog Gs 34 qdc qcZ (qbk _N):=mkSpD (fn:=Tryd.f34) (c:=qw Tryd.f34) (C:=qsy _N)
  (a:=.none)
  (by kernel_rfl) rfl (by kernel_rfl) (by kernel_rfl) ⟨rfl,by unfold TOk;kernel_rfl,qar rfl rfl (zC _),qaq rfl rfl (zC _),rfl⟩ (fun _x=>by kernel_rfl)
theorem qhH(_N:Nat):EntOk Tryd.prog Gs (mkP 34 qdc qcZ (qbk _N)):=entP ⟨Tryd.f34,qw Tryd.f34,by kernel_rfl,by kernel_rfl,rfl⟩ (by kernel_rfl) (qpF _N)
abbrev qbT:List Kd:=[.dat (.int .i64)]
abbrev qbS:List Kd:=[.dat (.bool)]
abbrev qil:Type:=Dens qbS
def qnH(_N:Nat):Ctx:={ T:=[],G:=findE [],I:=findI [],N:=_N,n:=9,fx:=[],fl:=0,gs:=Gs }
def qiK(_N:Nat)(_x1:Int):Option qil:=
 (bif (decide (_x1>=(0:Int))) then (some ((decide (_x1<=(1048576:Int))),())) else (some (false,())))
def qas(_N:Nat)(_x:Dens qbT):Option qil:=qiK _N _x.1
theorem qmk(_N:Nat):SpecD Tryd.prog Gs 36 qbT qbS (qas _N):=mkSpD (fn:=Tryd.f36) (c:=qw Tryd.f36) (C:=qnH _N)
  (a:=.none)
  (by kernel_rfl) rfl (by kernel_rfl) (by kernel_rfl) ⟨rfl,by unfold TOk;kernel_rfl,qar rfl rfl (zC _),qaq rfl rfl (zC _),rfl⟩ (fun _x=>by kernel_rfl)
theorem qfd(_N:Nat):EntOk Tryd.prog Gs (mkP 36 qbT qbS (qas _N)):=entP ⟨Tryd.f36,qw Tryd.f36,by kernel_rfl,by kernel_rfl,rfl⟩ (by kernel_rfl) (qmk _N)
abbrev qcd:List Kd:=[.dat Sv,.dat (.int .i64)]
abbrev qcc:List Kd:=[.dat (.int .i64)]
abbrev qbG:Type:=Dens qcc
def qpw(_N:Nat):Ctx:={ T:=[(3,⟨.int .i64,1,8,some (.int .i64),[.int .i64 (0:Int)],false,[]⟩),(38,⟨.slice 3,1,24,some SA,[.nil],false,[]⟩),(40,⟨.struct [(0,3),(1,3),(2,38)],3,40,some Sv,[.int .i64 (0:Int),.int .i64 (0:Int),.nil],false,[]⟩)],G:=findE [mkP 36 qbT qbS (qas _N)],I:=findI [],N:=_N,n:=48,fx:=[],fl:=0,gs:=Gs }
def qgs(_N:Nat):Option qbG:=
 (some ((0:Int),()))
def qeF(_N:Nat)(_k17:(Int×Int×List Int×List Int)->Option qbG)(_v5:Int)(_v7:Int)(_v8:Int)(_v9:List Int)(_v10:List Int)(_v6:Int)(_kn18:(Int×Int×Int×List Int×List Int)×Int->Option qbG):Option qbG:=
 (bif (decide (_v6<_v5)) then (bif (decide (0<=_v6)&&decide (_v6<(_v10.length:Int))) then ((qas _N ((nth (0:Int) _v10 ((_v6).toNat)),())).bind fun _y19=>(bif (!_y19.1) then (some ((2:Int),())) else (_kn18 ((_v5,_v7,_v8,_v9,_v10),(IntKind.i64.wrap (_v6+(1:Int))))))) else none) else (_k17 (_v7,_v8,_v9,_v10)))
def qje(_N:Nat)(_v1:Bool)(_v2:Int)(_v3:Int)(_v4:List Int):Option qbG:=
 (bif _v1 then (some ((1:Int),())) else (joinD (fun (_s:Int×Int×List Int×List Int)=>qgs _N) fun _k17=>(bif (decide ((([_v3]).length+_v4.length)*8<=140737488355328)&&Nat.ble 1 8) then (loopE (fun (_c:Int×Int×Int×List Int×List Int) (_s:Int) _kn=>qeF _N _k17 _c.1 _c.2.1 _c.2.2.1 _c.2.2.2.1 _c.2.2.2.2 _s _kn) _N ((([_v3]++_v4).length:Int),_v2,_v3,_v4,([_v3]++_v4)) (0:Int)) else none)))
def qjd(_N:Nat)(_x1:Int×Int×List Int)(_x2:Int):Option qbG:=
 (joinD (fun (_s:Bool×Int×Int×List Int)=>qje _N _s.1 _s.2.1 _s.2.2.1 _s.2.2.2) fun _k20=>(bif (decide (_x2<(1:Int))) then (_k20 (true,_x1.1,_x1.2.1,_x1.2.2)) else (bif (decide (_x2>(4:Int))) then (_k20 (true,_x1.1,_x1.2.1,_x1.2.2)) else (bif (decide (_x1.1<(1:Int))) then (_k20 (true,_x1.1,_x1.2.1,_x1.2.2)) else (bif (decide (_x1.1>_x2)) then (_k20 (true,_x1.1,_x1.2.1,_x1.2.2)) else (_k20 ((decide ((_x1.2.2.length:Int)>(IntKind.i64.wrap ((4:Int) - _x1.1)))),_x1.1,_x1.2.1,_x1.2.2)))))))
def qax(_N:Nat)(_x:Dens qcd):Option qbG:=qjd _N _x.1 _x.2.1
theorem qnw(_N:Nat):SpecD Tryd.prog Gs 33 qcd qcc (qax _N):=mkSpD (fn:=Tryd.f33) (c:=qw Tryd.f33) (C:=qpw _N)
  (a:=.two .none (.two (.join 1 ⟨[(2,.ptr 0 0),(32,.bool)],[.cells [.int .i64,.int .i64,.sl (.int .i64)]]⟩ .none .none) (.join 2 ⟨[],[.cells [.int .i64,.int .i64,.sl (.int .i64)],.row false 1 3 (.int .i64)]⟩ (.two .none (.one (.loop 2 ⟨[(38,.slc 1 1),(39,.int .i64),(40,.int .i64)],[.cells [.int .i64,.int .i64,.sl (.int .i64)],.row false 1 3 (.int .i64)]⟩ [1] .none))) .none)))
  (by kernel_rfl) rfl (by kernel_rfl) (by kernel_rfl) ⟨rfl,by unfold TOk;kernel_rfl,qar rfl rfl (zF.2 ⟨qfd _N,(zC _)⟩),qaq rfl rfl (zC _),rfl⟩ (fun _x=>by kernel_rfl)
theorem qfO(_N:Nat):EntOk Tryd.prog Gs (mkP 33 qcd qcc (qax _N)):=entP ⟨Tryd.f33,qw Tryd.f33,by kernel_rfl,by kernel_rfl,rfl⟩ (by kernel_rfl) (qnw _N)
abbrev qdE:List Kd:=[.dat Sv]
abbrev qay:Type:=List Yh
def qnI(_N:Nat):Ctx:={ T:=[(3,⟨.int .i64,1,8,some (.int .i64),[.int .i64 (0:Int)],false,[]⟩),(4,⟨.bool,1,1,some .bool,[.bool false],false,[]⟩),(38,⟨.slice 3,1,24,some SA,[.nil],false,[]⟩),(40,⟨.struct [(0,3),(1,3),(2,38)],3,40,some Sv,[.int .i64 (0:Int),.int .i64 (0:Int),.nil],false,[]⟩),(112,⟨.slice 115,1,24,some (.sl Sz),[.nil],false,[]⟩),(115,⟨.struct [(0,3),(1,4)],2,16,some Sz,[.int .i64 (0:Int),.bool false],true,[]⟩)],G:=findE [mkP 34 qdc qcZ (qbk _N)],I:=findI [],N:=_N,n:=44,fx:=[1],fl:=0,gs:=Gs }
def qfJ(_N:Nat)(_v22:List Yh):Option qay:=
 (some _v22)
def qeh(_N:Nat)(_k24:(Int×Int×List Int×Yg)->Option qay)(_v12:List Int)(_v13:Int)(_v15:Int)(_v16:Int)(_v17:List Int)(_v14:Int)(_v18:List Yh)(_kn25:(List Int×Int×Int×Int×List Int)×(Int×Yg)->Option qay):Option qay:=
 (bif (decide (_v14<_v13)) then (bif (decide (0<=_v14)&&decide (_v14<(_v12.length:Int))) then (bif (decide ((_v18.length+([((nth (0:Int) _v12 (_v14).toNat),false)]).length)*16<=140737488355328)&&Nat.ble 1 16) then (_kn25 ((_v12,_v13,_v15,_v16,_v17),((IntKind.i64.wrap (_v14+(1:Int))),(_v18 ++ [((nth (0:Int) _v12 (_v14).toNat),false)])))) else none) else none) else (_k24 (_v15,_v16,_v17,_v18)))
def qfI(_N:Nat)(_v8:Int)(_v9:Int)(_v10:List Int)(_v11:List Yh):Option qay:=
 (bif (decide (0<=(IntKind.i64.wrap (_v8 - (1:Int))))&&decide ((IntKind.i64.wrap (_v8 - (1:Int)))<(_v11.length:Int))) then (joinD (fun (_s:Int×Int×List Int×Yg)=>qfJ _N _s.2.2.2) fun _k24=>(loopE (fun (_c:List Int×Int×Int×Int×List Int) (_s:Int×Yg) _kn=>qeh _N _k24 _c.1 _c.2.1 _c.2.2.1 _c.2.2.2.1 _c.2.2.2.2 _s.1 _s.2 _kn) _N (_v10,(_v10.length:Int),_v8,_v9,_v10) ((0:Int),(_v11.set ((IntKind.i64.wrap (_v8 - (1:Int))).toNat) (_v9,(nth ((0:Int),false) _v11 ((IntKind.i64.wrap (_v8 - (1:Int))).toNat)).2))))) else none)
def qeg(_N:Nat)(_k26:(Int×Int×List Int×Yg)->Option qay)(_v2:Int)(_v4:Int)(_v5:Int)(_v6:List Int)(_v3:Int)(_v7:List Yh)(_kn27:(Int×Int×Int×List Int)×(Int×Yg)->Option qay):Option qay:=
 (bif (decide (_v3<_v2)) then (bif (decide (0<=_v3)&&decide (_v3<(_v7.length:Int))) then (_kn27 ((_v2,_v4,_v5,_v6),((IntKind.i64.wrap (_v3+(1:Int))),(_v7.set ((_v3).toNat) ((nth ((0:Int),false) _v7 ((_v3).toNat)).1,true))))) else none) else (_k26 (_v4,_v5,_v6,_v7)))
def qiL(_N:Nat)(_x1:Int×Int×List Int):Option qay:=
 ((qbk _N ((_x1.1,(_x1.2.1,_x1.2.2)),())).bind fun _y23=>(bif (decide (0<=_x1.1)&&(decide (_x1.1<=_y23.1)&&decide (_y23.1*16<=281474976710656))) then (joinD (fun (_s:Int×Int×List Int×Yg)=>qfI _N _s.1 _s.2.1 _s.2.2.1 _s.2.2.2) fun _k26=>(loopE (fun (_c:Int×Int×Int×List Int) (_s:Int×Yg) _kn=>qeg _N _k26 _c.1 _c.2.1 _c.2.2.1 _c.2.2.2 _s.1 _s.2 _kn) _N (((List.replicate _x1.1.toNat ((0:Int),false)).length:Int),_x1.1,_x1.2.1,_x1.2.2) ((0:Int),(List.replicate _x1.1.toNat ((0:Int),false))))) else none))
def qbH(_N:Nat)(_x:Dens qdE):Option qay:=qiL _N _x.1
theorem qml(_N:Nat):SpecF Tryd.prog Gs 54 qdE 115 Sz (qbH _N):=mkSpF (fn:=Tryd.f54) (c:=qw Tryd.f54) (C:=qnI _N)
  (a:=.two .none (.two (.draw 1 [.pure,.rd [0],.rd [0],.pure,.new 1,.pure]) (.join 2 ⟨[(1,.ptr 0 0),(3,.slc 1 0)],[.cells [.int .i64,.int .i64,.sl (.int .i64)],.row false 0 115 Sz]⟩ (.two .none (.one (.loop 2 ⟨[(1,.ptr 0 0),(3,.slc 1 0),(13,.int .i64),(14,.int .i64)],[.cells [.int .i64,.int .i64,.sl (.int .i64)],.row false 0 115 Sz]⟩ [1,5] .none))) (.two .none (.join 2 ⟨[(3,.slc 1 0)],[.cells [.int .i64,.int .i64,.sl (.int .i64)],.row false 0 115 Sz]⟩ (.two .none (.one (.loop 2 ⟨[(3,.slc 1 0),(31,.sl (.int .i64)),(32,.int .i64),(33,.int .i64)],[.cells [.int .i64,.int .i64,.sl (.int .i64)],.row false 0 115 Sz]⟩ [2,6] .none))) .none)))))
  (by kernel_rfl) rfl (by kernel_rfl) (by kernel_rfl) ⟨rfl,by unfold TOk;kernel_rfl,qar rfl rfl (zF.2 ⟨qhH _N,(zC _)⟩),qaq rfl rfl (zC _),rfl⟩ (fun _x=>by kernel_rfl)
theorem qly(_N:Nat):EntOk Tryd.prog Gs (mkQ 54 qdE [.dat (.sl Sz)] (fun _x=>(qbH _N _x).map fun _y=>(_y,()))):=entQ ⟨Tryd.f54,qw Tryd.f54,by kernel_rfl,by kernel_rfl,rfl⟩ (qwR (qml _N))
abbrev qed:List Kd:=[.dat Sv,.dat Sv]
abbrev qea:List Kd:=[.dat (.bool)]
abbrev qbN:Type:=Dens qea
def qsz(_N:Nat):Ctx:={ T:=[(3,⟨.int .i64,1,8,some (.int .i64),[.int .i64 (0:Int)],false,[]⟩),(4,⟨.bool,1,1,some .bool,[.bool false],false,[]⟩),(40,⟨.struct [(0,3),(1,3),(2,38)],3,40,some Sv,[.int .i64 (0:Int),.int .i64 (0:Int),.nil],false,[]⟩),(112,⟨.slice 115,1,24,some (.sl Sz),[.nil],false,[]⟩),(115,⟨.struct [(0,3),(1,4)],2,16,some Sz,[.int .i64 (0:Int),.bool false],true,[]⟩)],G:=findE [mkP 33 qcd qcc (qax _N),mkP 34 qdc qcZ (qbk _N),mkQ 54 qdE [.dat (.sl Sz)] (fun _x=>(qbH _N _x).map fun _y=>(_y,()))],I:=findI [],N:=_N,n:=59,fx:=[],fl:=0,gs:=Gs }
def qir(_N:Nat):Option qbN:=
 (some (true,()))
def qll(_N:Nat)(_kn47:(Yg×Yg×Int×Int×Int×List Int×Int×Int×List Int)×Int->Option qbN)(_v17:List Yh)(_v18:List Yh)(_v19:Int)(_v20:Int)(_v28:Int)(_v29:Int)(_v30:List Int)(_v31:Int)(_v32:Int)(_v33:List Int):Option qbN:=
 (_kn47 ((_v17,_v18,_v19,_v28,_v29,_v30,_v31,_v32,_v33),(IntKind.i64.wrap (_v20+(1:Int)))))
def qfV(_N:Nat)(_k46:(Int×Int×List Int×Int×Int×List Int)->Option qbN)(_v7:List Yh)(_v8:List Yh)(_v9:Int)(_v11:Int)(_v12:Int)(_v13:List Int)(_v14:Int)(_v15:Int)(_v16:List Int)(_v10:Int)(_kn47:(Yg×Yg×Int×Int×Int×List Int×Int×Int×List Int)×Int->Option qbN):Option qbN:=
 (bif (decide (_v10<_v9)) then (joinD (fun (_s:Yg×Yg×Int×Int×Yg×Int×Yh×Bool×Bool×Bool×Bool×Int×Int×List Int×Int×Int×List Int)=>qll _N _kn47 _s.1 _s.2.1 _s.2.2.1 _s.2.2.2.1 _s.2.2.2.2.2.2.2.2.2.2.2.1 _s.2.2.2.2.2.2.2.2.2.2.2.2.1 _s.2.2.2.2.2.2.2.2.2.2.2.2.2.1 _s.2.2.2.2.2.2.2.2.2.2.2.2.2.2.1 _s.2.2.2.2.2.2.2.2.2.2.2.2.2.2.2.1 _s.2.2.2.2.2.2.2.2.2.2.2.2.2.2.2.2) fun _k48=>(bif (decide (0<=_v10)&&decide (_v10<(_v7.length:Int))) then (bif (decide (0<=_v10)&&decide (_v10<(_v8.length:Int))) then (bif (decide (((nth ((0:Int),false) _v7 (_v10).toNat).1)>((nth ((0:Int),false) _v8 (_v10).toNat).1))) then (some (false,())) else (bif (decide (0<=_v10)&&decide (_v10<(_v7.length:Int))) then (bif (nth ((0:Int),false) _v7 (_v10).toNat).2 then (bif (decide (0<=_v10)&&decide (_v10<(_v8.length:Int))) then (bif (!(nth ((0:Int),false) _v8 (_v10).toNat).2) then (some (false,())) else (_k48 (_v7,_v8,_v9,_v10,_v7,_v10,(nth ((0:Int),false) _v7 (_v10).toNat),(nth ((0:Int),false) _v7 (_v10).toNat).2,(nth ((0:Int),false) _v7 (_v10).toNat).2,true,(!(nth ((0:Int),false) _v8 (_v10).toNat).2),_v11,_v12,_v13,_v14,_v15,_v16))) else none) else (_k48 (_v7,_v8,_v9,_v10,_v7,_v10,(nth ((0:Int),false) _v7 (_v10).toNat),(nth ((0:Int),false) _v7 (_v10).toNat).2,(nth ((0:Int),false) _v7 (_v10).toNat).2,false,false,_v11,_v12,_v13,_v14,_v15,_v16))) else none)) else none) else none)) else (_k46 (_v11,_v12,_v13,_v14,_v15,_v16)))
def qlk(_N:Nat)(_x1:Int×Int×List Int)(_x2:Int×Int×List Int):Option qbN:=
 ((qax _N ((_x1.1,(_x1.2.1,_x1.2.2)),(4:Int),())).bind fun _y40=>(bif (_y40.1 != (0:Int)) then (some (false,())) else ((qax _N ((_x2.1,(_x2.2.1,_x2.2.2)),(4:Int),())).bind fun _y41=>(bif (_y41.1 != (0:Int)) then (some (false,())) else ((qbk _N ((_x1.1,(_x1.2.1,_x1.2.2)),())).bind fun _y42=>((qbk _N ((_x2.1,(_x2.2.1,_x2.2.2)),())).bind fun _y43=>(bif (_y42.1 != _y43.1) then (some (false,())) else (((fun _x=>(qbH _N _x).map fun _y=>(_y,())) ((_x1.1,(_x1.2.1,_x1.2.2)),())).bind fun _y44=>(((fun _x=>(qbH _N _x).map fun _y=>(_y,())) ((_x2.1,(_x2.2.1,_x2.2.2)),())).bind fun _y45=>(joinD (fun (_s:Int×Int×List Int×Int×Int×List Int)=>qir _N) fun _k46=>(loopE (fun (_c:Yg×Yg×Int×Int×Int×List Int×Int×Int×List Int) (_s:Int) _kn=>qfV _N _k46 _c.1 _c.2.1 _c.2.2.1 _c.2.2.2.1 _c.2.2.2.2.1 _c.2.2.2.2.2.1 _c.2.2.2.2.2.2.1 _c.2.2.2.2.2.2.2.1 _c.2.2.2.2.2.2.2.2 _s _kn) _N (_y44.1,_y45.1,(_y44.1.length:Int),_x1.1,_x1.2.1,_x1.2.2,_x2.1,_x2.2.1,_x2.2.2) (0:Int))))))))))))
def qco(_N:Nat)(_x:Dens qed):Option qbN:=qlk _N _x.1 _x.2.1
theorem qpG(_N:Nat):SpecD Tryd.prog Gs 37 qed qea (qco _N):=mkSpD (fn:=Tryd.f37) (c:=qw Tryd.f37) (C:=qsz _N)
  (a:=.two .none (.two (.two (.draw 0 [.rd [0],.pure,.pure,.pure,.rd [1],.pure,.pure,.pure,.pure,.rd [0],.pure,.rd [1],.pure,.pure,.pure]) .none) (.two (.draw 0 [.rd [0],.pure,.rd [1],.pure,.pure,.pure]) (.join 2 ⟨[],[.cells [.int .i64,.int .i64,.sl (.int .i64)],.cells [.int .i64,.int .i64,.sl (.int .i64)]]⟩ (.two .none (.one (.loop 2 ⟨[(5,.sl Sz),(6,.sl Sz),(28,.int .i64),(29,.int .i64)],[.cells [.int .i64,.int .i64,.sl (.int .i64)],.cells [.int .i64,.int .i64,.sl (.int .i64)]]⟩ [3] (.two .none (.two .none (.join 2 ⟨[(5,.sl Sz),(6,.sl Sz),(28,.int .i64),(29,.int .i64),(44,.sl Sz),(45,.int .i64),(46,.fptr Sz),(47,.fptr .bool),(48,.bool),(49,.bool),(56,.bool)],[.cells [.int .i64,.int .i64,.sl (.int .i64)],.cells [.int .i64,.int .i64,.sl (.int .i64)]]⟩ (.one (.two .none (.two (.draw 0 (.pure :: .pure :: .pure :: .pure :: .pure :: .pure :: .pure :: .pure :: .pure :: .pure :: .pure :: .pure :: .pure :: .pure :: .pure :: .pure :: .pure :: .pure :: .pure :: .pure :: .pure :: .pure :: .pure :: .pure :: .pure :: .pure :: [])) .none))) .none)))))) .none))))
  (by kernel_rfl) rfl (by kernel_rfl) (by kernel_rfl) ⟨rfl,by unfold TOk;kernel_rfl,qar rfl rfl (zF.2 ⟨qfO _N,(zF.2 ⟨qhH _N,(zF.2 ⟨qly _N,(zC _)⟩)⟩)⟩),qaq rfl rfl (zC _),rfl⟩ (fun _x=>by kernel_rfl)
theorem qkn(_N:Nat):EntOk Tryd.prog Gs (mkP 37 qed qea (qco _N)):=entP ⟨Tryd.f37,qw Tryd.f37,by kernel_rfl,by kernel_rfl,rfl⟩ (by kernel_rfl) (qpG _N)
abbrev qeQ:List Kd:=[.dat Sv,.dat Sv]
abbrev qeO:List Kd:=[.dat Sv,.dat (.int .i64)]
abbrev qjG:Type:=Dens qeO
def qql(_N:Nat):Ctx:={ T:=[(3,⟨.int .i64,1,8,some (.int .i64),[.int .i64 (0:Int)],false,[]⟩),(38,⟨.slice 3,1,24,some SA,[.nil],false,[]⟩),(40,⟨.struct [(0,3),(1,3),(2,38)],3,40,some Sv,[.int .i64 (0:Int),.int .i64 (0:Int),.nil],false,[]⟩)],G:=findE [mkP 33 qcd qcc (qax _N),mkP 34 qdc qcZ (qbk _N),mkP 36 qbT qbS (qas _N),mkF 35 qat 3 (.int .i64) (qF _N)],I:=findI [],N:=_N,n:=83,fx:=[],fl:=0,gs:=Gs }
def qkg(_N:Nat)(_x1:Int×Int×List Int)(_x2:Int×Int×List Int):Option qjG:=
 ((qax _N ((_x1.1,(_x1.2.1,_x1.2.2)),(4:Int),())).bind fun _y8=>(bif (_y8.1 != (0:Int)) then (some (((0:Int),((0:Int),[])),_y8.1,())) else ((qbk _N ((_x1.1,(_x1.2.1,_x1.2.2)),())).bind fun _y9=>((qax _N ((_x2.1,(_x2.2.1,_x2.2.2)),_y9.1,())).bind fun _y10=>(bif (_y10.1 != (0:Int)) then (some (((0:Int),((0:Int),[])),_y10.1,())) else (bif ((IntKind.i64.wrap (_x2.1 - _x1.1))==(0:Int)) then ((qas _N ((IntKind.i64.wrap (_x2.2.1+_x1.2.1)),())).bind fun _y11=>(bif (!_y11.1) then (some (((0:Int),((0:Int),[])),(6:Int),())) else (bif (decide (_x2.2.2.length*8<=140737488355328)&&Nat.ble 1 8) then (some ((_x2.1,((IntKind.i64.wrap (_x2.2.1+_x1.2.1)),_x2.2.2)),(0:Int),())) else none))) else (bif (decide ((IntKind.i64.wrap (_x2.1 - _x1.1))>(0:Int))) then (bif (decide (0<=(0:Int))&&(decide ((0:Int)<=(IntKind.i64.wrap (_x2.1 - _x1.1)))&&decide ((IntKind.i64.wrap (_x2.1 - _x1.1))<=(_x1.2.2.length:Int)))) then ((qF _N (((_x1.2.2.take (IntKind.i64.wrap (_x2.1 - _x1.1)).toNat).drop (0:Int).toNat),())).bind fun _y12=>(bif (decide (0<=(IntKind.i64.wrap ((IntKind.i64.wrap (_x2.1 - _x1.1)) - (1:Int))))&&decide ((IntKind.i64.wrap ((IntKind.i64.wrap (_x2.1 - _x1.1)) - (1:Int)))<(_y12.length:Int))) then ((qas _N ((nth (0:Int) (_y12.set ((IntKind.i64.wrap ((IntKind.i64.wrap (_x2.1 - _x1.1)) - (1:Int))).toNat) (IntKind.i64.wrap ((nth (0:Int) _y12 ((IntKind.i64.wrap ((IntKind.i64.wrap (_x2.1 - _x1.1)) - (1:Int))).toNat))+_x2.2.1))) ((IntKind.i64.wrap ((IntKind.i64.wrap (_x2.1 - _x1.1)) - (1:Int))).toNat)),())).bind fun _y13=>(bif (!_y13.1) then (some (((0:Int),((0:Int),[])),(6:Int),())) else (bif (decide (((_y12.set ((IntKind.i64.wrap ((IntKind.i64.wrap (_x2.1 - _x1.1)) - (1:Int))).toNat) (IntKind.i64.wrap ((nth (0:Int) _y12 ((IntKind.i64.wrap ((IntKind.i64.wrap (_x2.1 - _x1.1)) - (1:Int))).toNat))+_x2.2.1))).length+_x2.2.2.length)*8<=140737488355328)&&Nat.ble 1 8) then (some ((_x1.1,(_x1.2.1,((_y12.set ((IntKind.i64.wrap ((IntKind.i64.wrap (_x2.1 - _x1.1)) - (1:Int))).toNat) (IntKind.i64.wrap ((nth (0:Int) _y12 ((IntKind.i64.wrap ((IntKind.i64.wrap (_x2.1 - _x1.1)) - (1:Int))).toNat))+_x2.2.1)))++_x2.2.2))),(0:Int),())) else none))) else none)) else none) else ((qas _N (_x2.2.1,())).bind fun _y14=>(bif (!_y14.1) then (some (((0:Int),((0:Int),[])),(6:Int),())) else (bif (decide (_x2.2.2.length*8<=140737488355328)&&Nat.ble 1 8) then (some ((_x2.1,(_x2.2.1,_x2.2.2)),(0:Int),())) else none))))))))))
def qdd(_N:Nat)(_x:Dens qeQ):Option qjG:=qkg _N _x.1 _x.2.1
theorem qnY(_N:Nat):SpecD Tryd.prog Gs 14 qeQ qeO (qdd _N):=mkSpD (fn:=Tryd.f14) (c:=qw Tryd.f14) (C:=qql _N)
  (a:=.two .none (.two .none (.two (.two (.draw 0 [.rd [1],.rd [0],.pure,.pure,.pure]) .none) (.two .none (.two .none (.two (.two .none (.one (.two .none (.two .none (.two .none (.two (.two (.draw 1 [.pure,.rd [0],.pure,.rd [0],.pure,.rd [0],.pure,.pure,.new 4,.pure,.wr [3,4]]) (.two .none (.draw 0 [.pure,.rd [4],.rd [4],.pure,.rd [1],.pure,.rd [4],.wr [4]]))) .none)))))) .none))))))
  (by kernel_rfl) rfl (by kernel_rfl) (by kernel_rfl) ⟨rfl,by unfold TOk;kernel_rfl,qar rfl rfl (zF.2 ⟨qfO _N,(zF.2 ⟨qhH _N,(zF.2 ⟨qfd _N,(zF.2 ⟨qbB _N,(zC _)⟩)⟩)⟩)⟩),qaq rfl rfl (zC _),rfl⟩ (fun _x=>by kernel_rfl)
theorem qnA(_N:Nat):EntOk Tryd.prog Gs (mkQ 14 qeQ qeO (qdd _N)):=entQ ⟨Tryd.f14,qw Tryd.f14,by kernel_rfl,by kernel_rfl,rfl⟩ (qnY _N)
abbrev qgc:List Kd:=[.dat SA]
abbrev qga:List Kd:=[.dat (.int .i64)]
abbrev qdA:Type:=Dens qga
def quy(_N:Nat):Ctx:={ T:=[(3,⟨.int .i64,1,8,some (.int .i64),[.int .i64 (0:Int)],false,[]⟩),(38,⟨.slice 3,1,24,some SA,[.nil],false,[]⟩)],G:=findE [],I:=findI [],N:=_N,n:=18,fx:=[],fl:=0,gs:=Gs }
def qnm(_N:Nat)(_v5:Int):Option qdA:=
 (some (_v5,()))
def qjA(_N:Nat)(_k6:Int->Option qdA)(_v1:Int)(_v2:List Int)(_v3:Int)(_v4:Int)(_kn7:(Int×List Int×Int)×Int->Option qdA):Option qdA:=
 (bif (decide (_v4<_v3)) then (bif (decide (0<=_v4)&&decide (_v4<(_v2.length:Int))) then (bif ((nth (0:Int) _v2 (_v4).toNat) != _v1) then (some ((nth (0:Int) _v2 (_v4).toNat),())) else (_kn7 ((_v1,_v2,_v3),(IntKind.i64.wrap (_v4+(1:Int)))))) else none) else (_k6 _v1))
def qnl(_N:Nat)(_x1:List Int):Option qdA:=
 (joinD (fun (_s:Int)=>qnm _N _s) fun _k6=>(loopE (fun (_c:Int×List Int×Int) (_s:Int) _kn=>qjA _N _k6 _c.1 _c.2.1 _c.2.2 _s _kn) _N ((0:Int),_x1,(_x1.length:Int)) (0:Int)))
def qeD(_N:Nat)(_x:Dens qgc):Option qdA:=qnl _N _x.1
theorem qrm(_N:Nat):SpecD Tryd.prog Gs 63 qgc qga (qeD _N):=mkSpD (fn:=Tryd.f63) (c:=qw Tryd.f63) (C:=quy _N)
  (a:=.two .none (.two .none (.join 0 ⟨[(3,.int .i64)],[]⟩ (.two .none (.one (.loop 0 ⟨[(3,.int .i64),(6,.sl (.int .i64)),(7,.int .i64),(8,.int .i64)],[]⟩ [3] .none))) .none)))
  (by kernel_rfl) rfl (by kernel_rfl) (by kernel_rfl) ⟨rfl,by unfold TOk;kernel_rfl,qar rfl rfl (zC _),qaq rfl rfl (zC _),rfl⟩ (fun _x=>by kernel_rfl)
theorem qsf(_N:Nat):EntOk Tryd.prog Gs (mkP 63 qgc qga (qeD _N)):=entP ⟨Tryd.f63,qw Tryd.f63,by kernel_rfl,by kernel_rfl,rfl⟩ (by kernel_rfl) (qrm _N)
abbrev qdi:List Kd:=[.dat Sv,.dat Sv]
abbrev qdg:List Kd:=[.dat (.int .i64)]
abbrev qho:Type:=Dens qdg
def qmO(_N:Nat):Ctx:={ T:=[(3,⟨.int .i64,1,8,some (.int .i64),[.int .i64 (0:Int)],false,[]⟩),(38,⟨.slice 3,1,24,some SA,[.nil],false,[]⟩),(40,⟨.struct [(0,3),(1,3),(2,38)],3,40,some Sv,[.int .i64 (0:Int),.int .i64 (0:Int),.nil],false,[]⟩)],G:=findE [mkP 64 qcm qcl (qaM _N),mkP 65 qbp qbo (qO _N),mkP 63 qgc qga (qeD _N)],I:=findI [],N:=_N,n:=22,fx:=[],fl:=0,gs:=Gs }
def qhM(_N:Nat)(_x1:Int×Int×List Int)(_x2:Int×Int×List Int):Option qho:=
 ((qaM _N (_x1.1,_x2.1,())).bind fun _y5=>((qaM _N (_x1.2.1,_x2.2.1,())).bind fun _y6=>((qO _N (_x1.2.2,_x2.2.2,())).bind fun _y7=>((qeD _N ([_y5.1,_y6.1,_y7.1],())).bind fun _y8=>(some (_y8.1,()))))))
def qaz(_N:Nat)(_x:Dens qdi):Option qho:=qhM _N _x.1 _x.2.1
theorem qhg(_N:Nat):SpecD Tryd.prog Gs 73 qdi qdg (qaz _N):=mkSpD (fn:=Tryd.f73) (c:=qw Tryd.f73) (C:=qmO _N)
  (a:=.two .none (.two (.draw 1 [.pure,.rd [0],.pure,.rd [1],.pure,.pure,.rd [0],.pure,.rd [1],.pure,.pure,.rd [0],.pure,.rd [1],.pure,.new 2,.rd [2],.pure]) .none))
  (by kernel_rfl) rfl (by kernel_rfl) (by kernel_rfl) ⟨rfl,by unfold TOk;kernel_rfl,qar rfl rfl (zF.2 ⟨qhm _N,(zF.2 ⟨qhb _N,(zF.2 ⟨qsf _N,(zC _)⟩)⟩)⟩),qaq rfl rfl (zC _),rfl⟩ (fun _x=>by kernel_rfl)
theorem qlU(_N:Nat):EntOk Tryd.prog Gs (mkP 73 qdi qdg (qaz _N)):=entP ⟨Tryd.f73,qw Tryd.f73,by kernel_rfl,by kernel_rfl,rfl⟩ (by kernel_rfl) (qhg _N)
shelf_lay_g SlLaysF0.n6 Slsf 6 at Tryd 72 as lay_sortS
theorem qAm:qdt Tryd.prog 72:=⟨Tryd.f72,qw Tryd.f72,by kernel_rfl,by kernel_rfl,rfl⟩
theorem qAk:qdt Tryd.prog 73:=⟨Tryd.f73,qw Tryd.f73,by kernel_rfl,by kernel_rfl,rfl⟩
theorem qAt(_N:Nat):EntOk Tryd.prog Gs (mkS 72 40 Sv 73 (fun p q=>(qaz _N (p,q,())).map (·.1))):=entSK lay_sortS Tryd.isAgg40 Tryd.sizeOf40 qAm qAk (by kernel_rfl) rfl (qhg _N)
abbrev qak:List Kd:=[.dat (.sl Sv)]
abbrev qbv:Type:=List Yf
def qdx(_N:Nat):Ctx:={ T:=[(33,⟨.slice 40,1,24,some (.sl Sv),[.nil],false,[]⟩),(40,⟨.struct [(0,3),(1,3),(2,38)],3,40,some Sv,[.int .i64 (0:Int),.int .i64 (0:Int),.nil],false,[]⟩)],G:=findE [],I:=findI [],N:=_N,n:=8,fx:=[],fl:=0,gs:=Gs }
def qbx(_N:Nat)(_x1:List Yf):Option qbv:=
 (bif _x1.isEmpty then (dem2 (some []) (bif (decide ((([]:List Yf).length+_x1.length)*40<=140737488355328)&&Nat.ble 1 40) then (some (([]:List Yf)++_x1)) else none)) else (bif (decide ((([]:List Yf).length+_x1.length)*40<=140737488355328)&&Nat.ble 1 40) then (some (([]:List Yf)++_x1)) else none))
def qK(_N:Nat)(_x:Dens qak):Option qbv:=qbx _N _x.1
theorem qdk(_N:Nat):SpecF Tryd.prog Gs 71 qak 40 Sv (qK _N):=mkSpF (fn:=Tryd.f71) (c:=qw Tryd.f71) (C:=qdx _N)
  (a:=.none)
  (by kernel_rfl) rfl (by kernel_rfl) (by kernel_rfl) ⟨rfl,by unfold TOk;kernel_rfl,qar rfl rfl (zC _),qaq rfl rfl (zC _),rfl⟩ (fun _x=>by kernel_rfl)
theorem qdl(_N:Nat):EntOk Tryd.prog Gs (mkG 71 qak 40 Sv (qK _N)):=entG ⟨Tryd.f71,qw Tryd.f71,by kernel_rfl,by kernel_rfl,rfl⟩ (zD (by kernel_rfl)) (qdk _N)
abbrev qcL:List Kd:=[.dat Sv,.dat Sv]
abbrev qcJ:List Kd:=[.dat (.bool)]
abbrev qgW:Type:=Dens qcJ
def qmf(_N:Nat):Ctx:={ T:=[(40,⟨.struct [(0,3),(1,3),(2,38)],3,40,some Sv,[.int .i64 (0:Int),.int .i64 (0:Int),.nil],false,[]⟩)],G:=findE [mkP 73 qdi qdg (qaz _N)],I:=findI [],N:=_N,n:=9,fx:=[],fl:=0,gs:=Gs }
def qhf(_N:Nat)(_x1:Int×Int×List Int)(_x2:Int×Int×List Int):Option qgW:=
 ((qaz _N ((_x1.1,(_x1.2.1,_x1.2.2)),(_x2.1,(_x2.2.1,_x2.2.2)),())).bind fun _y2=>(some ((_y2.1==(0:Int)),())))
def qbl(_N:Nat)(_x:Dens qcL):Option qgW:=qhf _N _x.1 _x.2.1
theorem qkF(_N:Nat):SpecD Tryd.prog Gs 75 qcL qcJ (qbl _N):=mkSpD (fn:=Tryd.f75) (c:=qw Tryd.f75) (C:=qmf _N)
  (a:=.none)
  (by kernel_rfl) rfl (by kernel_rfl) (by kernel_rfl) ⟨rfl,by unfold TOk;kernel_rfl,qar rfl rfl (zF.2 ⟨qlU _N,(zC _)⟩),qaq rfl rfl (zC _),rfl⟩ (fun _x=>by kernel_rfl)
theorem qkT(_N:Nat):EntOk Tryd.prog Gs (mkP 75 qcL qcJ (qbl _N)):=entP ⟨Tryd.f75,qw Tryd.f75,by kernel_rfl,by kernel_rfl,rfl⟩ (by kernel_rfl) (qkF _N)
abbrev qam:Sig:=⟨[.form (.slc 0 0),.form (.clo 75 [])],[.row false 0 40 Sv],
 [.dat false (.sl Sv)],[.row true 0 40 Sv],[]⟩
abbrev qf:Type:=(List Yf)×(List Yf)
def qcs(_N:Nat):Ctx:={ T:=[(33,⟨.slice 40,1,24,some (.sl Sv),[.nil],false,[]⟩),(40,⟨.struct [(0,3),(1,3),(2,38)],3,40,some Sv,[.int .i64 (0:Int),.int .i64 (0:Int),.nil],false,[]⟩)],G:=findE [mkP 75 qcL qcJ (qbl _N)],I:=findI [],N:=_N,n:=66,fx:=[],fl:=1,gs:=Gs }
def qaS(_N:Nat)(_v17:List Yf):Option qf:=
 (some (_v17,_v17))
def qaR(_N:Nat)(_kn19:(List Yf)×Int->Option qf)(_v12:Int)(_v13:List Yf):Option qf:=
 (_kn19 (_v13,(IntKind.i64.wrap (_v12+(1:Int)))))
def qH(_N:Nat)(_v10:Int)(_v11:List Yf):Option qf:=
 (bif (decide (0<=_v10)&&decide (_v10<=(_v11.length:Int))) then (bif (decide (0<=(0:Int))&&(decide ((0:Int)<=_v10)&&decide (_v10<=((_v11.take _v10.toNat++List.replicate (_v11.length - _v10.toNat) ((0:Int),((0:Int),[]))).length:Int)))) then (some ((((_v11.take _v10.toNat++List.replicate (_v11.length - _v10.toNat) ((0:Int),((0:Int),[]))).take _v10.toNat).drop (0:Int).toNat),(_v11.take _v10.toNat++List.replicate (_v11.length - _v10.toNat) ((0:Int),((0:Int),[]))))) else none) else none)
def qG(_N:Nat)(_k22:(Int×(List Yf))->Option qf)(_v5:Nat)(_v4:Int)(_v6:Int)(_v7:List Yf)(_kn23:Nat×(Int×Int×(List Yf))->Option qf):Option qf:=
 (bif (decide (_v6<((_v7.length - _v5:Nat):Int))) then (bif (decide (0<=_v6)&&decide (_v6<((_v7.length - _v5:Nat):Int))) then (bif (decide (0<=(IntKind.i64.wrap (_v6 - (1:Int))))&&decide ((IntKind.i64.wrap (_v6 - (1:Int)))<((_v7.length - _v5:Nat):Int))) then ((qbl _N (((nth ((0:Int),((0:Int),[])) _v7 (_v5+(_v6).toNat)).1,(((nth ((0:Int),((0:Int),[])) _v7 (_v5+(_v6).toNat)).2).1,((nth ((0:Int),((0:Int),[])) _v7 (_v5+(_v6).toNat)).2).2)),((nth ((0:Int),((0:Int),[])) _v7 (_v5+(IntKind.i64.wrap (_v6 - (1:Int))).toNat)).1,(((nth ((0:Int),((0:Int),[])) _v7 (_v5+(IntKind.i64.wrap (_v6 - (1:Int))).toNat)).2).1,((nth ((0:Int),((0:Int),[])) _v7 (_v5+(IntKind.i64.wrap (_v6 - (1:Int))).toNat)).2).2)),())).bind fun _y24=>(bif (!_y24.1) then (bif (decide (0<=_v6)&&decide (_v6<((_v7.length - _v5:Nat):Int))) then (bif (decide (0<=_v4)&&decide (_v4<(_v7.length:Int))) then (_kn23 (_v5,((IntKind.i64.wrap (_v4+(1:Int))),(IntKind.i64.wrap (_v6+(1:Int))),(_v7.set ((_v4).toNat) ((nth ((0:Int),((0:Int),[])) _v7 (_v5+(_v6).toNat)).1,(((nth ((0:Int),((0:Int),[])) _v7 (_v5+(_v6).toNat)).2).1,((nth ((0:Int),((0:Int),[])) _v7 (_v5+(_v6).toNat)).2).2)))))) else none) else none) else (_kn23 (_v5,(_v4,(IntKind.i64.wrap (_v6+(1:Int))),_v7))))) else none) else none) else (_k22 (_v4,_v7)))
def qaQ(_N:Nat)(_k18:(List Yf)->Option qf)(_v2:List Yf)(_v1:Int)(_kn19:(List Yf)×Int->Option qf):Option qf:=
 (bif (decide (_v1<(_v2.length:Int))) then (joinD (fun (_s:Int×(List Yf))=>qaR _N _kn19 _s.1 _s.2) fun _k20=>(bif (decide (0<=_v1)&&decide (_v1<(_v2.length:Int))) then (bif (decide (0<=(IntKind.i64.wrap (_v1 - (1:Int))))&&decide ((IntKind.i64.wrap (_v1 - (1:Int)))<(_v2.length:Int))) then ((qbl _N (((nth ((0:Int),((0:Int),[])) _v2 ((_v1).toNat)).1,(((nth ((0:Int),((0:Int),[])) _v2 ((_v1).toNat)).2).1,((nth ((0:Int),((0:Int),[])) _v2 ((_v1).toNat)).2).2)),((nth ((0:Int),((0:Int),[])) _v2 ((IntKind.i64.wrap (_v1 - (1:Int))).toNat)).1,(((nth ((0:Int),((0:Int),[])) _v2 ((IntKind.i64.wrap (_v1 - (1:Int))).toNat)).2).1,((nth ((0:Int),((0:Int),[])) _v2 ((IntKind.i64.wrap (_v1 - (1:Int))).toNat)).2).2)),())).bind fun _y21=>(bif _y21.1 then (bif (decide (0<=_v1)&&decide (_v1<=(_v2.length:Int))) then (joinD (fun (_s:Int×(List Yf))=>qH _N _s.1 _s.2) fun _k22=>(loopE (fun (_c:Nat) (_s:Int×Int×(List Yf)) _kn=>qG _N _k22 _c _s.1 _s.2.1 _s.2.2 _kn) _N _v1.toNat (_v1,(1:Int),_v2))) else none) else (_k20 (_v1,_v2)))) else none) else none)) else (_k18 _v2))
def qaP(_N:Nat)(_x1:List Yf):Option qf:=
 (bif (decide ((_x1.length:Int)<(2:Int))) then (some (_x1,_x1)) else (joinD (fun (_s:(List Yf))=>qaS _N _s) fun _k18=>(loopE (fun (_c:(List Yf)) (_s:Int) _kn=>qaQ _N _k18 _c _s _kn) _N _x1 (1:Int))))
def qC(_N:Nat)(_x:(List Yf)):Option qf:=qaP _N _x
theorem qch(_N:Nat):SpecH Tryd.prog Gs 74 qam (qC _N):=mkSpH (fn:=Tryd.f74) (c:=qw Tryd.f74) (C:=(qcs _N))
  (a:=.two .none (.two (.two .none (.two (.two (.shut 0 .none) .none) .none)) (.join 1 ⟨[(0,.slc 0 0)],[.row false 0 40 Sv]⟩ (.two .none (.one (.loop 1 ⟨[(0,.slc 0 0),(1,.clo 75 []),(5,.int .i64)],[.row false 0 40 Sv]⟩ [0] (.two .none (.join 1 ⟨[(0,.slc 0 0),(1,.clo 75 []),(5,.int .i64)],[.row false 0 40 Sv]⟩ (.one (.two (.draw 0 [.pure,.pure,.pure,.rd [0],.rd [0],.pure,.pure,.pure,.rd [0],.rd [0],.pure]) (.two (.two .none (.join 1 ⟨[(0,.slc 0 0),(5,.int .i64)],[.row false 0 40 Sv]⟩ (.two .none (.one (.loop 1 ⟨[(0,.slc 0 0),(1,.clo 75 []),(5,.int .i64),(6,.tl 0 0),(7,.int .i64)],[.row false 0 40 Sv]⟩ [0,2,3] (.two .none (.two (.one (.two (.draw 0 [.pure,.pure,.pure,.rd [0],.rd [0],.pure,.pure,.pure,.rd [0],.rd [0],.pure,.pure]) .none)) .none))))) (.two .none (.two (.shut 0 .none) .none)))) .none))) .none))))) (.two (.shut 0 .none) .none))))
  (by kernel_rfl) rfl (by kernel_rfl) (by kernel_rfl) (by kernel_rfl) rfl ⟨rfl,by unfold TOk;kernel_rfl,qar rfl rfl (zF.2 ⟨qkT _N,(zC _)⟩),qaq rfl rfl (zC _),rfl⟩ (fun _x=>by kernel_rfl)
theorem qck(_N:Nat):EntOk Tryd.prog Gs (mkHe 74 qam (qC _N)):=entH ⟨Tryd.f74,qw Tryd.f74,by kernel_rfl,by kernel_rfl,rfl⟩ (qch _N)
abbrev qem:List Kd:=[.dat (.sl Sv)]
abbrev qal:Type:=List Yf
def qpv(_N:Nat):Ctx:={ T:=[(33,⟨.slice 40,1,24,some (.sl Sv),[.nil],false,[]⟩),(38,⟨.slice 3,1,24,some SA,[.nil],false,[]⟩),(40,⟨.struct [(0,3),(1,3),(2,38)],3,40,some Sv,[.int .i64 (0:Int),.int .i64 (0:Int),.nil],false,[]⟩)],G:=findE [mkG 71 qak 40 Sv (qK _N),mkS 72 40 Sv 73 (fun p q=>(qaz _N (p,q,())).map (·.1)),mkHe 74 qam (qC _N),mkF 35 qat 3 (.int .i64) (qF _N),mkP 37 qed qea (qco _N)],I:=findI [],N:=_N,n:=53,fx:=[1],fl:=0,gs:=Gs }
def qjc(_N:Nat)(_v57:List Yf):Option qal:=
 (some _v57)
def qgr(_N:Nat)(_kn62:((List Yf)×(List Yf)×Int×(List Yf))×(Int×(List Yf))->Option qal)(_v44:List Yf)(_v45:List Yf)(_v46:Int)(_v47:Int)(_v48:List Yf)(_v49:List Yf):Option qal:=
 (_kn62 ((_v44,_v45,_v46,_v48),((IntKind.i64.wrap (_v47+(1:Int))),_v49)))
def qjb(_N:Nat)(_k63:((List Yf)×(List Yf)×Int×Int×(List Yf)×(List Yf)×Int×Int×List Int)->Option qal)(_v24:List Yf)(_v25:Bool)(_v26:List Yf)(_v27:Int)(_v28:Int)(_v29:List Yf)(_v40:List Yf)(_v31:Int)(_v41:Int)(_v42:List Int):Option qal:=
 (bif _v25 then ((qF _N (_v42,())).bind fun _y64=>(bif (decide ((_v40.length+([(_v31,(_v41,_y64))]).length)*40<=140737488355328)&&Nat.ble 1 40) then (_k63 (_v24,_v26,_v27,_v28,_v29,(_v40 ++ [(_v31,(_v41,_y64))]),_v31,_v41,_y64)) else none)) else (_k63 (_v24,_v26,_v27,_v28,_v29,_v40,_v31,_v41,_v42)))
def qgq(_N:Nat)(_k65:((List Yf)×Bool×(List Yf)×Int×Int×(List Yf)×(List Yf)×Int×Int×List Int)->Option qal)(_v9:List Yf)(_v10:Int)(_v12:List Yf)(_v13:Int)(_v14:Int)(_v15:List Yf)(_v16:Int)(_v18:List Yf)(_v35:List Yf)(_v20:Int)(_v36:Int)(_v37:List Int)(_v11:Bool)(_v17:Int)(_kn66:((List Yf)×Int×(List Yf)×Int×Int×(List Yf)×Int×(List Yf)×(List Yf)×Int×Int×List Int)×(Bool×Int)->Option qal):Option qal:=
 (bif (decide (_v17<_v16)) then (bif (decide (0<=_v17)&&decide (_v17<(_v15.length:Int))) then (bif _v11 then (bif (_v10==_v17) then (_kn66 ((_v9,_v10,_v12,_v13,_v14,_v15,_v16,_v18,_v35,_v20,_v36,_v37),(true,(IntKind.i64.wrap (_v17+(1:Int)))))) else ((qco _N (((nth ((0:Int),((0:Int),[])) _v15 (_v17).toNat).1,(((nth ((0:Int),((0:Int),[])) _v15 (_v17).toNat).2).1,((nth ((0:Int),((0:Int),[])) _v15 (_v17).toNat).2).2)),(_v20,(_v36,_v37)),())).bind fun _y67=>(_kn66 ((_v9,_v10,_v12,_v13,_v14,_v15,_v16,_v18,_v35,_v20,_v36,_v37),((!_y67.1),(IntKind.i64.wrap (_v17+(1:Int)))))))) else (_kn66 ((_v9,_v10,_v12,_v13,_v14,_v15,_v16,_v18,_v35,_v20,_v36,_v37),(false,(IntKind.i64.wrap (_v17+(1:Int))))))) else none) else (_k65 (_v9,_v11,_v12,_v13,_v14,_v18,_v35,_v20,_v36,_v37)))
def qgp(_N:Nat)(_k61:((List Yf)×(List Yf))->Option qal)(_v4:List Yf)(_v5:List Yf)(_v6:Int)(_v8:List Yf)(_v7:Int)(_v34:List Yf)(_kn62:((List Yf)×(List Yf)×Int×(List Yf))×(Int×(List Yf))->Option qal):Option qal:=
 (bif (decide (_v7<_v6)) then (joinD (fun (_s:(List Yf)×(List Yf)×Int×Int×(List Yf)×(List Yf)×Int×Int×List Int)=>qgr _N _kn62 _s.1 _s.2.1 _s.2.2.1 _s.2.2.2.1 _s.2.2.2.2.1 _s.2.2.2.2.2.1) fun _k63=>(bif (decide (0<=_v7)&&decide (_v7<(_v5.length:Int))) then (joinD (fun (_s:(List Yf)×Bool×(List Yf)×Int×Int×(List Yf)×(List Yf)×Int×Int×List Int)=>qjb _N _k63 _s.1 _s.2.1 _s.2.2.1 _s.2.2.2.1 _s.2.2.2.2.1 _s.2.2.2.2.2.1 _s.2.2.2.2.2.2.1 _s.2.2.2.2.2.2.2.1 _s.2.2.2.2.2.2.2.2.1 _s.2.2.2.2.2.2.2.2.2) fun _k65=>(loopE (fun (_c:(List Yf)×Int×(List Yf)×Int×Int×(List Yf)×Int×(List Yf)×(List Yf)×Int×Int×List Int) (_s:Bool×Int) _kn=>qgq _N _k65 _c.1 _c.2.1 _c.2.2.1 _c.2.2.2.1 _c.2.2.2.2.1 _c.2.2.2.2.2.1 _c.2.2.2.2.2.2.1 _c.2.2.2.2.2.2.2.1 _c.2.2.2.2.2.2.2.2.1 _c.2.2.2.2.2.2.2.2.2.1 _c.2.2.2.2.2.2.2.2.2.2.1 _c.2.2.2.2.2.2.2.2.2.2.2 _s.1 _s.2 _kn) _N (_v4,_v7,_v5,_v6,_v7,_v4,(_v4.length:Int),_v8,_v34,(nth ((0:Int),((0:Int),[])) _v5 (_v7).toNat).1,((nth ((0:Int),((0:Int),[])) _v5 (_v7).toNat).2).1,((nth ((0:Int),((0:Int),[])) _v5 (_v7).toNat).2).2) (true,(0:Int)))) else none)) else (_k61 (_v8,_v34)))
def qja(_N:Nat)(_x1:List Yf):Option qal:=
 ((qK _N (_x1,())).bind fun _y58=>((sortR (fun p q=>(qaz _N (p,q,())).map (·.1)) _y58).bind fun _y59=>((qC _N _y59).bind fun _y60=>(joinD (fun (_s:(List Yf)×(List Yf))=>qjc _N _s.2) fun _k61=>(loopE (fun (_c:(List Yf)×(List Yf)×Int×(List Yf)) (_s:Int×(List Yf)) _kn=>qgp _N _k61 _c.1 _c.2.1 _c.2.2.1 _c.2.2.2 _s.1 _s.2 _kn) _N (_y60.1,_y60.1,(_y60.1.length:Int),_y60.2) ((0:Int),[]))))))
def qcC(_N:Nat)(_x:Dens qem):Option qal:=qja _N _x.1
theorem qnv(_N:Nat):SpecF Tryd.prog Gs 51 qem 40 Sv (qcC _N):=mkSpF (fn:=Tryd.f51) (c:=qw Tryd.f51) (C:=qpv _N)
  (a:=.two .none (.two .none (.two .none (.two .none (.two .none (.join 2 ⟨[(3,.slc 1 0)],[.row true 0 40 Sv,.row false 0 40 Sv]⟩ (.two .none (.one (.obj 3 40 Sv (.loop 2 ⟨[(0,.sl Sv),(3,.slc 1 0),(15,.sl Sv),(16,.int .i64),(17,.int .i64)],[.row true 0 40 Sv,.row false 0 40 Sv]⟩ [3,5] (.two .none (.two .none (.join 3 ⟨[(0,.sl Sv),(3,.slc 1 0),(15,.sl Sv),(16,.int .i64),(17,.int .i64)],[.row true 0 40 Sv,.row false 0 40 Sv,.cells [.int .i64,.int .i64,.sl (.int .i64)]]⟩ (.one (.two .none (.two .none (.join 3 ⟨[(0,.sl Sv),(3,.slc 1 0),(5,.ptr 2 0),(6,.bool),(15,.sl Sv),(16,.int .i64),(17,.int .i64)],[.row true 0 40 Sv,.row false 0 40 Sv,.cells [.int .i64,.int .i64,.sl (.int .i64)]]⟩ (.two .none (.one (.loop 3 ⟨[(0,.sl Sv),(3,.slc 1 0),(4,.int .i64),(5,.ptr 2 0),(6,.bool),(15,.sl Sv),(16,.int .i64),(17,.int .i64),(22,.sl Sv),(23,.int .i64),(24,.int .i64)],[.row true 0 40 Sv,.row false 0 40 Sv,.cells [.int .i64,.int .i64,.sl (.int .i64)]]⟩ [2,8] .none))) .none)))) .none))))))) .none))))))
  (by kernel_rfl) rfl (by kernel_rfl) (by kernel_rfl) ⟨rfl,by unfold TOk;kernel_rfl,qar rfl rfl (zF.2 ⟨qdl _N,(zF.2 ⟨qAt _N,(zF.2 ⟨qck _N,(zF.2 ⟨qbB _N,(zF.2 ⟨qkn _N,(zC _)⟩)⟩)⟩)⟩)⟩),qaq rfl rfl (zC _),rfl⟩ (fun _x=>by kernel_rfl)
theorem qnF(_N:Nat):EntOk Tryd.prog Gs (mkG 51 qem 40 Sv (qcC _N)):=entG ⟨Tryd.f51,qw Tryd.f51,by kernel_rfl,by kernel_rfl,rfl⟩ (zD (by kernel_rfl)) (qnv _N)
end Go.Proofs.YtgnnhemoocfclaaDoor
end
