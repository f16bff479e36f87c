import Derived.Test.YtgnnhemoocfclaaDoorRTim
noncomputable section
namespace Go.Proofs.YtgnnhemoocfclaaDoor
open Go.Abs
abbrev SA:Sh:=.sl (.int .i64)
abbrev Sz:Sh:=.pair (.int .i64) (.bool)
abbrev Sv:Sh:=.pair (.int .i64) (.pair (.int .i64) (.sl (.int .i64)))
abbrev Yg:Type:=Int×Bool
abbrev Yf:Type:=List (Int×Bool)
abbrev Ye:Type:=Int×Int×List Int
abbrev qck:List Kd:=[.dat Sv]
abbrev qcj:List Kd:=[.dat (.int .i64)]
abbrev qiU:Type:=Dens qcj
def qqQ(_N:Nat):Ctx:={ T:=[(3,⟨.int .i64,1,8,some (.int .i64),[.int .i64 (0:Int)],false,[]⟩),(38,⟨.slice 3,1,24,some SA,[.nil],false,[]⟩),(40,⟨.struct [(0,3),(1,3),(2,38)],3,40,some Sv,[.int .i64 (0:Int),.int .i64 (0:Int),.nil],false,[]⟩)],G:=findE [],I:=findI [],N:=_N,n:=9,fx:=[],fl:=0,gs:=Gs }
def qjF(_N:Nat)(_x1:Int×Int×List Int):Option qiU:=
 (some ((IntKind.i64.wrap (_x1.1+(_x1.2.2.length:Int))),()))
def qaM(_N:Nat)(_x:Dens qck):Option qiU:=qjF _N _x.1
theorem qob(_N:Nat):SpecD Tryd.prog Gs 34 qck qcj (qaM _N):=mkSpD (fn:=Tryd.f34) (c:=qB Tryd.f34) (C:=qqQ _N)
  (a:=.none)
  (by kernel_rfl) rfl (by kernel_rfl) (by kernel_rfl) ⟨rfl,by unfold TOk;kernel_rfl,qax rfl rfl (zD _),qaw rfl rfl (zD _),rfl⟩ (fun _x=>by kernel_rfl)
theorem qgs(_N:Nat):EntOk Tryd.prog Gs (mkP 34 qck qcj (qaM _N)):=entP ⟨Tryd.f34,qB Tryd.f34,by kernel_rfl,by kernel_rfl,rfl⟩ (by kernel_rfl) (qob _N)
abbrev qbO:List Kd:=[.dat (.int .i64)]
abbrev qbM:List Kd:=[.dat (.bool)]
abbrev qgS:Type:=Dens qbM
def qlX(_N:Nat):Ctx:={ T:=[],G:=findE [],I:=findI [],N:=_N,n:=9,fx:=[],fl:=0,gs:=Gs }
def qhv(_N:Nat)(_x1:Int):Option qgS:=
 (bif (decide (_x1>=(0:Int))) then (some ((decide (_x1<=(1048576:Int))),())) else (some (false,())))
def qaq(_N:Nat)(_x:Dens qbO):Option qgS:=qhv _N _x.1
theorem qkD(_N:Nat):SpecD Tryd.prog Gs 36 qbO qbM (qaq _N):=mkSpD (fn:=Tryd.f36) (c:=qB Tryd.f36) (C:=qlX _N)
  (a:=.none)
  (by kernel_rfl) rfl (by kernel_rfl) (by kernel_rfl) ⟨rfl,by unfold TOk;kernel_rfl,qax rfl rfl (zD _),qaw rfl rfl (zD _),rfl⟩ (fun _x=>by kernel_rfl)
theorem qgL(_N:Nat):EntOk Tryd.prog Gs (mkP 36 qbO qbM (qaq _N)):=entP ⟨Tryd.f36,qB Tryd.f36,by kernel_rfl,by kernel_rfl,rfl⟩ (by kernel_rfl) (qkD _N)
abbrev qcc:List Kd:=[.dat Sv,.dat (.int .i64)]
abbrev qca:List Kd:=[.dat (.int .i64)]
abbrev qbg:Type:=Dens qca
def qnU(_N:Nat):Ctx:={ T:=[(3,⟨.int .i64,1,8,some (.int .i64),[.int .i64 (0:Int)],false,[]⟩),(38,⟨.slice 3,1,24,some SA,[.nil],false,[]⟩),(40,⟨.struct [(0,3),(1,3),(2,38)],3,40,some Sv,[.int .i64 (0:Int),.int .i64 (0:Int),.nil],false,[]⟩)],G:=findE [mkP 36 qbO qbM (qaq _N)],I:=findI [],N:=_N,n:=48,fx:=[],fl:=0,gs:=Gs }
def qfg(_N:Nat):Option qbg:=
 (some ((0:Int),()))
def qdy(_N:Nat)(_k17:(Int×Int×List Int×List Int)->Option qbg)(_v5:Int)(_v7:Int)(_v8:Int)(_v9:List Int)(_v10:List Int)(_v6:Int)(_kn18:(Int×Int×Int×List Int×List Int)×Int->Option qbg):Option qbg:=
 (bif (decide (_v6<_v5)) then (bif (decide (0<=_v6)&&decide (_v6<(_v10.length:Int))) then ((qaq _N ((nth (0:Int) _v10 ((_v6).toNat)),())).bind fun _y19=>(bif (!_y19.1) then (some ((2:Int),())) else (_kn18 ((_v5,_v7,_v8,_v9,_v10),(IntKind.i64.wrap (_v6+(1:Int))))))) else none) else (_k17 (_v7,_v8,_v9,_v10)))
def qhM(_N:Nat)(_v1:Bool)(_v2:Int)(_v3:Int)(_v4:List Int):Option qbg:=
 (bif _v1 then (some ((1:Int),())) else (joinD (fun (_s:Int×Int×List Int×List Int)=>qfg _N) fun _k17=>(bif (decide ((([_v3]).length+_v4.length)*8<=140737488355328)&&Nat.ble 1 8) then (loopE (fun (_c:Int×Int×Int×List Int×List Int) (_s:Int) _kn=>qdy _N _k17 _c.1 _c.2.1 _c.2.2.1 _c.2.2.2.1 _c.2.2.2.2 _s _kn) _N ((([_v3]++_v4).length:Int),_v2,_v3,_v4,([_v3]++_v4)) (0:Int)) else none)))
def qhL(_N:Nat)(_x1:Int×Int×List Int)(_x2:Int):Option qbg:=
 (joinD (fun (_s:Bool×Int×Int×List Int)=>qhM _N _s.1 _s.2.1 _s.2.2.1 _s.2.2.2) fun _k20=>(bif (decide (_x2<(1:Int))) then (_k20 (true,_x1.1,_x1.2.1,_x1.2.2)) else (bif (decide (_x2>(4:Int))) then (_k20 (true,_x1.1,_x1.2.1,_x1.2.2)) else (bif (decide (_x1.1<(1:Int))) then (_k20 (true,_x1.1,_x1.2.1,_x1.2.2)) else (bif (decide (_x1.1>_x2)) then (_k20 (true,_x1.1,_x1.2.1,_x1.2.2)) else (_k20 ((decide ((_x1.2.2.length:Int)>(IntKind.i64.wrap ((4:Int) - _x1.1)))),_x1.1,_x1.2.1,_x1.2.2)))))))
def qaF(_N:Nat)(_x:Dens qcc):Option qbg:=qhL _N _x.1 _x.2.1
theorem qlM(_N:Nat):SpecD Tryd.prog Gs 33 qcc qca (qaF _N):=mkSpD (fn:=Tryd.f33) (c:=qB Tryd.f33) (C:=qnU _N)
  (a:=.two .none (.two (.join 1 ⟨[(2,.ptr 0 0),(32,.bool)],[.cells [.int .i64,.int .i64,.sl (.int .i64)]]⟩ .none .none) (.join 2 ⟨[],[.cells [.int .i64,.int .i64,.sl (.int .i64)],.row false 1 3 (.int .i64)]⟩ (.two .none (.one (.loop 2 ⟨[(38,.slc 1 1),(39,.int .i64),(40,.int .i64)],[.cells [.int .i64,.int .i64,.sl (.int .i64)],.row false 1 3 (.int .i64)]⟩ [1] .none))) .none)))
  (by kernel_rfl) rfl (by kernel_rfl) (by kernel_rfl) ⟨rfl,by unfold TOk;kernel_rfl,qax rfl rfl (zG.2 ⟨qgL _N,(zD _)⟩),qaw rfl rfl (zD _),rfl⟩ (fun _x=>by kernel_rfl)
theorem qhz(_N:Nat):EntOk Tryd.prog Gs (mkP 33 qcc qca (qaF _N)):=entP ⟨Tryd.f33,qB Tryd.f33,by kernel_rfl,by kernel_rfl,rfl⟩ (by kernel_rfl) (qlM _N)
abbrev qcE:List Kd:=[.dat Sv]
abbrev qah:Type:=List Yg
def qlY(_N:Nat):Ctx:={ T:=[(3,⟨.int .i64,1,8,some (.int .i64),[.int .i64 (0:Int)],false,[]⟩),(4,⟨.bool,1,1,some .bool,[.bool false],false,[]⟩),(38,⟨.slice 3,1,24,some SA,[.nil],false,[]⟩),(40,⟨.struct [(0,3),(1,3),(2,38)],3,40,some Sv,[.int .i64 (0:Int),.int .i64 (0:Int),.nil],false,[]⟩),(112,⟨.slice 115,1,24,some (.sl Sz),[.nil],false,[]⟩),(115,⟨.struct [(0,3),(1,4)],2,16,some Sz,[.int .i64 (0:Int),.bool false],true,[]⟩)],G:=findE [mkP 34 qck qcj (qaM _N)],I:=findI [],N:=_N,n:=44,fx:=[1],fl:=0,gs:=Gs }
def qeE(_N:Nat)(_v22:List Yg):Option qah:=
 (some _v22)
def qdc(_N:Nat)(_k24:(Int×Int×List Int×Yf)->Option qah)(_v12:List Int)(_v13:Int)(_v15:Int)(_v16:Int)(_v17:List Int)(_v14:Int)(_v18:List Yg)(_kn25:(List Int×Int×Int×Int×List Int)×(Int×Yf)->Option qah):Option qah:=
 (bif (decide (_v14<_v13)) then (bif (decide (0<=_v14)&&decide (_v14<(_v12.length:Int))) then (bif (decide ((_v18.length+([((nth (0:Int) _v12 (_v14).toNat),false)]).length)*16<=140737488355328)&&Nat.ble 1 16) then (_kn25 ((_v12,_v13,_v15,_v16,_v17),((IntKind.i64.wrap (_v14+(1:Int))),(_v18 ++ [((nth (0:Int) _v12 (_v14).toNat),false)])))) else none) else none) else (_k24 (_v15,_v16,_v17,_v18)))
def qeD(_N:Nat)(_v8:Int)(_v9:Int)(_v10:List Int)(_v11:List Yg):Option qah:=
 (bif (decide (0<=(IntKind.i64.wrap (_v8 - (1:Int))))&&decide ((IntKind.i64.wrap (_v8 - (1:Int)))<(_v11.length:Int))) then (joinD (fun (_s:Int×Int×List Int×Yf)=>qeE _N _s.2.2.2) fun _k24=>(loopE (fun (_c:List Int×Int×Int×Int×List Int) (_s:Int×Yf) _kn=>qdc _N _k24 _c.1 _c.2.1 _c.2.2.1 _c.2.2.2.1 _c.2.2.2.2 _s.1 _s.2 _kn) _N (_v10,(_v10.length:Int),_v8,_v9,_v10) ((0:Int),(_v11.set ((IntKind.i64.wrap (_v8 - (1:Int))).toNat) (_v9,(nth ((0:Int),false) _v11 ((IntKind.i64.wrap (_v8 - (1:Int))).toNat)).2))))) else none)
def qdb(_N:Nat)(_k26:(Int×Int×List Int×Yf)->Option qah)(_v2:Int)(_v4:Int)(_v5:Int)(_v6:List Int)(_v3:Int)(_v7:List Yg)(_kn27:(Int×Int×Int×List Int)×(Int×Yf)->Option qah):Option qah:=
 (bif (decide (_v3<_v2)) then (bif (decide (0<=_v3)&&decide (_v3<(_v7.length:Int))) then (_kn27 ((_v2,_v4,_v5,_v6),((IntKind.i64.wrap (_v3+(1:Int))),(_v7.set ((_v3).toNat) ((nth ((0:Int),false) _v7 ((_v3).toNat)).1,true))))) else none) else (_k26 (_v4,_v5,_v6,_v7)))
def qhw(_N:Nat)(_x1:Int×Int×List Int):Option qah:=
 ((qaM _N ((_x1.1,(_x1.2.1,_x1.2.2)),())).bind fun _y23=>(bif (decide (0<=_x1.1)&&(decide (_x1.1<=_y23.1)&&decide (_y23.1*16<=281474976710656))) then (joinD (fun (_s:Int×Int×List Int×Yf)=>qeD _N _s.1 _s.2.1 _s.2.2.1 _s.2.2.2) fun _k26=>(loopE (fun (_c:Int×Int×Int×List Int) (_s:Int×Yf) _kn=>qdb _N _k26 _c.1 _c.2.1 _c.2.2.1 _c.2.2.2 _s.1 _s.2 _kn) _N (((List.replicate _x1.1.toNat ((0:Int),false)).length:Int),_x1.1,_x1.2.1,_x1.2.2) ((0:Int),(List.replicate _x1.1.toNat ((0:Int),false))))) else none))
def qbh(_N:Nat)(_x:Dens qcE):Option qah:=qhw _N _x.1
theorem qkE(_N:Nat):SpecF Tryd.prog Gs 54 qcE 115 Sz (qbh _N):=mkSpF (fn:=Tryd.f54) (c:=qB Tryd.f54) (C:=qlY _N)
  (a:=.two .none (.two (.draw 1 [.pure,.rd [0],.rd [0],.pure,.new 1,.pure]) (.join 2 ⟨[(1,.ptr 0 0),(3,.slc 1 0)],[.cells [.int .i64,.int .i64,.sl (.int .i64)],.row false 0 115 Sz]⟩ (.two .none (.one (.loop 2 ⟨[(1,.ptr 0 0),(3,.slc 1 0),(13,.int .i64),(14,.int .i64)],[.cells [.int .i64,.int .i64,.sl (.int .i64)],.row false 0 115 Sz]⟩ [1,5] .none))) (.two .none (.join 2 ⟨[(3,.slc 1 0)],[.cells [.int .i64,.int .i64,.sl (.int .i64)],.row false 0 115 Sz]⟩ (.two .none (.one (.loop 2 ⟨[(3,.slc 1 0),(31,.sl (.int .i64)),(32,.int .i64),(33,.int .i64)],[.cells [.int .i64,.int .i64,.sl (.int .i64)],.row false 0 115 Sz]⟩ [2,6] .none))) .none)))))
  (by kernel_rfl) rfl (by kernel_rfl) (by kernel_rfl) ⟨rfl,by unfold TOk;kernel_rfl,qax rfl rfl (zG.2 ⟨qgs _N,(zD _)⟩),qaw rfl rfl (zD _),rfl⟩ (fun _x=>by kernel_rfl)
theorem qjP(_N:Nat):EntOk Tryd.prog Gs (mkQ 54 qcE [.dat (.sl Sz)] (fun _x=>(qbh _N _x).map fun _y=>(_y,()))):=entQ ⟨Tryd.f54,qB Tryd.f54,by kernel_rfl,by kernel_rfl,rfl⟩ (qoN (qkE _N))
abbrev qcZ:List Kd:=[.dat Sv,.dat Sv]
abbrev qcX:List Kd:=[.dat (.bool)]
abbrev qbk:Type:=Dens qcX
def qqR(_N:Nat):Ctx:={ T:=[(3,⟨.int .i64,1,8,some (.int .i64),[.int .i64 (0:Int)],false,[]⟩),(4,⟨.bool,1,1,some .bool,[.bool false],false,[]⟩),(40,⟨.struct [(0,3),(1,3),(2,38)],3,40,some Sv,[.int .i64 (0:Int),.int .i64 (0:Int),.nil],false,[]⟩),(112,⟨.slice 115,1,24,some (.sl Sz),[.nil],false,[]⟩),(115,⟨.struct [(0,3),(1,4)],2,16,some Sz,[.int .i64 (0:Int),.bool false],true,[]⟩)],G:=findE [mkP 33 qcc qca (qaF _N),mkP 34 qck qcj (qaM _N),mkQ 54 qcE [.dat (.sl Sz)] (fun _x=>(qbh _N _x).map fun _y=>(_y,()))],I:=findI [],N:=_N,n:=59,fx:=[],fl:=0,gs:=Gs }
def qgV(_N:Nat):Option qbk:=
 (some (true,()))
def qjH(_N:Nat)(_kn47:(Yf×Yf×Int×Int×Int×List Int×Int×Int×List Int)×Int->Option qbk)(_v17:List Yg)(_v18:List Yg)(_v19:Int)(_v20:Int)(_v28:Int)(_v29:Int)(_v30:List Int)(_v31:Int)(_v32:Int)(_v33:List Int):Option qbk:=
 (_kn47 ((_v17,_v18,_v19,_v28,_v29,_v30,_v31,_v32,_v33),(IntKind.i64.wrap (_v20+(1:Int)))))
def qeO(_N:Nat)(_k46:(Int×Int×List Int×Int×Int×List Int)->Option qbk)(_v7:List Yg)(_v8:List Yg)(_v9:Int)(_v11:Int)(_v12:Int)(_v13:List Int)(_v14:Int)(_v15:Int)(_v16:List Int)(_v10:Int)(_kn47:(Yf×Yf×Int×Int×Int×List Int×Int×Int×List Int)×Int->Option qbk):Option qbk:=
 (bif (decide (_v10<_v9)) then (joinD (fun (_s:Yf×Yf×Int×Int×Yf×Int×Yg×Bool×Bool×Bool×Bool×Int×Int×List Int×Int×Int×List Int)=>qjH _N _kn47 _s.1 _s.2.1 _s.2.2.1 _s.2.2.2.1 _s.2.2.2.2.2.2.2.2.2.2.2.1 _s.2.2.2.2.2.2.2.2.2.2.2.2.1 _s.2.2.2.2.2.2.2.2.2.2.2.2.2.1 _s.2.2.2.2.2.2.2.2.2.2.2.2.2.2.1 _s.2.2.2.2.2.2.2.2.2.2.2.2.2.2.2.1 _s.2.2.2.2.2.2.2.2.2.2.2.2.2.2.2.2) fun _k48=>(bif (decide (0<=_v10)&&decide (_v10<(_v7.length:Int))) then (bif (decide (0<=_v10)&&decide (_v10<(_v8.length:Int))) then (bif (decide (((nth ((0:Int),false) _v7 (_v10).toNat).1)>((nth ((0:Int),false) _v8 (_v10).toNat).1))) then (some (false,())) else (bif (decide (0<=_v10)&&decide (_v10<(_v7.length:Int))) then (bif (nth ((0:Int),false) _v7 (_v10).toNat).2 then (bif (decide (0<=_v10)&&decide (_v10<(_v8.length:Int))) then (bif (!(nth ((0:Int),false) _v8 (_v10).toNat).2) then (some (false,())) else (_k48 (_v7,_v8,_v9,_v10,_v7,_v10,(nth ((0:Int),false) _v7 (_v10).toNat),(nth ((0:Int),false) _v7 (_v10).toNat).2,(nth ((0:Int),false) _v7 (_v10).toNat).2,true,(!(nth ((0:Int),false) _v8 (_v10).toNat).2),_v11,_v12,_v13,_v14,_v15,_v16))) else none) else (_k48 (_v7,_v8,_v9,_v10,_v7,_v10,(nth ((0:Int),false) _v7 (_v10).toNat),(nth ((0:Int),false) _v7 (_v10).toNat).2,(nth ((0:Int),false) _v7 (_v10).toNat).2,false,false,_v11,_v12,_v13,_v14,_v15,_v16))) else none)) else none) else none)) else (_k46 (_v11,_v12,_v13,_v14,_v15,_v16)))
def qjG(_N:Nat)(_x1:Int×Int×List Int)(_x2:Int×Int×List Int):Option qbk:=
 ((qaF _N ((_x1.1,(_x1.2.1,_x1.2.2)),(4:Int),())).bind fun _y40=>(bif (_y40.1 != (0:Int)) then (some (false,())) else ((qaF _N ((_x2.1,(_x2.2.1,_x2.2.2)),(4:Int),())).bind fun _y41=>(bif (_y41.1 != (0:Int)) then (some (false,())) else ((qaM _N ((_x1.1,(_x1.2.1,_x1.2.2)),())).bind fun _y42=>((qaM _N ((_x2.1,(_x2.2.1,_x2.2.2)),())).bind fun _y43=>(bif (_y42.1 != _y43.1) then (some (false,())) else (((fun _x=>(qbh _N _x).map fun _y=>(_y,())) ((_x1.1,(_x1.2.1,_x1.2.2)),())).bind fun _y44=>(((fun _x=>(qbh _N _x).map fun _y=>(_y,())) ((_x2.1,(_x2.2.1,_x2.2.2)),())).bind fun _y45=>(joinD (fun (_s:Int×Int×List Int×Int×Int×List Int)=>qgV _N) fun _k46=>(loopE (fun (_c:Yf×Yf×Int×Int×Int×List Int×Int×Int×List Int) (_s:Int) _kn=>qeO _N _k46 _c.1 _c.2.1 _c.2.2.1 _c.2.2.2.1 _c.2.2.2.2.1 _c.2.2.2.2.2.1 _c.2.2.2.2.2.2.1 _c.2.2.2.2.2.2.2.1 _c.2.2.2.2.2.2.2.2 _s _kn) _N (_y44.1,_y45.1,(_y44.1.length:Int),_x1.1,_x1.2.1,_x1.2.2,_x2.1,_x2.2.1,_x2.2.2) (0:Int))))))))))))
def qbz(_N:Nat)(_x:Dens qcZ):Option qbk:=qjG _N _x.1 _x.2.1
theorem qoc(_N:Nat):SpecD Tryd.prog Gs 37 qcZ qcX (qbz _N):=mkSpD (fn:=Tryd.f37) (c:=qB Tryd.f37) (C:=qqR _N)
  (a:=.two .none (.two (.two (.draw 0 [.rd [0],.pure,.pure,.pure,.rd [1],.pure,.pure,.pure,.pure,.rd [0],.pure,.rd [1],.pure,.pure,.pure]) .none) (.two (.draw 0 [.rd [0],.pure,.rd [1],.pure,.pure,.pure]) (.join 2 ⟨[],[.cells [.int .i64,.int .i64,.sl (.int .i64)],.cells [.int .i64,.int .i64,.sl (.int .i64)]]⟩ (.two .none (.one (.loop 2 ⟨[(5,.sl Sz),(6,.sl Sz),(28,.int .i64),(29,.int .i64)],[.cells [.int .i64,.int .i64,.sl (.int .i64)],.cells [.int .i64,.int .i64,.sl (.int .i64)]]⟩ [3] (.two .none (.two .none (.join 2 ⟨[(5,.sl Sz),(6,.sl Sz),(28,.int .i64),(29,.int .i64),(44,.sl Sz),(45,.int .i64),(46,.fptr Sz),(47,.fptr .bool),(48,.bool),(49,.bool),(56,.bool)],[.cells [.int .i64,.int .i64,.sl (.int .i64)],.cells [.int .i64,.int .i64,.sl (.int .i64)]]⟩ (.one (.two .none (.two (.draw 0 (.pure :: .pure :: .pure :: .pure :: .pure :: .pure :: .pure :: .pure :: .pure :: .pure :: .pure :: .pure :: .pure :: .pure :: .pure :: .pure :: .pure :: .pure :: .pure :: .pure :: .pure :: .pure :: .pure :: .pure :: .pure :: .pure :: [])) .none))) .none)))))) .none))))
  (by kernel_rfl) rfl (by kernel_rfl) (by kernel_rfl) ⟨rfl,by unfold TOk;kernel_rfl,qax rfl rfl (zG.2 ⟨qhz _N,(zG.2 ⟨qgs _N,(zG.2 ⟨qjP _N,(zD _)⟩)⟩)⟩),qaw rfl rfl (zD _),rfl⟩ (fun _x=>by kernel_rfl)
theorem qiQ(_N:Nat):EntOk Tryd.prog Gs (mkP 37 qcZ qcX (qbz _N)):=entP ⟨Tryd.f37,qB Tryd.f37,by kernel_rfl,by kernel_rfl,rfl⟩ (by kernel_rfl) (qoc _N)
abbrev qdN:List Kd:=[.dat Sv,.dat Sv]
abbrev qdK:List Kd:=[.dat Sv,.dat (.int .i64)]
abbrev qim:Type:=Dens qdK
def qoI(_N:Nat):Ctx:={ T:=[(3,⟨.int .i64,1,8,some (.int .i64),[.int .i64 (0:Int)],false,[]⟩),(38,⟨.slice 3,1,24,some SA,[.nil],false,[]⟩),(40,⟨.struct [(0,3),(1,3),(2,38)],3,40,some Sv,[.int .i64 (0:Int),.int .i64 (0:Int),.nil],false,[]⟩)],G:=findE [mkP 33 qcc qca (qaF _N),mkP 34 qck qcj (qaM _N),mkP 36 qbO qbM (qaq _N),mkF 35 qab 3 (.int .i64) (qF _N)],I:=findI [],N:=_N,n:=83,fx:=[],fl:=0,gs:=Gs }
def qiL(_N:Nat)(_x1:Int×Int×List Int)(_x2:Int×Int×List Int):Option qim:=
 ((qaF _N ((_x1.1,(_x1.2.1,_x1.2.2)),(4:Int),())).bind fun _y8=>(bif (_y8.1 != (0:Int)) then (some (((0:Int),((0:Int),[])),_y8.1,())) else ((qaM _N ((_x1.1,(_x1.2.1,_x1.2.2)),())).bind fun _y9=>((qaF _N ((_x2.1,(_x2.2.1,_x2.2.2)),_y9.1,())).bind fun _y10=>(bif (_y10.1 != (0:Int)) then (some (((0:Int),((0:Int),[])),_y10.1,())) else (bif ((IntKind.i64.wrap (_x2.1 - _x1.1))==(0:Int)) then ((qaq _N ((IntKind.i64.wrap (_x2.2.1+_x1.2.1)),())).bind fun _y11=>(bif (!_y11.1) then (some (((0:Int),((0:Int),[])),(6:Int),())) else (bif (decide (_x2.2.2.length*8<=140737488355328)&&Nat.ble 1 8) then (some ((_x2.1,((IntKind.i64.wrap (_x2.2.1+_x1.2.1)),_x2.2.2)),(0:Int),())) else none))) else (bif (decide ((IntKind.i64.wrap (_x2.1 - _x1.1))>(0:Int))) then (bif (decide (0<=(0:Int))&&(decide ((0:Int)<=(IntKind.i64.wrap (_x2.1 - _x1.1)))&&decide ((IntKind.i64.wrap (_x2.1 - _x1.1))<=(_x1.2.2.length:Int)))) then ((qF _N (((_x1.2.2.take (IntKind.i64.wrap (_x2.1 - _x1.1)).toNat).drop (0:Int).toNat),())).bind fun _y12=>(bif (decide (0<=(IntKind.i64.wrap ((IntKind.i64.wrap (_x2.1 - _x1.1)) - (1:Int))))&&decide ((IntKind.i64.wrap ((IntKind.i64.wrap (_x2.1 - _x1.1)) - (1:Int)))<(_y12.length:Int))) then ((qaq _N ((nth (0:Int) (_y12.set ((IntKind.i64.wrap ((IntKind.i64.wrap (_x2.1 - _x1.1)) - (1:Int))).toNat) (IntKind.i64.wrap ((nth (0:Int) _y12 ((IntKind.i64.wrap ((IntKind.i64.wrap (_x2.1 - _x1.1)) - (1:Int))).toNat))+_x2.2.1))) ((IntKind.i64.wrap ((IntKind.i64.wrap (_x2.1 - _x1.1)) - (1:Int))).toNat)),())).bind fun _y13=>(bif (!_y13.1) then (some (((0:Int),((0:Int),[])),(6:Int),())) else (bif (decide (((_y12.set ((IntKind.i64.wrap ((IntKind.i64.wrap (_x2.1 - _x1.1)) - (1:Int))).toNat) (IntKind.i64.wrap ((nth (0:Int) _y12 ((IntKind.i64.wrap ((IntKind.i64.wrap (_x2.1 - _x1.1)) - (1:Int))).toNat))+_x2.2.1))).length+_x2.2.2.length)*8<=140737488355328)&&Nat.ble 1 8) then (some ((_x1.1,(_x1.2.1,((_y12.set ((IntKind.i64.wrap ((IntKind.i64.wrap (_x2.1 - _x1.1)) - (1:Int))).toNat) (IntKind.i64.wrap ((nth (0:Int) _y12 ((IntKind.i64.wrap ((IntKind.i64.wrap (_x2.1 - _x1.1)) - (1:Int))).toNat))+_x2.2.1)))++_x2.2.2))),(0:Int),())) else none))) else none)) else none) else ((qaq _N (_x2.2.1,())).bind fun _y14=>(bif (!_y14.1) then (some (((0:Int),((0:Int),[])),(6:Int),())) else (bif (decide (_x2.2.2.length*8<=140737488355328)&&Nat.ble 1 8) then (some ((_x2.1,(_x2.2.1,_x2.2.2)),(0:Int),())) else none))))))))))
def qcl(_N:Nat)(_x:Dens qdN):Option qim:=qiL _N _x.1 _x.2.1
theorem qmo(_N:Nat):SpecD Tryd.prog Gs 14 qdN qdK (qcl _N):=mkSpD (fn:=Tryd.f14) (c:=qB Tryd.f14) (C:=qoI _N)
  (a:=.two .none (.two .none (.two (.two (.draw 0 [.rd [1],.rd [0],.pure,.pure,.pure]) .none) (.two .none (.two .none (.two (.two .none (.one (.two .none (.two .none (.two .none (.two (.two (.draw 1 [.pure,.rd [0],.pure,.rd [0],.pure,.rd [0],.pure,.pure,.new 4,.pure,.wr [3,4]]) (.two .none (.draw 0 [.pure,.rd [4],.rd [4],.pure,.rd [1],.pure,.rd [4],.wr [4]]))) .none)))))) .none))))))
  (by kernel_rfl) rfl (by kernel_rfl) (by kernel_rfl) ⟨rfl,by unfold TOk;kernel_rfl,qax rfl rfl (zG.2 ⟨qhz _N,(zG.2 ⟨qgs _N,(zG.2 ⟨qgL _N,(zG.2 ⟨qdq _N,(zD _)⟩)⟩)⟩)⟩),qaw rfl rfl (zD _),rfl⟩ (fun _x=>by kernel_rfl)
theorem qlR(_N:Nat):EntOk Tryd.prog Gs (mkQ 14 qdN qdK (qcl _N)):=entQ ⟨Tryd.f14,qB Tryd.f14,by kernel_rfl,by kernel_rfl,rfl⟩ (qmo _N)
abbrev qdO:List Kd:=[.dat SA]
abbrev qdL:List Kd:=[.dat (.int .i64)]
abbrev qcC:Type:=Dens qdL
def qsL(_N:Nat):Ctx:={ T:=[(3,⟨.int .i64,1,8,some (.int .i64),[.int .i64 (0:Int)],false,[]⟩),(38,⟨.slice 3,1,24,some SA,[.nil],false,[]⟩)],G:=findE [],I:=findI [],N:=_N,n:=18,fx:=[],fl:=0,gs:=Gs }
def qeA(_N:Nat)(_v5:Int):Option qcC:=
 (some (_v5,()))
def qdt(_N:Nat)(_k6:Int->Option qcC)(_v1:Int)(_v2:List Int)(_v3:Int)(_v4:Int)(_kn7:(Int×List Int×Int)×Int->Option qcC):Option qcC:=
 (bif (decide (_v4<_v3)) then (bif (decide (0<=_v4)&&decide (_v4<(_v2.length:Int))) then (bif ((nth (0:Int) _v2 (_v4).toNat) != _v1) then (some ((nth (0:Int) _v2 (_v4).toNat),())) else (_kn7 ((_v1,_v2,_v3),(IntKind.i64.wrap (_v4+(1:Int)))))) else none) else (_k6 _v1))
def qig(_N:Nat)(_x1:List Int):Option qcC:=
 (joinD (fun (_s:Int)=>qeA _N _s) fun _k6=>(loopE (fun (_c:Int×List Int×Int) (_s:Int) _kn=>qdt _N _k6 _c.1 _c.2.1 _c.2.2 _s _kn) _N ((0:Int),_x1,(_x1.length:Int)) (0:Int)))
def qbl(_N:Nat)(_x:Dens qdO):Option qcC:=qig _N _x.1
theorem qpI(_N:Nat):SpecD Tryd.prog Gs 63 qdO qdL (qbl _N):=mkSpD (fn:=Tryd.f63) (c:=qB Tryd.f63) (C:=qsL _N)
  (a:=.two .none (.two .none (.join 0 ⟨[(3,.int .i64)],[]⟩ (.two .none (.one (.loop 0 ⟨[(3,.int .i64),(6,.sl (.int .i64)),(7,.int .i64),(8,.int .i64)],[]⟩ [3] .none))) .none)))
  (by kernel_rfl) rfl (by kernel_rfl) (by kernel_rfl) ⟨rfl,by unfold TOk;kernel_rfl,qax rfl rfl (zD _),qaw rfl rfl (zD _),rfl⟩ (fun _x=>by kernel_rfl)
theorem qkp(_N:Nat):EntOk Tryd.prog Gs (mkP 63 qdO qdL (qbl _N)):=entP ⟨Tryd.f63,qB Tryd.f63,by kernel_rfl,by kernel_rfl,rfl⟩ (by kernel_rfl) (qpI _N)
abbrev qcp:List Kd:=[.dat Sv,.dat Sv]
abbrev qcn:List Kd:=[.dat (.int .i64)]
abbrev qgf:Type:=Dens qcn
def qlh(_N:Nat):Ctx:={ T:=[(3,⟨.int .i64,1,8,some (.int .i64),[.int .i64 (0:Int)],false,[]⟩),(38,⟨.slice 3,1,24,some SA,[.nil],false,[]⟩),(40,⟨.struct [(0,3),(1,3),(2,38)],3,40,some Sv,[.int .i64 (0:Int),.int .i64 (0:Int),.nil],false,[]⟩)],G:=findE [mkP 64 qbe qbc (qac _N),mkP 65 qau qat (qQ _N),mkP 63 qdO qdL (qbl _N)],I:=findI [],N:=_N,n:=22,fx:=[],fl:=0,gs:=Gs }
def qgw(_N:Nat)(_x1:Int×Int×List Int)(_x2:Int×Int×List Int):Option qgf:=
 ((qac _N (_x1.1,_x2.1,())).bind fun _y5=>((qac _N (_x1.2.1,_x2.2.1,())).bind fun _y6=>((qQ _N (_x1.2.2,_x2.2.2,())).bind fun _y7=>((qbl _N ([_y5.1,_y6.1,_y7.1],())).bind fun _y8=>(some (_y8.1,()))))))
def qai(_N:Nat)(_x:Dens qcp):Option qgf:=qgw _N _x.1 _x.2.1
theorem qfV(_N:Nat):SpecD Tryd.prog Gs 73 qcp qcn (qai _N):=mkSpD (fn:=Tryd.f73) (c:=qB Tryd.f73) (C:=qlh _N)
  (a:=.two .none (.two (.draw 1 [.pure,.rd [0],.pure,.rd [1],.pure,.pure,.rd [0],.pure,.rd [1],.pure,.pure,.rd [0],.pure,.rd [1],.pure,.new 2,.rd [2],.pure]) .none))
  (by kernel_rfl) rfl (by kernel_rfl) (by kernel_rfl) ⟨rfl,by unfold TOk;kernel_rfl,qax rfl rfl (zG.2 ⟨qdG _N,(zG.2 ⟨qcK _N,(zG.2 ⟨qkp _N,(zD _)⟩)⟩)⟩),qaw rfl rfl (zD _),rfl⟩ (fun _x=>by kernel_rfl)
theorem qkn(_N:Nat):EntOk Tryd.prog Gs (mkP 73 qcp qcn (qai _N)):=entP ⟨Tryd.f73,qB Tryd.f73,by kernel_rfl,by kernel_rfl,rfl⟩ (by kernel_rfl) (qfV _N)
shelf_lay_g SlLaysF0.n6 Slsf 6 at Tryd 72 as lay_sortS
theorem qyt:qdm Tryd.prog 72:=⟨Tryd.f72,qB Tryd.f72,by kernel_rfl,by kernel_rfl,rfl⟩
theorem qys:qdm Tryd.prog 73:=⟨Tryd.f73,qB Tryd.f73,by kernel_rfl,by kernel_rfl,rfl⟩
theorem qyA(_N:Nat):EntOk Tryd.prog Gs (mkS 72 40 Sv 73 (fun p q=>(qai _N (p,q,())).map (·.1))):=entSK lay_sortS Tryd.isAgg40 Tryd.sizeOf40 qyt qys (by kernel_rfl) rfl (qfV _N)
abbrev qX:List Kd:=[.dat (.sl Sv)]
abbrev qaV:Type:=List Ye
def qcy(_N:Nat):Ctx:={ T:=[(33,⟨.slice 40,1,24,some (.sl Sv),[.nil],false,[]⟩),(40,⟨.struct [(0,3),(1,3),(2,38)],3,40,some Sv,[.int .i64 (0:Int),.int .i64 (0:Int),.nil],false,[]⟩)],G:=findE [],I:=findI [],N:=_N,n:=8,fx:=[],fl:=0,gs:=Gs }
def qaY(_N:Nat)(_x1:List Ye):Option qaV:=
 (bif _x1.isEmpty then (dem2 (some []) (bif (decide ((([]:List Ye).length+_x1.length)*40<=140737488355328)&&Nat.ble 1 40) then (some (([]:List Ye)++_x1)) else none)) else (bif (decide ((([]:List Ye).length+_x1.length)*40<=140737488355328)&&Nat.ble 1 40) then (some (([]:List Ye)++_x1)) else none))
def qG(_N:Nat)(_x:Dens qX):Option qaV:=qaY _N _x.1
theorem qcr(_N:Nat):SpecF Tryd.prog Gs 71 qX 40 Sv (qG _N):=mkSpF (fn:=Tryd.f71) (c:=qB Tryd.f71) (C:=qcy _N)
  (a:=.none)
  (by kernel_rfl) rfl (by kernel_rfl) (by kernel_rfl) ⟨rfl,by unfold TOk;kernel_rfl,qax rfl rfl (zD _),qaw rfl rfl (zD _),rfl⟩ (fun _x=>by kernel_rfl)
theorem qcs(_N:Nat):EntOk Tryd.prog Gs (mkG 71 qX 40 Sv (qG _N)):=entG ⟨Tryd.f71,qB Tryd.f71,by kernel_rfl,by kernel_rfl,rfl⟩ (zF (by kernel_rfl)) (qcr _N)
abbrev qbV:List Kd:=[.dat Sv,.dat Sv]
abbrev qbU:List Kd:=[.dat (.bool)]
abbrev qfM:Type:=Dens qbU
def qky(_N:Nat):Ctx:={ T:=[(40,⟨.struct [(0,3),(1,3),(2,38)],3,40,some Sv,[.int .i64 (0:Int),.int .i64 (0:Int),.nil],false,[]⟩)],G:=findE [mkP 73 qcp qcn (qai _N)],I:=findI [],N:=_N,n:=9,fx:=[],fl:=0,gs:=Gs }
def qfU(_N:Nat)(_x1:Int×Int×List Int)(_x2:Int×Int×List Int):Option qfM:=
 ((qai _N ((_x1.1,(_x1.2.1,_x1.2.2)),(_x2.1,(_x2.2.1,_x2.2.2)),())).bind fun _y2=>(some ((_y2.1==(0:Int)),())))
def qaN(_N:Nat)(_x:Dens qbV):Option qfM:=qfU _N _x.1 _x.2.1
theorem qjd(_N:Nat):SpecD Tryd.prog Gs 75 qbV qbU (qaN _N):=mkSpD (fn:=Tryd.f75) (c:=qB Tryd.f75) (C:=qky _N)
  (a:=.none)
  (by kernel_rfl) rfl (by kernel_rfl) (by kernel_rfl) ⟨rfl,by unfold TOk;kernel_rfl,qax rfl rfl (zG.2 ⟨qkn _N,(zD _)⟩),qaw rfl rfl (zD _),rfl⟩ (fun _x=>by kernel_rfl)
theorem qjs(_N:Nat):EntOk Tryd.prog Gs (mkP 75 qbV qbU (qaN _N)):=entP ⟨Tryd.f75,qB Tryd.f75,by kernel_rfl,by kernel_rfl,rfl⟩ (by kernel_rfl) (qjd _N)
abbrev qZ:Sig:=⟨[.form (.slc 0 0),.form (.clo 75 [])],[.row false 0 40 Sv],
 [.dat false (.sl Sv)],[.row true 0 40 Sv],[]⟩
abbrev qf:Type:=(List Ye)×(List Ye)
def qbB(_N:Nat):Ctx:={ T:=[(33,⟨.slice 40,1,24,some (.sl Sv),[.nil],false,[]⟩),(40,⟨.struct [(0,3),(1,3),(2,38)],3,40,some Sv,[.int .i64 (0:Int),.int .i64 (0:Int),.nil],false,[]⟩)],G:=findE [mkP 75 qbV qbU (qaN _N)],I:=findI [],N:=_N,n:=66,fx:=[],fl:=1,gs:=Gs }
def qaE(_N:Nat)(_v17:List Ye):Option qf:=
 (some (_v17,_v17))
def qaD(_N:Nat)(_kn19:(List Ye)×Int->Option qf)(_v12:Int)(_v13:List Ye):Option qf:=
 (_kn19 (_v13,(IntKind.i64.wrap (_v12+(1:Int)))))
def qE(_N:Nat)(_v10:Int)(_v11:List Ye):Option qf:=
 (bif (decide (0<=_v10)&&decide (_v10<=(_v11.length:Int))) then (bif (decide (0<=(0:Int))&&(decide ((0:Int)<=_v10)&&decide (_v10<=((_v11.take _v10.toNat++List.replicate (_v11.length - _v10.toNat) ((0:Int),((0:Int),[]))).length:Int)))) then (some ((((_v11.take _v10.toNat++List.replicate (_v11.length - _v10.toNat) ((0:Int),((0:Int),[]))).take _v10.toNat).drop (0:Int).toNat),(_v11.take _v10.toNat++List.replicate (_v11.length - _v10.toNat) ((0:Int),((0:Int),[]))))) else none) else none)
def qC(_N:Nat)(_k22:(Int×(List Ye))->Option qf)(_v5:Nat)(_v4:Int)(_v6:Int)(_v7:List Ye)(_kn23:Nat×(Int×Int×(List Ye))->Option qf):Option qf:=
 (bif (decide (_v6<((_v7.length - _v5:Nat):Int))) then (bif (decide (0<=_v6)&&decide (_v6<((_v7.length - _v5:Nat):Int))) then (bif (decide (0<=(IntKind.i64.wrap (_v6 - (1:Int))))&&decide ((IntKind.i64.wrap (_v6 - (1:Int)))<((_v7.length - _v5:Nat):Int))) then ((qaN _N (((nth ((0:Int),((0:Int),[])) _v7 (_v5+(_v6).toNat)).1,(((nth ((0:Int),((0:Int),[])) _v7 (_v5+(_v6).toNat)).2).1,((nth ((0:Int),((0:Int),[])) _v7 (_v5+(_v6).toNat)).2).2)),((nth ((0:Int),((0:Int),[])) _v7 (_v5+(IntKind.i64.wrap (_v6 - (1:Int))).toNat)).1,(((nth ((0:Int),((0:Int),[])) _v7 (_v5+(IntKind.i64.wrap (_v6 - (1:Int))).toNat)).2).1,((nth ((0:Int),((0:Int),[])) _v7 (_v5+(IntKind.i64.wrap (_v6 - (1:Int))).toNat)).2).2)),())).bind fun _y24=>(bif (!_y24.1) then (bif (decide (0<=_v6)&&decide (_v6<((_v7.length - _v5:Nat):Int))) then (bif (decide (0<=_v4)&&decide (_v4<(_v7.length:Int))) then (_kn23 (_v5,((IntKind.i64.wrap (_v4+(1:Int))),(IntKind.i64.wrap (_v6+(1:Int))),(_v7.set ((_v4).toNat) ((nth ((0:Int),((0:Int),[])) _v7 (_v5+(_v6).toNat)).1,(((nth ((0:Int),((0:Int),[])) _v7 (_v5+(_v6).toNat)).2).1,((nth ((0:Int),((0:Int),[])) _v7 (_v5+(_v6).toNat)).2).2)))))) else none) else none) else (_kn23 (_v5,(_v4,(IntKind.i64.wrap (_v6+(1:Int))),_v7))))) else none) else none) else (_k22 (_v4,_v7)))
def qaC(_N:Nat)(_k18:(List Ye)->Option qf)(_v2:List Ye)(_v1:Int)(_kn19:(List Ye)×Int->Option qf):Option qf:=
 (bif (decide (_v1<(_v2.length:Int))) then (joinD (fun (_s:Int×(List Ye))=>qaD _N _kn19 _s.1 _s.2) fun _k20=>(bif (decide (0<=_v1)&&decide (_v1<(_v2.length:Int))) then (bif (decide (0<=(IntKind.i64.wrap (_v1 - (1:Int))))&&decide ((IntKind.i64.wrap (_v1 - (1:Int)))<(_v2.length:Int))) then ((qaN _N (((nth ((0:Int),((0:Int),[])) _v2 ((_v1).toNat)).1,(((nth ((0:Int),((0:Int),[])) _v2 ((_v1).toNat)).2).1,((nth ((0:Int),((0:Int),[])) _v2 ((_v1).toNat)).2).2)),((nth ((0:Int),((0:Int),[])) _v2 ((IntKind.i64.wrap (_v1 - (1:Int))).toNat)).1,(((nth ((0:Int),((0:Int),[])) _v2 ((IntKind.i64.wrap (_v1 - (1:Int))).toNat)).2).1,((nth ((0:Int),((0:Int),[])) _v2 ((IntKind.i64.wrap (_v1 - (1:Int))).toNat)).2).2)),())).bind fun _y21=>(bif _y21.1 then (bif (decide (0<=_v1)&&decide (_v1<=(_v2.length:Int))) then (joinD (fun (_s:Int×(List Ye))=>qE _N _s.1 _s.2) fun _k22=>(loopE (fun (_c:Nat) (_s:Int×Int×(List Ye)) _kn=>qC _N _k22 _c _s.1 _s.2.1 _s.2.2 _kn) _N _v1.toNat (_v1,(1:Int),_v2))) else none) else (_k20 (_v1,_v2)))) else none) else none)) else (_k18 _v2))
def qaB(_N:Nat)(_x1:List Ye):Option qf:=
 (bif (decide ((_x1.length:Int)<(2:Int))) then (some (_x1,_x1)) else (joinD (fun (_s:(List Ye))=>qaE _N _s) fun _k18=>(loopE (fun (_c:(List Ye)) (_s:Int) _kn=>qaC _N _k18 _c _s _kn) _N _x1 (1:Int))))
def qx(_N:Nat)(_x:(List Ye)):Option qf:=qaB _N _x
theorem qbx(_N:Nat):SpecH Tryd.prog Gs 74 qZ (qx _N):=mkSpH (fn:=Tryd.f74) (c:=qB Tryd.f74) (C:=(qbB _N))
  (a:=.two .none (.two (.two .none (.two (.two (.shut 0 .none) .none) .none)) (.join 1 ⟨[(0,.slc 0 0)],[.row false 0 40 Sv]⟩ (.two .none (.one (.loop 1 ⟨[(0,.slc 0 0),(1,.clo 75 []),(5,.int .i64)],[.row false 0 40 Sv]⟩ [0] (.two .none (.join 1 ⟨[(0,.slc 0 0),(1,.clo 75 []),(5,.int .i64)],[.row false 0 40 Sv]⟩ (.one (.two (.draw 0 [.pure,.pure,.pure,.rd [0],.rd [0],.pure,.pure,.pure,.rd [0],.rd [0],.pure]) (.two (.two .none (.join 1 ⟨[(0,.slc 0 0),(5,.int .i64)],[.row false 0 40 Sv]⟩ (.two .none (.one (.loop 1 ⟨[(0,.slc 0 0),(1,.clo 75 []),(5,.int .i64),(6,.tl 0 0),(7,.int .i64)],[.row false 0 40 Sv]⟩ [0,2,3] (.two .none (.two (.one (.two (.draw 0 [.pure,.pure,.pure,.rd [0],.rd [0],.pure,.pure,.pure,.rd [0],.rd [0],.pure,.pure]) .none)) .none))))) (.two .none (.two (.shut 0 .none) .none)))) .none))) .none))))) (.two (.shut 0 .none) .none))))
  (by kernel_rfl) rfl (by kernel_rfl) (by kernel_rfl) (by kernel_rfl) rfl ⟨rfl,by unfold TOk;kernel_rfl,qax rfl rfl (zG.2 ⟨qjs _N,(zD _)⟩),qaw rfl rfl (zD _),rfl⟩ (fun _x=>by kernel_rfl)
theorem qby(_N:Nat):EntOk Tryd.prog Gs (mkHe 74 qZ (qx _N)):=entH ⟨Tryd.f74,qB Tryd.f74,by kernel_rfl,by kernel_rfl,rfl⟩ (qbx _N)
abbrev qde:List Kd:=[.dat (.sl Sv)]
abbrev qY:Type:=List Ye
def qnT(_N:Nat):Ctx:={ T:=[(33,⟨.slice 40,1,24,some (.sl Sv),[.nil],false,[]⟩),(38,⟨.slice 3,1,24,some SA,[.nil],false,[]⟩),(40,⟨.struct [(0,3),(1,3),(2,38)],3,40,some Sv,[.int .i64 (0:Int),.int .i64 (0:Int),.nil],false,[]⟩)],G:=findE [mkG 71 qX 40 Sv (qG _N),mkS 72 40 Sv 73 (fun p q=>(qai _N (p,q,())).map (·.1)),mkHe 74 qZ (qx _N),mkF 35 qab 3 (.int .i64) (qF _N),mkP 37 qcZ qcX (qbz _N)],I:=findI [],N:=_N,n:=53,fx:=[1],fl:=0,gs:=Gs }
def qhK(_N:Nat)(_v57:List Ye):Option qY:=
 (some _v57)
def qff(_N:Nat)(_kn62:((List Ye)×(List Ye)×Int×(List Ye))×(Int×(List Ye))->Option qY)(_v44:List Ye)(_v45:List Ye)(_v46:Int)(_v47:Int)(_v48:List Ye)(_v49:List Ye):Option qY:=
 (_kn62 ((_v44,_v45,_v46,_v48),((IntKind.i64.wrap (_v47+(1:Int))),_v49)))
def qhJ(_N:Nat)(_k63:((List Ye)×(List Ye)×Int×Int×(List Ye)×(List Ye)×Int×Int×List Int)->Option qY)(_v24:List Ye)(_v25:Bool)(_v26:List Ye)(_v27:Int)(_v28:Int)(_v29:List Ye)(_v40:List Ye)(_v31:Int)(_v41:Int)(_v42:List Int):Option qY:=
 (bif _v25 then ((qF _N (_v42,())).bind fun _y64=>(bif (decide ((_v40.length+([(_v31,(_v41,_y64))]).length)*40<=140737488355328)&&Nat.ble 1 40) then (_k63 (_v24,_v26,_v27,_v28,_v29,(_v40 ++ [(_v31,(_v41,_y64))]),_v31,_v41,_y64)) else none)) else (_k63 (_v24,_v26,_v27,_v28,_v29,_v40,_v31,_v41,_v42)))
def qfe(_N:Nat)(_k65:((List Ye)×Bool×(List Ye)×Int×Int×(List Ye)×(List Ye)×Int×Int×List Int)->Option qY)(_v9:List Ye)(_v10:Int)(_v12:List Ye)(_v13:Int)(_v14:Int)(_v15:List Ye)(_v16:Int)(_v18:List Ye)(_v35:List Ye)(_v20:Int)(_v36:Int)(_v37:List Int)(_v11:Bool)(_v17:Int)(_kn66:((List Ye)×Int×(List Ye)×Int×Int×(List Ye)×Int×(List Ye)×(List Ye)×Int×Int×List Int)×(Bool×Int)->Option qY):Option qY:=
 (bif (decide (_v17<_v16)) then (bif (decide (0<=_v17)&&decide (_v17<(_v15.length:Int))) then (bif _v11 then (bif (_v10==_v17) then (_kn66 ((_v9,_v10,_v12,_v13,_v14,_v15,_v16,_v18,_v35,_v20,_v36,_v37),(true,(IntKind.i64.wrap (_v17+(1:Int)))))) else ((qbz _N (((nth ((0:Int),((0:Int),[])) _v15 (_v17).toNat).1,(((nth ((0:Int),((0:Int),[])) _v15 (_v17).toNat).2).1,((nth ((0:Int),((0:Int),[])) _v15 (_v17).toNat).2).2)),(_v20,(_v36,_v37)),())).bind fun _y67=>(_kn66 ((_v9,_v10,_v12,_v13,_v14,_v15,_v16,_v18,_v35,_v20,_v36,_v37),((!_y67.1),(IntKind.i64.wrap (_v17+(1:Int)))))))) else (_kn66 ((_v9,_v10,_v12,_v13,_v14,_v15,_v16,_v18,_v35,_v20,_v36,_v37),(false,(IntKind.i64.wrap (_v17+(1:Int))))))) else none) else (_k65 (_v9,_v11,_v12,_v13,_v14,_v18,_v35,_v20,_v36,_v37)))
def qfd(_N:Nat)(_k61:((List Ye)×(List Ye))->Option qY)(_v4:List Ye)(_v5:List Ye)(_v6:Int)(_v8:List Ye)(_v7:Int)(_v34:List Ye)(_kn62:((List Ye)×(List Ye)×Int×(List Ye))×(Int×(List Ye))->Option qY):Option qY:=
 (bif (decide (_v7<_v6)) then (joinD (fun (_s:(List Ye)×(List Ye)×Int×Int×(List Ye)×(List Ye)×Int×Int×List Int)=>qff _N _kn62 _s.1 _s.2.1 _s.2.2.1 _s.2.2.2.1 _s.2.2.2.2.1 _s.2.2.2.2.2.1) fun _k63=>(bif (decide (0<=_v7)&&decide (_v7<(_v5.length:Int))) then (joinD (fun (_s:(List Ye)×Bool×(List Ye)×Int×Int×(List Ye)×(List Ye)×Int×Int×List Int)=>qhJ _N _k63 _s.1 _s.2.1 _s.2.2.1 _s.2.2.2.1 _s.2.2.2.2.1 _s.2.2.2.2.2.1 _s.2.2.2.2.2.2.1 _s.2.2.2.2.2.2.2.1 _s.2.2.2.2.2.2.2.2.1 _s.2.2.2.2.2.2.2.2.2) fun _k65=>(loopE (fun (_c:(List Ye)×Int×(List Ye)×Int×Int×(List Ye)×Int×(List Ye)×(List Ye)×Int×Int×List Int) (_s:Bool×Int) _kn=>qfe _N _k65 _c.1 _c.2.1 _c.2.2.1 _c.2.2.2.1 _c.2.2.2.2.1 _c.2.2.2.2.2.1 _c.2.2.2.2.2.2.1 _c.2.2.2.2.2.2.2.1 _c.2.2.2.2.2.2.2.2.1 _c.2.2.2.2.2.2.2.2.2.1 _c.2.2.2.2.2.2.2.2.2.2.1 _c.2.2.2.2.2.2.2.2.2.2.2 _s.1 _s.2 _kn) _N (_v4,_v7,_v5,_v6,_v7,_v4,(_v4.length:Int),_v8,_v34,(nth ((0:Int),((0:Int),[])) _v5 (_v7).toNat).1,((nth ((0:Int),((0:Int),[])) _v5 (_v7).toNat).2).1,((nth ((0:Int),((0:Int),[])) _v5 (_v7).toNat).2).2) (true,(0:Int)))) else none)) else (_k61 (_v8,_v34)))
def qhI(_N:Nat)(_x1:List Ye):Option qY:=
 ((qG _N (_x1,())).bind fun _y58=>((sortR (fun p q=>(qai _N (p,q,())).map (·.1)) _y58).bind fun _y59=>((qx _N _y59).bind fun _y60=>(joinD (fun (_s:(List Ye)×(List Ye))=>qhK _N _s.2) fun _k61=>(loopE (fun (_c:(List Ye)×(List Ye)×Int×(List Ye)) (_s:Int×(List Ye)) _kn=>qfd _N _k61 _c.1 _c.2.1 _c.2.2.1 _c.2.2.2 _s.1 _s.2 _kn) _N (_y60.1,_y60.1,(_y60.1.length:Int),_y60.2) ((0:Int),[]))))))
def qbP(_N:Nat)(_x:Dens qde):Option qY:=qhI _N _x.1
theorem qlL(_N:Nat):SpecF Tryd.prog Gs 51 qde 40 Sv (qbP _N):=mkSpF (fn:=Tryd.f51) (c:=qB Tryd.f51) (C:=qnT _N)
  (a:=.two .none (.two .none (.two .none (.two .none (.two .none (.join 2 ⟨[(3,.slc 1 0)],[.row true 0 40 Sv,.row false 0 40 Sv]⟩ (.two .none (.one (.obj 3 40 Sv (.loop 2 ⟨[(0,.sl Sv),(3,.slc 1 0),(15,.sl Sv),(16,.int .i64),(17,.int .i64)],[.row true 0 40 Sv,.row false 0 40 Sv]⟩ [3,5] (.two .none (.two .none (.join 3 ⟨[(0,.sl Sv),(3,.slc 1 0),(15,.sl Sv),(16,.int .i64),(17,.int .i64)],[.row true 0 40 Sv,.row false 0 40 Sv,.cells [.int .i64,.int .i64,.sl (.int .i64)]]⟩ (.one (.two .none (.two .none (.join 3 ⟨[(0,.sl Sv),(3,.slc 1 0),(5,.ptr 2 0),(6,.bool),(15,.sl Sv),(16,.int .i64),(17,.int .i64)],[.row true 0 40 Sv,.row false 0 40 Sv,.cells [.int .i64,.int .i64,.sl (.int .i64)]]⟩ (.two .none (.one (.loop 3 ⟨[(0,.sl Sv),(3,.slc 1 0),(4,.int .i64),(5,.ptr 2 0),(6,.bool),(15,.sl Sv),(16,.int .i64),(17,.int .i64),(22,.sl Sv),(23,.int .i64),(24,.int .i64)],[.row true 0 40 Sv,.row false 0 40 Sv,.cells [.int .i64,.int .i64,.sl (.int .i64)]]⟩ [2,8] .none))) .none)))) .none))))))) .none))))))
  (by kernel_rfl) rfl (by kernel_rfl) (by kernel_rfl) ⟨rfl,by unfold TOk;kernel_rfl,qax rfl rfl (zG.2 ⟨qcs _N,(zG.2 ⟨qyA _N,(zG.2 ⟨qby _N,(zG.2 ⟨qdq _N,(zG.2 ⟨qiQ _N,(zD _)⟩)⟩)⟩)⟩)⟩),qaw rfl rfl (zD _),rfl⟩ (fun _x=>by kernel_rfl)
theorem qlV(_N:Nat):EntOk Tryd.prog Gs (mkG 51 qde 40 Sv (qbP _N)):=entG ⟨Tryd.f51,qB Tryd.f51,by kernel_rfl,by kernel_rfl,rfl⟩ (zF (by kernel_rfl)) (qlL _N)
end Go.Proofs.YtgnnhemoocfclaaDoor
end
