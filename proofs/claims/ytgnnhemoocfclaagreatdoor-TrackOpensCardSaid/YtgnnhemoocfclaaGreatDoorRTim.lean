import Derived.Test.YtgnnhemoocfclaaGreatDoorAbsSort
import Derived.Test.YtgnnhemoocfclaaGreatDoorAbsSubF
import Derived.Test.YtgnnhemoocfclaaGreatDoorAbsOrd
import Derived.Test.YtgnnhemoocfclaaGreatDoorAbsOpn
import Derived.Test.YtgnnhemoocfclaaGreatDoorGhG
import Derived.KernelRfl
import Derived.Shelf.SlGeneric
import Derived.Ground.SlsfProg
noncomputable section
namespace Go.Proofs.YtgnnhemoocfclaaGreatDoor
open Go.Abs
abbrev Sv:Sh:=.sl (.int .i64)
abbrev Yf:Type:=Int×List (List Int)
abbrev qdx:List Kd:=[.dat Sv]
abbrev qdu:List Kd:=[.dat (.int .i64)]
abbrev qdr:Type:=Dens qdu
def qvL(_N:Nat):Ctx:={ T:=[(3,⟨.int .i64,1,8,some (.int .i64),[.int .i64 (0:Int)],false,[]⟩),(27,⟨.slice 3,1,24,some Sv,[.nil],false,[]⟩)],G:=findE [],I:=findI [],N:=_N,n:=26,fx:=[],fl:=0,gs:=Gs }
def qjT(_N:Nat):Option qdr:=
 (some ((0:Int),()))
def qhp(_N:Nat)(_k4:Unit->Option qdr)(_v1:List Int)(_v2:Int)(_v3:Int)(_kn5:(List Int×Int)×Int->Option qdr):Option qdr:=
 (bif (decide (_v3<_v2)) then (bif (decide (0<=_v3)&&decide (_v3<(_v1.length:Int))) then (bif (decide ((nth (0:Int) _v1 (_v3).toNat)<(0:Int))) then (some ((2:Int),())) else (bif (decide ((nth (0:Int) _v1 (_v3).toNat)>(1048576:Int))) then (some ((2:Int),())) else (_kn5 ((_v1,_v2),(IntKind.i64.wrap (_v3+(1:Int))))))) else none) else (_k4 ()))
def qnv(_N:Nat)(_x1:List Int):Option qdr:=
 (bif ((_x1.length:Int)==(0:Int)) then (some ((1:Int),())) else (bif (decide ((_x1.length:Int)>(4:Int))) then (some ((1:Int),())) else (joinD (fun (_s:Unit)=>qjT _N) fun _k4=>(loopE (fun (_c:List Int×Int) (_s:Int) _kn=>qhp _N _k4 _c.1 _c.2 _s _kn) _N (_x1,(_x1.length:Int)) (0:Int)))))
def qbw(_N:Nat)(_x:Dens qdx):Option qdr:=qnv _N _x.1
theorem qsH(_N:Nat):SpecD Tryz.prog Gs 44 qdx qdu (qbw _N):=mkSpD (fn:=Tryz.f44) (c:=qj Tryz.f44) (C:=qvL _N)
  (a:=.two .none (.two .none (.join 0 ⟨[],[]⟩ (.two .none (.one (.loop 0 ⟨[(13,.sl (.int .i64)),(14,.int .i64),(15,.int .i64)],[]⟩ [2] .none))) .none)))
  (by kernel_rfl) rfl (by kernel_rfl) (by kernel_rfl) ⟨rfl,by unfold TOk;kernel_rfl,qag rfl rfl (zC _),qaf rfl rfl (zC _),rfl⟩ (fun _x=>by kernel_rfl)
theorem qjg(_N:Nat):EntOk Tryz.prog Gs (mkP 44 qdx qdu (qbw _N)):=entP ⟨Tryz.f44,qj Tryz.f44,by kernel_rfl,by kernel_rfl,rfl⟩ (by kernel_rfl) (qsH _N)
abbrev qgB:List Kd:=[.dat Sv,.dat Sv]
abbrev qgt:List Kd:=[.dat (.bool)]
abbrev qmC:Type:=Dens qgt
def qvI(_N:Nat):Ctx:={ T:=[(27,⟨.slice 3,1,24,some Sv,[.nil],false,[]⟩)],G:=findE [mkP 44 qdx qdu (qbw _N)],I:=findI [],N:=_N,n:=20,fx:=[],fl:=0,gs:=Gs }
def qnr(_N:Nat)(_x1:List Int)(_x2:List Int):Option qmC:=
 (bif ((_x1.length:Int)==(_x2.length:Int)) then ((qbw _N (_x1,())).bind fun _y3=>(bif (_y3.1==(0:Int)) then ((qbw _N (_x2,())).bind fun _y4=>(some ((_y4.1==(0:Int)),()))) else (some (false,())))) else (some (false,())))
def qen(_N:Nat)(_x:Dens qgB):Option qmC:=qnr _N _x.1 _x.2.1
theorem qsE(_N:Nat):SpecD Tryz.prog Gs 50 qgB qgt (qen _N):=mkSpD (fn:=Tryz.f50) (c:=qj Tryz.f50) (C:=qvI _N)
  (a:=.none)
  (by kernel_rfl) rfl (by kernel_rfl) (by kernel_rfl) ⟨rfl,by unfold TOk;kernel_rfl,qag rfl rfl (zD.2 ⟨qjg _N,(zC _)⟩),qaf rfl rfl (zC _),rfl⟩ (fun _x=>by kernel_rfl)
theorem qti(_N:Nat):EntOk Tryz.prog Gs (mkP 50 qgB qgt (qen _N)):=entP ⟨Tryz.f50,qj Tryz.f50,by kernel_rfl,by kernel_rfl,rfl⟩ (by kernel_rfl) (qsE _N)
abbrev qdw:List Kd:=[.dat Sv,.dat Sv]
abbrev qdt:List Kd:=[.dat (.bool)]
abbrev qdp:Type:=Dens qdt
def qvJ(_N:Nat):Ctx:={ T:=[(3,⟨.int .i64,1,8,some (.int .i64),[.int .i64 (0:Int)],false,[]⟩),(27,⟨.slice 3,1,24,some Sv,[.nil],false,[]⟩)],G:=findE [],I:=findI [],N:=_N,n:=21,fx:=[],fl:=0,gs:=Gs }
def qjR(_N:Nat):Option qdp:=
 (some (true,()))
def qho(_N:Nat)(_k5:Unit->Option qdp)(_v1:List Int)(_v2:List Int)(_v3:Int)(_v4:Int)(_kn6:(List Int×List Int×Int)×Int->Option qdp):Option qdp:=
 (bif (decide (_v4<_v3)) then (bif (decide (0<=_v4)&&decide (_v4<(_v1.length:Int))) then (bif (decide (0<=_v4)&&decide (_v4<(_v2.length:Int))) then (bif (decide ((nth (0:Int) _v1 (_v4).toNat)>(nth (0:Int) _v2 (_v4).toNat))) then (some (false,())) else (_kn6 ((_v1,_v2,_v3),(IntKind.i64.wrap (_v4+(1:Int)))))) else none) else none) else (_k5 ()))
def qns(_N:Nat)(_x1:List Int)(_x2:List Int):Option qdp:=
 (joinD (fun (_s:Unit)=>qjR _N) fun _k5=>(loopE (fun (_c:List Int×List Int×Int) (_s:Int) _kn=>qho _N _k5 _c.1 _c.2.1 _c.2.2 _s _kn) _N (_x1,_x2,(_x1.length:Int)) (0:Int)))
def qbv(_N:Nat)(_x:Dens qdw):Option qdp:=qns _N _x.1 _x.2.1
theorem qsF(_N:Nat):SpecD Tryz.prog Gs 46 qdw qdt (qbv _N):=mkSpD (fn:=Tryz.f46) (c:=qj Tryz.f46) (C:=qvJ _N)
  (a:=.two .none (.join 0 ⟨[],[]⟩ (.two .none (.one (.loop 0 ⟨[(0,.sl (.int .i64)),(1,.sl (.int .i64)),(7,.int .i64),(8,.int .i64)],[]⟩ [3] (.two .none (.two .none (.two (.one (.two .none (.two (.draw 0 [.pure,.pure,.pure,.pure,.pure,.pure,.pure,.pure,.pure]) .none))) .none)))))) .none))
  (by kernel_rfl) rfl (by kernel_rfl) (by kernel_rfl) ⟨rfl,by unfold TOk;kernel_rfl,qag rfl rfl (zC _),qaf rfl rfl (zC _),rfl⟩ (fun _x=>by kernel_rfl)
theorem qjf(_N:Nat):EntOk Tryz.prog Gs (mkP 46 qdw qdt (qbv _N)):=entP ⟨Tryz.f46,qj Tryz.f46,by kernel_rfl,by kernel_rfl,rfl⟩ (by kernel_rfl) (qsF _N)
abbrev qiV:List Kd:=[.dat Sv,.dat Sv]
abbrev qiR:List Kd:=[.dat (.bool)]
abbrev qpP:Type:=Dens qiR
def qyR(_N:Nat):Ctx:={ T:=[],G:=findE [mkP 50 qgB qgt (qen _N),mkP 46 qdw qdt (qbv _N)],I:=findI [],N:=_N,n:=13,fx:=[],fl:=0,gs:=Gs }
def qqB(_N:Nat)(_x1:List Int)(_x2:List Int):Option qpP:=
 ((qen _N (_x1,_x2,())).bind fun _y3=>(bif _y3.1 then ((qbv _N (_x1,_x2,())).bind fun _y4=>(some (_y4.1,()))) else (some (false,()))))
def qgl(_N:Nat)(_x:Dens qiV):Option qpP:=qqB _N _x.1 _x.2.1
theorem qwe(_N:Nat):SpecD Tryz.prog Gs 27 qiV qiR (qgl _N):=mkSpD (fn:=Tryz.f27) (c:=qj Tryz.f27) (C:=qyR _N)
  (a:=.none)
  (by kernel_rfl) rfl (by kernel_rfl) (by kernel_rfl) ⟨rfl,by unfold TOk;kernel_rfl,qag rfl rfl (zD.2 ⟨qti _N,(zD.2 ⟨qjf _N,(zC _)⟩)⟩),qaf rfl rfl (zC _),rfl⟩ (fun _x=>by kernel_rfl)
theorem qxm(_N:Nat):EntOk Tryz.prog Gs (mkP 27 qiV qiR (qgl _N)):=entP ⟨Tryz.f27,qj Tryz.f27,by kernel_rfl,by kernel_rfl,rfl⟩ (by kernel_rfl) (qwe _N)
abbrev qfb:List Kd:=[.dat (.int .i64)]
abbrev qeY:List Kd:=[.dat (.bool)]
abbrev qkM:Type:=Dens qeY
def qsA(_N:Nat):Ctx:={ T:=[],G:=findE [],I:=findI [],N:=_N,n:=6,fx:=[],fl:=0,gs:=Gs }
def qlz(_N:Nat)(_x1:Int):Option qkM:=
 (some ((_x1 != _x1),()))
def qcX(_N:Nat)(_x:Dens qfb):Option qkM:=qlz _N _x.1
theorem qpZ(_N:Nat):SpecD Tryz.prog Gs 72 qfb qeY (qcX _N):=mkSpD (fn:=Tryz.f72) (c:=qj Tryz.f72) (C:=qsA _N)
  (a:=.none)
  (by kernel_rfl) rfl (by kernel_rfl) (by kernel_rfl) ⟨rfl,by unfold TOk;kernel_rfl,qag rfl rfl (zC _),qaf rfl rfl (zC _),rfl⟩ (fun _x=>by kernel_rfl)
theorem qqi(_N:Nat):EntOk Tryz.prog Gs (mkP 72 qfb qeY (qcX _N)):=entP ⟨Tryz.f72,qj Tryz.f72,by kernel_rfl,by kernel_rfl,rfl⟩ (by kernel_rfl) (qpZ _N)
abbrev qbP:List Kd:=[.dat (.int .i64),.dat (.int .i64)]
abbrev qbO:List Kd:=[.dat (.int .i64)]
abbrev qiQ:Type:=Dens qbO
def qpn(_N:Nat):Ctx:={ T:=[],G:=findE [mkP 72 qfb qeY (qcX _N)],I:=findI [],N:=_N,n:=20,fx:=[],fl:=0,gs:=Gs }
def qjK(_N:Nat)(_x1:Int)(_x2:Int):Option qiQ:=
 ((qcX _N (_x1,())).bind fun _y3=>((qcX _N (_x2,())).bind fun _y4=>(bif _y3.1 then (bif _y4.1 then (some ((0:Int),())) else (some ((-1:Int),()))) else (bif _y4.1 then (some ((1:Int),())) else (bif (decide (_x1<_x2)) then (some ((-1:Int),())) else (bif (decide (_x1>_x2)) then (some ((1:Int),())) else (some ((0:Int),()))))))))
def qaA(_N:Nat)(_x:Dens qbP):Option qiQ:=qjK _N _x.1 _x.2.1
theorem qnC(_N:Nat):SpecD Tryz.prog Gs 42 qbP qbO (qaA _N):=mkSpD (fn:=Tryz.f42) (c:=qj Tryz.f42) (C:=qpn _N)
  (a:=.none)
  (by kernel_rfl) rfl (by kernel_rfl) (by kernel_rfl) ⟨rfl,by unfold TOk;kernel_rfl,qag rfl rfl (zD.2 ⟨qqi _N,(zC _)⟩),qaf rfl rfl (zC _),rfl⟩ (fun _x=>by kernel_rfl)
theorem qfF(_N:Nat):EntOk Tryz.prog Gs (mkP 42 qbP qbO (qaA _N)):=entP ⟨Tryz.f42,qj Tryz.f42,by kernel_rfl,by kernel_rfl,rfl⟩ (by kernel_rfl) (qnC _N)
abbrev qaX:List Kd:=[.dat Sv,.dat Sv]
abbrev qaW:List Kd:=[.dat (.int .i64)]
abbrev qaD:Type:=Dens qaW
def qji(_N:Nat):Ctx:={ T:=[(3,⟨.int .i64,1,8,some (.int .i64),[.int .i64 (0:Int)],false,[]⟩),(27,⟨.slice 3,1,24,some Sv,[.nil],false,[]⟩)],G:=findE [mkP 42 qbP qbO (qaA _N)],I:=findI [],N:=_N,n:=36,fx:=[],fl:=0,gs:=Gs }
def qeE(_N:Nat)(_v8:List Int)(_v9:List Int):Option qaD:=
 (bif (decide ((_v8.length:Int)<(_v9.length:Int))) then (some ((-1:Int),())) else (some ((0:Int),())))
def qcI(_N:Nat)(_k10:(List Int×List Int)->Option qaD)(_v1:List Int)(_v2:List Int)(_v3:List Int)(_v4:Int)(_v5:Int)(_kn11:(List Int×List Int×List Int×Int)×Int->Option qaD):Option qaD:=
 (bif (decide (_v5<_v4)) then (bif (decide (0<=_v5)&&decide (_v5<(_v3.length:Int))) then (bif (decide (_v5>=(_v2.length:Int))) then (some ((1:Int),())) else (bif (decide (0<=_v5)&&decide (_v5<(_v2.length:Int))) then ((qaA _N ((nth (0:Int) _v3 (_v5).toNat),(nth (0:Int) _v2 (_v5).toNat),())).bind fun _y12=>(bif (_y12.1 != (0:Int)) then (some (_y12.1,())) else (_kn11 ((_v1,_v2,_v3,_v4),(IntKind.i64.wrap (_v5+(1:Int))))))) else none)) else none) else (_k10 (_v1,_v2)))
def qeD(_N:Nat)(_x1:List Int)(_x2:List Int):Option qaD:=
 (joinD (fun (_s:List Int×List Int)=>qeE _N _s.1 _s.2) fun _k10=>(loopE (fun (_c:List Int×List Int×List Int×Int) (_s:Int) _kn=>qcI _N _k10 _c.1 _c.2.1 _c.2.2.1 _c.2.2.2 _s _kn) _N (_x1,_x2,_x1,(_x1.length:Int)) (0:Int)))
def qK(_N:Nat)(_x:Dens qaX):Option qaD:=qeD _N _x.1 _x.2.1
theorem qes(_N:Nat):SpecD Tryz.prog Gs 43 qaX qaW (qK _N):=mkSpD (fn:=Tryz.f43) (c:=qj Tryz.f43) (C:=qji _N)
  (a:=.two .none (.join 0 ⟨[(0,.sl (.int .i64)),(1,.sl (.int .i64))],[]⟩ (.two .none (.one (.loop 0 ⟨[(0,.sl (.int .i64)),(1,.sl (.int .i64)),(9,.sl (.int .i64)),(10,.int .i64),(11,.int .i64)],[]⟩ [4] .none))) .none))
  (by kernel_rfl) rfl (by kernel_rfl) (by kernel_rfl) ⟨rfl,by unfold TOk;kernel_rfl,qag rfl rfl (zD.2 ⟨qfF _N,(zC _)⟩),qaf rfl rfl (zC _),rfl⟩ (fun _x=>by kernel_rfl)
theorem qet(_N:Nat):EntOk Tryz.prog Gs (mkP 43 qaX qaW (qK _N)):=entP ⟨Tryz.f43,qj Tryz.f43,by kernel_rfl,by kernel_rfl,rfl⟩ (by kernel_rfl) (qes _N)
shelf_lay_g SlLaysF.n6 Slsf 6 at Tryz 85 as lay_sortT
theorem qEe:qcK Tryz.prog 85:=⟨Tryz.f85,qj Tryz.f85,by kernel_rfl,by kernel_rfl,rfl⟩
theorem qEc:qcK Tryz.prog 43:=⟨Tryz.f43,qj Tryz.f43,by kernel_rfl,by kernel_rfl,rfl⟩
theorem qEm(_N:Nat):EntOk Tryz.prog Gs (mkS 85 27 Sv 43 (fun p q=>(qK _N (p,q,())).map (·.1))):=entS1 lay_sortT qEe qEc (by kernel_rfl) rfl rfl (qes _N)
abbrev qai:List Kd:=[.dat Sv]
abbrev qfv:Type:=List Int
def qkv(_N:Nat):Ctx:={ T:=[(3,⟨.int .i64,1,8,some (.int .i64),[.int .i64 (0:Int)],false,[]⟩),(27,⟨.slice 3,1,24,some Sv,[.nil],false,[]⟩)],G:=findE [],I:=findI [],N:=_N,n:=8,fx:=[],fl:=0,gs:=Gs }
def qfz(_N:Nat)(_x1:List Int):Option qfv:=
 (bif _x1.isEmpty then (dem2 (some []) (bif (decide ((([]:List Int).length+_x1.length)*8<=140737488355328)&&Nat.ble 1 8) then (some (([]:List Int)++_x1)) else none)) else (bif (decide ((([]:List Int).length+_x1.length)*8<=140737488355328)&&Nat.ble 1 8) then (some (([]:List Int)++_x1)) else none))
def qE(_N:Nat)(_x:Dens qai):Option qfv:=qfz _N _x.1
theorem qfo(_N:Nat):SpecF Tryz.prog Gs 38 qai 3 (.int .i64) (qE _N):=mkSpF (fn:=Tryz.f38) (c:=qj Tryz.f38) (C:=qkv _N)
  (a:=.none)
  (by kernel_rfl) rfl (by kernel_rfl) (by kernel_rfl) ⟨rfl,by unfold TOk;kernel_rfl,qag rfl rfl (zC _),qaf rfl rfl (zC _),rfl⟩ (fun _x=>by kernel_rfl)
theorem qbM(_N:Nat):EntOk Tryz.prog Gs (mkF 38 qai 3 (.int .i64) (qE _N)):=entF ⟨Tryz.f38,qj Tryz.f38,by kernel_rfl,by kernel_rfl,rfl⟩ (by kernel_rfl) (zG (by kernel_rfl)) (qfo _N)
theorem qjb(_N:Nat):EntOk Tryz.prog Gs (mkQ 38 qai [.dat Sv] (fun _x=>(qE _N _x).map fun _y=>(_y,()))):=entQ ⟨Tryz.f38,qj Tryz.f38,by kernel_rfl,by kernel_rfl,rfl⟩ (qtx (qfo _N))
abbrev qbC:List Kd:=[.dat (.sl Sv)]
abbrev qeu:Type:=List (List Int)
def qjj(_N:Nat):Ctx:={ T:=[(27,⟨.slice 3,1,24,some Sv,[.nil],false,[]⟩),(45,⟨.slice 27,1,24,some (.sl Sv),[.nil],false,[]⟩)],G:=findE [],I:=findI [],N:=_N,n:=8,fx:=[],fl:=0,gs:=Gs }
def qeF(_N:Nat)(_x1:List (List Int)):Option qeu:=
 (bif _x1.isEmpty then (dem2 (some []) (bif (decide ((([]:List (List Int)).length+_x1.length)*24<=140737488355328)&&Nat.ble 1 24) then (some (([]:List (List Int))++_x1)) else none)) else (bif (decide ((([]:List (List Int)).length+_x1.length)*24<=140737488355328)&&Nat.ble 1 24) then (some (([]:List (List Int))++_x1)) else none))
def qaJ(_N:Nat)(_x:Dens qbC):Option qeu:=qeF _N _x.1
theorem qiB(_N:Nat):SpecF Tryz.prog Gs 84 qbC 27 Sv (qaJ _N):=mkSpF (fn:=Tryz.f84) (c:=qj Tryz.f84) (C:=qjj _N)
  (a:=.none)
  (by kernel_rfl) rfl (by kernel_rfl) (by kernel_rfl) ⟨rfl,by unfold TOk;kernel_rfl,qag rfl rfl (zC _),qaf rfl rfl (zC _),rfl⟩ (fun _x=>by kernel_rfl)
theorem qiC(_N:Nat):EntOk Tryz.prog Gs (mkG 84 qbC 27 Sv (qaJ _N)):=entG ⟨Tryz.f84,qj Tryz.f84,by kernel_rfl,by kernel_rfl,rfl⟩ (zG (by kernel_rfl)) (qiB _N)
abbrev qfl:Sig:=⟨[.dat false Sv,.form (.ptr 0 0)],[.cells [.sl (.int .i64)]],
 [.dat false .bool],[.cells [.sl (.int .i64)]],[]⟩
abbrev qiw:Type:=Bool×List Int
def qou(_N:Nat):Ctx:={ T:=[(27,⟨.slice 3,1,24,some Sv,[.nil],false,[]⟩)],G:=findE [mkP 46 qdw qdt (qbv _N)],I:=findI [],N:=_N,n:=7,fx:=[],fl:=1,gs:=Gs }
def qiE(_N:Nat)(_x1:List Int)(_x2:List Int):Option qiw:=
 ((qbv _N (_x1,_x2,())).bind fun _y2=>(some (_y2.1,_x2)))
def qcF(_N:Nat)(_x:List Int×List Int):Option qiw:=qiE _N _x.1 _x.2
theorem qmO(_N:Nat):SpecH Tryz.prog Gs 86 qfl (qcF _N):=mkSpH (fn:=Tryz.f86) (c:=qj Tryz.f86) (C:=(qou _N))
  (a:=.none)
  (by kernel_rfl) rfl (by kernel_rfl) (by kernel_rfl) (by kernel_rfl) rfl ⟨rfl,by unfold TOk;kernel_rfl,qag rfl rfl (zD.2 ⟨qjf _N,(zC _)⟩),qaf rfl rfl (zC _),rfl⟩ (fun _x=>by kernel_rfl)
theorem qne(_N:Nat):EntOk Tryz.prog Gs (mkHe 86 qfl (qcF _N)):=entH ⟨Tryz.f86,qj Tryz.f86,by kernel_rfl,by kernel_rfl,rfl⟩ (qmO _N)
abbrev qbu:Sig:=⟨[.form (.slc 0 0),.form (.clo 86 [.ptr 1 0])],[.row false 0 27 Sv,.cells [.sl (.int .i64)]],
 [.dat false (.int .i64)],[.row false 0 27 Sv,.cells [.sl (.int .i64)]],[]⟩
abbrev qah:Type:=Int×List (List Int)×List Int
def qfU(_N:Nat):Ctx:={ T:=[(27,⟨.slice 3,1,24,some Sv,[.nil],false,[]⟩),(45,⟨.slice 27,1,24,some (.sl Sv),[.nil],false,[]⟩)],G:=findE [mkHe 86 qfl (qcF _N)],I:=findI [],N:=_N,n:=19,fx:=[],fl:=2,gs:=Gs }
def qav(_N:Nat)(_v7:List (List Int))(_v8:List Int):Option qah:=
 (some ((-1:Int),_v7,_v8))
def qal(_N:Nat)(_k9:(List (List Int)×List Int)->Option qah)(_v1:Int)(_v3:List (List Int))(_v2:Int)(_v4:List Int)(_kn10:Yf×(Int×List Int)->Option qah):Option qah:=
 (bif (decide (_v2<_v1)) then (bif (decide (0<=_v2)&&decide (_v2<(_v3.length:Int))) then ((qcF _N ((nth ([]) _v3 ((_v2).toNat)),_v4)).bind fun _y11=>(bif _y11.1 then (some (_v2,_v3,_y11.2)) else (_kn10 ((_v1,_v3),((IntKind.i64.wrap (_v2+(1:Int))),_y11.2))))) else none) else (_k9 (_v3,_v4)))
def qcO(_N:Nat)(_x1:List (List Int))(_x2:List Int):Option qah:=
 (joinD (fun (_s:List (List Int)×List Int)=>qav _N _s.1 _s.2) fun _k9=>(loopE (fun (_c:Int×List (List Int)) (_s:Int×List Int) _kn=>qal _N _k9 _c.1 _c.2 _s.1 _s.2 _kn) _N ((_x1.length:Int),_x1) ((0:Int),_x2)))
def qax(_N:Nat)(_x:List (List Int)×List Int):Option qah:=qcO _N _x.1 _x.2
theorem qfy(_N:Nat):SpecH Tryz.prog Gs 49 qbu (qax _N):=mkSpH (fn:=Tryz.f49) (c:=qj Tryz.f49) (C:=(qfU _N))
  (a:=.two .none (.join 2 ⟨[],[.row false 0 27 Sv,.cells [.sl (.int .i64)]]⟩ (.two .none (.one (.loop 2 ⟨[(0,.slc 0 0),(1,.clo 86 [.ptr 1 0]),(7,.int .i64),(8,.int .i64)],[.row false 0 27 Sv,.cells [.sl (.int .i64)]]⟩ [1,3] .none))) .none))
  (by kernel_rfl) rfl (by kernel_rfl) (by kernel_rfl) (by kernel_rfl) rfl ⟨rfl,by unfold TOk;kernel_rfl,qag rfl rfl (zD.2 ⟨qne _N,(zC _)⟩),qaf rfl rfl (zC _),rfl⟩ (fun _x=>by kernel_rfl)
theorem qfE(_N:Nat):EntOk Tryz.prog Gs (mkHe 49 qbu (qax _N)):=entH ⟨Tryz.f49,qj Tryz.f49,by kernel_rfl,by kernel_rfl,rfl⟩ (qfy _N)
abbrev qbi:Sig:=⟨[.form (.slc 0 0),.form (.clo 86 [.ptr 1 0])],[.row false 0 27 Sv,.cells [.sl (.int .i64)]],
 [.dat false .bool],[.row false 0 27 Sv,.cells [.sl (.int .i64)]],[]⟩
abbrev qbZ:Type:=Bool×List (List Int)×List Int
def qfn(_N:Nat):Ctx:={ T:=[],G:=findE [mkHe 49 qbu (qax _N)],I:=findI [],N:=_N,n:=9,fx:=[],fl:=2,gs:=Gs }
def qcl(_N:Nat)(_x1:List (List Int))(_x2:List Int):Option qbZ:=
 ((qax _N (_x1,_x2)).bind fun _y2=>(some ((decide (_y2.1>=(0:Int))),_y2.2.1,_y2.2.2)))
def qab(_N:Nat)(_x:List (List Int)×List Int):Option qbZ:=qcl _N _x.1 _x.2
theorem qeC(_N:Nat):SpecH Tryz.prog Gs 25 qbi (qab _N):=mkSpH (fn:=Tryz.f25) (c:=qj Tryz.f25) (C:=(qfn _N))
  (a:=.none)
  (by kernel_rfl) rfl (by kernel_rfl) (by kernel_rfl) (by kernel_rfl) rfl ⟨rfl,by unfold TOk;kernel_rfl,qag rfl rfl (zD.2 ⟨qfE _N,(zC _)⟩),qaf rfl rfl (zC _),rfl⟩ (fun _x=>by kernel_rfl)
theorem qeH(_N:Nat):EntOk Tryz.prog Gs (mkHe 25 qbi (qab _N)):=entH ⟨Tryz.f25,qj Tryz.f25,by kernel_rfl,by kernel_rfl,rfl⟩ (qeC _N)
abbrev qgC:List Kd:=[.dat (.sl Sv)]
abbrev qdq:Type:=List (List Int)
def qvK(_N:Nat):Ctx:={ T:=[(27,⟨.slice 3,1,24,some Sv,[.nil],false,[]⟩),(45,⟨.slice 27,1,24,some (.sl Sv),[.nil],false,[]⟩)],G:=findE [mkG 84 qbC 27 Sv (qaJ _N),mkS 85 27 Sv 43 (fun p q=>(qK _N (p,q,())).map (·.1)),mkHe 25 qbi (qab _N),mkF 38 qai 3 (.int .i64) (qE _N)],I:=findI [],N:=_N,n:=28,fx:=[1],fl:=0,gs:=Gs }
def qnu(_N:Nat)(_v14:List (List Int)):Option qdq:=
 (some _v14)
def qjS(_N:Nat)(_k17:(List (List Int)×List (List Int))->Option qdq)(_v3:Int)(_v5:List (List Int))(_v4:Int)(_v8:List (List Int))(_kn18:Yf×Yf->Option qdq):Option qdq:=
 (bif (decide (_v4<_v3)) then (bif (decide (0<=_v4)&&decide (_v4<(_v5.length:Int))) then ((qab _N (_v8,(nth ([]) _v5 ((_v4).toNat)))).bind fun _y19=>(bif (!_y19.1) then ((qE _N (_y19.2.2,())).bind fun _y20=>(bif (decide ((_y19.2.1.length+([_y20]).length)*24<=140737488355328)&&Nat.ble 1 24) then (_kn18 ((_v3,_v5),((IntKind.i64.wrap (_v4+(1:Int))),(_y19.2.1 ++ [_y20])))) else none)) else (_kn18 ((_v3,_v5),((IntKind.i64.wrap (_v4+(1:Int))),_y19.2.1))))) else none) else (_k17 (_v5,_v8)))
def qnt(_N:Nat)(_x1:List (List Int)):Option qdq:=
 ((qaJ _N (_x1,())).bind fun _y15=>((sortR (fun p q=>(qK _N (p,q,())).map (·.1)) _y15).bind fun _y16=>(joinD (fun (_s:List (List Int)×List (List Int))=>qnu _N _s.2) fun _k17=>(loopE (fun (_c:Int×List (List Int)) (_s:Int×List (List Int)) _kn=>qjS _N _k17 _c.1 _c.2 _s.1 _s.2 _kn) _N ((_y16.length:Int),_y16) ((0:Int),[])))))
def qdh(_N:Nat)(_x:Dens qgC):Option qdq:=qnt _N _x.1
theorem qsG(_N:Nat):SpecF Tryz.prog Gs 69 qgC 27 Sv (qdh _N):=mkSpF (fn:=Tryz.f69) (c:=qj Tryz.f69) (C:=qvK _N)
  (a:=.two .none (.two .none (.two .none (.two .none (.join 2 ⟨[(4,.slc 1 0)],[.row false 0 27 Sv,.row false 0 27 Sv]⟩ (.two .none (.one (.obj 4 27 Sv (.loop 2 ⟨[(4,.slc 1 0),(11,.slc 0 0),(12,.int .i64),(13,.int .i64)],[.row false 0 27 Sv,.row false 0 27 Sv]⟩ [1,3] .none)))) .none)))))
  (by kernel_rfl) rfl (by kernel_rfl) (by kernel_rfl) ⟨rfl,by unfold TOk;kernel_rfl,qag rfl rfl (zD.2 ⟨qiC _N,(zD.2 ⟨qEm _N,(zD.2 ⟨qeH _N,(zD.2 ⟨qbM _N,(zC _)⟩)⟩)⟩)⟩),qaf rfl rfl (zC _),rfl⟩ (fun _x=>by kernel_rfl)
theorem qtj(_N:Nat):EntOk Tryz.prog Gs (mkG 69 qgC 27 Sv (qdh _N)):=entG ⟨Tryz.f69,qj Tryz.f69,by kernel_rfl,by kernel_rfl,rfl⟩ (zG (by kernel_rfl)) (qsG _N)
abbrev qeZ:List Kd:=[.dat Sv,.ptr Sv]
abbrev qeX:List Kd:=[.dat (.bool)]
abbrev qkK:Type:=Dens qeX
def qsw(_N:Nat):Ctx:={ T:=[(27,⟨.slice 3,1,24,some Sv,[.nil],false,[]⟩)],G:=findE [mkP 27 qiV qiR (qgl _N)],I:=findI [],N:=_N,n:=7,fx:=[],fl:=0,gs:=Gs }
def qkY(_N:Nat)(_x1:List Int)(_x2:List Int):Option qkK:=
 ((qgl _N (_x1,_x2,())).bind fun _y2=>(some (_y2.1,())))
def qdR(_N:Nat)(_x:Dens qeZ):Option qkK:=qkY _N _x.1 _x.2.1
theorem qpV(_N:Nat):SpecD Tryz.prog Gs 26 qeZ qeX (qdR _N):=mkSpD (fn:=Tryz.f26) (c:=qj Tryz.f26) (C:=qsw _N)
  (a:=.none)
  (by kernel_rfl) rfl (by kernel_rfl) (by kernel_rfl) ⟨rfl,by unfold TOk;kernel_rfl,qag rfl rfl (zD.2 ⟨qxm _N,(zC _)⟩),qaf rfl rfl (zC _),rfl⟩ (fun _x=>by kernel_rfl)
theorem qqg(_N:Nat):EntOk Tryz.prog Gs (mkP 26 qeZ qeX (qdR _N)):=entP ⟨Tryz.f26,qj Tryz.f26,by kernel_rfl,by kernel_rfl,rfl⟩ (by kernel_rfl) (qpV _N)
abbrev qak:List Kd:=[.dat (.sl Sv),.clo 26 [.sl (.int .i64)]]
abbrev qaj:List Kd:=[.dat (.int .i64)]
abbrev qJ:Type:=Dens qaj
def qdk(_N:Nat):Ctx:={ T:=[(27,⟨.slice 3,1,24,some Sv,[.nil],false,[]⟩),(45,⟨.slice 27,1,24,some (.sl Sv),[.nil],false,[]⟩)],G:=findE [mkP 26 qeZ qeX (qdR _N)],I:=findI [],N:=_N,n:=19,fx:=[],fl:=0,gs:=Gs }
def qam(_N:Nat):Option qJ:=
 (some ((-1:Int),()))
def qV(_N:Nat)(_k7:Unit->Option qJ)(_v1:List (List Int))(_v2:List Int)(_v3:Int)(_v4:Int)(_kn8:(List (List Int)×List Int×Int)×Int->Option qJ):Option qJ:=
 (bif (decide (_v4<_v3)) then (bif (decide (0<=_v4)&&decide (_v4<(_v1.length:Int))) then ((qdR _N ((nth ([]) _v1 (_v4).toNat),_v2,())).bind fun _y9=>(bif _y9.1 then (some (_v4,())) else (_kn8 ((_v1,_v2,_v3),(IntKind.i64.wrap (_v4+(1:Int))))))) else none) else (_k7 ()))
def qbr(_N:Nat)(_x1:List (List Int))(_x2:List Int×Unit):Option qJ:=
 (joinD (fun (_s:Unit)=>qam _N) fun _k7=>(loopE (fun (_c:List (List Int)×List Int×Int) (_s:Int) _kn=>qV _N _k7 _c.1 _c.2.1 _c.2.2 _s _kn) _N (_x1,_x2.1,(_x1.length:Int)) (0:Int)))
def qW(_N:Nat)(_x:Dens qak):Option qJ:=qbr _N _x.1 _x.2.1
theorem qcY(_N:Nat):SpecD Tryz.prog Gs 49 qak qaj (qW _N):=mkSpD (fn:=Tryz.f49) (c:=qj Tryz.f49) (C:=qdk _N)
  (a:=.two .none (.join 0 ⟨[],[]⟩ (.two .none (.one (.loop 0 ⟨[(0,.sl Sv),(1,.clo 26 [.fptr Sv]),(7,.int .i64),(8,.int .i64)],[]⟩ [3] .none))) .none))
  (by kernel_rfl) rfl (by kernel_rfl) (by kernel_rfl) ⟨rfl,by unfold TOk;kernel_rfl,qag rfl rfl (zD.2 ⟨qqg _N,(zC _)⟩),qaf rfl rfl (zC _),rfl⟩ (fun _x=>by kernel_rfl)
theorem qcZ(_N:Nat):EntOk Tryz.prog Gs (mkP 49 qak qaj (qW _N)):=entP ⟨Tryz.f49,qj Tryz.f49,by kernel_rfl,by kernel_rfl,rfl⟩ (by kernel_rfl) (qcY _N)
abbrev qad:List Kd:=[.dat (.sl Sv),.clo 26 [.sl (.int .i64)]]
abbrev qac:List Kd:=[.dat (.bool)]
abbrev qbj:Type:=Dens qac
def qcP(_N:Nat):Ctx:={ T:=[],G:=findE [mkP 49 qak qaj (qW _N)],I:=findI [],N:=_N,n:=9,fx:=[],fl:=0,gs:=Gs }
def qbk(_N:Nat)(_x1:List (List Int))(_x2:List Int×Unit):Option qbj:=
 ((qW _N (_x1,(_x2.1,()),())).bind fun _y2=>(some ((decide (_y2.1>=(0:Int))),())))
def qN(_N:Nat)(_x:Dens qad):Option qbj:=qbk _N _x.1 _x.2.1
theorem qcH(_N:Nat):SpecD Tryz.prog Gs 25 qad qac (qN _N):=mkSpD (fn:=Tryz.f25) (c:=qj Tryz.f25) (C:=qcP _N)
  (a:=.none)
  (by kernel_rfl) rfl (by kernel_rfl) (by kernel_rfl) ⟨rfl,by unfold TOk;kernel_rfl,qag rfl rfl (zD.2 ⟨qcZ _N,(zC _)⟩),qaf rfl rfl (zC _),rfl⟩ (fun _x=>by kernel_rfl)
theorem qcJ(_N:Nat):EntOk Tryz.prog Gs (mkP 25 qad qac (qN _N)):=entP ⟨Tryz.f25,qj Tryz.f25,by kernel_rfl,by kernel_rfl,rfl⟩ (by kernel_rfl) (qcH _N)
abbrev qhu:List Kd:=[.dat (.sl Sv),.dat Sv]
abbrev qht:List Kd:=[.dat (.bool)]
abbrev qor:Type:=Dens qht
def qxL(_N:Nat):Ctx:={ T:=[],G:=findE [mkP 25 qad qac (qN _N)],I:=findI [],N:=_N,n:=8,fx:=[],fl:=0,gs:=Gs }
def qpo(_N:Nat)(_x1:List (List Int))(_x2:List Int):Option qor:=
 ((qN _N (_x1,(_x2,()),())).bind fun _y2=>(some (_y2.1,())))
def qdS(_N:Nat)(_x:Dens qhu):Option qor:=qpo _N _x.1 _x.2.1
theorem quv(_N:Nat):SpecD Tryz.prog Gs 10 qhu qht (qdS _N):=mkSpD (fn:=Tryz.f10) (c:=qj Tryz.f10) (C:=qxL _N)
  (a:=.none)
  (by kernel_rfl) rfl (by kernel_rfl) (by kernel_rfl) ⟨rfl,by unfold TOk;kernel_rfl,qag rfl rfl (zD.2 ⟨qcJ _N,(zC _)⟩),qaf rfl rfl (zC _),rfl⟩ (fun _x=>by kernel_rfl)
theorem qvt(_N:Nat):EntOk Tryz.prog Gs (mkP 10 qhu qht (qdS _N)):=entP ⟨Tryz.f10,qj Tryz.f10,by kernel_rfl,by kernel_rfl,rfl⟩ (by kernel_rfl) (quv _N)
end Go.Proofs.YtgnnhemoocfclaaGreatDoor
end
