import Derived.Test.YtgnnhemoocfclaaGreatDoorAbsSort
import Derived.Test.YtgnnhemoocfclaaGreatDoorAbsSubF
import Derived.Test.YtgnnhemoocfclaaGreatDoorAbsOrd
import Derived.Test.YtgnnhemoocfclaaGreatDoorAbsOpn
import Derived.Test.YtgnnhemoocfclaaGreatDoorGhG
import Derived.KernelRfl
import Derived.Shelf.SlGeneric
import Derived.Ground.SlsfProg
noncomputable section
namespace Go.Proofs.YtgnnhemoocfclaaGreatDoor
open Go.Abs
abbrev Su:Sh:=.sl (.int .i64)
abbrev Ye:Type:=Int×List (List Int)
abbrev qdK:List Kd:=[.dat Su]
abbrev qdH:List Kd:=[.dat (.int .i64)]
abbrev qdE:Type:=Dens qdH
def qvm(_N:Nat):Ctx:={ T:=[(3,⟨.int .i64,1,8,some (.int .i64),[.int .i64 (0:Int)],false,[]⟩),(27,⟨.slice 3,1,24,some Su,[.nil],false,[]⟩)],G:=findE [],I:=findI [],N:=_N,n:=26,fx:=[],fl:=0,gs:=Gs }
def qjK(_N:Nat):Option qdE:=
 (some ((0:Int),()))
def qhh(_N:Nat)(_k4:Unit->Option qdE)(_v1:List Int)(_v2:Int)(_v3:Int)(_kn5:(List Int×Int)×Int->Option qdE):Option qdE:=
 (bif (decide (_v3<_v2)) then (bif (decide (0<=_v3)&&decide (_v3<(_v1.length:Int))) then (bif (decide ((nth (0:Int) _v1 (_v3).toNat)<(0:Int))) then (some ((2:Int),())) else (bif (decide ((nth (0:Int) _v1 (_v3).toNat)>(1048576:Int))) then (some ((2:Int),())) else (_kn5 ((_v1,_v2),(IntKind.i64.wrap (_v3+(1:Int))))))) else none) else (_k4 ()))
def qnm(_N:Nat)(_x1:List Int):Option qdE:=
 (bif ((_x1.length:Int)==(0:Int)) then (some ((1:Int),())) else (bif (decide ((_x1.length:Int)>(4:Int))) then (some ((1:Int),())) else (joinD (fun (_s:Unit)=>qjK _N) fun _k4=>(loopE (fun (_c:List Int×Int) (_s:Int) _kn=>qhh _N _k4 _c.1 _c.2 _s _kn) _N (_x1,(_x1.length:Int)) (0:Int)))))
def qbB(_N:Nat)(_x:Dens qdK):Option qdE:=qnm _N _x.1
theorem qsn(_N:Nat):SpecD Tryz.prog Gs 44 qdK qdH (qbB _N):=mkSpD (fn:=Tryz.f44) (c:=qh Tryz.f44) (C:=qvm _N)
  (a:=.two .none (.two .none (.join 0 ⟨[],[]⟩ (.two .none (.one (.loop 0 ⟨[(13,.sl (.int .i64)),(14,.int .i64),(15,.int .i64)],[]⟩ [2] .none))) .none)))
  (by kernel_rfl) rfl (by kernel_rfl) (by kernel_rfl) ⟨rfl,by unfold TOk;kernel_rfl,qak rfl rfl (zC _),qaj rfl rfl (zC _),rfl⟩ (fun _x=>by kernel_rfl)
theorem qiZ(_N:Nat):EntOk Tryz.prog Gs (mkP 44 qdK qdH (qbB _N)):=entP ⟨Tryz.f44,qh Tryz.f44,by kernel_rfl,by kernel_rfl,rfl⟩ (by kernel_rfl) (qsn _N)
abbrev qgv:List Kd:=[.dat Su,.dat Su]
abbrev qgr:List Kd:=[.dat (.bool)]
abbrev qmt:Type:=Dens qgr
def qvj(_N:Nat):Ctx:={ T:=[(27,⟨.slice 3,1,24,some Su,[.nil],false,[]⟩)],G:=findE [mkP 44 qdK qdH (qbB _N)],I:=findI [],N:=_N,n:=20,fx:=[],fl:=0,gs:=Gs }
def qni(_N:Nat)(_x1:List Int)(_x2:List Int):Option qmt:=
 (bif ((_x1.length:Int)==(_x2.length:Int)) then ((qbB _N (_x1,())).bind fun _y3=>(bif (_y3.1==(0:Int)) then ((qbB _N (_x2,())).bind fun _y4=>(some ((_y4.1==(0:Int)),()))) else (some (false,())))) else (some (false,())))
def qeq(_N:Nat)(_x:Dens qgv):Option qmt:=qni _N _x.1 _x.2.1
theorem qsk(_N:Nat):SpecD Tryz.prog Gs 50 qgv qgr (qeq _N):=mkSpD (fn:=Tryz.f50) (c:=qh Tryz.f50) (C:=qvj _N)
  (a:=.none)
  (by kernel_rfl) rfl (by kernel_rfl) (by kernel_rfl) ⟨rfl,by unfold TOk;kernel_rfl,qak rfl rfl (zD.2 ⟨qiZ _N,(zC _)⟩),qaj rfl rfl (zC _),rfl⟩ (fun _x=>by kernel_rfl)
theorem qsK(_N:Nat):EntOk Tryz.prog Gs (mkP 50 qgv qgr (qeq _N)):=entP ⟨Tryz.f50,qh Tryz.f50,by kernel_rfl,by kernel_rfl,rfl⟩ (by kernel_rfl) (qsk _N)
abbrev qdJ:List Kd:=[.dat Su,.dat Su]
abbrev qdG:List Kd:=[.dat (.bool)]
abbrev qdC:Type:=Dens qdG
def qvk(_N:Nat):Ctx:={ T:=[(3,⟨.int .i64,1,8,some (.int .i64),[.int .i64 (0:Int)],false,[]⟩),(27,⟨.slice 3,1,24,some Su,[.nil],false,[]⟩)],G:=findE [],I:=findI [],N:=_N,n:=21,fx:=[],fl:=0,gs:=Gs }
def qjI(_N:Nat):Option qdC:=
 (some (true,()))
def qhg(_N:Nat)(_k5:Unit->Option qdC)(_v1:List Int)(_v2:List Int)(_v3:Int)(_v4:Int)(_kn6:(List Int×List Int×Int)×Int->Option qdC):Option qdC:=
 (bif (decide (_v4<_v3)) then (bif (decide (0<=_v4)&&decide (_v4<(_v1.length:Int))) then (bif (decide (0<=_v4)&&decide (_v4<(_v2.length:Int))) then (bif (decide ((nth (0:Int) _v1 (_v4).toNat)>(nth (0:Int) _v2 (_v4).toNat))) then (some (false,())) else (_kn6 ((_v1,_v2,_v3),(IntKind.i64.wrap (_v4+(1:Int)))))) else none) else none) else (_k5 ()))
def qnj(_N:Nat)(_x1:List Int)(_x2:List Int):Option qdC:=
 (joinD (fun (_s:Unit)=>qjI _N) fun _k5=>(loopE (fun (_c:List Int×List Int×Int) (_s:Int) _kn=>qhg _N _k5 _c.1 _c.2.1 _c.2.2 _s _kn) _N (_x1,_x2,(_x1.length:Int)) (0:Int)))
def qbA(_N:Nat)(_x:Dens qdJ):Option qdC:=qnj _N _x.1 _x.2.1
theorem qsl(_N:Nat):SpecD Tryz.prog Gs 46 qdJ qdG (qbA _N):=mkSpD (fn:=Tryz.f46) (c:=qh Tryz.f46) (C:=qvk _N)
  (a:=.two .none (.join 0 ⟨[],[]⟩ (.two .none (.one (.loop 0 ⟨[(0,.sl (.int .i64)),(1,.sl (.int .i64)),(7,.int .i64),(8,.int .i64)],[]⟩ [3] (.two .none (.two .none (.two (.one (.two .none (.two (.draw 0 [.pure,.pure,.pure,.pure,.pure,.pure,.pure,.pure,.pure]) .none))) .none)))))) .none))
  (by kernel_rfl) rfl (by kernel_rfl) (by kernel_rfl) ⟨rfl,by unfold TOk;kernel_rfl,qak rfl rfl (zC _),qaj rfl rfl (zC _),rfl⟩ (fun _x=>by kernel_rfl)
theorem qiY(_N:Nat):EntOk Tryz.prog Gs (mkP 46 qdJ qdG (qbA _N)):=entP ⟨Tryz.f46,qh Tryz.f46,by kernel_rfl,by kernel_rfl,rfl⟩ (by kernel_rfl) (qsl _N)
abbrev qiP:List Kd:=[.dat Su,.dat Su]
abbrev qiK:List Kd:=[.dat (.bool)]
abbrev qpB:Type:=Dens qiK
def qyp(_N:Nat):Ctx:={ T:=[],G:=findE [mkP 50 qgv qgr (qeq _N),mkP 46 qdJ qdG (qbA _N)],I:=findI [],N:=_N,n:=13,fx:=[],fl:=0,gs:=Gs }
def qqr(_N:Nat)(_x1:List Int)(_x2:List Int):Option qpB:=
 ((qeq _N (_x1,_x2,())).bind fun _y3=>(bif _y3.1 then ((qbA _N (_x1,_x2,())).bind fun _y4=>(some (_y4.1,()))) else (some (false,()))))
def qgm(_N:Nat)(_x:Dens qiP):Option qpB:=qqr _N _x.1 _x.2.1
theorem qvD(_N:Nat):SpecD Tryz.prog Gs 27 qiP qiK (qgm _N):=mkSpD (fn:=Tryz.f27) (c:=qh Tryz.f27) (C:=qyp _N)
  (a:=.none)
  (by kernel_rfl) rfl (by kernel_rfl) (by kernel_rfl) ⟨rfl,by unfold TOk;kernel_rfl,qak rfl rfl (zD.2 ⟨qsK _N,(zD.2 ⟨qiY _N,(zC _)⟩)⟩),qaj rfl rfl (zC _),rfl⟩ (fun _x=>by kernel_rfl)
theorem qwL(_N:Nat):EntOk Tryz.prog Gs (mkP 27 qiP qiK (qgm _N)):=entP ⟨Tryz.f27,qh Tryz.f27,by kernel_rfl,by kernel_rfl,rfl⟩ (by kernel_rfl) (qvD _N)
abbrev qfb:List Kd:=[.dat (.int .i64)]
abbrev qeX:List Kd:=[.dat (.bool)]
abbrev qky:Type:=Dens qeX
def qsg(_N:Nat):Ctx:={ T:=[],G:=findE [],I:=findI [],N:=_N,n:=6,fx:=[],fl:=0,gs:=Gs }
def qlo(_N:Nat)(_x1:Int):Option qky:=
 (some ((_x1 != _x1),()))
def qdg(_N:Nat)(_x:Dens qfb):Option qky:=qlo _N _x.1
theorem qpM(_N:Nat):SpecD Tryz.prog Gs 72 qfb qeX (qdg _N):=mkSpD (fn:=Tryz.f72) (c:=qh Tryz.f72) (C:=qsg _N)
  (a:=.none)
  (by kernel_rfl) rfl (by kernel_rfl) (by kernel_rfl) ⟨rfl,by unfold TOk;kernel_rfl,qak rfl rfl (zC _),qaj rfl rfl (zC _),rfl⟩ (fun _x=>by kernel_rfl)
theorem qpX(_N:Nat):EntOk Tryz.prog Gs (mkP 72 qfb qeX (qdg _N)):=entP ⟨Tryz.f72,qh Tryz.f72,by kernel_rfl,by kernel_rfl,rfl⟩ (by kernel_rfl) (qpM _N)
abbrev qbW:List Kd:=[.dat (.int .i64),.dat (.int .i64)]
abbrev qbV:List Kd:=[.dat (.int .i64)]
abbrev qiI:Type:=Dens qbV
def qpa(_N:Nat):Ctx:={ T:=[],G:=findE [mkP 72 qfb qeX (qdg _N)],I:=findI [],N:=_N,n:=20,fx:=[],fl:=0,gs:=Gs }
def qjC(_N:Nat)(_x1:Int)(_x2:Int):Option qiI:=
 ((qdg _N (_x1,())).bind fun _y3=>((qdg _N (_x2,())).bind fun _y4=>(bif _y3.1 then (bif _y4.1 then (some ((0:Int),())) else (some ((-1:Int),()))) else (bif _y4.1 then (some ((1:Int),())) else (bif (decide (_x1<_x2)) then (some ((-1:Int),())) else (bif (decide (_x1>_x2)) then (some ((1:Int),())) else (some ((0:Int),()))))))))
def qaB(_N:Nat)(_x:Dens qbW):Option qiI:=qjC _N _x.1 _x.2.1
theorem qnt(_N:Nat):SpecD Tryz.prog Gs 42 qbW qbV (qaB _N):=mkSpD (fn:=Tryz.f42) (c:=qh Tryz.f42) (C:=qpa _N)
  (a:=.none)
  (by kernel_rfl) rfl (by kernel_rfl) (by kernel_rfl) ⟨rfl,by unfold TOk;kernel_rfl,qak rfl rfl (zD.2 ⟨qpX _N,(zC _)⟩),qaj rfl rfl (zC _),rfl⟩ (fun _x=>by kernel_rfl)
theorem qfF(_N:Nat):EntOk Tryz.prog Gs (mkP 42 qbW qbV (qaB _N)):=entP ⟨Tryz.f42,qh Tryz.f42,by kernel_rfl,by kernel_rfl,rfl⟩ (by kernel_rfl) (qnt _N)
abbrev qaZ:List Kd:=[.dat Su,.dat Su]
abbrev qaY:List Kd:=[.dat (.int .i64)]
abbrev qaE:Type:=Dens qaY
def qjb(_N:Nat):Ctx:={ T:=[(3,⟨.int .i64,1,8,some (.int .i64),[.int .i64 (0:Int)],false,[]⟩),(27,⟨.slice 3,1,24,some Su,[.nil],false,[]⟩)],G:=findE [mkP 42 qbW qbV (qaB _N)],I:=findI [],N:=_N,n:=36,fx:=[],fl:=0,gs:=Gs }
def qeF(_N:Nat)(_v8:List Int)(_v9:List Int):Option qaE:=
 (bif (decide ((_v8.length:Int)<(_v9.length:Int))) then (some ((-1:Int),())) else (some ((0:Int),())))
def qcL(_N:Nat)(_k10:(List Int×List Int)->Option qaE)(_v1:List Int)(_v2:List Int)(_v3:List Int)(_v4:Int)(_v5:Int)(_kn11:(List Int×List Int×List Int×Int)×Int->Option qaE):Option qaE:=
 (bif (decide (_v5<_v4)) then (bif (decide (0<=_v5)&&decide (_v5<(_v3.length:Int))) then (bif (decide (_v5>=(_v2.length:Int))) then (some ((1:Int),())) else (bif (decide (0<=_v5)&&decide (_v5<(_v2.length:Int))) then ((qaB _N ((nth (0:Int) _v3 (_v5).toNat),(nth (0:Int) _v2 (_v5).toNat),())).bind fun _y12=>(bif (_y12.1 != (0:Int)) then (some (_y12.1,())) else (_kn11 ((_v1,_v2,_v3,_v4),(IntKind.i64.wrap (_v5+(1:Int))))))) else none)) else none) else (_k10 (_v1,_v2)))
def qeE(_N:Nat)(_x1:List Int)(_x2:List Int):Option qaE:=
 (joinD (fun (_s:List Int×List Int)=>qeF _N _s.1 _s.2) fun _k10=>(loopE (fun (_c:List Int×List Int×List Int×Int) (_s:Int) _kn=>qcL _N _k10 _c.1 _c.2.1 _c.2.2.1 _c.2.2.2 _s _kn) _N (_x1,_x2,_x1,(_x1.length:Int)) (0:Int)))
def qH(_N:Nat)(_x:Dens qaZ):Option qaE:=qeE _N _x.1 _x.2.1
theorem qet(_N:Nat):SpecD Tryz.prog Gs 43 qaZ qaY (qH _N):=mkSpD (fn:=Tryz.f43) (c:=qh Tryz.f43) (C:=qjb _N)
  (a:=.two .none (.join 0 ⟨[(0,.sl (.int .i64)),(1,.sl (.int .i64))],[]⟩ (.two .none (.one (.loop 0 ⟨[(0,.sl (.int .i64)),(1,.sl (.int .i64)),(9,.sl (.int .i64)),(10,.int .i64),(11,.int .i64)],[]⟩ [4] .none))) .none))
  (by kernel_rfl) rfl (by kernel_rfl) (by kernel_rfl) ⟨rfl,by unfold TOk;kernel_rfl,qak rfl rfl (zD.2 ⟨qfF _N,(zC _)⟩),qaj rfl rfl (zC _),rfl⟩ (fun _x=>by kernel_rfl)
theorem qeu(_N:Nat):EntOk Tryz.prog Gs (mkP 43 qaZ qaY (qH _N)):=entP ⟨Tryz.f43,qh Tryz.f43,by kernel_rfl,by kernel_rfl,rfl⟩ (by kernel_rfl) (qet _N)
shelf_lay_g SlLaysF.n6 Slsf 6 at Tryz 85 as lay_sortT
theorem qDt:qcN Tryz.prog 85:=⟨Tryz.f85,qh Tryz.f85,by kernel_rfl,by kernel_rfl,rfl⟩
theorem qDr:qcN Tryz.prog 43:=⟨Tryz.f43,qh Tryz.f43,by kernel_rfl,by kernel_rfl,rfl⟩
theorem qDB(_N:Nat):EntOk Tryz.prog Gs (mkS 85 27 Su 43 (fun p q=>(qH _N (p,q,())).map (·.1))):=entS1 lay_sortT qDt qDr (by kernel_rfl) rfl rfl (qet _N)
abbrev qai:List Kd:=[.dat Su]
abbrev qfu:Type:=List Int
def qkk(_N:Nat):Ctx:={ T:=[(3,⟨.int .i64,1,8,some (.int .i64),[.int .i64 (0:Int)],false,[]⟩),(27,⟨.slice 3,1,24,some Su,[.nil],false,[]⟩)],G:=findE [],I:=findI [],N:=_N,n:=8,fx:=[],fl:=0,gs:=Gs }
def qfy(_N:Nat)(_x1:List Int):Option qfu:=
 (bif _x1.isEmpty then (dem2 (some []) (bif (decide ((([]:List Int).length+_x1.length)*8<=140737488355328)&&Nat.ble 1 8) then (some (([]:List Int)++_x1)) else none)) else (bif (decide ((([]:List Int).length+_x1.length)*8<=140737488355328)&&Nat.ble 1 8) then (some (([]:List Int)++_x1)) else none))
def qB(_N:Nat)(_x:Dens qai):Option qfu:=qfy _N _x.1
theorem qfm(_N:Nat):SpecF Tryz.prog Gs 38 qai 3 (.int .i64) (qB _N):=mkSpF (fn:=Tryz.f38) (c:=qh Tryz.f38) (C:=qkk _N)
  (a:=.none)
  (by kernel_rfl) rfl (by kernel_rfl) (by kernel_rfl) ⟨rfl,by unfold TOk;kernel_rfl,qak rfl rfl (zC _),qaj rfl rfl (zC _),rfl⟩ (fun _x=>by kernel_rfl)
theorem qbU(_N:Nat):EntOk Tryz.prog Gs (mkF 38 qai 3 (.int .i64) (qB _N)):=entF ⟨Tryz.f38,qh Tryz.f38,by kernel_rfl,by kernel_rfl,rfl⟩ (by kernel_rfl) (zG (by kernel_rfl)) (qfm _N)
theorem qiU(_N:Nat):EntOk Tryz.prog Gs (mkQ 38 qai [.dat Su] (fun _x=>(qB _N _x).map fun _y=>(_y,()))):=entQ ⟨Tryz.f38,qh Tryz.f38,by kernel_rfl,by kernel_rfl,rfl⟩ (qsX (qfm _N))
abbrev qbF:List Kd:=[.dat (.sl Su)]
abbrev qev:Type:=List (List Int)
def qjc(_N:Nat):Ctx:={ T:=[(27,⟨.slice 3,1,24,some Su,[.nil],false,[]⟩),(45,⟨.slice 27,1,24,some (.sl Su),[.nil],false,[]⟩)],G:=findE [],I:=findI [],N:=_N,n:=8,fx:=[],fl:=0,gs:=Gs }
def qeG(_N:Nat)(_x1:List (List Int)):Option qev:=
 (bif _x1.isEmpty then (dem2 (some []) (bif (decide ((([]:List (List Int)).length+_x1.length)*24<=140737488355328)&&Nat.ble 1 24) then (some (([]:List (List Int))++_x1)) else none)) else (bif (decide ((([]:List (List Int)).length+_x1.length)*24<=140737488355328)&&Nat.ble 1 24) then (some (([]:List (List Int))++_x1)) else none))
def qaK(_N:Nat)(_x:Dens qbF):Option qev:=qeG _N _x.1
theorem qiu(_N:Nat):SpecF Tryz.prog Gs 84 qbF 27 Su (qaK _N):=mkSpF (fn:=Tryz.f84) (c:=qh Tryz.f84) (C:=qjc _N)
  (a:=.none)
  (by kernel_rfl) rfl (by kernel_rfl) (by kernel_rfl) ⟨rfl,by unfold TOk;kernel_rfl,qak rfl rfl (zC _),qaj rfl rfl (zC _),rfl⟩ (fun _x=>by kernel_rfl)
theorem qiv(_N:Nat):EntOk Tryz.prog Gs (mkG 84 qbF 27 Su (qaK _N)):=entG ⟨Tryz.f84,qh Tryz.f84,by kernel_rfl,by kernel_rfl,rfl⟩ (zG (by kernel_rfl)) (qiu _N)
abbrev qfj:Sig:=⟨[.dat false Su,.form (.ptr 0 0)],[.cells [.sl (.int .i64)]],
 [.dat false .bool],[.cells [.sl (.int .i64)]],[]⟩
abbrev qip:Type:=Bool×List Int
def qoi(_N:Nat):Ctx:={ T:=[(27,⟨.slice 3,1,24,some Su,[.nil],false,[]⟩)],G:=findE [mkP 46 qdJ qdG (qbA _N)],I:=findI [],N:=_N,n:=7,fx:=[],fl:=1,gs:=Gs }
def qix(_N:Nat)(_x1:List Int)(_x2:List Int):Option qip:=
 ((qbA _N (_x1,_x2,())).bind fun _y2=>(some (_y2.1,_x2)))
def qcI(_N:Nat)(_x:List Int×List Int):Option qip:=qix _N _x.1 _x.2
theorem qmF(_N:Nat):SpecH Tryz.prog Gs 86 qfj (qcI _N):=mkSpH (fn:=Tryz.f86) (c:=qh Tryz.f86) (C:=(qoi _N))
  (a:=.none)
  (by kernel_rfl) rfl (by kernel_rfl) (by kernel_rfl) (by kernel_rfl) rfl ⟨rfl,by unfold TOk;kernel_rfl,qak rfl rfl (zD.2 ⟨qiY _N,(zC _)⟩),qaj rfl rfl (zC _),rfl⟩ (fun _x=>by kernel_rfl)
theorem qmV(_N:Nat):EntOk Tryz.prog Gs (mkHe 86 qfj (qcI _N)):=entH ⟨Tryz.f86,qh Tryz.f86,by kernel_rfl,by kernel_rfl,rfl⟩ (qmF _N)
abbrev qbz:Sig:=⟨[.form (.slc 0 0),.form (.clo 86 [.ptr 1 0])],[.row false 0 27 Su,.cells [.sl (.int .i64)]],
 [.dat false (.int .i64)],[.row false 0 27 Su,.cells [.sl (.int .i64)]],[]⟩
abbrev qah:Type:=Int×List (List Int)×List Int
def qfR(_N:Nat):Ctx:={ T:=[(27,⟨.slice 3,1,24,some Su,[.nil],false,[]⟩),(45,⟨.slice 27,1,24,some (.sl Su),[.nil],false,[]⟩)],G:=findE [mkHe 86 qfj (qcI _N)],I:=findI [],N:=_N,n:=19,fx:=[],fl:=2,gs:=Gs }
def qaw(_N:Nat)(_v7:List (List Int))(_v8:List Int):Option qah:=
 (some ((-1:Int),_v7,_v8))
def qan(_N:Nat)(_k9:(List (List Int)×List Int)->Option qah)(_v1:Int)(_v3:List (List Int))(_v2:Int)(_v4:List Int)(_kn10:Ye×(Int×List Int)->Option qah):Option qah:=
 (bif (decide (_v2<_v1)) then (bif (decide (0<=_v2)&&decide (_v2<(_v3.length:Int))) then ((qcI _N ((nth ([]) _v3 ((_v2).toNat)),_v4)).bind fun _y11=>(bif _y11.1 then (some (_v2,_v3,_y11.2)) else (_kn10 ((_v1,_v3),((IntKind.i64.wrap (_v2+(1:Int))),_y11.2))))) else none) else (_k9 (_v3,_v4)))
def qcQ(_N:Nat)(_x1:List (List Int))(_x2:List Int):Option qah:=
 (joinD (fun (_s:List (List Int)×List Int)=>qaw _N _s.1 _s.2) fun _k9=>(loopE (fun (_c:Int×List (List Int)) (_s:Int×List Int) _kn=>qan _N _k9 _c.1 _c.2 _s.1 _s.2 _kn) _N ((_x1.length:Int),_x1) ((0:Int),_x2)))
def qax(_N:Nat)(_x:List (List Int)×List Int):Option qah:=qcQ _N _x.1 _x.2
theorem qfx(_N:Nat):SpecH Tryz.prog Gs 49 qbz (qax _N):=mkSpH (fn:=Tryz.f49) (c:=qh Tryz.f49) (C:=(qfR _N))
  (a:=.two .none (.join 2 ⟨[],[.row false 0 27 Su,.cells [.sl (.int .i64)]]⟩ (.two .none (.one (.loop 2 ⟨[(0,.slc 0 0),(1,.clo 86 [.ptr 1 0]),(7,.int .i64),(8,.int .i64)],[.row false 0 27 Su,.cells [.sl (.int .i64)]]⟩ [1,3] .none))) .none))
  (by kernel_rfl) rfl (by kernel_rfl) (by kernel_rfl) (by kernel_rfl) rfl ⟨rfl,by unfold TOk;kernel_rfl,qak rfl rfl (zD.2 ⟨qmV _N,(zC _)⟩),qaj rfl rfl (zC _),rfl⟩ (fun _x=>by kernel_rfl)
theorem qfE(_N:Nat):EntOk Tryz.prog Gs (mkHe 49 qbz (qax _N)):=entH ⟨Tryz.f49,qh Tryz.f49,by kernel_rfl,by kernel_rfl,rfl⟩ (qfx _N)
abbrev qbm:Sig:=⟨[.form (.slc 0 0),.form (.clo 86 [.ptr 1 0])],[.row false 0 27 Su,.cells [.sl (.int .i64)]],
 [.dat false .bool],[.row false 0 27 Su,.cells [.sl (.int .i64)]],[]⟩
abbrev qcg:Type:=Bool×List (List Int)×List Int
def qfl(_N:Nat):Ctx:={ T:=[],G:=findE [mkHe 49 qbz (qax _N)],I:=findI [],N:=_N,n:=9,fx:=[],fl:=2,gs:=Gs }
def qco(_N:Nat)(_x1:List (List Int))(_x2:List Int):Option qcg:=
 ((qax _N (_x1,_x2)).bind fun _y2=>(some ((decide (_y2.1>=(0:Int))),_y2.2.1,_y2.2.2)))
def qad(_N:Nat)(_x:List (List Int)×List Int):Option qcg:=qco _N _x.1 _x.2
theorem qeD(_N:Nat):SpecH Tryz.prog Gs 25 qbm (qad _N):=mkSpH (fn:=Tryz.f25) (c:=qh Tryz.f25) (C:=(qfl _N))
  (a:=.none)
  (by kernel_rfl) rfl (by kernel_rfl) (by kernel_rfl) (by kernel_rfl) rfl ⟨rfl,by unfold TOk;kernel_rfl,qak rfl rfl (zD.2 ⟨qfE _N,(zC _)⟩),qaj rfl rfl (zC _),rfl⟩ (fun _x=>by kernel_rfl)
theorem qeI(_N:Nat):EntOk Tryz.prog Gs (mkHe 25 qbm (qad _N)):=entH ⟨Tryz.f25,qh Tryz.f25,by kernel_rfl,by kernel_rfl,rfl⟩ (qeD _N)
abbrev qgw:List Kd:=[.dat (.sl Su)]
abbrev qdD:Type:=List (List Int)
def qvl(_N:Nat):Ctx:={ T:=[(27,⟨.slice 3,1,24,some Su,[.nil],false,[]⟩),(45,⟨.slice 27,1,24,some (.sl Su),[.nil],false,[]⟩)],G:=findE [mkG 84 qbF 27 Su (qaK _N),mkS 85 27 Su 43 (fun p q=>(qH _N (p,q,())).map (·.1)),mkHe 25 qbm (qad _N),mkF 38 qai 3 (.int .i64) (qB _N)],I:=findI [],N:=_N,n:=28,fx:=[1],fl:=0,gs:=Gs }
def qnl(_N:Nat)(_v14:List (List Int)):Option qdD:=
 (some _v14)
def qjJ(_N:Nat)(_k17:(List (List Int)×List (List Int))->Option qdD)(_v3:Int)(_v5:List (List Int))(_v4:Int)(_v8:List (List Int))(_kn18:Ye×Ye->Option qdD):Option qdD:=
 (bif (decide (_v4<_v3)) then (bif (decide (0<=_v4)&&decide (_v4<(_v5.length:Int))) then ((qad _N (_v8,(nth ([]) _v5 ((_v4).toNat)))).bind fun _y19=>(bif (!_y19.1) then ((qB _N (_y19.2.2,())).bind fun _y20=>(bif (decide ((_y19.2.1.length+([_y20]).length)*24<=140737488355328)&&Nat.ble 1 24) then (_kn18 ((_v3,_v5),((IntKind.i64.wrap (_v4+(1:Int))),(_y19.2.1 ++ [_y20])))) else none)) else (_kn18 ((_v3,_v5),((IntKind.i64.wrap (_v4+(1:Int))),_y19.2.1))))) else none) else (_k17 (_v5,_v8)))
def qnk(_N:Nat)(_x1:List (List Int)):Option qdD:=
 ((qaK _N (_x1,())).bind fun _y15=>((sortR (fun p q=>(qH _N (p,q,())).map (·.1)) _y15).bind fun _y16=>(joinD (fun (_s:List (List Int)×List (List Int))=>qnl _N _s.2) fun _k17=>(loopE (fun (_c:Int×List (List Int)) (_s:Int×List (List Int)) _kn=>qjJ _N _k17 _c.1 _c.2 _s.1 _s.2 _kn) _N ((_y16.length:Int),_y16) ((0:Int),[])))))
def qds(_N:Nat)(_x:Dens qgw):Option qdD:=qnk _N _x.1
theorem qsm(_N:Nat):SpecF Tryz.prog Gs 69 qgw 27 Su (qds _N):=mkSpF (fn:=Tryz.f69) (c:=qh Tryz.f69) (C:=qvl _N)
  (a:=.two .none (.two .none (.two .none (.two .none (.join 2 ⟨[(4,.slc 1 0)],[.row false 0 27 Su,.row false 0 27 Su]⟩ (.two .none (.one (.obj 4 27 Su (.loop 2 ⟨[(4,.slc 1 0),(11,.slc 0 0),(12,.int .i64),(13,.int .i64)],[.row false 0 27 Su,.row false 0 27 Su]⟩ [1,3] .none)))) .none)))))
  (by kernel_rfl) rfl (by kernel_rfl) (by kernel_rfl) ⟨rfl,by unfold TOk;kernel_rfl,qak rfl rfl (zD.2 ⟨qiv _N,(zD.2 ⟨qDB _N,(zD.2 ⟨qeI _N,(zD.2 ⟨qbU _N,(zC _)⟩)⟩)⟩)⟩),qaj rfl rfl (zC _),rfl⟩ (fun _x=>by kernel_rfl)
theorem qsL(_N:Nat):EntOk Tryz.prog Gs (mkG 69 qgw 27 Su (qds _N)):=entG ⟨Tryz.f69,qh Tryz.f69,by kernel_rfl,by kernel_rfl,rfl⟩ (zG (by kernel_rfl)) (qsm _N)
abbrev qeY:List Kd:=[.dat Su,.ptr Su]
abbrev qeV:List Kd:=[.dat (.bool)]
abbrev qkw:Type:=Dens qeV
def qsb(_N:Nat):Ctx:={ T:=[(27,⟨.slice 3,1,24,some Su,[.nil],false,[]⟩)],G:=findE [mkP 27 qiP qiK (qgm _N)],I:=findI [],N:=_N,n:=7,fx:=[],fl:=0,gs:=Gs }
def qkL(_N:Nat)(_x1:List Int)(_x2:List Int):Option qkw:=
 ((qgm _N (_x1,_x2,())).bind fun _y2=>(some (_y2.1,())))
def qee(_N:Nat)(_x:Dens qeY):Option qkw:=qkL _N _x.1 _x.2.1
theorem qpH(_N:Nat):SpecD Tryz.prog Gs 26 qeY qeV (qee _N):=mkSpD (fn:=Tryz.f26) (c:=qh Tryz.f26) (C:=qsb _N)
  (a:=.none)
  (by kernel_rfl) rfl (by kernel_rfl) (by kernel_rfl) ⟨rfl,by unfold TOk;kernel_rfl,qak rfl rfl (zD.2 ⟨qwL _N,(zC _)⟩),qaj rfl rfl (zC _),rfl⟩ (fun _x=>by kernel_rfl)
theorem qpU(_N:Nat):EntOk Tryz.prog Gs (mkP 26 qeY qeV (qee _N)):=entP ⟨Tryz.f26,qh Tryz.f26,by kernel_rfl,by kernel_rfl,rfl⟩ (by kernel_rfl) (qpH _N)
abbrev qam:List Kd:=[.dat (.sl Su),.clo 26 [.sl (.int .i64)]]
abbrev qal:List Kd:=[.dat (.int .i64)]
abbrev qG:Type:=Dens qal
def qdv(_N:Nat):Ctx:={ T:=[(27,⟨.slice 3,1,24,some Su,[.nil],false,[]⟩),(45,⟨.slice 27,1,24,some (.sl Su),[.nil],false,[]⟩)],G:=findE [mkP 26 qeY qeV (qee _N)],I:=findI [],N:=_N,n:=19,fx:=[],fl:=0,gs:=Gs }
def qao(_N:Nat):Option qG:=
 (some ((-1:Int),()))
def qX(_N:Nat)(_k7:Unit->Option qG)(_v1:List (List Int))(_v2:List Int)(_v3:Int)(_v4:Int)(_kn8:(List (List Int)×List Int×Int)×Int->Option qG):Option qG:=
 (bif (decide (_v4<_v3)) then (bif (decide (0<=_v4)&&decide (_v4<(_v1.length:Int))) then ((qee _N ((nth ([]) _v1 (_v4).toNat),_v2,())).bind fun _y9=>(bif _y9.1 then (some (_v4,())) else (_kn8 ((_v1,_v2,_v3),(IntKind.i64.wrap (_v4+(1:Int))))))) else none) else (_k7 ()))
def qbw(_N:Nat)(_x1:List (List Int))(_x2:List Int×Unit):Option qG:=
 (joinD (fun (_s:Unit)=>qao _N) fun _k7=>(loopE (fun (_c:List (List Int)×List Int×Int) (_s:Int) _kn=>qX _N _k7 _c.1 _c.2.1 _c.2.2 _s _kn) _N (_x1,_x2.1,(_x1.length:Int)) (0:Int)))
def qY(_N:Nat)(_x:Dens qam):Option qG:=qbw _N _x.1 _x.2.1
theorem qdh(_N:Nat):SpecD Tryz.prog Gs 49 qam qal (qY _N):=mkSpD (fn:=Tryz.f49) (c:=qh Tryz.f49) (C:=qdv _N)
  (a:=.two .none (.join 0 ⟨[],[]⟩ (.two .none (.one (.loop 0 ⟨[(0,.sl Su),(1,.clo 26 [.fptr Su]),(7,.int .i64),(8,.int .i64)],[]⟩ [3] .none))) .none))
  (by kernel_rfl) rfl (by kernel_rfl) (by kernel_rfl) ⟨rfl,by unfold TOk;kernel_rfl,qak rfl rfl (zD.2 ⟨qpU _N,(zC _)⟩),qaj rfl rfl (zC _),rfl⟩ (fun _x=>by kernel_rfl)
theorem qdi(_N:Nat):EntOk Tryz.prog Gs (mkP 49 qam qal (qY _N)):=entP ⟨Tryz.f49,qh Tryz.f49,by kernel_rfl,by kernel_rfl,rfl⟩ (by kernel_rfl) (qdh _N)
abbrev qaf:List Kd:=[.dat (.sl Su),.clo 26 [.sl (.int .i64)]]
abbrev qae:List Kd:=[.dat (.bool)]
abbrev qbn:Type:=Dens qae
def qcS(_N:Nat):Ctx:={ T:=[],G:=findE [mkP 49 qam qal (qY _N)],I:=findI [],N:=_N,n:=9,fx:=[],fl:=0,gs:=Gs }
def qbo(_N:Nat)(_x1:List (List Int))(_x2:List Int×Unit):Option qbn:=
 ((qY _N (_x1,(_x2.1,()),())).bind fun _y2=>(some ((decide (_y2.1>=(0:Int))),())))
def qN(_N:Nat)(_x:Dens qaf):Option qbn:=qbo _N _x.1 _x.2.1
theorem qcK(_N:Nat):SpecD Tryz.prog Gs 25 qaf qae (qN _N):=mkSpD (fn:=Tryz.f25) (c:=qh Tryz.f25) (C:=qcS _N)
  (a:=.none)
  (by kernel_rfl) rfl (by kernel_rfl) (by kernel_rfl) ⟨rfl,by unfold TOk;kernel_rfl,qak rfl rfl (zD.2 ⟨qdi _N,(zC _)⟩),qaj rfl rfl (zC _),rfl⟩ (fun _x=>by kernel_rfl)
theorem qcM(_N:Nat):EntOk Tryz.prog Gs (mkP 25 qaf qae (qN _N)):=entP ⟨Tryz.f25,qh Tryz.f25,by kernel_rfl,by kernel_rfl,rfl⟩ (by kernel_rfl) (qcK _N)
abbrev qho:List Kd:=[.dat (.sl Su),.dat Su]
abbrev qhm:List Kd:=[.dat (.bool)]
abbrev qog:Type:=Dens qhm
def qxl(_N:Nat):Ctx:={ T:=[],G:=findE [mkP 25 qaf qae (qN _N)],I:=findI [],N:=_N,n:=8,fx:=[],fl:=0,gs:=Gs }
def qpc(_N:Nat)(_x1:List (List Int))(_x2:List Int):Option qog:=
 ((qN _N (_x1,(_x2,()),())).bind fun _y2=>(some (_y2.1,())))
def qdk(_N:Nat)(_x:Dens qho):Option qog:=qpc _N _x.1 _x.2.1
theorem qtT(_N:Nat):SpecD Tryz.prog Gs 10 qho qhm (qdk _N):=mkSpD (fn:=Tryz.f10) (c:=qh Tryz.f10) (C:=qxl _N)
  (a:=.none)
  (by kernel_rfl) rfl (by kernel_rfl) (by kernel_rfl) ⟨rfl,by unfold TOk;kernel_rfl,qak rfl rfl (zD.2 ⟨qcM _N,(zC _)⟩),qaj rfl rfl (zC _),rfl⟩ (fun _x=>by kernel_rfl)
theorem quU(_N:Nat):EntOk Tryz.prog Gs (mkP 10 qho qhm (qdk _N)):=entP ⟨Tryz.f10,qh Tryz.f10,by kernel_rfl,by kernel_rfl,rfl⟩ (by kernel_rfl) (qtT _N)
abbrev qfa:List Kd:=[.dat Su,.dat Su]
abbrev qeW:List Kd:=[.dat (.bool)]
abbrev qcx:Type:=Dens qeW
def qsf(_N:Nat):Ctx:={ T:=[(3,⟨.int .i64,1,8,some (.int .i64),[.int .i64 (0:Int)],false,[]⟩),(27,⟨.slice 3,1,24,some Su,[.nil],false,[]⟩)],G:=findE [],I:=findI [],N:=_N,n:=26,fx:=[],fl:=0,gs:=Gs }
def qhJ(_N:Nat):Option qcx:=
 (some (true,()))
def qfA(_N:Nat)(_k4:Unit->Option qcx)(_v1:List Int)(_v2:List Int)(_v3:Int)(_kn5:(List Int×List Int)×Int->Option qcx):Option qcx:=
 (bif (decide (_v3<(_v1.length:Int))) then (bif (decide (0<=_v3)&&decide (_v3<(_v1.length:Int))) then (bif (decide (0<=_v3)&&decide (_v3<(_v2.length:Int))) then (bif ((nth (0:Int) _v1 (_v3).toNat) != (nth (0:Int) _v2 (_v3).toNat)) then (some (false,())) else (_kn5 ((_v1,_v2),(IntKind.i64.wrap (_v3+(1:Int)))))) else none) else none) else (_k4 ()))
def qkX(_N:Nat)(_x1:List Int)(_x2:List Int):Option qcx:=
 (bif ((_x1.length:Int) != (_x2.length:Int)) then (some (false,())) else (joinD (fun (_s:Unit)=>qhJ _N) fun _k4=>(loopE (fun (_c:List Int×List Int) (_s:Int) _kn=>qfA _N _k4 _c.1 _c.2 _s _kn) _N (_x1,_x2) (0:Int))))
def qdf(_N:Nat)(_x:Dens qfa):Option qcx:=qkX _N _x.1 _x.2.1
theorem qpL(_N:Nat):SpecD Tryz.prog Gs 12 qfa qeW (qdf _N):=mkSpD (fn:=Tryz.f12) (c:=qh Tryz.f12) (C:=qsf _N)
  (a:=.two .none (.two .none (.join 0 ⟨[],[]⟩ (.two .none (.one (.loop 0 ⟨[(0,.sl (.int .i64)),(1,.sl (.int .i64)),(5,.int .i64)],[]⟩ [2] (.two .none (.two (.one (.two (.draw 0 [.pure,.pure,.pure,.pure,.pure,.pure,.pure,.pure,.pure]) .none)) .none))))) .none)))
  (by kernel_rfl) rfl (by kernel_rfl) (by kernel_rfl) ⟨rfl,by unfold TOk;kernel_rfl,qak rfl rfl (zC _),qaj rfl rfl (zC _),rfl⟩ (fun _x=>by kernel_rfl)
theorem qpW(_N:Nat):EntOk Tryz.prog Gs (mkP 12 qfa qeW (qdf _N)):=entP ⟨Tryz.f12,qh Tryz.f12,by kernel_rfl,by kernel_rfl,rfl⟩ (by kernel_rfl) (qpL _N)
end Go.Proofs.YtgnnhemoocfclaaGreatDoor
end
