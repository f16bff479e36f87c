import Derived.Test.YtgnnhemoocfclaaDoorAbsSort
import Derived.Test.YtgnnhemoocfclaaDoorAbsSubF
import Derived.Test.YtgnnhemoocfclaaDoorAbsOrd
import Derived.Test.YtgnnhemoocfclaaDoorAbsOpn
import Derived.Test.YtgnnhemoocfclaaDoorGhG
import Derived.KernelRfl
import Derived.Shelf.SlGeneric
import Derived.Ground.SlsfProg
noncomputable section
namespace Go.Proofs.YtgnnhemoocfclaaDoor
open Go.Abs
abbrev Su:Sh:=.sl (.int .i64)
abbrev Ye:Type:=Int×List (List Int)
abbrev qdb:List Kd:=[.dat Su]
abbrev qcY:List Kd:=[.dat (.int .i64)]
abbrev qcV:Type:=Dens qcY
def qsx(_N:Nat):Ctx:={ T:=[(3,⟨.int .i64,1,8,some (.int .i64),[.int .i64 (0:Int)],false,[]⟩),(38,⟨.slice 3,1,24,some Su,[.nil],false,[]⟩)],G:=findE [],I:=findI [],N:=_N,n:=26,fx:=[],fl:=0,gs:=Gs }
def qiq(_N:Nat):Option qcV:=
 (some ((0:Int),()))
def qfU(_N:Nat)(_k4:Unit->Option qcV)(_v1:List Int)(_v2:Int)(_v3:Int)(_kn5:(List Int×Int)×Int->Option qcV):Option qcV:=
 (bif (decide (_v3<_v2)) then (bif (decide (0<=_v3)&&decide (_v3<(_v1.length:Int))) then (bif (decide ((nth (0:Int) _v1 (_v3).toNat)<(0:Int))) then (some ((2:Int),())) else (bif (decide ((nth (0:Int) _v1 (_v3).toNat)>(1048576:Int))) then (some ((2:Int),())) else (_kn5 ((_v1,_v2),(IntKind.i64.wrap (_v3+(1:Int))))))) else none) else (_k4 ()))
def qli(_N:Nat)(_x1:List Int):Option qcV:=
 (bif ((_x1.length:Int)==(0:Int)) then (some ((1:Int),())) else (bif (decide ((_x1.length:Int)>(4:Int))) then (some ((1:Int),())) else (joinD (fun (_s:Unit)=>qiq _N) fun _k4=>(loopE (fun (_c:List Int×Int) (_s:Int) _kn=>qfU _N _k4 _c.1 _c.2 _s _kn) _N (_x1,(_x1.length:Int)) (0:Int)))))
def qbj(_N:Nat)(_x:Dens qdb):Option qcV:=qli _N _x.1
theorem qpE(_N:Nat):SpecD Tryd.prog Gs 42 qdb qcY (qbj _N):=mkSpD (fn:=Tryd.f42) (c:=qw Tryd.f42) (C:=qsx _N)
  (a:=.two .none (.two .none (.join 0 ⟨[],[]⟩ (.two .none (.one (.loop 0 ⟨[(13,.sl (.int .i64)),(14,.int .i64),(15,.int .i64)],[]⟩ [2] .none))) .none)))
  (by kernel_rfl) rfl (by kernel_rfl) (by kernel_rfl) ⟨rfl,by unfold TOk;kernel_rfl,qar rfl rfl (zC _),qaq rfl rfl (zC _),rfl⟩ (fun _x=>by kernel_rfl)
theorem qhG(_N:Nat):EntOk Tryd.prog Gs (mkP 42 qdb qcY (qbj _N)):=entP ⟨Tryd.f42,qw Tryd.f42,by kernel_rfl,by kernel_rfl,rfl⟩ (by kernel_rfl) (qpE _N)
abbrev qfq:List Kd:=[.dat Su,.dat Su]
abbrev qfl:List Kd:=[.dat (.bool)]
abbrev qku:Type:=Dens qfl
def qsu(_N:Nat):Ctx:={ T:=[(38,⟨.slice 3,1,24,some Su,[.nil],false,[]⟩)],G:=findE [mkP 42 qdb qcY (qbj _N)],I:=findI [],N:=_N,n:=20,fx:=[],fl:=0,gs:=Gs }
def qle(_N:Nat)(_x1:List Int)(_x2:List Int):Option qku:=
 (bif ((_x1.length:Int)==(_x2.length:Int)) then ((qbj _N (_x1,())).bind fun _y3=>(bif (_y3.1==(0:Int)) then ((qbj _N (_x2,())).bind fun _y4=>(some ((_y4.1==(0:Int)),()))) else (some (false,())))) else (some (false,())))
def qdI(_N:Nat)(_x:Dens qfq):Option qku:=qle _N _x.1 _x.2.1
theorem qpB(_N:Nat):SpecD Tryd.prog Gs 59 qfq qfl (qdI _N):=mkSpD (fn:=Tryd.f59) (c:=qw Tryd.f59) (C:=qsu _N)
  (a:=.none)
  (by kernel_rfl) rfl (by kernel_rfl) (by kernel_rfl) ⟨rfl,by unfold TOk;kernel_rfl,qar rfl rfl (zF.2 ⟨qhG _N,(zC _)⟩),qaq rfl rfl (zC _),rfl⟩ (fun _x=>by kernel_rfl)
theorem qqe(_N:Nat):EntOk Tryd.prog Gs (mkP 59 qfq qfl (qdI _N)):=entP ⟨Tryd.f59,qw Tryd.f59,by kernel_rfl,by kernel_rfl,rfl⟩ (by kernel_rfl) (qpB _N)
abbrev qda:List Kd:=[.dat Su,.dat Su]
abbrev qcX:List Kd:=[.dat (.bool)]
abbrev qcT:Type:=Dens qcX
def qsv(_N:Nat):Ctx:={ T:=[(3,⟨.int .i64,1,8,some (.int .i64),[.int .i64 (0:Int)],false,[]⟩),(38,⟨.slice 3,1,24,some Su,[.nil],false,[]⟩)],G:=findE [],I:=findI [],N:=_N,n:=21,fx:=[],fl:=0,gs:=Gs }
def qio(_N:Nat):Option qcT:=
 (some (true,()))
def qfT(_N:Nat)(_k5:Unit->Option qcT)(_v1:List Int)(_v2:List Int)(_v3:Int)(_v4:Int)(_kn6:(List Int×List Int×Int)×Int->Option qcT):Option qcT:=
 (bif (decide (_v4<_v3)) then (bif (decide (0<=_v4)&&decide (_v4<(_v1.length:Int))) then (bif (decide (0<=_v4)&&decide (_v4<(_v2.length:Int))) then (bif (decide ((nth (0:Int) _v1 (_v4).toNat)>(nth (0:Int) _v2 (_v4).toNat))) then (some (false,())) else (_kn6 ((_v1,_v2,_v3),(IntKind.i64.wrap (_v4+(1:Int)))))) else none) else none) else (_k5 ()))
def qlf(_N:Nat)(_x1:List Int)(_x2:List Int):Option qcT:=
 (joinD (fun (_s:Unit)=>qio _N) fun _k5=>(loopE (fun (_c:List Int×List Int×Int) (_s:Int) _kn=>qfT _N _k5 _c.1 _c.2.1 _c.2.2 _s _kn) _N (_x1,_x2,(_x1.length:Int)) (0:Int)))
def qbi(_N:Nat)(_x:Dens qda):Option qcT:=qlf _N _x.1 _x.2.1
theorem qpC(_N:Nat):SpecD Tryd.prog Gs 56 qda qcX (qbi _N):=mkSpD (fn:=Tryd.f56) (c:=qw Tryd.f56) (C:=qsv _N)
  (a:=.two .none (.join 0 ⟨[],[]⟩ (.two .none (.one (.loop 0 ⟨[(0,.sl (.int .i64)),(1,.sl (.int .i64)),(7,.int .i64),(8,.int .i64)],[]⟩ [3] (.two .none (.two .none (.two (.one (.two .none (.two (.draw 0 [.pure,.pure,.pure,.pure,.pure,.pure,.pure,.pure,.pure]) .none))) .none)))))) .none))
  (by kernel_rfl) rfl (by kernel_rfl) (by kernel_rfl) ⟨rfl,by unfold TOk;kernel_rfl,qar rfl rfl (zC _),qaq rfl rfl (zC _),rfl⟩ (fun _x=>by kernel_rfl)
theorem qhF(_N:Nat):EntOk Tryd.prog Gs (mkP 56 qda qcX (qbi _N)):=entP ⟨Tryd.f56,qw Tryd.f56,by kernel_rfl,by kernel_rfl,rfl⟩ (by kernel_rfl) (qpC _N)
abbrev qhv:List Kd:=[.dat Su,.dat Su]
abbrev qhr:List Kd:=[.dat (.bool)]
abbrev qnq:Type:=Dens qhr
def qvx(_N:Nat):Ctx:={ T:=[],G:=findE [mkP 59 qfq qfl (qdI _N),mkP 56 qda qcX (qbi _N)],I:=findI [],N:=_N,n:=13,fx:=[],fl:=0,gs:=Gs }
def qnS(_N:Nat)(_x1:List Int)(_x2:List Int):Option qnq:=
 ((qdI _N (_x1,_x2,())).bind fun _y3=>(bif _y3.1 then ((qbi _N (_x1,_x2,())).bind fun _y4=>(some (_y4.1,()))) else (some (false,()))))
def qfg(_N:Nat)(_x:Dens qhv):Option qnq:=qnS _N _x.1 _x.2.1
theorem qsP(_N:Nat):SpecD Tryd.prog Gs 46 qhv qhr (qfg _N):=mkSpD (fn:=Tryd.f46) (c:=qw Tryd.f46) (C:=qvx _N)
  (a:=.none)
  (by kernel_rfl) rfl (by kernel_rfl) (by kernel_rfl) ⟨rfl,by unfold TOk;kernel_rfl,qar rfl rfl (zF.2 ⟨qqe _N,(zF.2 ⟨qhF _N,(zC _)⟩)⟩),qaq rfl rfl (zC _),rfl⟩ (fun _x=>by kernel_rfl)
theorem qtX(_N:Nat):EntOk Tryd.prog Gs (mkP 46 qhv qhr (qfg _N)):=entP ⟨Tryd.f46,qw Tryd.f46,by kernel_rfl,by kernel_rfl,rfl⟩ (by kernel_rfl) (qsP _N)
abbrev qen:List Kd:=[.dat (.int .i64)]
abbrev qek:List Kd:=[.dat (.bool)]
abbrev qiS:Type:=Dens qek
def qpy(_N:Nat):Ctx:={ T:=[],G:=findE [],I:=findI [],N:=_N,n:=6,fx:=[],fl:=0,gs:=Gs }
def qjz(_N:Nat)(_x1:Int):Option qiS:=
 (some ((_x1 != _x1),()))
def qcD(_N:Nat)(_x:Dens qen):Option qiS:=qjz _N _x.1
theorem qny(_N:Nat):SpecD Tryd.prog Gs 84 qen qek (qcD _N):=mkSpD (fn:=Tryd.f84) (c:=qw Tryd.f84) (C:=qpy _N)
  (a:=.none)
  (by kernel_rfl) rfl (by kernel_rfl) (by kernel_rfl) ⟨rfl,by unfold TOk;kernel_rfl,qar rfl rfl (zC _),qaq rfl rfl (zC _),rfl⟩ (fun _x=>by kernel_rfl)
theorem qnG(_N:Nat):EntOk Tryd.prog Gs (mkP 84 qen qek (qcD _N)):=entP ⟨Tryd.f84,qw Tryd.f84,by kernel_rfl,by kernel_rfl,rfl⟩ (by kernel_rfl) (qny _N)
abbrev qcm:List Kd:=[.dat (.int .i64),.dat (.int .i64)]
abbrev qcl:List Kd:=[.dat (.int .i64)]
abbrev qhq:Type:=Dens qcl
def qmR(_N:Nat):Ctx:={ T:=[],G:=findE [mkP 84 qen qek (qcD _N)],I:=findI [],N:=_N,n:=20,fx:=[],fl:=0,gs:=Gs }
def qii(_N:Nat)(_x1:Int)(_x2:Int):Option qhq:=
 ((qcD _N (_x1,())).bind fun _y3=>((qcD _N (_x2,())).bind fun _y4=>(bif _y3.1 then (bif _y4.1 then (some ((0:Int),())) else (some ((-1:Int),()))) else (bif _y4.1 then (some ((1:Int),())) else (bif (decide (_x1<_x2)) then (some ((-1:Int),())) else (bif (decide (_x1>_x2)) then (some ((1:Int),())) else (some ((0:Int),()))))))))
def qaM(_N:Nat)(_x:Dens qcm):Option qhq:=qii _N _x.1 _x.2.1
theorem qlp(_N:Nat):SpecD Tryd.prog Gs 64 qcm qcl (qaM _N):=mkSpD (fn:=Tryd.f64) (c:=qw Tryd.f64) (C:=qmR _N)
  (a:=.none)
  (by kernel_rfl) rfl (by kernel_rfl) (by kernel_rfl) ⟨rfl,by unfold TOk;kernel_rfl,qar rfl rfl (zF.2 ⟨qnG _N,(zC _)⟩),qaq rfl rfl (zC _),rfl⟩ (fun _x=>by kernel_rfl)
theorem qhm(_N:Nat):EntOk Tryd.prog Gs (mkP 64 qcm qcl (qaM _N)):=entP ⟨Tryd.f64,qw Tryd.f64,by kernel_rfl,by kernel_rfl,rfl⟩ (by kernel_rfl) (qlp _N)
abbrev qbp:List Kd:=[.dat Su,.dat Su]
abbrev qbo:List Kd:=[.dat (.int .i64)]
abbrev qav:Type:=Dens qbo
def qhI(_N:Nat):Ctx:={ T:=[(3,⟨.int .i64,1,8,some (.int .i64),[.int .i64 (0:Int)],false,[]⟩),(38,⟨.slice 3,1,24,some Su,[.nil],false,[]⟩)],G:=findE [mkP 64 qcm qcl (qaM _N)],I:=findI [],N:=_N,n:=36,fx:=[],fl:=0,gs:=Gs }
def qdV(_N:Nat)(_v8:List Int)(_v9:List Int):Option qav:=
 (bif (decide ((_v8.length:Int)<(_v9.length:Int))) then (some ((-1:Int),())) else (some ((0:Int),())))
def qcq(_N:Nat)(_k10:(List Int×List Int)->Option qav)(_v1:List Int)(_v2:List Int)(_v3:List Int)(_v4:Int)(_v5:Int)(_kn11:(List Int×List Int×List Int×Int)×Int->Option qav):Option qav:=
 (bif (decide (_v5<_v4)) then (bif (decide (0<=_v5)&&decide (_v5<(_v3.length:Int))) then (bif (decide (_v5>=(_v2.length:Int))) then (some ((1:Int),())) else (bif (decide (0<=_v5)&&decide (_v5<(_v2.length:Int))) then ((qaM _N ((nth (0:Int) _v3 (_v5).toNat),(nth (0:Int) _v2 (_v5).toNat),())).bind fun _y12=>(bif (_y12.1 != (0:Int)) then (some (_y12.1,())) else (_kn11 ((_v1,_v2,_v3,_v4),(IntKind.i64.wrap (_v5+(1:Int))))))) else none)) else none) else (_k10 (_v1,_v2)))
def qdU(_N:Nat)(_x1:List Int)(_x2:List Int):Option qav:=
 (joinD (fun (_s:List Int×List Int)=>qdV _N _s.1 _s.2) fun _k10=>(loopE (fun (_c:List Int×List Int×List Int×Int) (_s:Int) _kn=>qcq _N _k10 _c.1 _c.2.1 _c.2.2.1 _c.2.2.2 _s _kn) _N (_x1,_x2,_x1,(_x1.length:Int)) (0:Int)))
def qO(_N:Nat)(_x:Dens qbp):Option qav:=qdU _N _x.1 _x.2.1
theorem qdL(_N:Nat):SpecD Tryd.prog Gs 65 qbp qbo (qO _N):=mkSpD (fn:=Tryd.f65) (c:=qw Tryd.f65) (C:=qhI _N)
  (a:=.two .none (.join 0 ⟨[(0,.sl (.int .i64)),(1,.sl (.int .i64))],[]⟩ (.two .none (.one (.loop 0 ⟨[(0,.sl (.int .i64)),(1,.sl (.int .i64)),(9,.sl (.int .i64)),(10,.int .i64),(11,.int .i64)],[]⟩ [4] .none))) .none))
  (by kernel_rfl) rfl (by kernel_rfl) (by kernel_rfl) ⟨rfl,by unfold TOk;kernel_rfl,qar rfl rfl (zF.2 ⟨qhm _N,(zC _)⟩),qaq rfl rfl (zC _),rfl⟩ (fun _x=>by kernel_rfl)
theorem qhb(_N:Nat):EntOk Tryd.prog Gs (mkP 65 qbp qbo (qO _N)):=entP ⟨Tryd.f65,qw Tryd.f65,by kernel_rfl,by kernel_rfl,rfl⟩ (by kernel_rfl) (qdL _N)
shelf_lay_g SlLaysF.n6 Slsf 6 at Tryd 79 as lay_sortT
theorem qAl:qdt Tryd.prog 79:=⟨Tryd.f79,qw Tryd.f79,by kernel_rfl,by kernel_rfl,rfl⟩
theorem qAj:qdt Tryd.prog 65:=⟨Tryd.f65,qw Tryd.f65,by kernel_rfl,by kernel_rfl,rfl⟩
theorem qAs(_N:Nat):EntOk Tryd.prog Gs (mkS 79 38 Su 65 (fun p q=>(qO _N (p,q,())).map (·.1))):=entS1 lay_sortT qAl qAj (by kernel_rfl) rfl rfl (qdL _N)
abbrev qat:List Kd:=[.dat Su]
abbrev qeC:Type:=List Int
def qiI(_N:Nat):Ctx:={ T:=[(3,⟨.int .i64,1,8,some (.int .i64),[.int .i64 (0:Int)],false,[]⟩),(38,⟨.slice 3,1,24,some Su,[.nil],false,[]⟩)],G:=findE [],I:=findI [],N:=_N,n:=8,fx:=[],fl:=0,gs:=Gs }
def qeH(_N:Nat)(_x1:List Int):Option qeC:=
 (bif _x1.isEmpty then (dem2 (some []) (bif (decide ((([]:List Int).length+_x1.length)*8<=140737488355328)&&Nat.ble 1 8) then (some (([]:List Int)++_x1)) else none)) else (bif (decide ((([]:List Int).length+_x1.length)*8<=140737488355328)&&Nat.ble 1 8) then (some (([]:List Int)++_x1)) else none))
def qF(_N:Nat)(_x:Dens qat):Option qeC:=qeH _N _x.1
theorem qhO(_N:Nat):SpecF Tryd.prog Gs 35 qat 3 (.int .i64) (qF _N):=mkSpF (fn:=Tryd.f35) (c:=qw Tryd.f35) (C:=qiI _N)
  (a:=.none)
  (by kernel_rfl) rfl (by kernel_rfl) (by kernel_rfl) ⟨rfl,by unfold TOk;kernel_rfl,qar rfl rfl (zC _),qaq rfl rfl (zC _),rfl⟩ (fun _x=>by kernel_rfl)
theorem qbB(_N:Nat):EntOk Tryd.prog Gs (mkF 35 qat 3 (.int .i64) (qF _N)):=entF ⟨Tryd.f35,qw Tryd.f35,by kernel_rfl,by kernel_rfl,rfl⟩ (by kernel_rfl) (zD (by kernel_rfl)) (qhO _N)
abbrev qbq:List Kd:=[.dat (.sl Su)]
abbrev qdM:Type:=List (List Int)
def qhJ(_N:Nat):Ctx:={ T:=[(38,⟨.slice 3,1,24,some Su,[.nil],false,[]⟩),(68,⟨.slice 38,1,24,some (.sl Su),[.nil],false,[]⟩)],G:=findE [],I:=findI [],N:=_N,n:=8,fx:=[],fl:=0,gs:=Gs }
def qdW(_N:Nat)(_x1:List (List Int)):Option qdM:=
 (bif _x1.isEmpty then (dem2 (some []) (bif (decide ((([]:List (List Int)).length+_x1.length)*24<=140737488355328)&&Nat.ble 1 24) then (some (([]:List (List Int))++_x1)) else none)) else (bif (decide ((([]:List (List Int)).length+_x1.length)*24<=140737488355328)&&Nat.ble 1 24) then (some (([]:List (List Int))++_x1)) else none))
def qaA(_N:Nat)(_x:Dens qbq):Option qdM:=qdW _N _x.1
theorem qha(_N:Nat):SpecF Tryd.prog Gs 78 qbq 38 Su (qaA _N):=mkSpF (fn:=Tryd.f78) (c:=qw Tryd.f78) (C:=qhJ _N)
  (a:=.none)
  (by kernel_rfl) rfl (by kernel_rfl) (by kernel_rfl) ⟨rfl,by unfold TOk;kernel_rfl,qar rfl rfl (zC _),qaq rfl rfl (zC _),rfl⟩ (fun _x=>by kernel_rfl)
theorem qhc(_N:Nat):EntOk Tryd.prog Gs (mkG 78 qbq 38 Su (qaA _N)):=entG ⟨Tryd.f78,qw Tryd.f78,by kernel_rfl,by kernel_rfl,rfl⟩ (zD (by kernel_rfl)) (qha _N)
abbrev qeu:Sig:=⟨[.dat false Su,.form (.ptr 0 0)],[.cells [.sl (.int .i64)]],
 [.dat false .bool],[.cells [.sl (.int .i64)]],[]⟩
abbrev qgV:Type:=Bool×List Int
def qme(_N:Nat):Ctx:={ T:=[(38,⟨.slice 3,1,24,some Su,[.nil],false,[]⟩)],G:=findE [mkP 56 qda qcX (qbi _N)],I:=findI [],N:=_N,n:=7,fx:=[],fl:=1,gs:=Gs }
def qhe(_N:Nat)(_x1:List Int)(_x2:List Int):Option qgV:=
 ((qbi _N (_x1,_x2,())).bind fun _y2=>(some (_y2.1,_x2)))
def qcn(_N:Nat)(_x:List Int×List Int):Option qgV:=qhe _N _x.1 _x.2
theorem qkE(_N:Nat):SpecH Tryd.prog Gs 80 qeu (qcn _N):=mkSpH (fn:=Tryd.f80) (c:=qw Tryd.f80) (C:=(qme _N))
  (a:=.none)
  (by kernel_rfl) rfl (by kernel_rfl) (by kernel_rfl) (by kernel_rfl) rfl ⟨rfl,by unfold TOk;kernel_rfl,qar rfl rfl (zF.2 ⟨qhF _N,(zC _)⟩),qaq rfl rfl (zC _),rfl⟩ (fun _x=>by kernel_rfl)
theorem qkS(_N:Nat):EntOk Tryd.prog Gs (mkHe 80 qeu (qcn _N)):=entH ⟨Tryd.f80,qw Tryd.f80,by kernel_rfl,by kernel_rfl,rfl⟩ (qkE _N)
abbrev qbh:Sig:=⟨[.form (.slc 0 0),.form (.clo 80 [.ptr 1 0])],[.row false 0 38 Su,.cells [.sl (.int .i64)]],
 [.dat false (.int .i64)],[.row false 0 38 Su,.cells [.sl (.int .i64)]],[]⟩
abbrev qad:Type:=Int×List (List Int)×List Int
def qeS(_N:Nat):Ctx:={ T:=[(38,⟨.slice 3,1,24,some Su,[.nil],false,[]⟩),(68,⟨.slice 38,1,24,some (.sl Su),[.nil],false,[]⟩)],G:=findE [mkHe 80 qeu (qcn _N)],I:=findI [],N:=_N,n:=19,fx:=[],fl:=2,gs:=Gs }
def qao(_N:Nat)(_v7:List (List Int))(_v8:List Int):Option qad:=
 (some ((-1:Int),_v7,_v8))
def qag(_N:Nat)(_k9:(List (List Int)×List Int)->Option qad)(_v1:Int)(_v3:List (List Int))(_v2:Int)(_v4:List Int)(_kn10:Ye×(Int×List Int)->Option qad):Option qad:=
 (bif (decide (_v2<_v1)) then (bif (decide (0<=_v2)&&decide (_v2<(_v3.length:Int))) then ((qcn _N ((nth ([]) _v3 ((_v2).toNat)),_v4)).bind fun _y11=>(bif _y11.1 then (some (_v2,_v3,_y11.2)) else (_kn10 ((_v1,_v3),((IntKind.i64.wrap (_v2+(1:Int))),_y11.2))))) else none) else (_k9 (_v3,_v4)))
def qct(_N:Nat)(_x1:List (List Int))(_x2:List Int):Option qad:=
 (joinD (fun (_s:List (List Int)×List Int)=>qao _N _s.1 _s.2) fun _k9=>(loopE (fun (_c:Int×List (List Int)) (_s:Int×List Int) _kn=>qag _N _k9 _c.1 _c.2 _s.1 _s.2 _kn) _N ((_x1.length:Int),_x1) ((0:Int),_x2)))
def qap(_N:Nat)(_x:List (List Int)×List Int):Option qad:=qct _N _x.1 _x.2
theorem qeG(_N:Nat):SpecH Tryd.prog Gs 58 qbh (qap _N):=mkSpH (fn:=Tryd.f58) (c:=qw Tryd.f58) (C:=(qeS _N))
  (a:=.two .none (.join 2 ⟨[],[.row false 0 38 Su,.cells [.sl (.int .i64)]]⟩ (.two .none (.one (.loop 2 ⟨[(0,.slc 0 0),(1,.clo 80 [.ptr 1 0]),(7,.int .i64),(8,.int .i64)],[.row false 0 38 Su,.cells [.sl (.int .i64)]]⟩ [1,3] .none))) .none))
  (by kernel_rfl) rfl (by kernel_rfl) (by kernel_rfl) (by kernel_rfl) rfl ⟨rfl,by unfold TOk;kernel_rfl,qar rfl rfl (zF.2 ⟨qkS _N,(zC _)⟩),qaq rfl rfl (zC _),rfl⟩ (fun _x=>by kernel_rfl)
theorem qeM(_N:Nat):EntOk Tryd.prog Gs (mkHe 58 qbh (qap _N)):=entH ⟨Tryd.f58,qw Tryd.f58,by kernel_rfl,by kernel_rfl,rfl⟩ (qeG _N)
abbrev qaU:Sig:=⟨[.form (.slc 0 0),.form (.clo 80 [.ptr 1 0])],[.row false 0 38 Su,.cells [.sl (.int .i64)]],
 [.dat false .bool],[.row false 0 38 Su,.cells [.sl (.int .i64)]],[]⟩
abbrev qbO:Type:=Bool×List (List Int)×List Int
def qev(_N:Nat):Ctx:={ T:=[],G:=findE [mkHe 58 qbh (qap _N)],I:=findI [],N:=_N,n:=9,fx:=[],fl:=2,gs:=Gs }
def qbW(_N:Nat)(_x1:List (List Int))(_x2:List Int):Option qbO:=
 ((qap _N (_x1,_x2)).bind fun _y2=>(some ((decide (_y2.1>=(0:Int))),_y2.2.1,_y2.2.2)))
def qW(_N:Nat)(_x:List (List Int)×List Int):Option qbO:=qbW _N _x.1 _x.2
theorem qdT(_N:Nat):SpecH Tryd.prog Gs 44 qaU (qW _N):=mkSpH (fn:=Tryd.f44) (c:=qw Tryd.f44) (C:=(qev _N))
  (a:=.none)
  (by kernel_rfl) rfl (by kernel_rfl) (by kernel_rfl) (by kernel_rfl) rfl ⟨rfl,by unfold TOk;kernel_rfl,qar rfl rfl (zF.2 ⟨qeM _N,(zC _)⟩),qaq rfl rfl (zC _),rfl⟩ (fun _x=>by kernel_rfl)
theorem qdY(_N:Nat):EntOk Tryd.prog Gs (mkHe 44 qaU (qW _N)):=entH ⟨Tryd.f44,qw Tryd.f44,by kernel_rfl,by kernel_rfl,rfl⟩ (qdT _N)
abbrev qfr:List Kd:=[.dat (.sl Su)]
abbrev qcU:Type:=List (List Int)
def qsw(_N:Nat):Ctx:={ T:=[(38,⟨.slice 3,1,24,some Su,[.nil],false,[]⟩),(68,⟨.slice 38,1,24,some (.sl Su),[.nil],false,[]⟩)],G:=findE [mkG 78 qbq 38 Su (qaA _N),mkS 79 38 Su 65 (fun p q=>(qO _N (p,q,())).map (·.1)),mkHe 44 qaU (qW _N),mkF 35 qat 3 (.int .i64) (qF _N)],I:=findI [],N:=_N,n:=28,fx:=[1],fl:=0,gs:=Gs }
def qlh(_N:Nat)(_v14:List (List Int)):Option qcU:=
 (some _v14)
def qip(_N:Nat)(_k17:(List (List Int)×List (List Int))->Option qcU)(_v3:Int)(_v5:List (List Int))(_v4:Int)(_v8:List (List Int))(_kn18:Ye×Ye->Option qcU):Option qcU:=
 (bif (decide (_v4<_v3)) then (bif (decide (0<=_v4)&&decide (_v4<(_v5.length:Int))) then ((qW _N (_v8,(nth ([]) _v5 ((_v4).toNat)))).bind fun _y19=>(bif (!_y19.1) then ((qF _N (_y19.2.2,())).bind fun _y20=>(bif (decide ((_y19.2.1.length+([_y20]).length)*24<=140737488355328)&&Nat.ble 1 24) then (_kn18 ((_v3,_v5),((IntKind.i64.wrap (_v4+(1:Int))),(_y19.2.1 ++ [_y20])))) else none)) else (_kn18 ((_v3,_v5),((IntKind.i64.wrap (_v4+(1:Int))),_y19.2.1))))) else none) else (_k17 (_v5,_v8)))
def qlg(_N:Nat)(_x1:List (List Int)):Option qcU:=
 ((qaA _N (_x1,())).bind fun _y15=>((sortR (fun p q=>(qO _N (p,q,())).map (·.1)) _y15).bind fun _y16=>(joinD (fun (_s:List (List Int)×List (List Int))=>qlh _N _s.2) fun _k17=>(loopE (fun (_c:Int×List (List Int)) (_s:Int×List (List Int)) _kn=>qip _N _k17 _c.1 _c.2 _s.1 _s.2 _kn) _N ((_y16.length:Int),_y16) ((0:Int),[])))))
def qcN(_N:Nat)(_x:Dens qfr):Option qcU:=qlg _N _x.1
theorem qpD(_N:Nat):SpecF Tryd.prog Gs 57 qfr 38 Su (qcN _N):=mkSpF (fn:=Tryd.f57) (c:=qw Tryd.f57) (C:=qsw _N)
  (a:=.two .none (.two .none (.two .none (.two .none (.join 2 ⟨[(4,.slc 1 0)],[.row false 0 38 Su,.row false 0 38 Su]⟩ (.two .none (.one (.obj 4 38 Su (.loop 2 ⟨[(4,.slc 1 0),(11,.slc 0 0),(12,.int .i64),(13,.int .i64)],[.row false 0 38 Su,.row false 0 38 Su]⟩ [1,3] .none)))) .none)))))
  (by kernel_rfl) rfl (by kernel_rfl) (by kernel_rfl) ⟨rfl,by unfold TOk;kernel_rfl,qar rfl rfl (zF.2 ⟨qhc _N,(zF.2 ⟨qAs _N,(zF.2 ⟨qdY _N,(zF.2 ⟨qbB _N,(zC _)⟩)⟩)⟩)⟩),qaq rfl rfl (zC _),rfl⟩ (fun _x=>by kernel_rfl)
theorem qqf(_N:Nat):EntOk Tryd.prog Gs (mkG 57 qfr 38 Su (qcN _N)):=entG ⟨Tryd.f57,qw Tryd.f57,by kernel_rfl,by kernel_rfl,rfl⟩ (zD (by kernel_rfl)) (qpD _N)
abbrev qel:List Kd:=[.dat Su,.ptr Su]
abbrev qej:List Kd:=[.dat (.bool)]
abbrev qiQ:Type:=Dens qej
def qpu(_N:Nat):Ctx:={ T:=[(38,⟨.slice 3,1,24,some Su,[.nil],false,[]⟩)],G:=findE [mkP 46 qhv qhr (qfg _N)],I:=findI [],N:=_N,n:=7,fx:=[],fl:=0,gs:=Gs }
def qiY(_N:Nat)(_x1:List Int)(_x2:List Int):Option qiQ:=
 ((qfg _N (_x1,_x2,())).bind fun _y2=>(some (_y2.1,())))
def qdu(_N:Nat)(_x:Dens qel):Option qiQ:=qiY _N _x.1 _x.2.1
theorem qnu(_N:Nat):SpecD Tryd.prog Gs 45 qel qej (qdu _N):=mkSpD (fn:=Tryd.f45) (c:=qw Tryd.f45) (C:=qpu _N)
  (a:=.none)
  (by kernel_rfl) rfl (by kernel_rfl) (by kernel_rfl) ⟨rfl,by unfold TOk;kernel_rfl,qar rfl rfl (zF.2 ⟨qtX _N,(zC _)⟩),qaq rfl rfl (zC _),rfl⟩ (fun _x=>by kernel_rfl)
theorem qnE(_N:Nat):EntOk Tryd.prog Gs (mkP 45 qel qej (qdu _N)):=entP ⟨Tryd.f45,qw Tryd.f45,by kernel_rfl,by kernel_rfl,rfl⟩ (by kernel_rfl) (qnu _N)
abbrev qaf:List Kd:=[.dat (.sl Su),.clo 45 [.sl (.int .i64)]]
abbrev qae:List Kd:=[.dat (.int .i64)]
abbrev qE:Type:=Dens qae
def qcQ(_N:Nat):Ctx:={ T:=[(38,⟨.slice 3,1,24,some Su,[.nil],false,[]⟩),(68,⟨.slice 38,1,24,some (.sl Su),[.nil],false,[]⟩)],G:=findE [mkP 45 qel qej (qdu _N)],I:=findI [],N:=_N,n:=19,fx:=[],fl:=0,gs:=Gs }
def qah(_N:Nat):Option qE:=
 (some ((-1:Int),()))
def qP(_N:Nat)(_k7:Unit->Option qE)(_v1:List (List Int))(_v2:List Int)(_v3:Int)(_v4:Int)(_kn8:(List (List Int)×List Int×Int)×Int->Option qE):Option qE:=
 (bif (decide (_v4<_v3)) then (bif (decide (0<=_v4)&&decide (_v4<(_v1.length:Int))) then ((qdu _N ((nth ([]) _v1 (_v4).toNat),_v2,())).bind fun _y9=>(bif _y9.1 then (some (_v4,())) else (_kn8 ((_v1,_v2,_v3),(IntKind.i64.wrap (_v4+(1:Int))))))) else none) else (_k7 ()))
def qbf(_N:Nat)(_x1:List (List Int))(_x2:List Int×Unit):Option qE:=
 (joinD (fun (_s:Unit)=>qah _N) fun _k7=>(loopE (fun (_c:List (List Int)×List Int×Int) (_s:Int) _kn=>qP _N _k7 _c.1 _c.2.1 _c.2.2 _s _kn) _N (_x1,_x2.1,(_x1.length:Int)) (0:Int)))
def qQ(_N:Nat)(_x:Dens qaf):Option qE:=qbf _N _x.1 _x.2.1
theorem qcE(_N:Nat):SpecD Tryd.prog Gs 58 qaf qae (qQ _N):=mkSpD (fn:=Tryd.f58) (c:=qw Tryd.f58) (C:=qcQ _N)
  (a:=.two .none (.join 0 ⟨[],[]⟩ (.two .none (.one (.loop 0 ⟨[(0,.sl Su),(1,.clo 45 [.fptr Su]),(7,.int .i64),(8,.int .i64)],[]⟩ [3] .none))) .none))
  (by kernel_rfl) rfl (by kernel_rfl) (by kernel_rfl) ⟨rfl,by unfold TOk;kernel_rfl,qar rfl rfl (zF.2 ⟨qnE _N,(zC _)⟩),qaq rfl rfl (zC _),rfl⟩ (fun _x=>by kernel_rfl)
theorem qcF(_N:Nat):EntOk Tryd.prog Gs (mkP 58 qaf qae (qQ _N)):=entP ⟨Tryd.f58,qw Tryd.f58,by kernel_rfl,by kernel_rfl,rfl⟩ (by kernel_rfl) (qcE _N)
abbrev qY:List Kd:=[.dat (.sl Su),.clo 45 [.sl (.int .i64)]]
abbrev qX:List Kd:=[.dat (.bool)]
abbrev qaV:Type:=Dens qX
def qcu(_N:Nat):Ctx:={ T:=[],G:=findE [mkP 58 qaf qae (qQ _N)],I:=findI [],N:=_N,n:=9,fx:=[],fl:=0,gs:=Gs }
def qaX(_N:Nat)(_x1:List (List Int))(_x2:List Int×Unit):Option qaV:=
 ((qQ _N (_x1,(_x2.1,()),())).bind fun _y2=>(some ((decide (_y2.1>=(0:Int))),())))
def qI(_N:Nat)(_x:Dens qY):Option qaV:=qaX _N _x.1 _x.2.1
theorem qcp(_N:Nat):SpecD Tryd.prog Gs 44 qY qX (qI _N):=mkSpD (fn:=Tryd.f44) (c:=qw Tryd.f44) (C:=qcu _N)
  (a:=.none)
  (by kernel_rfl) rfl (by kernel_rfl) (by kernel_rfl) ⟨rfl,by unfold TOk;kernel_rfl,qar rfl rfl (zF.2 ⟨qcF _N,(zC _)⟩),qaq rfl rfl (zC _),rfl⟩ (fun _x=>by kernel_rfl)
theorem qcr(_N:Nat):EntOk Tryd.prog Gs (mkP 44 qY qX (qI _N)):=entP ⟨Tryd.f44,qw Tryd.f44,by kernel_rfl,by kernel_rfl,rfl⟩ (by kernel_rfl) (qcp _N)
abbrev qgb:List Kd:=[.dat (.sl Su),.dat Su]
abbrev qfZ:List Kd:=[.dat (.bool)]
abbrev qmd:Type:=Dens qfZ
def quw(_N:Nat):Ctx:={ T:=[],G:=findE [mkP 44 qY qX (qI _N)],I:=findI [],N:=_N,n:=8,fx:=[],fl:=0,gs:=Gs }
def qmS(_N:Nat)(_x1:List (List Int))(_x2:List Int):Option qmd:=
 ((qI _N (_x1,(_x2,()),())).bind fun _y2=>(some (_y2.1,())))
def qdv(_N:Nat)(_x:Dens qgb):Option qmd:=qmS _N _x.1 _x.2.1
theorem qrk(_N:Nat):SpecD Tryd.prog Gs 23 qgb qfZ (qdv _N):=mkSpD (fn:=Tryd.f23) (c:=qw Tryd.f23) (C:=quw _N)
  (a:=.none)
  (by kernel_rfl) rfl (by kernel_rfl) (by kernel_rfl) ⟨rfl,by unfold TOk;kernel_rfl,qar rfl rfl (zF.2 ⟨qcr _N,(zC _)⟩),qaq rfl rfl (zC _),rfl⟩ (fun _x=>by kernel_rfl)
theorem qse(_N:Nat):EntOk Tryd.prog Gs (mkP 23 qgb qfZ (qdv _N)):=entP ⟨Tryd.f23,qw Tryd.f23,by kernel_rfl,by kernel_rfl,rfl⟩ (by kernel_rfl) (qrk _N)
end Go.Proofs.YtgnnhemoocfclaaDoor
end
