import Derived.Test.YtnhjpicdijeagaaDoorAbsSubF
import Derived.Test.YtnhjpicdijeagaaDoorAbsSort
import Derived.Test.YtnhjpicdijeagaaDoorAbsOrd
import Derived.Test.YtnhjpicdijeagaaDoorAbsLat
import Derived.Test.YtnhjpicdijeagaaDoorGhG
import Derived.Test.YtnhjpicdijeagaaDoorProg
import Derived.Shelf.SlGeneric
import Derived.Ground.SlsfProg
import Derived.KernelRfl
import Derived.Test.YtnhjpicdijeagaaDoorAbsMp
import Derived.Test.YtnhjpicdijeagaaDoorAbsFrag
import Derived.Test.YtnhjpicdijeagaaDoorAbsLp
import Derived.RangeFuncBox
import Derived.RangeFuncLeaves
import Derived.Shelf.Abstract
import Derived.WalkKit
import Derived.OwnWalkIn
import Derived.TacticsInMore
import Derived.LoopNIn
import Derived.LoopIn
import Derived.Sort.QuietIn
noncomputable section
namespace Go.Proofs.YtnhjpicdijeagaaDoor
open Go.Abs
abbrev Su:Sh:=.pair (.int .i64) (.int .i64)
abbrev Sr:Sh:=.pair (.int .i64) (.pair (.int .i64) (.int .i64))
abbrev Yg:Type:=Int×(Int×Int)×Int
abbrev Yf:Type:=Int×Int×Int
abbrev Ye:Type:=Int×List (Int×(Int×Int)×Int)
abbrev qdO:List Kd:=[.dat (.sl Sr)]
abbrev qdL:List Kd:=[.dat (.bool)]
abbrev qiY:Type:=Dens qdL
def qqF(_N:Nat):Ctx:={ T:=[(29,⟨.slice 69,1,24,some (.sl Sr),[.nil],false,[]⟩)],G:=findE [],I:=findI [],N:=_N,n:=6,fx:=[],fl:=0,gs:=Gs }
def qjI(_N:Nat)(_x1:List Yf):Option qiY:=
 (some ((decide ((_x1.length:Int)>(128:Int))),()))
def qcB(_N:Nat)(_x:Dens qdO):Option qiY:=qjI _N _x.1
theorem qoq(_N:Nat):SpecD Tryd.prog Gs 61 qdO qdL (qcB _N):=mkSpD (fn:=Tryd.f61) (c:=ql Tryd.f61) (C:=qqF _N)
  (a:=.none)
  (by kernel_rfl) rfl (by kernel_rfl) (by kernel_rfl) ⟨rfl,by unfold TOk;kernel_rfl,qao rfl rfl (zC _),qan rfl rfl (zC _),rfl⟩ (fun _x=>by kernel_rfl)
theorem qow(_N:Nat):EntOk Tryd.prog Gs (mkP 61 qdO qdL (qcB _N)):=entP ⟨Tryd.f61,ql Tryd.f61,by kernel_rfl,by kernel_rfl,rfl⟩ (by kernel_rfl) (qoq _N)
abbrev qV:List Kd:=[.dat (.sl (.sl Sr)),.clo 61 []]
abbrev qR:List Kd:=[.dat (.int .i64)]
abbrev qA:Type:=Dens qR
def qca(_N:Nat):Ctx:={ T:=[(29,⟨.slice 69,1,24,some (.sl Sr),[.nil],false,[]⟩),(135,⟨.slice 29,1,24,some (.sl (.sl Sr)),[.nil],false,[]⟩)],G:=findE [mkP 61 qdO qdL (qcB _N)],I:=findI [],N:=_N,n:=19,fx:=[],fl:=0,gs:=Gs }
def qaM(_N:Nat):Option qA:=
 (some ((-1:Int),()))
def qX(_N:Nat)(_k6:Unit->Option qA)(_v1:List (List Yf))(_v2:Int)(_v3:Int)(_kn7:((List (List Yf))×Int)×Int->Option qA):Option qA:=
 (bif (decide (_v3<_v2)) then (bif (decide (0<=_v3)&&decide (_v3<(_v1.length:Int))) then ((qcB _N ((nth ([]) _v1 (_v3).toNat),())).bind fun _y8=>(bif _y8.1 then (some (_v3,())) else (_kn7 ((_v1,_v2),(IntKind.i64.wrap (_v3+(1:Int))))))) else none) else (_k6 ()))
def qaL(_N:Nat)(_x1:List (List Yf)):Option qA:=
 (joinD (fun (_s:Unit)=>qaM _N) fun _k6=>(loopE (fun (_c:(List (List Yf))×Int) (_s:Int) _kn=>qX _N _k6 _c.1 _c.2 _s _kn) _N (_x1,(_x1.length:Int)) (0:Int)))
def qE(_N:Nat)(_x:Dens qV):Option qA:=qaL _N _x.1
theorem qbL(_N:Nat):SpecD Tryd.prog Gs 76 qV qR (qE _N):=mkSpD (fn:=Tryd.f76) (c:=ql Tryd.f76) (C:=qca _N)
  (a:=.two .none (.join 0 ⟨[],[]⟩ (.two .none (.one (.loop 0 ⟨[(0,.sl (.sl Sr)),(1,.clo 61 []),(7,.int .i64),(8,.int .i64)],[]⟩ [2] .none))) .none))
  (by kernel_rfl) rfl (by kernel_rfl) (by kernel_rfl) ⟨rfl,by unfold TOk;kernel_rfl,qao rfl rfl (zG.2 ⟨qow _N,(zC _)⟩),qan rfl rfl (zC _),rfl⟩ (fun _x=>by kernel_rfl)
theorem qbO(_N:Nat):EntOk Tryd.prog Gs (mkP 76 qV qR (qE _N)):=entP ⟨Tryd.f76,ql Tryd.f76,by kernel_rfl,by kernel_rfl,rfl⟩ (by kernel_rfl) (qbL _N)
abbrev qL:List Kd:=[.dat (.sl (.sl Sr)),.clo 61 []]
abbrev qJ:List Kd:=[.dat (.bool)]
abbrev qax:Type:=Dens qJ
def qbE(_N:Nat):Ctx:={ T:=[],G:=findE [mkP 76 qV qR (qE _N)],I:=findI [],N:=_N,n:=9,fx:=[],fl:=0,gs:=Gs }
def qaB(_N:Nat)(_x1:List (List Yf)):Option qax:=
 ((qE _N (_x1,(),())).bind fun _y2=>(some ((decide (_y2.1>=(0:Int))),())))
def qG(_N:Nat)(_x:Dens qL):Option qax:=qaB _N _x.1
theorem qby(_N:Nat):SpecD Tryd.prog Gs 60 qL qJ (qG _N):=mkSpD (fn:=Tryd.f60) (c:=ql Tryd.f60) (C:=qbE _N)
  (a:=.none)
  (by kernel_rfl) rfl (by kernel_rfl) (by kernel_rfl) ⟨rfl,by unfold TOk;kernel_rfl,qao rfl rfl (zG.2 ⟨qbO _N,(zC _)⟩),qan rfl rfl (zC _),rfl⟩ (fun _x=>by kernel_rfl)
theorem qbC(_N:Nat):EntOk Tryd.prog Gs (mkP 60 qL qJ (qG _N)):=entP ⟨Tryd.f60,ql Tryd.f60,by kernel_rfl,by kernel_rfl,rfl⟩ (by kernel_rfl) (qby _N)
abbrev qfL:List Kd:=[.dat (.sl (.sl Sr))]
abbrev qfH:List Kd:=[.dat (.bool)]
abbrev qmr:Type:=Dens qfH
def qvI(_N:Nat):Ctx:={ T:=[],G:=findE [mkP 60 qL qJ (qG _N)],I:=findI [],N:=_N,n:=5,fx:=[],fl:=0,gs:=Gs }
def qnZ(_N:Nat)(_x1:List (List Yf)):Option qmr:=
 ((qG _N (_x1,(),())).bind fun _y2=>(some (_y2.1,())))
def qeh(_N:Nat)(_x:Dens qfL):Option qmr:=qnZ _N _x.1
theorem qsq(_N:Nat):SpecD Tryd.prog Gs 43 qfL qfH (qeh _N):=mkSpD (fn:=Tryd.f43) (c:=ql Tryd.f43) (C:=qvI _N)
  (a:=.none)
  (by kernel_rfl) rfl (by kernel_rfl) (by kernel_rfl) ⟨rfl,by unfold TOk;kernel_rfl,qao rfl rfl (zG.2 ⟨qbC _N,(zC _)⟩),qan rfl rfl (zC _),rfl⟩ (fun _x=>by kernel_rfl)
theorem qtn(_N:Nat):EntOk Tryd.prog Gs (mkP 43 qfL qfH (qeh _N)):=entP ⟨Tryd.f43,ql Tryd.f43,by kernel_rfl,by kernel_rfl,rfl⟩ (by kernel_rfl) (qsq _N)
abbrev qcV:List Kd:=[.dat (.int .i64)]
abbrev qcT:List Kd:=[.dat (.bool)]
abbrev qho:Type:=Dens qcT
def qnv(_N:Nat):Ctx:={ T:=[],G:=findE [],I:=findI [],N:=_N,n:=6,fx:=[],fl:=0,gs:=Gs }
def qib(_N:Nat)(_x1:Int):Option qho:=
 (some ((_x1 != _x1),()))
def qbm(_N:Nat)(_x:Dens qcV):Option qho:=qib _N _x.1
theorem qlp(_N:Nat):SpecD Tryd.prog Gs 54 qcV qcT (qbm _N):=mkSpD (fn:=Tryd.f54) (c:=ql Tryd.f54) (C:=qnv _N)
  (a:=.none)
  (by kernel_rfl) rfl (by kernel_rfl) (by kernel_rfl) ⟨rfl,by unfold TOk;kernel_rfl,qao rfl rfl (zC _),qan rfl rfl (zC _),rfl⟩ (fun _x=>by kernel_rfl)
theorem qlX(_N:Nat):EntOk Tryd.prog Gs (mkP 54 qcV qcT (qbm _N)):=entP ⟨Tryd.f54,ql Tryd.f54,by kernel_rfl,by kernel_rfl,rfl⟩ (by kernel_rfl) (qlp _N)
abbrev qcr:List Kd:=[.dat (.int .i64),.dat (.int .i64)]
abbrev qcq:List Kd:=[.dat (.int .i64)]
abbrev qfy:Type:=Dens qcq
def qle(_N:Nat):Ctx:={ T:=[],G:=findE [mkP 54 qcV qcT (qbm _N)],I:=findI [],N:=_N,n:=20,fx:=[],fl:=0,gs:=Gs }
def qgy(_N:Nat)(_x1:Int)(_x2:Int):Option qfy:=
 ((qbm _N (_x1,())).bind fun _y3=>((qbm _N (_x2,())).bind fun _y4=>(bif _y3.1 then (bif _y4.1 then (some ((0:Int),())) else (some ((-1:Int),()))) else (bif _y4.1 then (some ((1:Int),())) else (bif (decide (_x1<_x2)) then (some ((-1:Int),())) else (bif (decide (_x1>_x2)) then (some ((1:Int),())) else (some ((0:Int),()))))))))
def qaY(_N:Nat)(_x:Dens qcr):Option qfy:=qgy _N _x.1 _x.2.1
theorem qkh(_N:Nat):SpecD Tryd.prog Gs 35 qcr qcq (qaY _N):=mkSpD (fn:=Tryd.f35) (c:=ql Tryd.f35) (C:=qle _N)
  (a:=.none)
  (by kernel_rfl) rfl (by kernel_rfl) (by kernel_rfl) ⟨rfl,by unfold TOk;kernel_rfl,qao rfl rfl (zG.2 ⟨qlX _N,(zC _)⟩),qan rfl rfl (zC _),rfl⟩ (fun _x=>by kernel_rfl)
theorem qkk(_N:Nat):EntOk Tryd.prog Gs (mkP 35 qcr qcq (qaY _N)):=entP ⟨Tryd.f35,ql Tryd.f35,by kernel_rfl,by kernel_rfl,rfl⟩ (by kernel_rfl) (qkh _N)
abbrev qfJ:List Kd:=[.dat (.sl (.int .i64))]
abbrev qfF:List Kd:=[.dat (.int .i64)]
abbrev qdm:Type:=Dens qfF
def qvG(_N:Nat):Ctx:={ T:=[(3,⟨.int .i64,1,8,some (.int .i64),[.int .i64 (0:Int)],false,[]⟩),(28,⟨.slice 3,1,24,some (.sl (.int .i64)),[.nil],false,[]⟩)],G:=findE [],I:=findI [],N:=_N,n:=18,fx:=[],fl:=0,gs:=Gs }
def qhi(_N:Nat)(_v5:Int):Option qdm:=
 (some (_v5,()))
def qhh(_N:Nat)(_k6:Int->Option qdm)(_v1:Int)(_v2:List Int)(_v3:Int)(_v4:Int)(_kn7:(Int×List Int×Int)×Int->Option qdm):Option qdm:=
 (bif (decide (_v4<_v3)) then (bif (decide (0<=_v4)&&decide (_v4<(_v2.length:Int))) then (bif ((nth (0:Int) _v2 (_v4).toNat) != _v1) then (some ((nth (0:Int) _v2 (_v4).toNat),())) else (_kn7 ((_v1,_v2,_v3),(IntKind.i64.wrap (_v4+(1:Int)))))) else none) else (_k6 _v1))
def qnW(_N:Nat)(_x1:List Int):Option qdm:=
 (joinD (fun (_s:Int)=>qhi _N _s) fun _k6=>(loopE (fun (_c:Int×List Int×Int) (_s:Int) _kn=>qhh _N _k6 _c.1 _c.2.1 _c.2.2 _s _kn) _N ((0:Int),_x1,(_x1.length:Int)) (0:Int)))
def qeg(_N:Nat)(_x:Dens qfJ):Option qdm:=qnW _N _x.1
theorem qso(_N:Nat):SpecD Tryd.prog Gs 34 qfJ qfF (qeg _N):=mkSpD (fn:=Tryd.f34) (c:=ql Tryd.f34) (C:=qvG _N)
  (a:=.two .none (.two .none (.join 0 ⟨[(3,.int .i64)],[]⟩ (.two .none (.one (.loop 0 ⟨[(3,.int .i64),(6,.sl (.int .i64)),(7,.int .i64),(8,.int .i64)],[]⟩ [3] .none))) .none)))
  (by kernel_rfl) rfl (by kernel_rfl) (by kernel_rfl) ⟨rfl,by unfold TOk;kernel_rfl,qao rfl rfl (zC _),qan rfl rfl (zC _),rfl⟩ (fun _x=>by kernel_rfl)
theorem qtm(_N:Nat):EntOk Tryd.prog Gs (mkP 34 qfJ qfF (qeg _N)):=entP ⟨Tryd.f34,ql Tryd.f34,by kernel_rfl,by kernel_rfl,rfl⟩ (by kernel_rfl) (qso _N)
abbrev qgK:List Kd:=[.dat Sr,.dat Sr]
abbrev qgI:List Kd:=[.dat (.int .i64)]
abbrev qgG:Type:=Dens qgI
def qmB(_N:Nat):Ctx:={ T:=[(2,⟨.int .i64,1,8,some (.int .i64),[.int .i64 (0:Int)],false,[]⟩),(3,⟨.int .i64,1,8,some (.int .i64),[.int .i64 (0:Int)],false,[]⟩),(28,⟨.slice 3,1,24,some (.sl (.int .i64)),[.nil],false,[]⟩),(69,⟨.struct [(0,2),(1,2),(2,2)],3,24,some Sr,[.int .i64 (0:Int),.int .i64 (0:Int),.int .i64 (0:Int)],true,[]⟩)],G:=findE [mkP 35 qcr qcq (qaY _N),mkP 34 qfJ qfF (qeg _N)],I:=findI [],N:=_N,n:=17,fx:=[],fl:=0,gs:=Gs }
def qhk(_N:Nat)(_x1:Int×Int×Int)(_x2:Int×Int×Int):Option qgG:=
 ((qaY _N (_x1.1,_x2.1,())).bind fun _y4=>((qaY _N (_x1.2.1,_x2.2.1,())).bind fun _y5=>((qeg _N ([_y4.1,_y5.1],())).bind fun _y6=>(some (_y6.1,())))))
def qak(_N:Nat)(_x:Dens qgK):Option qgG:=qhk _N _x.1 _x.2.1
theorem qkL(_N:Nat):SpecD Tryd.prog Gs 33 qgK qgI (qak _N):=mkSpD (fn:=Tryd.f33) (c:=ql Tryd.f33) (C:=qmB _N)
  (a:=.two .none (.two (.draw 1 [.pure,.rd [0],.pure,.rd [1],.pure,.pure,.rd [0],.pure,.rd [1],.pure,.new 2,.rd [2],.pure]) .none))
  (by kernel_rfl) rfl (by kernel_rfl) (by kernel_rfl) ⟨rfl,by unfold TOk;kernel_rfl,qao rfl rfl (zG.2 ⟨qkk _N,(zG.2 ⟨qtm _N,(zC _)⟩)⟩),qan rfl rfl (zC _),rfl⟩ (fun _x=>by kernel_rfl)
shelf_lay_g SlLaysF0.n6 Slsf 6 at Tryd 32 as lay_sortRow
theorem qyB:qeO Tryd.prog 32:=⟨Tryd.f32,ql Tryd.f32,by kernel_rfl,by kernel_rfl,rfl⟩
theorem qyA:qeO Tryd.prog 33:=⟨Tryd.f33,ql Tryd.f33,by kernel_rfl,by kernel_rfl,rfl⟩
theorem qrQ(_N:Nat):EntOk Tryd.prog Gs (mkS 32 69 Sr 33 (fun p q=>(qak _N (p,q,())).map (·.1))):=entSK lay_sortRow Tryd.isAgg69 Tryd.sizeOf69 qyB qyA (by kernel_rfl) rfl (qkL _N)
abbrev qaP:Sig:=⟨[.form (.ptr 0 1000000),.dat false Su,.dat false (.int .i64)],[.oth false ⟨false,88,2,.pair (.int .i64) (.int .i64),.int .i64,false⟩],
 [],[.oth false ⟨false,88,2,.pair (.int .i64) (.int .i64),.int .i64,false⟩],[]⟩
abbrev qik:Type:=Ye
def qoB(_N:Nat):Ctx:={ T:=[(60,⟨.map 88 2 Su (.int .i64),1,8,none,[.nl .map],false,[]⟩),(88,⟨.struct [(0,2),(1,2)],2,16,some Su,[.int .i64 (0:Int),.int .i64 (0:Int)],true,[]⟩)],G:=findE [],I:=findI [],N:=_N,n:=19,fx:=[],fl:=1,gs:=Gs }
def qiU(_N:Nat)(_x1:Int×Int)(_x2:Int)(_x3:Int×List Yg):Option qik:=
 (bif (qiu Su (.int .i64) (mpEnt Su (.int .i64) _x3 (_x1.1,_x1.2)) (qfk Su (.int .i64) _x3 (_x1.1,_x1.2))) then (bif ((mpGet Su (.int .i64) (mpAt Su (.int .i64) (mpEnt Su (.int .i64) _x3 (_x1.1,_x1.2)) (qfk Su (.int .i64) _x3 (_x1.1,_x1.2)) (IntKind.i64.wrap ((mpGet Su (.int .i64) _x3 (_x1.1,_x1.2))+_x2))) (_x1.1,_x1.2))==(0:Int)) then (some (mpDel Su (.int .i64) (mpAt Su (.int .i64) (mpEnt Su (.int .i64) _x3 (_x1.1,_x1.2)) (qfk Su (.int .i64) _x3 (_x1.1,_x1.2)) (IntKind.i64.wrap ((mpGet Su (.int .i64) _x3 (_x1.1,_x1.2))+_x2))) (_x1.1,_x1.2))) else (some (mpAt Su (.int .i64) (mpEnt Su (.int .i64) _x3 (_x1.1,_x1.2)) (qfk Su (.int .i64) _x3 (_x1.1,_x1.2)) (IntKind.i64.wrap ((mpGet Su (.int .i64) _x3 (_x1.1,_x1.2))+_x2))))) else none)
def qH(_N:Nat)(_x:(Int×Int)×Int×Ye):Option qik:=qiU _N _x.1 _x.2.1 _x.2.2
theorem qmG(_N:Nat):SpecH Tryd.prog Gs 62 qaP (qH _N):=mkSpH (fn:=Tryd.f62) (c:=ql Tryd.f62) (C:=(qoB _N))
  (a:=.two .none (.two (.draw 0 [.pure,.rd [1],.rd [0],.pure,.pure,.wr [0],.pure,.wr [0]]) .none))
  (by kernel_rfl) rfl (by kernel_rfl) (by kernel_rfl) (by kernel_rfl) rfl ⟨rfl,by unfold TOk;kernel_rfl,qao rfl rfl (zC _),qan rfl rfl (zC _),rfl⟩ (fun _x=>by kernel_rfl)
theorem qbh(_N:Nat):EntOk Tryd.prog Gs (mkHe 62 qaP (qH _N)):=entH ⟨Tryd.f62,ql Tryd.f62,by kernel_rfl,by kernel_rfl,rfl⟩ (qmG _N)
abbrev qcQ:Sig:=⟨[.form (.ptr 0 1000000),.dat false (.sl Sr),.dat false (.int .i64)],[.oth false ⟨false,88,2,.pair (.int .i64) (.int .i64),.int .i64,false⟩],
 [],[.oth false ⟨false,88,2,.pair (.int .i64) (.int .i64),.int .i64,false⟩],[]⟩
abbrev qcR:Type:=Ye
def qnx(_N:Nat):Ctx:={ T:=[(2,⟨.int .i64,1,8,some (.int .i64),[.int .i64 (0:Int)],false,[]⟩),(29,⟨.slice 69,1,24,some (.sl Sr),[.nil],false,[]⟩),(69,⟨.struct [(0,2),(1,2),(2,2)],3,24,some Sr,[.int .i64 (0:Int),.int .i64 (0:Int),.int .i64 (0:Int)],true,[]⟩),(88,⟨.struct [(0,2),(1,2)],2,16,some Su,[.int .i64 (0:Int),.int .i64 (0:Int)],true,[]⟩)],G:=findE [mkHe 62 qaP (qH _N)],I:=findI [],N:=_N,n:=26,fx:=[],fl:=1,gs:=Gs }
def qdl(_N:Nat)(_v1:Int)(_v2:List Yf)(_v3:Int)(_v4:Int)(_v5:Int×List Yg)(_kn8:(Int×(List Yf)×Int)×(Int×Ye)->Option qcR):Option qcR:=
 (bif (decide (_v4<_v3)) then (bif (decide (0<=_v4)&&decide (_v4<(_v2.length:Int))) then ((qH _N (((nth ((0:Int),((0:Int),(0:Int))) _v2 (_v4).toNat).1,((nth ((0:Int),((0:Int),(0:Int))) _v2 (_v4).toNat).2).1),(IntKind.i64.wrap (_v1*(((nth ((0:Int),((0:Int),(0:Int))) _v2 (_v4).toNat).2).2))),_v5)).bind fun _y9=>(_kn8 ((_v1,_v2,_v3),((IntKind.i64.wrap (_v4+(1:Int))),_y9)))) else none) else (some _v5))
def qig(_N:Nat)(_x1:List Yf)(_x2:Int)(_x3:Int×List Yg):Option qcR:=
 (loopE (fun (_c:Int×(List Yf)×Int) (_s:Int×Ye) _kn=>qdl _N _c.1 _c.2.1 _c.2.2 _s.1 _s.2 _kn) _N (_x2,_x1,(_x1.length:Int)) ((0:Int),_x3))
def qaz(_N:Nat)(_x:(List Yf)×Int×Ye):Option qcR:=qig _N _x.1 _x.2.1 _x.2.2
theorem qgN(_N:Nat):SpecH Tryd.prog Gs 44 qcQ (qaz _N):=mkSpH (fn:=Tryd.f44) (c:=ql Tryd.f44) (C:=(qnx _N))
  (a:=.two .none (.one (.loop 1 ⟨[(0,.ptr 0 1000000),(2,.int .i64),(8,.sl Sr),(9,.int .i64),(10,.int .i64)],[.oth false ⟨false,88,2,.pair (.int .i64) (.int .i64),.int .i64,false⟩]⟩ [3,4] .none)))
  (by kernel_rfl) rfl (by kernel_rfl) (by kernel_rfl) (by kernel_rfl) rfl ⟨rfl,by unfold TOk;kernel_rfl,qao rfl rfl (zG.2 ⟨qbh _N,(zC _)⟩),qan rfl rfl (zC _),rfl⟩ (fun _x=>by kernel_rfl)
theorem qhf(_N:Nat):EntOk Tryd.prog Gs (mkHe 44 qcQ (qaz _N)):=entH ⟨Tryd.f44,ql Tryd.f44,by kernel_rfl,by kernel_rfl,rfl⟩ (qgN _N)
abbrev qey:Sig:=⟨[.form (.ptr 0 1000000)],[.oth false ⟨false,88,2,.pair (.int .i64) (.int .i64),.int .i64,false⟩],
 [.dat false (.sl Sr)],[.oth true ⟨false,88,2,.pair (.int .i64) (.int .i64),.int .i64,false⟩],[]⟩
abbrev qbu:Type:=(List Yf)×Ye
def qnw(_N:Nat):Ctx:={ T:=[(2,⟨.int .i64,1,8,some (.int .i64),[.int .i64 (0:Int)],false,[]⟩),(29,⟨.slice 69,1,24,some (.sl Sr),[.nil],false,[]⟩),(60,⟨.map 88 2 Su (.int .i64),1,8,none,[.nl .map],false,[]⟩),(69,⟨.struct [(0,2),(1,2),(2,2)],3,24,some Sr,[.int .i64 (0:Int),.int .i64 (0:Int),.int .i64 (0:Int)],true,[]⟩),(88,⟨.struct [(0,2),(1,2)],2,16,some Su,[.int .i64 (0:Int),.int .i64 (0:Int)],true,[]⟩)],G:=findE [mkS 32 69 Sr 33 (fun p q=>(qak _N (p,q,())).map (·.1))],I:=findI [],N:=_N,n:=25,fx:=[2],fl:=1,gs:=Gs }
def qif(_N:Nat)(_v10:Int×List Yg)(_v12:List Yf):Option qbu:=
 ((sortR (fun p q=>(qak _N (p,q,())).map (·.1)) _v12).bind fun _y14=>(some (_y14,_v10)))
def qie(_N:Nat)(_k15:(Ye×Ye×(List Yf))->Option qbu)(_v1:Int×List Yg)(_v2:Int×List Yg)(_v5:List Yf)(_kn16:Ye×(Ye×(List Yf))->Option qbu):Option qbu:=
 (nextE (k:=.pair (.int .i64) (.int .i64)) (v:=.int .i64) _v2 (_k15 (_v1,_v2,_v5)) (fun _y17=>fun _y18=>(bif (decide ((_v5.length+([(_y17.2.1.1,(_y17.2.1.2,_y17.2.2))]).length)*24<=140737488355328)&&Nat.ble 1 24) then (_kn16 (_v1,(((1:Int),_y17 :: _y18),(_v5 ++ [(_y17.2.1.1,(_y17.2.1.2,_y17.2.2))])))) else none)))
def qid(_N:Nat)(_x1:Int×List Yg):Option qbu:=
 (joinD (fun (_s:Ye×Ye×(List Yf))=>qif _N _s.1 _s.2.2) fun _k15=>(loopE (fun (_c:Ye) (_s:Ye×(List Yf)) _kn=>qie _N _k15 _c _s.1 _s.2 _kn) _N _x1 (((0:Int),_x1.2),[])))
def qbT(_N:Nat)(_x:Ye):Option qbu:=qid _N _x
theorem qlq(_N:Nat):SpecH Tryd.prog Gs 17 qey (qbT _N):=mkSpH (fn:=Tryd.f17) (c:=ql Tryd.f17) (C:=(qnw _N))
  (a:=.two .none (.two .none (.join 3 ⟨[(3,.slc 2 0)],[.oth true ⟨false,88,2,.pair (.int .i64) (.int .i64),.int .i64,false⟩,.oth false ⟨true,88,2,.pair (.int .i64) (.int .i64),.int .i64,false⟩,.row false 0 69 Sr]⟩ (.two .none (.one (.obj 3 69 Sr (.loop 3 ⟨[(3,.slc 2 0),(7,.ptr 1 1000000)],[.oth true ⟨false,88,2,.pair (.int .i64) (.int .i64),.int .i64,false⟩,.oth false ⟨true,88,2,.pair (.int .i64) (.int .i64),.int .i64,false⟩,.row false 0 69 Sr]⟩ [1,2] (.two .nx .none))))) .none)))
  (by kernel_rfl) rfl (by kernel_rfl) (by kernel_rfl) (by kernel_rfl) rfl ⟨rfl,by unfold TOk;kernel_rfl,qao rfl rfl (zG.2 ⟨qrQ _N,(zC _)⟩),qan rfl rfl (zC _),rfl⟩ (fun _x=>by kernel_rfl)
theorem qlY(_N:Nat):EntOk Tryd.prog Gs (mkHe 17 qey (qbT _N)):=entH ⟨Tryd.f17,ql Tryd.f17,by kernel_rfl,by kernel_rfl,rfl⟩ (qlq _N)
abbrev qdU:Sig:=⟨[.form (.ptr 0 1000000)],[.oth false ⟨false,88,2,.pair (.int .i64) (.int .i64),.int .i64,false⟩],
 [.dat false (.sl Sr),.dat false (.int .i64)],[.oth true ⟨false,88,2,.pair (.int .i64) (.int .i64),.int .i64,false⟩],[]⟩
abbrev qgF:Type:=(List Yf)×Int×Ye
def qmz(_N:Nat):Ctx:={ T:=[(60,⟨.map 88 2 Su (.int .i64),1,8,none,[.nl .map],false,[]⟩)],G:=findE [mkHe 17 qey (qbT _N)],I:=findI [],N:=_N,n:=9,fx:=[0],fl:=1,gs:=Gs }
def qhj(_N:Nat)(_x1:Int×List Yg):Option qgF:=
 (bif (decide ((_x1.2.length:Int)>(128:Int))) then (some ([],(1:Int),_x1)) else ((qbT _N _x1).bind fun _y2=>(some (_y2.1,(0:Int),_y2.2))))
def qbw(_N:Nat)(_x:Ye):Option qgF:=qhj _N _x
theorem qkK(_N:Nat):SpecH Tryd.prog Gs 45 qdU (qbw _N):=mkSpH (fn:=Tryd.f45) (c:=ql Tryd.f45) (C:=(qmz _N))
  (a:=.none)
  (by kernel_rfl) rfl (by kernel_rfl) (by kernel_rfl) (by kernel_rfl) rfl ⟨rfl,by unfold TOk;kernel_rfl,qao rfl rfl (zG.2 ⟨qlY _N,(zC _)⟩),qan rfl rfl (zC _),rfl⟩ (fun _x=>by kernel_rfl)
theorem qkZ(_N:Nat):EntOk Tryd.prog Gs (mkHe 45 qdU (qbw _N)):=entH ⟨Tryd.f45,ql Tryd.f45,by kernel_rfl,by kernel_rfl,rfl⟩ (qkK _N)
abbrev qfK:List Kd:=[.dat (.sl Sr),.dat (.sl Sr),.dat (.int .i64),.dat (.int .i64)]
abbrev qfG:List Kd:=[.dat (.sl Sr),.dat (.int .i64)]
abbrev qmq:Type:=Dens qfG
def qvH(_N:Nat):Ctx:={ T:=[(29,⟨.slice 69,1,24,some (.sl Sr),[.nil],false,[]⟩),(60,⟨.map 88 2 Su (.int .i64),1,8,none,[.nl .map],false,[]⟩),(135,⟨.slice 29,1,24,some (.sl (.sl Sr)),[.nil],false,[]⟩)],G:=findE [mkP 43 qfL qfH (qeh _N),mkHe 44 qcQ (qaz _N),mkHe 45 qdU (qbw _N)],I:=findI [],N:=_N,n:=28,fx:=[],fl:=0,gs:=Gs }
def qnY(_N:Nat)(_x1:List Yf)(_x2:List Yf)(_x3:Int)(_x4:Int):Option qmq:=
 ((qeh _N ([_x1,_x2],())).bind fun _y5=>(bif _y5.1 then (some ([],(1:Int),())) else ((qaz _N (_x1,_x3,((0:Int),([]:List Yg)))).bind fun _y6=>((qaz _N (_x2,_x4,_y6)).bind fun _y7=>((qbw _N _y7).bind fun _y8=>(some (_y8.1,_y8.2.1,())))))))
def qdg(_N:Nat)(_x:Dens qfK):Option qmq:=qnY _N _x.1 _x.2.1 _x.2.2.1 _x.2.2.2.1
theorem qsp(_N:Nat):SpecD Tryd.prog Gs 22 qfK qfG (qdg _N):=mkSpD (fn:=Tryd.f22) (c:=ql Tryd.f22) (C:=qvH _N)
  (a:=.none)
  (by kernel_rfl) rfl (by kernel_rfl) (by kernel_rfl) ⟨rfl,by unfold TOk;kernel_rfl,qao rfl rfl (zG.2 ⟨qtn _N,(zG.2 ⟨qhf _N,(zG.2 ⟨qkZ _N,(zC _)⟩)⟩)⟩),qan rfl rfl (zC _),rfl⟩ (fun _x=>by kernel_rfl)
theorem qqU(_N:Nat):EntOk Tryd.prog Gs (mkQ 22 qfK qfG (qdg _N)):=entQ ⟨Tryd.f22,ql Tryd.f22,by kernel_rfl,by kernel_rfl,rfl⟩ (qsp _N)
abbrev qhz:List Kd:=[.dat (.sl Sr),.dat (.sl Sr)]
abbrev qhu:List Kd:=[.dat (.sl Sr),.dat (.int .i64)]
abbrev qoi:Type:=Dens qhu
def qwP(_N:Nat):Ctx:={ T:=[],G:=findE [mkQ 22 qfK qfG (qdg _N)],I:=findI [],N:=_N,n:=11,fx:=[],fl:=0,gs:=Gs }
def qqu(_N:Nat)(_x1:List Yf)(_x2:List Yf):Option qoi:=
 ((qdg _N (_x1,_x2,(1:Int),(1:Int),())).bind fun _y2=>(some (_y2.1,_y2.2.1,())))
def qeR(_N:Nat)(_x:Dens qhz):Option qoi:=qqu _N _x.1 _x.2.1
theorem qub(_N:Nat):SpecD Tryd.prog Gs 11 qhz qhu (qeR _N):=mkSpD (fn:=Tryd.f11) (c:=ql Tryd.f11) (C:=qwP _N)
  (a:=.none)
  (by kernel_rfl) rfl (by kernel_rfl) (by kernel_rfl) ⟨rfl,by unfold TOk;kernel_rfl,qao rfl rfl (zG.2 ⟨qqU _N,(zC _)⟩),qan rfl rfl (zC _),rfl⟩ (fun _x=>by kernel_rfl)
theorem qsD(_N:Nat):EntOk Tryd.prog Gs (mkQ 11 qhz qhu (qeR _N)):=entQ ⟨Tryd.f11,ql Tryd.f11,by kernel_rfl,by kernel_rfl,rfl⟩ (qub _N)
abbrev qde:List Kd:=[.dat (.sl Sr),.dat (.sl Sr)]
abbrev qdd:List Kd:=[.dat (.bool)]
abbrev qcy:Type:=Dens qdd
def qrk(_N:Nat):Ctx:={ T:=[(29,⟨.slice 69,1,24,some (.sl Sr),[.nil],false,[]⟩),(69,⟨.struct [(0,2),(1,2),(2,2)],3,24,some Sr,[.int .i64 (0:Int),.int .i64 (0:Int),.int .i64 (0:Int)],true,[]⟩)],G:=findE [],I:=findI [],N:=_N,n:=26,fx:=[],fl:=0,gs:=Gs }
def qkn(_N:Nat):Option qcy:=
 (some (true,()))
def qeT(_N:Nat)(_k4:Unit->Option qcy)(_v1:List Yf)(_v2:List Yf)(_v3:Int)(_kn5:((List Yf)×(List Yf))×Int->Option qcy):Option qcy:=
 (bif (decide (_v3<(_v1.length:Int))) then (bif (decide (0<=_v3)&&decide (_v3<(_v1.length:Int))) then (bif (decide (0<=_v3)&&decide (_v3<(_v2.length:Int))) then (bif (!(eqD Sr ((nth ((0:Int),((0:Int),(0:Int))) _v1 (_v3).toNat).1,(((nth ((0:Int),((0:Int),(0:Int))) _v1 (_v3).toNat).2).1,((nth ((0:Int),((0:Int),(0:Int))) _v1 (_v3).toNat).2).2)) ((nth ((0:Int),((0:Int),(0:Int))) _v2 (_v3).toNat).1,(((nth ((0:Int),((0:Int),(0:Int))) _v2 (_v3).toNat).2).1,((nth ((0:Int),((0:Int),(0:Int))) _v2 (_v3).toNat).2).2)))) then (some (false,())) else (_kn5 ((_v1,_v2),(IntKind.i64.wrap (_v3+(1:Int)))))) else none) else none) else (_k4 ()))
def qkm(_N:Nat)(_x1:List Yf)(_x2:List Yf):Option qcy:=
 (bif ((_x1.length:Int) != (_x2.length:Int)) then (some (false,())) else (joinD (fun (_s:Unit)=>qkn _N) fun _k4=>(loopE (fun (_c:(List Yf)×(List Yf)) (_s:Int) _kn=>qeT _N _k4 _c.1 _c.2 _s _kn) _N (_x1,_x2) (0:Int))))
def qbJ(_N:Nat)(_x:Dens qde):Option qcy:=qkm _N _x.1 _x.2.1
theorem qoR(_N:Nat):SpecD Tryd.prog Gs 12 qde qdd (qbJ _N):=mkSpD (fn:=Tryd.f12) (c:=ql Tryd.f12) (C:=qrk _N)
  (a:=.two .none (.two .none (.join 0 ⟨[],[]⟩ (.two .none (.one (.loop 0 ⟨[(0,.sl Sr),(1,.sl Sr),(5,.int .i64)],[]⟩ [2] (.two .none (.two (.one (.two (.draw 0 [.pure,.pure,.pure,.pure,.pure,.pure,.pure,.pure,.pure]) .none)) .none))))) .none)))
  (by kernel_rfl) rfl (by kernel_rfl) (by kernel_rfl) ⟨rfl,by unfold TOk;kernel_rfl,qao rfl rfl (zC _),qan rfl rfl (zC _),rfl⟩ (fun _x=>by kernel_rfl)
theorem qjC(_N:Nat):EntOk Tryd.prog Gs (mkP 12 qde qdd (qbJ _N)):=entP ⟨Tryd.f12,ql Tryd.f12,by kernel_rfl,by kernel_rfl,rfl⟩ (by kernel_rfl) (qoR _N)
abbrev qhw:List Kd:=[.dat (.sl Sr),.dat (.int .i64),.dat (.sl Sr),.dat (.int .i64)]
abbrev qhr:List Kd:=[.dat (.bool)]
abbrev qof:Type:=Dens qhr
def qwM(_N:Nat):Ctx:={ T:=[],G:=findE [mkP 12 qde qdd (qbJ _N)],I:=findI [],N:=_N,n:=17,fx:=[],fl:=0,gs:=Gs }
def qpJ(_N:Nat)(_x1:List Yf)(_x2:Int)(_x3:List Yf)(_x4:Int):Option qof:=
 (bif (_x2==_x4) then ((qbJ _N (_x1,_x3,())).bind fun _y2=>(some (_y2.1,()))) else (some (false,())))
def qdW(_N:Nat)(_x:Dens qhw):Option qof:=qpJ _N _x.1 _x.2.1 _x.2.2.1 _x.2.2.2.1
theorem qtY(_N:Nat):SpecD Tryd.prog Gs 9 qhw qhr (qdW _N):=mkSpD (fn:=Tryd.f9) (c:=ql Tryd.f9) (C:=qwM _N)
  (a:=.none)
  (by kernel_rfl) rfl (by kernel_rfl) (by kernel_rfl) ⟨rfl,by unfold TOk;kernel_rfl,qao rfl rfl (zG.2 ⟨qjC _N,(zC _)⟩),qan rfl rfl (zC _),rfl⟩ (fun _x=>by kernel_rfl)
theorem qva(_N:Nat):EntOk Tryd.prog Gs (mkP 9 qhw qhr (qdW _N)):=entP ⟨Tryd.f9,ql Tryd.f9,by kernel_rfl,by kernel_rfl,rfl⟩ (by kernel_rfl) (qtY _N)
end Go.Proofs.YtnhjpicdijeagaaDoor
end

namespace Go.Bag
open Go.Abs
abbrev Row:=Int×Int×Int
abbrev Key:=Int×Int
def ky(r:Row):Key:=(r.1,r.2.1)
def w(n:Int):Int:=IntKind.i64.wrap n
theorem w_def(n:Int):w n=(n+9223372036854775808) % 18446744073709551616 - 9223372036854775808:=by
 unfold w
 rw [IntKind.wrap_i64]
 try omega
def Cg(a b:Int):Prop:=w a=w b
theorem qqo{a b:Int}:Cg a b↔∃ t,a=b+18446744073709551616*t:=by
 unfold Cg
 rw [w_def,w_def]
 constructor
 ·intro h
  refine⟨(a+9223372036854775808) / 18446744073709551616 - (b+9223372036854775808) / 18446744073709551616,?_⟩
  omega
 ·rintro⟨t,rfl⟩
  omega
theorem Cg.rfl{a:Int}:Cg a a:=Eq.refl _
theorem Cg.symm{a b:Int}(h:Cg a b):Cg b a:=Eq.symm h
theorem Cg.trans{a b c:Int}(h:Cg a b)(h':Cg b c):Cg a c:=Eq.trans h h'
theorem Cg.of_eq{a b:Int}(h:a=b):Cg a b:=h▸Cg.rfl
theorem cg_w(a:Int):Cg (w a) a:=by
 rw [qqo]
 rw [w_def]
 exact⟨-((a+9223372036854775808) / 18446744073709551616),by omega⟩
theorem Cg.add{a b c d:Int}(h:Cg a b)(h':Cg c d):Cg (a+c) (b+d):=by
 obtain⟨t,rfl⟩:=qqo.1 h
 obtain⟨u,rfl⟩:=qqo.1 h'
 exact qqo.2 ⟨t+u,by rw [zBy];omega⟩
theorem Cg.mul{a b c d:Int}(h:Cg a b)(h':Cg c d):Cg (a*c) (b*d):=by
 obtain⟨t,rfl⟩:=qqo.1 h
 obtain⟨u,rfl⟩:=qqo.1 h'
 refine qqo.2 ⟨t*d+b*u+t*(18446744073709551616*u),?_⟩
 simp only [Int.add_mul,zBy,Int.mul_assoc,Int.mul_left_comm b 18446744073709551616 u,Int.mul_left_comm t 18446744073709551616 u]
 omega
theorem w_eq{a b:Int}(h:Cg a b):w a=w b:=h
theorem qny:w 0=0:=by decide
def amt:List Row->Key->Int
 | [],_=>0
 | r :: l,e=>(if ky r=e then r.2.2 else 0)+amt l e
def tot:List Row->Int
 | []=>0
 | r :: l=>r.2.2+tot l
theorem qbi(a b:List Row)(e:Key):amt (a++b) e=amt a e+amt b e:=by
 induction a with
 | nil=>simp [amt]
 | cons r a ih=>simp only [List.cons_append,amt,ih];omega
theorem qye(a b:List Row):tot (a++b)=tot a+tot b:=by
 induction a with
 | nil=>simp [tot]
 | cons r a ih=>simp only [List.cons_append,tot,ih];omega
theorem qxY{a b:List Row}(h:a.Perm b)(e:Key):amt a e=amt b e:=by
 induction h with
 | nil=>rfl
 | cons x _ ih=>simp only [amt,ih]
 | swap x y l=>simp only [amt];omega
 | trans _ _ ih1 ih2=>rw [ih1,ih2]
theorem qfD(l:List Row)(k e:Key):amt (l.filter fun r=>decide (ky r≠k)) e=if e=k then 0 else amt l e:=by
 induction l with
 | nil=>simp [amt]
 | cons r l ih=>
  by_cases h:ky r=k
  ·rw [zAQ (by simp [h]),ih]
   by_cases he:e=k
   ·rw [zJ he,zJ he]
   ·rw [zL he,zL he];simp only [amt];rw [zL (by rw [h];exact fun h=>he h.symm)];omega
  ·rw [zAK (by simp [h])]
   simp only [amt,ih]
   by_cases he:e=k
   ·rw [zJ he,zJ he,zL (by rw [he];exact h)];omega
   ·rw [zL he,zL he]
def negR(l:List Row):List Row:=l.map fun r=>(r.1,r.2.1,-r.2.2)
theorem qEf(l:List Row)(e:Key):amt (negR l) e = -amt l e:=by
 induction l with
 | nil=>simp [negR,amt]
 | cons r l ih=>
  have:ky (r.1,r.2.1,-r.2.2)=ky r:=rfl
  simp only [negR,List.map_cons,amt,this] at ih ⊢
  rw [ih]
  split <;> omega
def rlt(a b:Row):Prop:=a.1<b.1\/(a.1=b.1/\a.2.1<b.2.1)
instance (a b:Row):Decidable (rlt a b):=by unfold rlt;infer_instance
theorem qhJ(a:Row):¬ rlt a a:=by unfold rlt;omega
theorem qlv{a b c:Row}(h:rlt a b)(h':rlt b c):rlt a c:=by unfold rlt at *;omega
theorem qpb{a b:Row}(h:¬ rlt a b)(h':¬ rlt b a):ky a=ky b:=by
 unfold rlt at *
 unfold ky
 exact Prod.ext (by simp only;omega) (by simp only;omega)
theorem qEo{a b:Row}(h:rlt a b):ky a≠ky b:=fun e=>by
 unfold ky at e
 unfold rlt at h
 simp only [zN] at e
 omega
theorem qml{l:List Row}{e:Key}(h:∀ r∈l,ky r≠e):amt l e=0:=by
 induction l with
 | nil=>rfl
 | cons r l ih=>
  simp only [amt]
  rw [zL (h r (by simp)),ih fun s hs=>h s (by simp [hs])];rfl
theorem qqx{l:List Row}(hn:(l.map ky).Nodup){r:Row}(hr:r∈l):amt l (ky r)=r.2.2:=by
 induction l with
 | nil=>cases hr
 | cons s l ih=>
  simp only [List.map_cons,zZ] at hn
  simp only [amt]
  rcases zi.1 hr with rfl | hr
  ·rw [zJ rfl,qml fun s hs e=>hn.1 (zr.2 ⟨s,hs,e⟩)];omega
  ·rw [zL (fun e=>hn.1 (zr.2 ⟨r,hr,e.symm⟩)),ih hn.2 hr];omega
theorem qmI{l:List Row}(h:l.Pairwise rlt):(l.map ky).Nodup:=by
 unfold List.Nodup
 rw [zAx]
 exact h.imp fun h=>qEo h
structure IsBag (f:Key->Int) (l:List Row):Prop where
 rise:l.Pairwise rlt
 nz:∀ r∈l,r.2.2≠0
 val:∀ e,amt l e=w (f e)
theorem IsBag.cg{f g:Key->Int}{l:List Row}(h:IsBag f l)(hg:∀ e,Cg (f e) (g e)):IsBag g l:=⟨h.rise,h.nz,fun e=>(h.val e).trans (hg e)⟩
theorem IsBag.mem{f:Key->Int}{l:List Row}(h:IsBag f l){r:Row}:r∈l↔r.2.2≠0/\w (f (ky r))=r.2.2:=by
 constructor
 ·intro hr
  exact⟨h.nz r hr,by rw [<- h.val,qqx (qmI h.rise) hr]⟩
 ·rintro⟨h1,h2⟩
  refine Classical.byContradiction fun hno=>?_
  by_cases hk:∃ s∈l,ky s=ky r
  ·obtain⟨s,hs,e⟩:=hk
   have:=qqx (qmI h.rise) hs
   rw [e,h.val,h2] at this
   have e':s=r:=by
    unfold ky at e
    simp only [zN] at e
    exact Prod.ext e.1 (Prod.ext e.2 this.symm)
   exact hno (e'▸hs)
  ·have:=qml (l:=l) (e:=ky r) fun s hs e=>hk ⟨s,hs,e⟩
   rw [h.val,h2] at this
   exact h1 this
theorem IsBag.uniq{f:Key->Int}{l m:List Row}(h:IsBag f l)(h':IsBag f m):l=m:=by
 have nd:∀ {l:List Row},l.Pairwise rlt->l.Nodup:=fun {l} hp=>List.Pairwise.imp (fun {a b} (h:rlt a b) (e:a=b)=>qhJ b (by rw [e] at h;exact h)) hp
 refine qiq (r:=fun a b=>rlt a b) l m (fun a _ b _ h1 h2=>absurd (qlv h1 h2) (qhJ a)) ?_ h.rise h'.rise
 exact (List.perm_ext_iff_of_nodup (nd h.rise) (nd h'.rise)).2 fun r=>h.mem.trans h'.mem.symm
theorem IsBag.same{f g:Key->Int}{l m:List Row}(h:IsBag f l)(h':IsBag g m)(hg:∀ e,Cg (f e) (g e)):l=m:=(h.cg hg).uniq h'
theorem IsBag.amt_cg{f:Key->Int}{l:List Row}(h:IsBag f l)(e:Key):Cg (amt l e) (f e):=by rw [h.val];exact cg_w _
theorem keys_le:∀ (n:Nat) (m:List Row),m.length<=n->∀ (ks:List Key),ks.Nodup->(∀ e∈ks,∃ r∈m,ky r=e)->ks.length<=m.length
 | 0,m,hm,ks,_,h=>by
  have:m = []:=zY (by omega)
  subst this
  cases ks with
  | nil=>exact Nat.le_refl _
  | cons e ks=>obtain⟨r,hr,-⟩:=h e (by simp);cases hr
 | n+1,[],_,ks,_,h=>by
  cases ks with
  | nil=>exact Nat.le_refl _
  | cons e ks=>obtain⟨r,hr,-⟩:=h e (by simp);cases hr
 | n+1,r :: m,hm,ks,hn,h=>by
  have h1:=keys_le n m (by simp at hm;omega) (ks.filter fun e=>decide (e≠ky r)) (hn.sublist List.filter_sublist) fun e he=>by
   simp only [zc,zQ] at he
   obtain⟨s,hs,e1⟩:=h e he.1
   rcases zi.1 hs with rfl | hs
   ·exact absurd e1.symm he.2
   ·exact⟨s,hs,e1⟩
  have h2:ks.length<=(ks.filter fun e=>decide (e≠ky r)).length+1:=by
   have key:∀ ks:List Key,ks.Nodup->ks.length<=(ks.filter fun e=>decide (e≠ky r)).length+1:=by
    intro ks
    induction ks with
    | nil=>intro _;simp
    | cons e ks ih=>
     intro hn
     rw [zZ] at hn
     by_cases q:e=ky r
     ·rw [zAQ (by simp [q])]
      have:ks.filter (fun e=>decide (e≠ky r))=ks:=zAX.2 fun x hx=>by
       rw [zQ];exact fun e1=>hn.1 (by rw [q,<- e1];exact hx)
      rw [this];simp
     ·rw [zAK (by simp [q])]
      have:=ih hn.2
      simp only [List.length_cons];omega
   exact key ks hn
  simp only [List.length_cons];omega
theorem IsBag.len_le'{f:Key->Int}{l m:List Row}(h:IsBag f l)(hm:∀ e,(∀ r∈m,ky r≠e)->Cg (f e) 0):l.length<=m.length:=by
 have:=keys_le m.length m (Nat.le_refl _) (l.map ky) (qmI h.rise) fun e he=>by
  obtain⟨r,hr,rfl⟩:=zr.1 he
  refine Classical.byContradiction fun hno=>?_
  have h0:=hm (ky r) fun s hs e=>hno ⟨s,hs,e⟩
  obtain⟨h1,h2⟩:=h.mem.1 hr
  rw [w_eq h0,qny] at h2
  exact h1 h2.symm
 simpa using this
def Tld(F:Key->Int)(lim:Prop)(out:List Row)(c:Int):Prop:=(c=0/\out.length<=128/\¬ lim/\IsBag F out)\/(c=1/\out = []/\(lim\/∃ l,IsBag F l/\128<l.length))
theorem Tld.ok{F:Key->Int}{lim:Prop}{out:List Row}{c:Int}(h:Tld F lim out c)(hc:c=0):out.length<=128/\¬ lim/\IsBag F out:=by
 rcases h with h | h
 ·exact h.2
 ·omega
theorem Tld.is0{F:Key->Int}{lim:Prop}{out:List Row}{c:Int}(h:Tld F lim out c)(hl:¬ lim){m:List Row}(hm:m.length<=128)(hF:∀ e,(∀ r∈m,ky r≠e)->Cg (F e) 0):c=0:=by
 rcases h with h | ⟨-,-,h | ⟨l,h1,h2⟩⟩
 ·exact h.1
 ·exact absurd h hl
 ·have:=h1.len_le' hF;omega
theorem Tld.same{F G:Key->Int}{lim lim':Prop}{out out':List Row}{c c':Int}(h:Tld F lim out c)(h':Tld G lim' out' c')(hg:∀ e,Cg (F e) (G e))(hl:lim↔lim'):out=out'/\c=c':=by
 rcases h with⟨c0,h1,h2,h3⟩ | ⟨c1,h1,h2⟩
 ·rcases h' with⟨c0',h1',h2',h3'⟩ | ⟨c1',h1',h2'⟩
  ·exact⟨h3.same h3' hg,by omega⟩
  ·rcases h2' with h2' | ⟨l,p1,p2⟩
   ·exact absurd (hl.2 h2') h2
   ·have:=h3.same p1 hg;subst this;omega
 ·rcases h' with⟨c0',h1',h2',h3'⟩ | ⟨c1',h1',h2'⟩
  ·rcases h2 with h2 | ⟨l,p1,p2⟩
   ·exact absurd (hl.1 h2) h2'
   ·have:=p1.same h3' hg;subst this;omega
  ·exact⟨by rw [h1,h1'],by omega⟩
end Go.Bag

namespace Go.Proofs.YtnhjpicdijeagaaDoor
open Go.Abs Go.Bag
theorem lt_d{i m:Nat}(h:i<m):decide ((i:Int)<(m:Int))=true:=qY (by omega)
theorem qbb(m:Nat):decide ((m:Int)<(m:Int))=false:=qah (by omega)
theorem ge0_d(i:Nat):decide ((0:Int)<=(i:Int))=true:=qY (by omega)
theorem qds{α:Type}{z a:α}{xs:List α}(h:a∈xs):∃ t,t<xs.length/\nth z xs t=a:=by
 obtain⟨t,ht,e⟩:=zAs h
 exact⟨t,ht,by rw [qfj ht,e]⟩
theorem ix1{n i:Nat}(h:i<n)(hn:n<=4611686018427387904):IntKind.i64.wrap ((i:Int)+1)=(i:Int)+1:=w64 (by omega) (by omega)
theorem qnm{a b:Bool}(h:a=true↔b=true):a=b:=by cases a <;> cases b <;> simp_all
theorem qmP{R S:Type}(f:S->(S->Option R)->Option R)(n:Nat)(s:S):loopD f (n+1) s=f s (loopD f n):=rfl
theorem qeS{α:Type}{z:α}{xs:List α}{i:Nat}(h:i<xs.length):xs.take (i+1)=xs.take i ++ [nth z xs i]:=by
 rw [List.take_succ_eq_append_getElem h,qfj h]
abbrev kS:Sh:=.pair (.int .i64) (.int .i64)
abbrev vS:Sh:=.int .i64
abbrev Bg:Type:=Int×List (Int×(Int×Int)×Int)
abbrev kSn:noSl kS=true:=rfl
structure BOk (f:Key->Int) (d:Bg):Prop where
 ok:MpOk kS vS d
 nz:∀ e∈d.2,e.2.2≠0
 val:∀ e:Int×Int,mpGet kS vS d e=w (f e)
theorem BOk.empty:BOk (fun _=>0) ((0:Int),[]):=⟨MpOk.empty,(fun e h=>by cases h),fun e=>by rw [qny];rfl⟩
theorem BOk.cg{f g:Key->Int}{d:Bg}(h:BOk f d)(hg:∀ e,Cg (f e) (g e)):BOk g d:=⟨h.ok,h.nz,fun e=>(h.val e).trans (hg e)⟩
theorem qom{N:Nat}{f:Key->Int}{d:Bg}(h:BOk f d)(e:Int×Int)(n:Int) :
  ∃ d',qH N (e,n,d)=some d'/\BOk (fun z=>f z+if z=e then n else 0) d'/\d'.2.length<=d.2.length+1:=by
 have hs:qiu kS vS (mpEnt kS vS d e) (qfk kS vS d e)=true:=quw (k:=kS) (v:=vS) d e
 have hp:∀ y:Int,mpAt kS vS (mpEnt kS vS d e) (qfk kS vS d e) y=mpPut kS vS d e y:=fun y=>qBX (k:=kS) (v:=vS) h.ok e y
 have hg:∀ y:Int,mpGet kS vS (mpPut kS vS d e y) e=y:=fun y=>qxz (k:=kS) (v:=vS) kSn d e y
 have hee:(e.1,e.2)=e:=rfl
 simp only [qH,qiU,hee,hs,cond_true,hp,hg,h.val]
 have hw:IntKind.i64.wrap (w (f e)+n)=w (f e+n):=((cg_w (f e)).add Cg.rfl:Cg _ _)
 rw [hw]
 have hput:=h.ok.put kSn e (w (f e+n))
 have hne:∀ z:Int×Int,z≠e->mpGet kS vS (mpPut kS vS d e (w (f e+n))) z=w (f z):=fun z hz=>(qkR (k:=kS) (v:=vS) kSn d hz _).trans (h.val z)
 have hnz:∀ x∈(mpPut kS vS d e (w (f e+n))).2,x.2.1≠e->x.2.2≠0:=fun x hx hxe=>by
  obtain⟨g1,g2⟩:=qsO (k:=kS) (v:=vS) kSn hput hx
  rw [qpq (k:=kS) (v:=vS) kSn d hxe] at g1
  rw [qkR (k:=kS) (v:=vS) kSn d hxe] at g2
  obtain⟨y,y1,y2,y3⟩:=qAo (k:=kS) (v:=vS) g1
  rw [<- g2,<- y3];exact h.nz y y1
 have hlen:=qDr (k:=kS) (v:=vS) d e (w (f e+n))
 by_cases q:w (f e+n)=0
 ·rw [show (w (f e+n)==0)=true from beq_iff_eq.2 q,cond_true]
  refine⟨_,rfl,⟨hput.del e,fun x hx=>?_,fun z=>?_⟩,zn (qDQ _ _) hlen⟩
  ·have hx':=(qka (x:=e) (mpPut kS vS d e (w (f e+n))).2).subset hx
   refine hnz x hx' fun hxe=>?_
   obtain⟨g1,-⟩:=qsO (k:=kS) (v:=vS) kSn (hput.del e) hx
   rw [hxe,qDR (k:=kS) (v:=vS) kSn hput] at g1
   cases g1
  ·by_cases hz:z=e
   ·subst hz;rw [qDS (k:=kS) (v:=vS) kSn hput,zJ rfl,q];rfl
   ·rw [qyL (k:=kS) (v:=vS) _ hz,hne z hz,zL hz,zAo]
 ·rw [show (w (f e+n)==0)=false from zO q,cond_false]
  refine⟨_,rfl,⟨hput,fun x hx=>?_,fun z=>?_⟩,hlen⟩
  ·by_cases hxe:x.2.1=e
   ·obtain⟨-,g2⟩:=qsO (k:=kS) (v:=vS) kSn hput hx
    rw [hxe,hg] at g2
    rw [<- g2];exact q
   ·exact hnz x hx hxe
  ·by_cases hz:z=e
   ·subst hz;rw [hg,zJ rfl]
   ·rw [hne z hz,zL hz,zAo]
theorem qqz{N:Nat}{f:Key->Int}{d:Bg}(h:BOk f d)(l:List Row)(n:Int)(hN:l.length<N)(hl:l.length<=4611686018427387904) :
  ∃ d',qaz N (l,n,d)=some d'/\BOk (fun z=>f z+n*amt l z) d'/\d'.2.length<=d.2.length+l.length:=by
 simp only [qaz,qig,loopE]
 obtain⟨s',⟨h1,h2,h3⟩,e⟩:=qhT (g:=fun (s:Int×Bg) kn=>qdl N n l (l.length:Int) s.1 s.2 (backE (n,l,(l.length:Int)) kn)) (k:=fun s:Int×Bg=>some s.2) l.length
  (fun i s=>s.1=(i:Int)/\BOk (fun z=>f z+n*amt (l.take i) z) s.2/\s.2.2.length<=d.2.length+i) (N:=N) (s:=((0:Int),d))
  (by
   rintro i ⟨_,b⟩ hi ⟨rfl,hb,hlen⟩
   simp only at hb hlen
   obtain⟨b',e1,e2,e3⟩:=qom (N:=N) hb (ky (nth (0,0,0) l i)) (IntKind.i64.wrap (n*(nth ((0:Int),(0:Int),(0:Int)) l i).2.2))
   refine⟨((i:Int)+1,b'),⟨by simp,e2.cg fun z=>?_,by simp only;omega⟩,fun kn=>?_⟩
   ·rw [qeS (z:=((0:Int),(0:Int),(0:Int))) hi,qbi]
    simp only [amt,zAo]
    generalize nth ((0:Int),(0:Int),(0:Int)) l i=r
    rw [zBy,<- Int.add_assoc]
    refine Cg.rfl.add ?_
    by_cases hz:z=ky r
    ·rw [zJ hz,zJ hz.symm];exact cg_w _
    ·rw [zL hz,zL fun h=>hz h.symm,Int.mul_zero];exact Cg.rfl
   ·have e1':qH N (((nth ((0:Int),(0:Int),(0:Int)) l i).1,(nth ((0:Int),(0:Int),(0:Int)) l i).2.1),IntKind.i64.wrap (n*(nth ((0:Int),(0:Int),(0:Int)) l i).2.2),b)=some b':=e1
    simp only [qdl,lt_d hi,ge0_d,Int.toNat_natCast,Bool.and_self,cond_true,e1',Option.bind_some,ix1 hi hl,qaq])
  (by
   rintro⟨_,b⟩ ⟨rfl,hb,hlen⟩ kn
   simp only [qdl,qbb,cond_false])
  hN ⟨rfl,h.cg fun z=>by simp only [List.take_zero,amt,Int.mul_zero,zAo];exact Cg.rfl,Nat.le_refl _⟩
 exact⟨s'.2,e,by simpa only [zAR] using h2,h3⟩
theorem qsg(N:Nat)(a b:Int):qaY N (a,b,())=some (if a<b then -1 else if a>b then 1 else 0,()):=by
 have hn:∀ x:Int,qbm N (x,())=some (false,()):=fun x=>by
  simp only [qbm,qib,bne_self_eq_false]
 simp only [qaY,qgy,hn,Option.bind_some,cond_false]
 by_cases h1:a<b
 ·rw [qY h1,zJ h1];rfl
 rw [qah h1,zL h1]
 by_cases h2:a>b
 ·rw [qY h2,zJ h2];rfl
 ·rw [qah h2,zL h2];rfl
def rcmp(p q:Row):Int:=if p.1<q.1 then -1 else if p.1>q.1 then 1 else if p.2.1<q.2.1 then -1 else if p.2.1>q.2.1 then 1 else 0
theorem Or_eq{N:Nat}(hN:10<=N)(a b:Int):qeg N ([a,b],())=some (if a=0 then b else a,()):=by
 obtain⟨M,rfl⟩:∃ M,N=M+3:=⟨N - 3,by omega⟩
 simp only [qeg,qnW,joinD,loopE]
 have hb:∀ (K:Int->_) (i:Nat),i<([a,b]:List Int).length->∀ kn,qhh (M+3) K 0 [a,b] (([a,b]:List Int).length:Int) (i:Int) (backE ((0:Int),[a,b],(([a,b]:List Int).length:Int)) kn)=if nth 0 [a,b] i=0 then kn ((i:Int)+1) else some (nth 0 [a,b] i,()):=fun K i hi kn=>by
  have hi2:i<2:=hi
  simp only [qhh,lt_d hi,ge0_d,Int.toNat_natCast,Bool.and_self,cond_true,ix1 hi2 (by omega),qaq]
  by_cases q:nth 0 [a,b] i=0
  ·rw [zJ q,q,bne_self_eq_false];rfl
  ·rw [zL q,show (nth 0 [a,b] i != 0)=true from bne_iff_ne.2 q];rfl
 have h0:nth 0 [a,b] 0=a:=rfl
 have h1:nth 0 [a,b] 1=b:=rfl
 rw [qmP]
 have e0:=hb (fun s=>qhi (M+3) s) 0 (by simp)
 rw [h0] at e0
 refine (e0 _).trans ?_
 by_cases ha:a=0
 ·rw [zJ ha,zJ ha,qmP]
  have e1:=hb (fun s=>qhi (M+3) s) 1 (by simp)
  rw [h1] at e1
  refine (e1 _).trans ?_
  by_cases hbz:b=0
  ·rw [zJ hbz,qmP]
   have:=qbb ([a,b]:List Int).length
   simp only [qhh]
   rw [show (((1:Nat):Int)+1)=(([a,b]:List Int).length:Int) from rfl,this,cond_false,qhi,hbz]
  ·rw [zL hbz]
 ·rw [zL ha,zL ha]
theorem qxf{N:Nat}(hN:10<=N)(p q:Row):qak N (p,q,())=some (rcmp p q,()):=by
 simp only [qak,qhk,qsg N p.1 q.1,qsg N p.2.1 q.2.1,Option.bind_some,Or_eq hN,rcmp]
 by_cases h1:p.1<q.1
 ·simp [zJ h1]
 ·by_cases h2:p.1>q.1
  ·simp [zL h1,zJ h2]
  ·simp [zL h1,zL h2]
theorem qBR(p q:Row):rcmp p q<0↔rlt p q:=by
 unfold rcmp rlt
 by_cases h1:p.1<q.1
 ·rw [zJ h1];omega
 ·rw [zL h1]
  by_cases h2:p.1>q.1
  ·rw [zJ h2];omega
  ·rw [zL h2]
   by_cases h3:p.2.1<q.2.1
   ·rw [zJ h3];omega
   ·rw [zL h3]
    split <;> omega
theorem qDq(p q:Row):decide (rcmp p q<0)=decide (rlt p q):=qnm (by rw [zQ,zQ];exact qBR p q)
theorem quc{N:Nat}(hN:10<=N){xs:List Row}(hl:xs.length<4611686018427387904)(hn:(xs.map ky).Nodup) :
  ∃ ys:List Row,sortR (fun p q=>(qak N (p,q,())).map (·.1)) xs=some ys/\ys.Perm xs/\ys.Pairwise rlt:=by
 have hlt:∀ a b:Row,ltB (fun p q:Row=>(qak N (p,q,())).map (·.1)) a b=decide (rlt a b):=fun a b=>by
  unfold ltB
  simp only [qxf hN a b,Option.map_some]
  exact qDq a b
 have hok:SortOk (fun p q:Row=>(qak N (p,q,())).map (·.1)) xs:=by
  refine⟨hl,fun a _ b _=>⟨rcmp a b,by rw [qxf hN];rfl⟩,fun a _=>by rw [hlt];exact qah (qhJ a),fun a _ b _ c _ h1 h2=>?_,fun a ha b hb h1 h2=>?_⟩
  ·rw [hlt] at h1 h2 ⊢
   exact qY (qlv (zV h1) (zV h2))
  ·rw [hlt] at h1 h2
   have hk:=qpb (zBz h1) (zBz h2)
   have e1:=qqx hn ha
   have e2:=qqx hn hb
   rw [hk,e2] at e1
   unfold ky at hk
   simp only [zN] at hk
   exact Prod.ext hk.1 (Prod.ext hk.2 e1.symm)
 obtain⟨ys,h1,h2,h3⟩:=qBH hok
 refine⟨ys,h1,h2,?_⟩
 have hny:(ys.map ky).Nodup:=(h2.map ky).nodup_iff.2 hn
 have hny':ys.Pairwise fun a b=>ky a≠ky b:=by rw [<- zAx];exact hny
 refine (h3.and hny').imp fun {a b} hab=>?_
 obtain⟨p1,p2⟩:=hab
 rw [hlt] at p1
 exact Classical.byContradiction fun hno=>p2 (qpb hno (zBz p1))
def rowOf(e:Int×(Int×Int)×Int):Row:=(e.2.1.1,e.2.1.2,e.2.2)
theorem qBs{N:Nat}{f:Key->Int}{d:Bg}(h:BOk f d)(hN:d.2.length+10<N)(hb:d.2.length*24<=140737488355328) :
  ∃ out:List Row,qbT N d=some (out,d)/\IsBag f out/\out.length=d.2.length:=by
 have hn:((d.2.map rowOf).map ky).Nodup:=by
  rw [List.map_map];exact h.ok.keys
 obtain⟨ys,s1,s2,s3⟩:=quc (N:=N) (by omega) (xs:=d.2.map rowOf) (by rw [zAS];omega) hn
 have hsort:∀ xs:List Row,xs.Perm (d.2.map rowOf)->sortR (fun p q=>(qak N (p,q,())).map (·.1)) xs=some ys:=fun xs hp=>by
  obtain⟨zs,t1,t2,t3⟩:=quc (N:=N) (by omega) (xs:=xs) (by rw [hp.length_eq,zAS];omega) ((hp.map ky).nodup_iff.2 hn)
  rw [t1]
  exact congrArg some (qiq (r:=fun a b=>rlt a b) zs ys (fun a _ b _ h1 h2=>absurd (qlv h1 h2) (qhJ a)) ((t2.trans hp).trans s2.symm) t3 s3)
 refine⟨ys,?_,⟨s3,fun r hr=>?_,fun e=>?_⟩,by rw [s2.length_eq,zAS]⟩
 ·simp only [qbT,qid,joinD,loopE]
  refine qrv (k:=kS) (v:=vS) (ys,d) (fun rest s=>(s++rest.map rowOf).Perm (d.2.map rowOf)) (fun dd s kn hI hkn=>?_) N ((0:Int),d.2) [] (by exact .refl _) (by show d.2.length<N;omega)
  simp only [qie]
  refine qzN (k:=kS) (v:=vS) (fun hr=>?_) (fun i x hx=>?_)
  ·rw [hr,List.map_nil,List.append_nil] at hI
   simp only [qif,hsort s hI,Option.bind_some]
  ·have hl:=hI.length_eq
   simp only [zq,zAS] at hl
   have hpos:=(zS.1 hx).1
   rw [qY (show (s.length+([(x.2.1.1,(x.2.1.2,x.2.2))]:List Row).length)*24<=140737488355328 by simp only [zBP];omega),show Nat.ble 1 24=true from rfl,Bool.and_self,cond_true,qaq]
   refine hkn x _ _ ?_ (qAG hx)
   refine List.Perm.trans ?_ hI
   rw [zj]
   exact (qyJ rowOf hx).append_left s
 ·obtain⟨e,he,rfl⟩:=zr.1 (s2.subset hr)
  exact h.nz e he
 ·rw [qxY s2 e,<- h.val e]
  cases q:mpHas kS vS d e with
  | true=>
   obtain⟨x,x1,x2,x3⟩:=qAo (k:=kS) (v:=vS) q
   have:=qqx hn (zr.2 ⟨x,x1,rfl⟩)
   have hk:ky (rowOf x)=e:=x2
   rw [hk] at this
   rw [this];exact x3
  | false=>
   rw [qCr (k:=kS) (v:=vS) q]
   refine qml fun r hr hk=>?_
   obtain⟨x,hx,rfl⟩:=zr.1 hr
   have:=(qsO (k:=kS) (v:=vS) kSn h.ok hx).1
   have hk':x.2.1=e:=hk
   rw [hk',q] at this
   cases this
theorem qCI{N:Nat}{f:Key->Int}{d:Bg}(h:BOk f d)(hN:d.2.length+10<N)(hb:d.2.length*24<=140737488355328) :
  ∃ (out:List Row) (c:Int),qbw N d=some (out,c,d)/\((c=0/\out.length<=128/\IsBag f out)\/(c=1/\out = []/\∃ l,IsBag f l/\128<l.length)):=by
 obtain⟨out,h1,h2,h3⟩:=qBs h hN hb
 simp only [qbw,qhj]
 by_cases q:(d.2.length:Int)>128
 ·exact⟨[],1,by rw [qY q];rfl,.inr ⟨rfl,rfl,out,h2,by omega⟩⟩
 ·exact⟨out,0,(by rw [qah q,cond_false];first | (rw [h1];rfl) | (rw [roR_of (q:=Q_bags_Rows) (s:=.sl (.pair (.int .i64) (.pair (.int .i64) (.int .i64)))) h1];rfl)),.inl ⟨rfl,by omega,h2⟩⟩
theorem qCL{N:Nat}{ls:List (List Row)}(hN:ls.length<N)(hl:ls.length<=4611686018427387904 - 1):qeh N (ls,())=some (decide (∃ l∈ls,128<l.length),()):=by
 have hc:∀ l:List Row,qcB N (l,())=some (decide (128<l.length),()):=fun l=>by
  simp only [qcB,qjI]
  exact congrArg (fun x=>some (x,())) (qnm (by simp only [zQ];omega))
 have hix:∃ i:Int,qE N (ls,(),())=some (i,())/\(0<=i↔∃ l∈ls,128<l.length):=by
  simp only [qE,qaL,joinD,loopE]
  have hb:∀ (K:Unit->_) (i:Nat),i<ls.length->∀ kn,qX N K ls (ls.length:Int) (i:Int) (backE (ls,(ls.length:Int)) kn)=if 128<(nth [] ls i).length then some ((i:Int),()) else kn ((i:Int)+1):=fun K i hi kn=>by
   simp only [qX,lt_d hi,ge0_d,Int.toNat_natCast,Bool.and_self,cond_true,hc,Option.bind_some,ix1 hi (by omega),qaq]
   by_cases q:128<(nth [] ls i).length
   ·rw [qY q,zJ q];rfl
   ·rw [qah q,zL q];rfl
  by_cases hex:∃ i,i<ls.length/\128<(nth [] ls i).length
  ·obtain⟨i0,⟨a1,a2⟩,a3⟩:=least hex
   refine⟨i0,qcJ i0 (fun i=>(i:Int)) (fun i hi kn=>?_) (fun kn=>?_) (by omega),⟨fun _=>⟨_,qdP a1,a2⟩,fun _=>by omega⟩⟩
   ·rw [hb _ i (by omega),zL (fun h=>by have:=a3 i ⟨by omega,h⟩;omega)];rfl
   ·rw [hb _ i0 a1,zJ a2]
  ·refine⟨-1,qcK (n:=ls.length) (by omega) (fun i hi kn=>?_) (fun kn=>?_) (by omega),⟨fun h=>by omega,fun ⟨l,hl,h⟩=>?_⟩⟩
   ·rw [hb _ i hi,zL (fun h=>hex ⟨i,hi,h⟩)]
   ·simp only [qX,qbb,cond_false,qaM]
   ·obtain⟨i,hi,rfl⟩:=qds (z:=([]:List Row)) hl
    exact absurd ⟨i,hi,h⟩ hex
 obtain⟨i,h1,h2⟩:=hix
 simp only [qeh,qnZ,qG,qaB,h1,Option.bind_some]
 exact congrArg (fun x=>some (x,())) (qnm (by rw [zQ,zQ];exact h2))
theorem qBY{N:Nat}(hN:1000<=N)(a b:List Row)(n m:Int):∃ (out:List Row) (c:Int),qdg N (a,b,n,m,())=some (out,c,()) /\
  ((c=0/\out.length<=128/\a.length<=128/\b.length<=128/\IsBag (fun e=>n*amt a e+m*amt b e) out)\/(c=1/\out = []/\(128<a.length\/128<b.length\/∃ l,IsBag (fun e=>n*amt a e+m*amt b e) l/\128<l.length))):=by
 have hL:=qCL (N:=N) (ls:=[a,b]) (by simp;omega) (by simp)
 simp only [qdg,qnY,hL,Option.bind_some]
 by_cases q:∃ l ∈ [a,b],128<l.length
 ·rw [qY q]
  refine⟨[],1,rfl,.inr ⟨rfl,rfl,?_⟩⟩
  obtain⟨l,hl,h⟩:=q
  simp only [zi,List.not_mem_nil,or_false] at hl
  rcases hl with rfl | rfl
  ·exact .inl h
  ·exact .inr (.inl h)
 ·have ha:a.length<=128:=zBC fun h=>q ⟨a,by simp,h⟩
  have hb:b.length<=128:=zBC fun h=>q ⟨b,by simp,h⟩
  obtain⟨d1,e1,p1,l1⟩:=qqz (N:=N) BOk.empty a n (by omega) (by omega)
  obtain⟨d2,e2,p2,l2⟩:=qqz (N:=N) p1 b m (by omega) (by omega)
  simp only [List.length_nil] at l1
  obtain⟨out,c,e3,p3⟩:=qCI (N:=N) p2 (by omega) (by omega)
  have hcg:∀ e:Key,0+n*amt a e+m*amt b e=n*amt a e+m*amt b e:=fun e=>by omega
  rw [qah q,cond_false,e1,Option.bind_some,e2,Option.bind_some,e3]
  refine⟨out,c,rfl,?_⟩
  rcases p3 with⟨c0,h1,h2⟩ | ⟨c1,h1,l,h2,h3⟩
  ·exact .inl ⟨c0,h1,ha,hb,h2.cg fun e=>.of_eq (hcg e)⟩
  ·exact .inr ⟨c1,h1,.inr (.inr ⟨l,h2.cg fun e=>.of_eq (hcg e),h3⟩)⟩
abbrev rS:Sh:=.pair (.int .i64) (.pair (.int .i64) (.int .i64))
theorem qBr{N:Nat}{a b:List Row}(hN:a.length<N)(hl:a.length<=4611686018427387904 - 1):qbJ N (a,b,())=some (decide (a=b),()):=by
 simp only [qbJ,qkm,joinD,loopE]
 by_cases hab:a.length=b.length
 case neg=>
  rw [show (((a.length:Nat):Int) != ((b.length:Nat):Int))=true from bne_iff_ne.2 (by omega),cond_true,qah fun h=>hab (by rw [h])]
 rw [show (((a.length:Nat):Int) != ((b.length:Nat):Int))=false by rw [hab];exact bne_self_eq_false _,cond_false]
 have heta:∀ x:Row,(x.1,x.2.1,x.2.2)=x:=fun _=>rfl
 have hb:∀ (K:Unit->_) (i:Nat),i<a.length->∀ kn,qeT N K a b (i:Int) (backE (a,b) kn)=if nth (0,0,0) a i=nth (0,0,0) b i then kn ((i:Int)+1) else some (false,()):=fun K i hi kn=>by
  simp only [qeT,lt_d hi,lt_d (show i<b.length by omega),ge0_d,Int.toNat_natCast,Bool.and_self,cond_true,heta,ix1 hi (by omega),qaq]
  by_cases q:nth ((0:Int),(0:Int),(0:Int)) a i=nth (0,0,0) b i
  ·rw [zJ q,show eqD rS (nth (0,0,0) a i) (nth (0,0,0) b i)=true from (qAI (k:=rS) rfl).2 q];rfl
  ·rw [zL q,show eqD rS (nth (0,0,0) a i) (nth (0,0,0) b i)=false from qAH (k:=rS) rfl q];rfl
 by_cases q:a=b
 ·rw [qY q]
  refine qcK (n:=a.length) (by omega) (fun i hi kn=>by rw [hb _ i hi,zJ (by rw [q])]) (fun kn=>?_) (by omega)
  simp only [qeT,qbb,cond_false,qkn]
 ·rw [qah q]
  have hex:∃ i,i<a.length/\¬ nth ((0:Int),(0:Int),(0:Int)) a i=nth (0,0,0) b i:=Classical.byContradiction fun hno=>q (List.ext_getElem hab fun i h1 h2=>by
   rw [<- qfj (z:=((0:Int),(0:Int),(0:Int))) h1,<- qfj (z:=((0:Int),(0:Int),(0:Int))) h2]
   exact Classical.byContradiction fun h=>hno ⟨i,h1,h⟩)
  exact qju (n:=a.length) (by omega) (fun i=>¬ nth ((0:Int),(0:Int),(0:Int)) a i=nth (0,0,0) b i) (fun i hi hx kn=>by rw [hb _ i hi,zL hx]) (fun i hi hx kn=>by rw [hb _ i hi,zJ (Decidable.not_not.1 hx)]) (by omega) hex
theorem same_eq{N:Nat}{a b:List Row}(hN:a.length<N)(hl:a.length<=4611686018427387904 - 1)(e x:Int):qdW N (a,e,b,x,())=some (decide (e=x/\a=b),()):=by
 simp only [qdW,qpJ,qBr hN hl,Option.bind_some]
 by_cases h:e=x
 ·rw [show (e==x)=true from beq_iff_eq.2 h,cond_true]
  exact congrArg (fun x=>some (x,())) (qnm (by simp [h]))
 ·rw [show (e==x)=false from zO h,cond_false]
  exact congrArg (fun x=>some (x,())) (qnm (by simp [h]))
theorem qyq{N:Nat}(hN:1000<=N)(a b:List Row)(n m:Int):∃ (out:List Row) (c:Int),qdg N (a,b,n,m,())=some (out,c,())/\Tld (fun e=>n*amt a e+m*amt b e) (128<a.length\/128<b.length) out c:=by
 obtain⟨out,c,h1,h2⟩:=qBY hN a b n m
 refine⟨out,c,h1,?_⟩
 rcases h2 with⟨c0,p1,p2,p3,p4⟩ | ⟨c1,p1,p2⟩
 ·exact .inl ⟨c0,p1,by omega,p4⟩
 ·refine .inr ⟨c1,p1,?_⟩
  rcases p2 with p2 | p2 | p2
  ·exact .inl (.inl p2)
  ·exact .inl (.inr p2)
  ·exact .inr p2
theorem qEh{N:Nat}(hN:1000<=N)(a b:List Row):∃ (out:List Row) (c:Int),qeR N (a,b,())=some (out,c,())/\Tld (fun e=>1*amt a e+1*amt b e) (128<a.length\/128<b.length) out c:=by
 obtain⟨out,c,h1,h2⟩:=qyq hN a b 1 1
 exact⟨out,c,by simp only [qeR,qqu,h1,Option.bind_some],h2⟩
end Go.Proofs.YtnhjpicdijeagaaDoor

namespace Go.Proofs.YtnhjpicdijeagaaDoor
open Go.Abs Go.RowKit Go.Shelf
attribute [local go_sem] Oper.semAt_some
abbrev Rw:=Int×Int×Int
def hdn:List Rw->Nat
 | []=>0
 | r :: l=>(l.takeWhile fun s=>s.1==r.1).length+1
theorem qEx:(l:List Rw)->hdn l<=l.length
 | []=>Nat.le_refl _
 | r :: l=>by
  have:=(List.takeWhile_sublist (l:=l) fun s:Rw=>s.1==r.1).length_le
  simp only [hdn,List.length_cons]
  omega
def grpF:Nat->List Rw->List (List Rw)
 | 0,_=>[]
 | _+1,[]=>[]
 | n+1,r :: l=>(r :: l).take (hdn (r :: l)) :: grpF n ((r :: l).drop (hdn (r :: l)))
def grp(l:List Rw):List (List Rw):=grpF l.length l
theorem qpP:(n:Nat)->(l:List Rw)->l.length<=n->grpF n l=grp l
 | 0,l,h=>by
  have:l = []:=zY (by omega)
  subst this;rfl
 | n+1,[],_=>rfl
 | n+1,r :: l,h=>by
  have h1:((r :: l).drop (hdn (r :: l))).length<=l.length:=by
   rw [zAI]
   simp only [List.length_cons,hdn]
   omega
  simp only [List.length_cons] at h
  unfold grp
  simp only [List.length_cons,grpF]
  rw [qpP n _ (by omega),qpP l.length _ h1]
theorem qDJ:grp [] = []:=rfl
theorem qoG(r:Rw)(l:List Rw):grp (r :: l)=(r :: l).take (hdn (r :: l)) :: grp ((r :: l).drop (hdn (r :: l))):=by
 have h1:((r :: l).drop (hdn (r :: l))).length<=l.length:=by
  rw [zAI]
  simp only [List.length_cons,hdn]
  omega
 unfold grp
 simp only [List.length_cons,grpF]
 rw [qpP l.length _ h1]
 rfl
theorem qAn{l:List Rw}(h:l ≠ []):0<hdn l:=by
 cases l with
 | nil=>exact absurd rfl h
 | cons r l=>simp only [hdn];omega
def kyAt(l:List Rw)(i:Nat):Int:=(nth ((0:Int),(0:Int),(0:Int)) l i).1
theorem qlJ(l:List Rw)(n i:Nat):kyAt (l.drop n) i=kyAt l (n+i):=by
 unfold kyAt nth
 rw [zK,zK,zAB]
theorem tw_in:(l:List Rw)->(k:Int)->(i:Nat)->i<(l.takeWhile fun s=>s.1==k).length->kyAt l i=k
 | [],_,_,h=>by simp at h
 | r :: l,k,i,h=>by
  by_cases q:r.1=k
  ·rw [zBS (by simp [q])] at h
   cases i with
   | zero=>exact q
   | succ i=>exact tw_in l k i (by simpa using h)
  ·rw [zBT (by simp [q])] at h;simp at h
theorem qCO:(l:List Rw)->(k:Int)->(l.takeWhile fun s=>s.1==k).length<l.length->kyAt l (l.takeWhile fun s=>s.1==k).length≠k
 | [],_,h=>by simp at h
 | r :: l,k,h=>by
  by_cases q:r.1=k
  ·rw [zBS (by simp [q])] at h ⊢
   exact qCO l k (by simpa using h)
  ·rw [zBT (by simp [q])]
   exact q
theorem qEy{l:List Rw}{i:Nat}(h:i<hdn l):kyAt l i=kyAt l 0:=by
 cases l with
 | nil=>simp [hdn] at h
 | cons r l=>
  cases i with
  | zero=>rfl
  | succ i=>exact tw_in l r.1 i (by simp only [hdn] at h;omega)
theorem qDH{l:List Rw}(h:hdn l<l.length):kyAt l (hdn l)≠kyAt l 0:=by
 cases l with
 | nil=>simp [hdn] at h
 | cons r l=>exact qCO l r.1 (by simp only [hdn,List.length_cons] at h;omega)
theorem below_drewN(w:World)(k:Nat):Go.Abs.Below w.heap.size w (w.drewN k):=⟨rfl,⟨rfl,zBg _ _⟩,rfl,Nat.le_refl _,fun _ _=>rfl⟩
def natOf:Value->Nat
 | .int _ n=>n.toNat
 | _=>0
set_option maxRecDepth 100000 in
set_option maxHeartbeats 1500000 in
theorem qCh(n l b q cap:Nat)(xs:List Rw)(a:Option Addr)(ha:xs ≠ []->a=some ⟨b,q,none⟩)(hlen:xs.length<=cap)(hcap:cap<=maxI)(J:Nat->World->Prop)(Jx:World->Prop)
  (hJg:∀ i X Y,J i X->Go.Abs.Below X.heap.size X Y->J i Y) (hC:∀ i X,J i X->∀ j,j<xs.length->X.cell? ⟨b,q+j*3,none⟩=some (.int .i64 (kyAt xs j)))
  (hY:∀ i fr len X,(grp xs)[i]? = some ((xs.drop fr).take len)->fr+len<=xs.length->0<len->J i X ->
   YieldAt Fence.wide (n - 1) Tryd.prog l #[.slice (some ⟨b,q+fr*3,none⟩) len (cap - fr)] X fun e W'=>(e=.returned (.bool true)/\J (i+1) W')\/(e=.returned (.bool false)/\Jx W'))
  (W:World) (h0:J 0 W) :
  CallsIn Fence.wide n Tryd.prog 78 #[.slice a xs.length cap,.func (.yield l) #[] #[]] W fun e W'=>(∃ v,e=.returned v)/\(J (grp xs).length W'\/Jx W'):=by
 refine callsIn_of_wp Tryd.func78 rfl trivial ?_ rfl
 simp only [Tryd.ntmps78,List.size_toArray,List.length_cons,List.length_nil,Nat.reduceAdd,Nat.reduceSub,zBr,zBq,zCG,zBw,List.nil_append,List.cons_append]
 unfold maxI at hcap
 gi_wp2
 gi_loopw [4] (fun p wr=>∃ (fr i:Nat),p=.int .i64 (fr:Int)/\fr<=xs.length/\(grp xs).drop i=grp (xs.drop fr)/\i<=(grp xs).length/\J i wr)
  (fun p _=>xs.length - natOf p)
 case atStart=>exact⟨0,0,rfl,zAE _,rfl,zAE _,h0⟩
 case round=>
  obtain⟨fr,i,rfl,hfr,hg,hil,hJ⟩:=hrel
  by_cases hend:fr=xs.length
  ·subst hend
   have hlt:((xs.length:Int)<(xs.length:Int))=False:=by simp
   gi_wp2
   go_end0
   rw [List.drop_length,qDJ] at hg
   have hi:i=(grp xs).length:=by
    have:=congrArg List.length hg
    simp at this;omega
   subst hi
   exact⟨⟨_,rfl⟩,.inl hJ⟩
  ·have hlt:(fr:Int)<(xs.length:Int):=by omega
   have hne:xs.drop fr ≠ []:=fun e=>by have:=congrArg List.length e;simp at this;omega
   have hp:=qAn hne
   have hle:=qEx (xs.drop fr)
   rw [zAI] at hle
   have hxne:xs ≠ []:=fun e=>by subst e;simp at hne
   obtain rfl:=ha hxne
   gi_wp2
   gi_loopw [5] (fun p wr=>∃ to:Nat,p=.int .i64 (to:Int)/\fr<=to/\to<=fr+hdn (xs.drop fr)/\J i wr) (fun p _=>xs.length - natOf p)
   case atStart=>exact⟨fr,rfl,Nat.le_refl _,zBg _ _,hJ⟩
   case round=>
    obtain⟨to,rfl,h1,h2,hJ2⟩:=hrel
    have c2:=hC i _ hJ2 fr (by omega)
    by_cases hto:to<fr+hdn (xs.drop fr)
    ·have hk:kyAt xs to=kyAt xs fr:=by
      have e1:=qEy (l:=xs.drop fr) (i:=to - fr) (by omega)
      rw [qlJ,qlJ,Nat.add_zero] at e1
      rw [<- e1];congr 1;omega
     have c1:=hC i _ hJ2 to (by omega)
     rw [hk] at c1
     have hlt2:(to:Int)<(xs.length:Int):=by omega
     gi_wp2
     gi_region
     gi_wp2
     go_roundw
     case rel=>exact⟨to+1,by simp,by omega,by omega,hJg _ _ _ hJ2 ((Go.Abs.Below.refl _ wr).drew)⟩
     case measure=>
      simp only [natOf]
      omega
    ·have hge:=zBC hto
     have hget:(grp xs)[i]? = some ((xs.drop fr).take (to - fr)):=by
      have e0:to - fr=hdn (xs.drop fr):=by omega
      rw [e0]
      generalize xs.drop fr=ys at hg hne
      cases ys with
      | nil=>exact absurd rfl hne
      | cons r rest=>
       rw [qoG] at hg
       have:=congrArg (fun l=>l[0]?) hg
       simpa using this
     have hnext:(grp xs).drop (i+1)=grp (xs.drop to):=by
      have e0:xs.drop to=(xs.drop fr).drop (hdn (xs.drop fr)):=by rw [zBs];congr 1;omega
      rw [e0]
      generalize xs.drop fr=ys at hg hne
      cases ys with
      | nil=>exact absurd rfl hne
      | cons r rest=>
       rw [qoG] at hg
       have:=congrArg List.tail hg
       simpa using this
     have hil2:i+1<=(grp xs).length:=(zS.1 hget).1
     by_cases hlen2:to<xs.length
     ·have c1:=hC i _ hJ2 to hlen2
      have hk:kyAt xs to≠kyAt xs fr:=by
       have e1:=qDH (l:=xs.drop fr) (by rw [zAI];omega)
       rw [qlJ,qlJ,Nat.add_zero] at e1
       rw [show to=fr+hdn (xs.drop fr) from by omega];exact e1
      have hkb:(kyAt xs to==kyAt xs fr)=false:=zO hk
      have hlt2:(to:Int)<(xs.length:Int):=by omega
      obtain⟨fn,tmps,assign,body,hy,hR⟩:=hY i fr (to - fr) wr.drew hget (by omega) (by omega) (hJg _ _ _ hJ2 ((Go.Abs.Below.refl _ wr).drew))
      gi_wp2
      gi_region
      gi_wp2_with gi_in
      refine⟨fun h=>(by cases h),hR.mono ?_⟩
      rintro e W3 (⟨rfl,hJ3⟩ | ⟨rfl,hJ3⟩)
      ·gi_wp2
       go_roundw
       case rel=>exact⟨to,i+1,rfl,by omega,hnext,hil2,hJ3⟩
       case measure=>
        simp only [natOf]
        omega
      ·gi_wp2
       refine bodyPost_ret (results_none rfl _ _ _) rfl ?_
       exact⟨⟨_,rfl⟩,.inr hJ3⟩
     ·have hlt2:decide ((to:Int)<(xs.length:Int))=false:=zAi (by omega)
      gi_wp2
      gi_quiet (fail)
      obtain⟨fn,tmps,assign,body,hy,hR⟩:=hY i fr (to - fr) (wr.drewN nq) hget (by omega) (by omega) (hJg _ _ (wr.drewN nq) hJ2 (below_drewN _ _))
      gi_wp2_with gi_in
      refine⟨fun h=>(by cases h),hR.mono ?_⟩
      rintro e W3 (⟨rfl,hJ3⟩ | ⟨rfl,hJ3⟩)
      ·gi_wp2
       go_roundw
       case rel=>exact⟨to,i+1,rfl,by omega,hnext,hil2,hJ3⟩
       case measure=>
        simp only [natOf]
        omega
      ·gi_wp2
       refine bodyPost_ret (results_none rfl _ _ _) rfl ?_
       exact⟨⟨_,rfl⟩,.inr hJ3⟩
theorem qyd{r:Option Nat}{n n':Nat}{P:Program}{l:Nat}{args:Array Value}{X:World}{R:Ending->World->Prop}(h:YieldAt (WF r) n P l args X R):YieldAt Fence.wide n' P l args X R:=by
 obtain⟨fn,tmps,c,d,hr,h1,h2⟩:=h
 exact⟨fn,tmps,c,d,hr,h1,fun c cs _=>h2 c cs (room_wide _)⟩
def qsW(x:List Rw):List (List Rw):=grp x
abbrev rwS:Sh:=.pair (.int .i64) (.pair (.int .i64) (.int .i64))
theorem qEm{w:World}{M:Nat->Prop}{x:Rw}{cs:List Value}(h:RC w M rwS x cs):cs[0]? = some (.int .i64 x.1):=by
 simp only [RC] at h
 obtain⟨c,d,rfl,rfl,-⟩:=h
 rfl
theorem qBE:qDc Tryd.prog 77 (.sl (.pair (.int .i64) (.pair (.int .i64) (.int .i64)))) (.sl (.pair (.int .i64) (.pair (.int .i64) (.int .i64)))) qsW:=by
 intro M M' w x b0 q0 cs hMM hlt hc hrc r n l J Jx W hW hl hl' h0 hg hgx hp hy
 simp only [RC] at hrc
 obtain⟨a,cap,rfl,hlen,hcap,hrow⟩:=hrc
 have hcell:W.cell? ⟨b0,q0,none⟩=some (.slice a x.length cap):=by
  have h1:=(hc 0 _ rfl).1
  rw [Nat.add_zero] at h1
  rw [<- h1]
  refine World.cell?_of_block (w:=w) (hW.block b0 ?_)
  obtain⟨o,ho,-⟩:=cells_of_cell h1
  exact (zI.1 ho).1
 obtain⟨b,q,hab⟩:∃ b q,x ≠ []->a=some ⟨b,q,none⟩/\b<w.heap.size/\¬ M' b/\RowAt (RC w M' rwS) rwS.n w b q x:=by
  by_cases hx:x = []
  ·exact⟨0,0,fun h=>absurd hx h⟩
  ·obtain⟨b,q,h⟩:=hrow hx
   exact⟨b,q,fun _=>h⟩
 have hWW:=h0 W (Go.Abs.Below.refl _ _)
 have hkeep:∀ i X,J W i X->∀ c,c<w.heap.size->¬ M' c->X.heap[c]? = w.heap[c]?:=fun i X hJ c hc1 hc2=>by
  have h1:=(hp W i X hJ).2 c (zM hc1 hW.size) (by omega) fun hm=>hc2 (hMM c hm)
  rw [h1,hW.block c hc1]
 have key:=qCh (n - 1) l b q cap x a (fun h=>(hab h).1) hlen hcap (fun i X=>J W i X) (fun X=>Jx W X) (hg W) (fun i X hJ j hj=>by
   have hne:x ≠ []:=fun e=>by subst e;simp at hj
   obtain⟨-,h1,h2,h3⟩:=hab hne
   obtain⟨c,h4,h5⟩:=h3 j (nth (0,0,0) x j) (by simp [nth,hj])
   have h6:=(h4 0 _ (qEm h5)).1
   rw [Nat.add_zero] at h6
   exact (World.cell?_of_block (w:=w) (hkeep i X hJ b h1 h2)).trans h6) (fun i fr len X hi hfl hlen0 hJ=>by
   have hne:x ≠ []:=fun e=>by subst e;simp at hfl;omega
   obtain⟨-,h1,h2,h3⟩:=hab hne
   refine qyd (hy W i _ #[.slice (some ⟨b,q+fr*3,none⟩) len (cap - fr)] X X hi hJ (Go.Abs.Below.refl _ _) ?_)
   simp only [RVs]
   refine⟨_,_,rfl,?_,rfl⟩
   simp only [Go.Abs.enc,RV,RC]
   have hl2:((x.drop fr).take len).length=len:=by rw [zAN,zAI];omega
   refine⟨_,cap - fr,by rw [hl2],by omega,by omega,fun _=>⟨b,q+fr*3,rfl,?_,?_,?_⟩⟩
   ·have:=(hp W i X hJ).1
    have:=hW.size
    omega
   ·rintro⟨-,h | h | h⟩
    ·have:=hW.size;omega
    ·exact h2 h
    ·omega
   ·intro j y hj
    rw [zt] at hj
    split at hj
    ·rw [zAB] at hj
     obtain⟨c,h4,h5⟩:=h3 (fr+j) y hj
     have kp:Keeps w M' X (fun b=>b<X.heap.size/\(W.heap.size<=b\/M' b\/b=l)):=⟨zn hW.size (hp W i X hJ).1,fun c hc1 hc2=>hkeep i X hJ c hc1 hc2,fun c hc1 hc2=>by
      rintro⟨-,h | h | h⟩
      ·have:=hW.size;omega
      ·exact hc2 h
      ·omega⟩
     refine⟨c,?_,RC.keeps kp h5⟩
     have h7:=kp.cells h1 h2 h4
     rwa [zBd,<- zAF] at h7
    ·cases hj) W hWW
 have hin:CallsIn Fence.wide n Tryd.prog 77 #[.func (.yield l) #[] #[],.pointer (some ⟨b0,q0,none⟩)] W fun e W'=>(∃ v,e=.returned v)/\(J W (grp x).length W'\/Jx W W'):=by
  refine callsIn_of_wp Tryd.func77 rfl trivial ?_ rfl
  simp only [Tryd.ntmps77,List.size_toArray,List.length_cons,List.length_nil,Nat.reduceAdd,Nat.reduceSub,zBr,zBq,zCG,zBw,List.nil_append,List.cons_append]
  gi_wp2
  refine⟨trivial,fun h=>(by cases h),key.mono ?_⟩
  rintro e w' ⟨⟨v,rfl⟩,hJ⟩
  gi_wp2
  go_end0
  exact⟨⟨_,rfl⟩,hJ⟩
 exact CallsIn.mono (F:=WF r) hin fun e W' h=>⟨h.1,W,h.2⟩
theorem qCx:IEntOk Tryd.prog Gs (mkIp 77 (.sl (.pair (.int .i64) (.pair (.int .i64) (.int .i64)))) (.sl (.pair (.int .i64) (.pair (.int .i64) (.int .i64)))) qsW):=entIp ⟨Tryd.f77,ql Tryd.f77,by kernel_rfl,by kernel_rfl,rfl⟩ qBE
end Go.Proofs.YtnhjpicdijeagaaDoor

namespace Go.Bag
open Go.Abs
def wsum(φ:Key->Int):List Row->Int
 | []=>0
 | r :: l=>φ (ky r)*r.2.2+wsum φ l
theorem qvK(φ:Key->Int)(a b:List Row):wsum φ (a++b)=wsum φ a+wsum φ b:=by
 induction a with
 | nil=>simp [wsum]
 | cons r a ih=>simp only [List.cons_append,wsum,ih];omega
theorem qBw(φ:Key->Int)(l:List Row):wsum φ (negR l) = -wsum φ l:=by
 induction l with
 | nil=>simp [negR,wsum]
 | cons r l ih=>
  have:ky (r.1,r.2.1,-r.2.2)=ky r:=rfl
  simp only [negR,List.map_cons,wsum,this] at ih ⊢
  rw [ih,Int.mul_neg];omega
theorem qvJ(φ:Key->Int)(l:List Row)(k:Key):wsum φ l=φ k*amt l k+wsum φ (l.filter fun r=>decide (ky r≠k)):=by
 induction l with
 | nil=>simp [amt,wsum]
 | cons r l ih=>
  by_cases h:ky r=k
  ·rw [zAQ (by simp [h])];simp only [amt,wsum,zBy];rw [zJ h,h];omega
  ·rw [zAK (by simp [h])];simp only [amt,wsum,zBy];rw [zL h,Int.mul_zero];omega
theorem qtN(φ:Key->Int):∀ n (l:List Row),l.length<=n->(∀ e,Cg (amt l e) 0)->Cg (wsum φ l) 0
 | 0,l,hl,_=>by
  have:l = []:=zY (by omega)
  subst this;exact Cg.rfl
 | n+1,[],_,_=>Cg.rfl
 | n+1,r :: l,hl,h=>by
  rw [qvJ φ (r :: l) (ky r)]
  have h1:=(Cg.rfl (a:=φ (ky r))).mul (h (ky r))
  have h2:Cg (wsum φ ((r :: l).filter fun s=>decide (ky s≠ky r))) 0:=by
   refine qtN φ n _ ?_ fun e=>?_
   ·rw [zAQ (by simp)]
    have:=zAP (fun s=>decide (ky s≠ky r)) l
    simp only [List.length_cons] at hl
    omega
   ·rw [qfD]
    by_cases he:e=ky r
    ·rw [zJ he];exact Cg.rfl
    ·rw [zL he];exact h e
  simpa using h1.add h2
theorem qDe(φ:Key->Int){a b:List Row}(h:∀ e,Cg (amt a e) (amt b e)):Cg (wsum φ a) (wsum φ b):=by
 have h1:=qtN φ _ (a++negR b) (Nat.le_refl _) fun e=>by
  rw [qbi,qEf]
  have:=(h e).add (Cg.rfl (a:=-amt b e))
  rwa [Int.add_right_neg] at this
 rw [qvK,qBw] at h1
 have h2:=h1.add (Cg.rfl (a:=wsum φ b))
 rw [zBG,show wsum φ a + -wsum φ b+wsum φ b=wsum φ a by omega] at h2
 exact h2
def rowF(k A B:Int)(r:Row):Option Row:=
 if k=1 then some (w (r.1+A),w (r.2.1+B),r.2.2)
 else if k=2 then some (r.2.1,r.1,r.2.2)
 else if k=3 then (if iand .i64 r.1 A=B then some r else none)
 else some (r.1,r.2.1,w (0 - r.2.2))
def gk(k A B:Int)(d:Key):Option Key:=
 if k=1 then some (w (d.1+A),w (d.2+B))
 else if k=2 then some (d.2,d.1)
 else if k=3 then (if iand .i64 d.1 A=B then some d else none)
 else some d
def sg(k:Int):Int:=if k=1 then 1 else if k=2 then 1 else if k=3 then 1 else -1
def amtO(o:Option Row)(e:Key):Int:=match o with | some r=>if ky r=e then r.2.2 else 0 | none=>0
theorem qmm(f:Row->Option Row)(r:Row)(l:List Row)(e:Key):amt ((r :: l).filterMap f) e=amtO (f r) e+amt (l.filterMap f) e:=by
 cases q:f r with
 | none=>rw [zBb q];simp [amtO]
 | some s=>rw [zBa q];rfl
theorem qCH(k A B:Int)(r:Row)(e:Key):Cg (amtO (rowF k A B r) e) ((if gk k A B (ky r)=some e then sg k else 0)*r.2.2):=by
 unfold rowF gk sg amtO
 by_cases h1:k=1
 ·simp only [zJ h1]
  by_cases q:(w (r.1+A),w (r.2.1+B))=e
  ·rw [zJ (by simp [ky,q]),zJ (show some (w ((ky r).1+A),w ((ky r).2+B))=some e by rw [<- q];rfl),zCS];exact Cg.rfl
  ·rw [zL (by simpa [ky] using q),zL (show ¬ some (w ((ky r).1+A),w ((ky r).2+B))=some e from fun h=>q (zAj h)),zBm];exact Cg.rfl
 by_cases h2:k=2
 ·simp only [zL h1,zJ h2]
  by_cases q:(r.2.1,r.1)=e
  ·rw [zJ (by simp [ky,q]),zJ (show some ((ky r).2,(ky r).1)=some e by rw [<- q];rfl),zCS];exact Cg.rfl
  ·rw [zL (by simpa [ky] using q),zL (show ¬ some ((ky r).2,(ky r).1)=some e from fun h=>q (zAj h)),zBm];exact Cg.rfl
 by_cases h3:k=3
 ·simp only [zL h1,zL h2,zJ h3]
  have hk:(ky r).1=r.1:=rfl
  rw [hk]
  by_cases q:iand .i64 r.1 A=B
  ·rw [zJ q,zJ q]
   by_cases q2:ky r=e
   ·simp only [zJ q2,zJ (congrArg some q2),zCS];exact Cg.rfl
   ·simp only [zL q2,zL (fun h=>q2 (zAj h)),zBm];exact Cg.rfl
  ·rw [zL q,zL q]
   simp only [zL (show ¬ (none:Option Key)=some e by simp),zBm];exact Cg.rfl
 ·simp only [zL h1,zL h2,zL h3]
  have hk:ky (r.1,r.2.1,w (0 - r.2.2))=ky r:=rfl
  rw [hk]
  by_cases q2:ky r=e
  ·simp only [zJ q2,zJ (congrArg some q2)]
   exact (cg_w _).trans (.of_eq (by omega))
  ·simp only [zL q2,zL (fun h=>q2 (zAj h)),zBm];exact Cg.rfl
theorem qBp(k A B:Int)(l:List Row)(e:Key):Cg (amt (l.filterMap (rowF k A B)) e) (wsum (fun d=>if gk k A B d=some e then sg k else 0) l):=by
 induction l with
 | nil=>exact Cg.rfl
 | cons r l ih=>
  rw [qmm]
  simp only [wsum]
  exact (qCH k A B r e).add ih
theorem qEt(k A B:Int){a b:List Row}(h:∀ e,Cg (amt a e) (amt b e))(e:Key):Cg (amt (a.filterMap (rowF k A B)) e) (amt (b.filterMap (rowF k A B)) e):=
 (qBp k A B a e).trans ((qDe _ h).trans (qBp k A B b e).symm)
end Go.Bag

namespace Go.Proofs.YtnhjpicdijeagaaDoor
open Go.Abs Go.Bag
abbrev gkey(xs:List Row):Int:=kyAt xs 0
theorem qBx(l:List Row)(k:Int)(hs:l.Pairwise fun a b=>a.1<=b.1)(hk:∀ x∈l,k<=x.1):(l.takeWhile fun s=>s.1==k)=l.filter (fun r=>decide (r.1=k))/\∀ x∈l.dropWhile (fun s=>s.1==k),k<x.1:=by
 induction l with
 | nil=>exact⟨rfl,fun x hx=>(by cases hx)⟩
 | cons y l ih=>
  obtain⟨h1,h2⟩:=zAA.1 hs
  obtain⟨i1,i2⟩:=ih h2 fun x hx=>hk x (by simp [hx])
  by_cases q:y.1=k
  ·rw [zBS (by simp [q]),zAK (by simp [q]),List.dropWhile_cons_of_pos (by simp [q]),i1]
   exact⟨rfl,i2⟩
  ·have hky:=hk y (by simp)
   rw [zBT (by simp [q]),zAQ (by simp [q]),List.dropWhile_cons_of_neg (by simp [q])]
   refine⟨(zAV.2 fun x hx=>?_).symm,fun x hx=>?_⟩
   ·have:=h1 x hx;simp;omega
   ·rcases zi.1 hx with rfl | hx
    ·omega
    ·have:=h1 x hx;omega
theorem qEp{l:List Row}(h:l.Pairwise rlt):l.Pairwise fun a b=>a.1<=b.1:=h.imp fun {a b} h=>by unfold rlt at h;omega
theorem qDi(l:List Row)(p:Row->Bool):l.take (l.takeWhile p).length=l.takeWhile p/\l.drop (l.takeWhile p).length=l.dropWhile p:=by
 have e:=zBM (p:=p) (l:=l)
 constructor
 ·conv=>lhs;rw [<- e]
  rw [zBM]
  conv=>lhs;arg 2;rw [<- e]
  exact List.take_left' rfl
 ·conv=>lhs;arg 2;rw [<- e]
  exact List.drop_left' rfl
theorem qAp:∀ (n:Nat) (t:List Row),t.length<=n->t.Pairwise (fun a b=>a.1<=b.1) ->
  (∀ xs∈grp t,xs ≠ []/\xs=t.filter (fun r=>decide (r.1=gkey xs)))/\(grp t).Pairwise (fun xs ys=>gkey xs<gkey ys)/\∀ r∈t,∃ xs∈grp t,gkey xs=r.1:=by
 intro n
 induction n with
 | zero=>
  intro t hl _
  have:t = []:=zY (by omega)
  subst this
  exact⟨fun xs hx=>(by cases hx),.nil,fun r hr=>(by cases hr)⟩
 | succ n ih=>
  intro t hl hs
  cases t with
  | nil=>exact⟨fun xs hx=>(by cases hx),.nil,fun r hr=>(by cases hr)⟩
  | cons r l=>
   obtain⟨h1,h2⟩:=zAA.1 hs
   obtain⟨p1,p2⟩:=qBx l r.1 h2 h1
   obtain⟨t1,t2⟩:=qDi l fun s=>s.1==r.1
   have hfirst:(r :: l).take (hdn (r :: l))=(r :: l).filter (fun x=>decide (x.1=r.1)):=by
    show r :: l.take _=_
    rw [t1,p1,zAK (by simp)]
   have hrest:(r :: l).drop (hdn (r :: l))=l.dropWhile fun s=>s.1==r.1:=t2
   rw [qoG,hfirst,hrest]
   have hsub:(l.dropWhile fun s=>s.1==r.1).Sublist l:=List.dropWhile_sublist _
   obtain⟨i1,i2,i3⟩:=ih (l.dropWhile fun s=>s.1==r.1) (by have:=hsub.length_le;simp only [List.length_cons] at hl;omega) (h2.sublist hsub)
   have hk0:gkey ((r :: l).filter (fun x=>decide (x.1=r.1)))=r.1:=by
    rw [zAK (by simp)];rfl
   have hmem:∀ ys:List Row,ys ≠ []->∃ y∈ys,y.1=gkey ys:=fun ys hy=>by
    cases ys with
    | nil=>exact absurd rfl hy
    | cons y ys=>exact⟨y,by simp,rfl⟩
   have hgt:∀ xs∈grp (l.dropWhile fun s=>s.1==r.1),r.1<gkey xs:=fun xs hx=>by
    obtain⟨q1,q2⟩:=i1 xs hx
    obtain⟨y,y1,y2⟩:=hmem xs q1
    rw [q2] at y1
    rw [<- y2]
    exact p2 y (zc.1 y1).1
   have hdw:∀ k,k≠r.1->(l.dropWhile fun s=>s.1==r.1).filter (fun x=>decide (x.1=k))=(r :: l).filter (fun x=>decide (x.1=k)):=fun k hk=>by
    rw [zAQ (by simp;exact fun e=>hk e.symm)]
    conv=>rhs;rw [<- zBM (p:=fun s:Row=>s.1==r.1) (l:=l)]
    rw [zAL,p1,zCC]
    have:l.filter (fun x=>decide (x.1=k)&&decide (x.1=r.1)) = []:=zAV.2 fun x _=>by
     simp only [zA,zQ]
     rintro⟨e1,e2⟩
     exact hk (e1.symm.trans e2)
    rw [this,List.nil_append]
   refine⟨fun xs hx=>?_,zAA.2 ⟨fun xs hx=>by rw [hk0];exact hgt xs hx,i2⟩,fun x hx=>?_⟩
   ·rcases zi.1 hx with rfl | hx
    ·rw [hk0]
     exact⟨by rw [zAK (by simp)];simp,rfl⟩
    ·obtain⟨q1,q2⟩:=i1 xs hx
     refine⟨q1,?_⟩
     rw [<- hdw _ (by have:=hgt xs hx;omega)]
     exact q2
   ·by_cases q:x.1=r.1
    ·exact⟨_,zAH ..,by rw [hk0,q]⟩
    ·have hxl:x∈l.dropWhile fun s=>s.1==r.1:=by
      have:x∈(r :: l).filter (fun y=>decide (y.1=x.1)):=zc.2 ⟨hx,by simp⟩
      rw [<- hdw _ q] at this
      exact (zc.1 this).1
     obtain⟨xs,x1,x2⟩:=i3 x hxl
     exact⟨xs,zb _ x1,x2⟩
def vsum:List Row->Int
 | []=>0
 | r :: l=>r.2.1*r.2.2+vsum l
def hv(kind:Int)(xs:List Row):Option Int:=
 if kind=5 then some (w (vsum xs)) else if kind=6 then some (w (tot xs)) else if kind=8 then ((xs.find? fun r=>decide (r.2.2>0)).map fun r=>r.2.1) else some 0
def rowG(kind:Int)(xs:List Row):Option Row:=(hv kind xs).map fun v=>(gkey xs,v,1)
def oneR(r:Row):Row:=(r.1,r.2.1,1)
def outG(kind:Int)(t:List Row):List Row:=if kind=7 then (t.filter fun r=>decide (r.2.2>0)).map oneR else (grp t).filterMap (rowG kind)
end Go.Proofs.YtnhjpicdijeagaaDoor

namespace Go.Bag
open Go.Abs
def jrow(A B:Int)(r s:Row):Row:=(r.1,w (w (A*r.2.1)+w (B*s.2.1)),w (r.2.2*s.2.2))
def JL1(A B:Int)(b:List Row)(r:Row):List Row:=(b.filter fun s=>decide (s.1=r.1)).map (jrow A B r)
def JL(A B:Int)(a b:List Row):List Row:=a.flatMap (JL1 A B b)
theorem qEi(A B:Int)(b:List Row)(r:Row):(JL1 A B b r).length<=b.length:=by
 unfold JL1;rw [zAS];exact zAP _ _
theorem qEG(A B:Int)(a b:List Row):(JL A B a b).length<=a.length*b.length:=by
 unfold JL
 induction a with
 | nil=>simp
 | cons r a ih=>
  have:=qEi A B b r
  rw [List.flatMap_cons,zq,List.length_cons,zAM]
  omega
end Go.Bag
