import Derived.Test.YtnhjpicdijeagaaDoorJoinP
import Derived.Test.YtnhjpicdijeagaaDoorAbsOrd
noncomputable section
namespace Go.Proofs.YtnhjpicdijeagaaDoor
open Go.Abs
abbrev SA:Sh:=.pair (.int .i64) (.int .i64)
abbrev Sz:Sh:=.sl (.int .i64)
abbrev Sv:Sh:=.pair (.int .i64) (.pair (.int .i64) (.int .i64))
abbrev Yk:Type:=Int×(Int×Int)×Int
abbrev Yj:Type:=Int×List (Int×(Int×Int)×Int)
abbrev Yi:Type:=Int×Int×Int×Int×Int
abbrev Yh:Type:=Int×Int×Int
abbrev qhv:List Kd:=[.dat Sv]
abbrev qhq:List Kd:=[.dat (.int .i64)]
abbrev qoc:Type:=Dens qhq
def qwJ(_N:Nat):Ctx:={ T:=[(3,⟨.int .i64,1,8,some (.int .i64),[.int .i64 (0:Int)],false,[]⟩),(37,⟨.struct [(0,3),(1,2),(2,2)],3,24,some Sv,[.int .i64 (0:Int),.int .i64 (0:Int),.int .i64 (0:Int)],true,[]⟩)],G:=findE [],I:=findI [],N:=_N,n:=21,fx:=[],fl:=0,gs:=Gs }
def qpm(_N:Nat)(_x1:Int×Int×Int):Option qoc:=
 (bif (decide (_x1.1>=(1:Int))) then (bif (decide (_x1.1<=(8:Int))) then (some ((1:Int),())) else (bif (_x1.1==(9:Int)) then (some ((2:Int),())) else (bif (_x1.1==(10:Int)) then (some ((2:Int),())) else (some ((0:Int),()))))) else (bif (_x1.1==(9:Int)) then (some ((2:Int),())) else (bif (_x1.1==(10:Int)) then (some ((2:Int),())) else (some ((0:Int),())))))
def qdV(_N:Nat)(_x:Dens qhv):Option qoc:=qpm _N _x.1
theorem qtV(_N:Nat):SpecD Tryd.prog Gs 19 qhv qhq (qdV _N):=mkSpD (fn:=Tryd.f19) (c:=ql Tryd.f19) (C:=qwJ _N)
  (a:=.none)
  (by kernel_rfl) rfl (by kernel_rfl) (by kernel_rfl) ⟨rfl,by unfold TOk;kernel_rfl,qao rfl rfl (zC _),qan rfl rfl (zC _),rfl⟩ (fun _x=>by kernel_rfl)
theorem quZ(_N:Nat):EntOk Tryd.prog Gs (mkP 19 qhv qhq (qdV _N)):=entP ⟨Tryd.f19,ql Tryd.f19,by kernel_rfl,by kernel_rfl,rfl⟩ (by kernel_rfl) (qtV _N)
abbrev qmv:List Kd:=[.dat (.pair (.pair (.sl (.pair (.int .i64) (.pair (.int .i64) Sv))) (.sl Sv)) (.int .i64))]
abbrev qmt:List Kd:=[.dat SA]
abbrev qbI:Type:=Dens qmt
def qvF(_N:Nat):Ctx:={ T:=[(3,⟨.int .i64,1,8,some (.int .i64),[.int .i64 (0:Int)],false,[]⟩),(22,⟨.slice 39,1,24,some (.sl (.pair (.int .i64) (.pair (.int .i64) Sv))),[.nil],false,[]⟩),(25,⟨.struct [(0,22),(1,23)],2,48,some (.pair (.sl (.pair (.int .i64) (.pair (.int .i64) Sv))) (.sl Sv)),[.nil,.nil],false,[]⟩),(27,⟨.struct [(0,25),(2,3)],3,56,some (.pair (.pair (.sl (.pair (.int .i64) (.pair (.int .i64) Sv))) (.sl Sv)) (.int .i64)),[.nil,.nil,.int .i64 (0:Int)],false,[]⟩),(30,⟨.int .i64,1,8,some (.int .i64),[.int .i64 (0:Int)],false,[]⟩),(34,⟨.struct [(0,30),(1,3)],2,16,some SA,[.int .i64 (0:Int),.int .i64 (0:Int)],true,[]⟩),(37,⟨.struct [(0,3),(1,2),(2,2)],3,24,some Sv,[.int .i64 (0:Int),.int .i64 (0:Int),.int .i64 (0:Int)],true,[]⟩),(39,⟨.struct [(0,3),(1,3),(2,37)],5,40,some (.pair (.int .i64) (.pair (.int .i64) Sv)),[.int .i64 (0:Int),.int .i64 (0:Int),.int .i64 (0:Int),.int .i64 (0:Int),.int .i64 (0:Int)],true,[]⟩)],G:=findE [mkP 18 qfc qeZ (qdr _N),mkP 19 qhv qhq (qdV _N),mkP 20 qcM qcL (qaX _N)],I:=findI [],N:=_N,n:=51,fx:=[],fl:=0,gs:=Gs }
def qnI(_N:Nat)(_v28:Int):Option qbI:=
 (bif (decide (_v28<(0:Int))) then (some (((2:Int),(0:Int)),())) else (bif (decide (_v28>(8:Int))) then (some (((2:Int),(0:Int)),())) else (some (((0:Int),(0:Int)),()))))
def qnH(_N:Nat)(_kn33:((List Yi)×Int×(List Yi)×(List Yh)×Int×Int×Int)×Int->Option qbI)(_v14:List Yi)(_v15:Int)(_v16:Int)(_v17:List Yi)(_v18:List Yh)(_v19:Int)(_v20:Int)(_v21:Int):Option qbI:=
 (_kn33 ((_v14,_v15,_v17,_v18,_v19,_v20,_v21),(IntKind.i64.wrap (_v16+(1:Int)))))
def qgX(_N:Nat)(_k32:((List Yi)×(List Yh)×Int×Int×Int)->Option qbI)(_v2:List Yi)(_v3:Int)(_v5:List Yi)(_v6:List Yh)(_v7:Int)(_v8:Int)(_v9:Int)(_v4:Int)(_kn33:((List Yi)×Int×(List Yi)×(List Yh)×Int×Int×Int)×Int->Option qbI):Option qbI:=
 (bif (decide (_v4<_v3)) then (joinD (fun (_s:(List Yi)×Int×Int×(List Yi)×(List Yh)×Int×Int×Int)=>qnH _N _kn33 _s.1 _s.2.1 _s.2.2.1 _s.2.2.2.1 _s.2.2.2.2.1 _s.2.2.2.2.2.1 _s.2.2.2.2.2.2.1 _s.2.2.2.2.2.2.2) fun _k34=>(bif (decide (0<=_v4)&&decide (_v4<(_v2.length:Int))) then (bif (((nth ((0:Int),((0:Int),((0:Int),((0:Int),(0:Int))))) _v2 (_v4).toNat).1)==(2:Int)) then ((qdV _N (((((nth ((0:Int),((0:Int),((0:Int),((0:Int),(0:Int))))) _v2 (_v4).toNat).2).2).1,(((((nth ((0:Int),((0:Int),((0:Int),((0:Int),(0:Int))))) _v2 (_v4).toNat).2).2).2).1,((((nth ((0:Int),((0:Int),((0:Int),((0:Int),(0:Int))))) _v2 (_v4).toNat).2).2).2).2)),())).bind fun _y35=>((qaX _N (((nth ((0:Int),((0:Int),((0:Int),((0:Int),(0:Int))))) _v2 (_v4).toNat).1,(((nth ((0:Int),((0:Int),((0:Int),((0:Int),(0:Int))))) _v2 (_v4).toNat).2).1,((((nth ((0:Int),((0:Int),((0:Int),((0:Int),(0:Int))))) _v2 (_v4).toNat).2).2).1,(((((nth ((0:Int),((0:Int),((0:Int),((0:Int),(0:Int))))) _v2 (_v4).toNat).2).2).2).1,((((nth ((0:Int),((0:Int),((0:Int),((0:Int),(0:Int))))) _v2 (_v4).toNat).2).2).2).2)))),())).bind fun _y36=>(bif (_y35.1 != _y36.1) then (some (((17:Int),_v4),())) else (_k34 (_v2,_v3,_v4,_v5,_v6,_v7,_v8,_v9))))) else (bif (((nth ((0:Int),((0:Int),((0:Int),((0:Int),(0:Int))))) _v2 (_v4).toNat).1)==(3:Int)) then ((qdV _N (((((nth ((0:Int),((0:Int),((0:Int),((0:Int),(0:Int))))) _v2 (_v4).toNat).2).2).1,(((((nth ((0:Int),((0:Int),((0:Int),((0:Int),(0:Int))))) _v2 (_v4).toNat).2).2).2).1,((((nth ((0:Int),((0:Int),((0:Int),((0:Int),(0:Int))))) _v2 (_v4).toNat).2).2).2).2)),())).bind fun _y37=>((qaX _N (((nth ((0:Int),((0:Int),((0:Int),((0:Int),(0:Int))))) _v2 (_v4).toNat).1,(((nth ((0:Int),((0:Int),((0:Int),((0:Int),(0:Int))))) _v2 (_v4).toNat).2).1,((((nth ((0:Int),((0:Int),((0:Int),((0:Int),(0:Int))))) _v2 (_v4).toNat).2).2).1,(((((nth ((0:Int),((0:Int),((0:Int),((0:Int),(0:Int))))) _v2 (_v4).toNat).2).2).2).1,((((nth ((0:Int),((0:Int),((0:Int),((0:Int),(0:Int))))) _v2 (_v4).toNat).2).2).2).2)))),())).bind fun _y38=>(bif (_y37.1 != _y38.1) then (some (((17:Int),_v4),())) else (_k34 (_v2,_v3,_v4,_v5,_v6,_v7,_v8,_v9))))) else (_k34 (_v2,_v3,_v4,_v5,_v6,_v7,_v8,_v9)))) else none)) else (_k32 (_v5,_v6,_v7,_v8,_v9)))
def qnG(_N:Nat)(_x1:(List Yi×List Yh)×Int):Option qbI:=
 ((qdr _N ((_x1.1.1,_x1.1.2),())).bind fun _y31=>(bif (_y31.1.1 != (0:Int)) then (some ((_y31.1.1,_y31.1.2),())) else (joinD (fun (_s:(List Yi)×(List Yh)×Int×Int×Int)=>qnI _N _s.2.2.1) fun _k32=>(loopE (fun (_c:(List Yi)×Int×(List Yi)×(List Yh)×Int×Int×Int) (_s:Int) _kn=>qgX _N _k32 _c.1 _c.2.1 _c.2.2.1 _c.2.2.2.1 _c.2.2.2.2.1 _c.2.2.2.2.2.1 _c.2.2.2.2.2.2 _s _kn) _N (_x1.1.1,(_x1.1.1.length:Int),_x1.1.1,_x1.1.2,_x1.2,(0:Int),(0:Int)) (0:Int)))))
def qjO(_N:Nat)(_x:Dens qmv):Option qbI:=qnG _N _x.1
theorem qsn(_N:Nat):SpecD Tryd.prog Gs 7 qmv qmt (qjO _N):=mkSpD (fn:=Tryd.f7) (c:=ql Tryd.f7) (C:=qvF _N)
  (a:=.two .none (.two .none (.join 3 ⟨[(1,.ptr 0 0),(2,.ptr 1 0)],[.cells [.sl (.pair (.int .i64) (.pair (.int .i64) Sv)),.sl Sv,.int .i64],.cells [.int .i64,.int .i64],.none]⟩ (.two .none (.one (.loop 3 ⟨[(1,.ptr 0 0),(2,.ptr 1 0),(15,.sl (.pair (.int .i64) (.pair (.int .i64) Sv))),(16,.int .i64),(17,.int .i64)],[.cells [.sl (.pair (.int .i64) (.pair (.int .i64) Sv)),.sl Sv,.int .i64],.cells [.int .i64,.int .i64],.none]⟩ [2] (.two .none (.two .none (.join 4 ⟨[(1,.ptr 0 0),(2,.ptr 1 0),(15,.sl (.pair (.int .i64) (.pair (.int .i64) Sv))),(16,.int .i64),(17,.int .i64)],[.cells [.sl (.pair (.int .i64) (.pair (.int .i64) Sv)),.sl Sv,.int .i64],.cells [.int .i64,.int .i64],.none,.none]⟩ (.one (.two .none (.two (.draw 0 [.pure,.rd [3],.pure,.pure,.pure,.rd [3],.pure,.pure,.pure,.pure,.rd [3],.pure,.rd [3],.pure,.pure,.pure]) .none))) .none)))))) .none)))
  (by kernel_rfl) rfl (by kernel_rfl) (by kernel_rfl) ⟨rfl,by unfold TOk;kernel_rfl,qao rfl rfl (zG.2 ⟨qri _N,(zG.2 ⟨quZ _N,(zG.2 ⟨qhD _N,(zC _)⟩)⟩)⟩),qan rfl rfl (zC _),rfl⟩ (fun _x=>by kernel_rfl)
abbrev qkC:List Kd:=[.dat Sz]
abbrev qkB:List Kd:=[.dat (.pair (.int .i64) (.pair (.int .i64) Sv))]
abbrev qkA:Type:=Dens qkB
def qtL(_N:Nat):Ctx:={ T:=[(3,⟨.int .i64,1,8,some (.int .i64),[.int .i64 (0:Int)],false,[]⟩),(28,⟨.slice 3,1,24,some Sz,[.nil],false,[]⟩),(75,⟨.array 4 3,4,32,some (.pair (.int .i64) Sv),[.int .i64 (0:Int),.int .i64 (0:Int),.int .i64 (0:Int),.int .i64 (0:Int)],false,[]⟩),(77,⟨.struct [(0,3),(1,75)],5,40,some (.pair (.int .i64) (.pair (.int .i64) Sv)),[.int .i64 (0:Int),.int .i64 (0:Int),.int .i64 (0:Int),.int .i64 (0:Int),.int .i64 (0:Int)],true,[]⟩)],G:=findE [],I:=findI [],N:=_N,n:=12,fx:=[],fl:=0,gs:=Gs }
def qtp(_N:Nat)(_x1:List Int):Option qkA:=
 (some (((_x1.length:Int),((nth (0:Int) (cpy ([(0:Int),(0:Int),(0:Int),(0:Int)]:List Int) _x1) 0),((nth (0:Int) (cpy ([(0:Int),(0:Int),(0:Int),(0:Int)]:List Int) _x1) 1),((nth (0:Int) (cpy ([(0:Int),(0:Int),(0:Int),(0:Int)]:List Int) _x1) 2),(nth (0:Int) (cpy ([(0:Int),(0:Int),(0:Int),(0:Int)]:List Int) _x1) 3))))),()))
def qtE(_N:Nat)(_x:Dens qkC):Option qkA:=qtp _N _x.1
theorem qqN(_N:Nat):SpecD Tryd.prog Gs 28 qkC qkB (qtE _N):=mkSpD (fn:=Tryd.f28) (c:=ql Tryd.f28) (C:=qtL _N)
  (a:=.none)
  (by kernel_rfl) rfl (by kernel_rfl) (by kernel_rfl) ⟨rfl,by unfold TOk;kernel_rfl,qao rfl rfl (zC _),qan rfl rfl (zC _),rfl⟩ (fun _x=>by kernel_rfl)
abbrev qfa:List Kd:=[.dat Sz]
abbrev qeX:List Kd:=[.dat (.int .i64)]
abbrev qck:Type:=Dens qeX
def qtF(_N:Nat):Ctx:={ T:=[(3,⟨.int .i64,1,8,some (.int .i64),[.int .i64 (0:Int)],false,[]⟩),(28,⟨.slice 3,1,24,some Sz,[.nil],false,[]⟩)],G:=findE [],I:=findI [],N:=_N,n:=26,fx:=[],fl:=0,gs:=Gs }
def qlj(_N:Nat):Option qck:=
 (some ((0:Int),()))
def qfz(_N:Nat)(_k4:Unit->Option qck)(_v1:List Int)(_v2:Int)(_v3:Int)(_kn5:(List Int×Int)×Int->Option qck):Option qck:=
 (bif (decide (_v3<_v2)) then (bif (decide (0<=_v3)&&decide (_v3<(_v1.length:Int))) then (bif (decide ((nth (0:Int) _v1 (_v3).toNat)<(0:Int))) then (some ((2:Int),())) else (bif (decide ((nth (0:Int) _v1 (_v3).toNat)>(1048576:Int))) then (some ((2:Int),())) else (_kn5 ((_v1,_v2),(IntKind.i64.wrap (_v3+(1:Int))))))) else none) else (_k4 ()))
def qli(_N:Nat)(_x1:List Int):Option qck:=
 (bif ((_x1.length:Int)==(0:Int)) then (some ((1:Int),())) else (bif (decide ((_x1.length:Int)>(4:Int))) then (some ((1:Int),())) else (joinD (fun (_s:Unit)=>qlj _N) fun _k4=>(loopE (fun (_c:List Int×Int) (_s:Int) _kn=>qfz _N _k4 _c.1 _c.2 _s _kn) _N (_x1,(_x1.length:Int)) (0:Int)))))
def qdp(_N:Nat)(_x:Dens qfa):Option qck:=qli _N _x.1
theorem qqH(_N:Nat):SpecD Tryd.prog Gs 25 qfa qeX (qdp _N):=mkSpD (fn:=Tryd.f25) (c:=ql Tryd.f25) (C:=qtF _N)
  (a:=.two .none (.two .none (.join 0 ⟨[],[]⟩ (.two .none (.one (.loop 0 ⟨[(13,.sl (.int .i64)),(14,.int .i64),(15,.int .i64)],[]⟩ [2] .none))) .none)))
  (by kernel_rfl) rfl (by kernel_rfl) (by kernel_rfl) ⟨rfl,by unfold TOk;kernel_rfl,qao rfl rfl (zC _),qan rfl rfl (zC _),rfl⟩ (fun _x=>by kernel_rfl)
theorem qrf(_N:Nat):EntOk Tryd.prog Gs (mkP 25 qfa qeX (qdp _N)):=entP ⟨Tryd.f25,ql Tryd.f25,by kernel_rfl,by kernel_rfl,rfl⟩ (by kernel_rfl) (qqH _N)
abbrev qdM:List Kd:=[.dat (.pair (.int .i64) (.pair (.int .i64) (.sl Sv)))]
abbrev qdJ:List Kd:=[.dat (.bool)]
abbrev qiW:Type:=Dens qdJ
def qqC(_N:Nat):Ctx:={ T:=[(29,⟨.slice 69,1,24,some (.sl Sv),[.nil],false,[]⟩),(43,⟨.struct [(0,3),(1,3),(2,29)],3,40,some (.pair (.int .i64) (.pair (.int .i64) (.sl Sv))),[.int .i64 (0:Int),.int .i64 (0:Int),.nil],false,[]⟩)],G:=findE [],I:=findI [],N:=_N,n:=7,fx:=[],fl:=0,gs:=Gs }
def qjt(_N:Nat)(_x1:Int×Int×List Yh):Option qiW:=
 (some ((decide ((_x1.2.2.length:Int)>(128:Int))),()))
def qdf(_N:Nat)(_x:Dens qdM):Option qiW:=qjt _N _x.1
theorem qon(_N:Nat):SpecD Tryd.prog Gs 24 qdM qdJ (qdf _N):=mkSpD (fn:=Tryd.f24) (c:=ql Tryd.f24) (C:=qqC _N)
  (a:=.none)
  (by kernel_rfl) rfl (by kernel_rfl) (by kernel_rfl) ⟨rfl,by unfold TOk;kernel_rfl,qao rfl rfl (zC _),qan rfl rfl (zC _),rfl⟩ (fun _x=>by kernel_rfl)
theorem qou(_N:Nat):EntOk Tryd.prog Gs (mkP 24 qdM qdJ (qdf _N)):=entP ⟨Tryd.f24,ql Tryd.f24,by kernel_rfl,by kernel_rfl,rfl⟩ (by kernel_rfl) (qon _N)
abbrev qU:List Kd:=[.dat (.sl (.pair (.int .i64) (.pair (.int .i64) (.sl Sv)))),.clo 24 []]
abbrev qQ:List Kd:=[.dat (.int .i64)]
abbrev qy:Type:=Dens qQ
def qbZ(_N:Nat):Ctx:={ T:=[(41,⟨.slice 43,1,24,some (.sl (.pair (.int .i64) (.pair (.int .i64) (.sl Sv)))),[.nil],false,[]⟩),(43,⟨.struct [(0,3),(1,3),(2,29)],3,40,some (.pair (.int .i64) (.pair (.int .i64) (.sl Sv))),[.int .i64 (0:Int),.int .i64 (0:Int),.nil],false,[]⟩)],G:=findE [mkP 24 qdM qdJ (qdf _N)],I:=findI [],N:=_N,n:=19,fx:=[],fl:=0,gs:=Gs }
def qaJ(_N:Nat):Option qy:=
 (some ((-1:Int),()))
def qW(_N:Nat)(_k6:Unit->Option qy)(_v1:List (Int×Int×List Yh))(_v2:Int)(_v3:Int)(_kn7:((List (Int×Int×List Yh))×Int)×Int->Option qy):Option qy:=
 (bif (decide (_v3<_v2)) then (bif (decide (0<=_v3)&&decide (_v3<(_v1.length:Int))) then ((qdf _N (((nth ((0:Int),((0:Int),[])) _v1 (_v3).toNat).1,(((nth ((0:Int),((0:Int),[])) _v1 (_v3).toNat).2).1,((nth ((0:Int),((0:Int),[])) _v1 (_v3).toNat).2).2)),())).bind fun _y8=>(bif _y8.1 then (some (_v3,())) else (_kn7 ((_v1,_v2),(IntKind.i64.wrap (_v3+(1:Int))))))) else none) else (_k6 ()))
def qaI(_N:Nat)(_x1:List (Int×Int×List Yh)):Option qy:=
 (joinD (fun (_s:Unit)=>qaJ _N) fun _k6=>(loopE (fun (_c:(List (Int×Int×List Yh))×Int) (_s:Int) _kn=>qW _N _k6 _c.1 _c.2 _s _kn) _N (_x1,(_x1.length:Int)) (0:Int)))
def qC(_N:Nat)(_x:Dens qU):Option qy:=qaI _N _x.1
theorem qbK(_N:Nat):SpecD Tryd.prog Gs 46 qU qQ (qC _N):=mkSpD (fn:=Tryd.f46) (c:=ql Tryd.f46) (C:=qbZ _N)
  (a:=.two .none (.join 0 ⟨[],[]⟩ (.two .none (.one (.loop 0 ⟨[(0,.sl (.pair (.int .i64) (.pair (.int .i64) (.sl Sv)))),(1,.clo 24 []),(7,.int .i64),(8,.int .i64)],[]⟩ [2] .none))) .none))
  (by kernel_rfl) rfl (by kernel_rfl) (by kernel_rfl) ⟨rfl,by unfold TOk;kernel_rfl,qao rfl rfl (zG.2 ⟨qou _N,(zC _)⟩),qan rfl rfl (zC _),rfl⟩ (fun _x=>by kernel_rfl)
theorem qbN(_N:Nat):EntOk Tryd.prog Gs (mkP 46 qU qQ (qC _N)):=entP ⟨Tryd.f46,ql Tryd.f46,by kernel_rfl,by kernel_rfl,rfl⟩ (by kernel_rfl) (qbK _N)
abbrev qK:List Kd:=[.dat (.sl (.pair (.int .i64) (.pair (.int .i64) (.sl Sv)))),.clo 24 []]
abbrev qI:List Kd:=[.dat (.bool)]
abbrev qaw:Type:=Dens qI
def qbD(_N:Nat):Ctx:={ T:=[],G:=findE [mkP 46 qU qQ (qC _N)],I:=findI [],N:=_N,n:=9,fx:=[],fl:=0,gs:=Gs }
def qaA(_N:Nat)(_x1:List (Int×Int×List Yh)):Option qaw:=
 ((qC _N (_x1,(),())).bind fun _y2=>(some ((decide (_y2.1>=(0:Int))),())))
def qp(_N:Nat)(_x:Dens qK):Option qaw:=qaA _N _x.1
theorem qbx(_N:Nat):SpecD Tryd.prog Gs 23 qK qI (qp _N):=mkSpD (fn:=Tryd.f23) (c:=ql Tryd.f23) (C:=qbD _N)
  (a:=.none)
  (by kernel_rfl) rfl (by kernel_rfl) (by kernel_rfl) ⟨rfl,by unfold TOk;kernel_rfl,qao rfl rfl (zG.2 ⟨qbN _N,(zC _)⟩),qan rfl rfl (zC _),rfl⟩ (fun _x=>by kernel_rfl)
theorem qbB(_N:Nat):EntOk Tryd.prog Gs (mkP 23 qK qI (qp _N)):=entP ⟨Tryd.f23,ql Tryd.f23,by kernel_rfl,by kernel_rfl,rfl⟩ (by kernel_rfl) (qbx _N)
abbrev qmu:List Kd:=[.dat (.pair (.pair (.sl (.pair (.int .i64) (.pair (.int .i64) Sv))) (.sl Sv)) (.int .i64)),.dat (.sl (.pair (.int .i64) (.pair (.int .i64) (.sl Sv))))]
abbrev qms:List Kd:=[.dat (.int .i64)]
abbrev qbH:Type:=Dens qms
def qvE(_N:Nat):Ctx:={ T:=[(3,⟨.int .i64,1,8,some (.int .i64),[.int .i64 (0:Int)],false,[]⟩),(22,⟨.slice 39,1,24,some (.sl (.pair (.int .i64) (.pair (.int .i64) Sv))),[.nil],false,[]⟩),(25,⟨.struct [(0,22),(1,23)],2,48,some (.pair (.sl (.pair (.int .i64) (.pair (.int .i64) Sv))) (.sl Sv)),[.nil,.nil],false,[]⟩),(27,⟨.struct [(0,25),(2,3)],3,56,some (.pair (.pair (.sl (.pair (.int .i64) (.pair (.int .i64) Sv))) (.sl Sv)) (.int .i64)),[.nil,.nil,.int .i64 (0:Int)],false,[]⟩),(39,⟨.struct [(0,3),(1,3),(2,37)],5,40,some (.pair (.int .i64) (.pair (.int .i64) Sv)),[.int .i64 (0:Int),.int .i64 (0:Int),.int .i64 (0:Int),.int .i64 (0:Int),.int .i64 (0:Int)],true,[]⟩),(41,⟨.slice 43,1,24,some (.sl (.pair (.int .i64) (.pair (.int .i64) (.sl Sv)))),[.nil],false,[]⟩),(43,⟨.struct [(0,3),(1,3),(2,29)],3,40,some (.pair (.int .i64) (.pair (.int .i64) (.sl Sv))),[.int .i64 (0:Int),.int .i64 (0:Int),.nil],false,[]⟩)],G:=findE [mkP 23 qK qI (qp _N)],I:=findI [],N:=_N,n:=54,fx:=[],fl:=0,gs:=Gs }
def qnF(_N:Nat):Option qbH:=
 (some ((0:Int),()))
def qnE(_N:Nat)(_kn17:((List (Int×Int×List Yh))×Int×(List Yi)×(List Yh)×Int)×Int->Option qbH)(_v8:List (Int×Int×List Yh))(_v9:Int)(_v10:Int)(_v11:Bool)(_v12:List Yi)(_v13:List Yh)(_v14:Int):Option qbH:=
 (bif _v11 then (some ((2:Int),())) else (_kn17 ((_v8,_v9,_v12,_v13,_v14),(IntKind.i64.wrap (_v10+(1:Int))))))
def qgW(_N:Nat)(_k16:Unit->Option qbH)(_v2:List (Int×Int×List Yh))(_v3:Int)(_v5:List Yi)(_v6:List Yh)(_v7:Int)(_v4:Int)(_kn17:((List (Int×Int×List Yh))×Int×(List Yi)×(List Yh)×Int)×Int->Option qbH):Option qbH:=
 (bif (decide (_v4<_v3)) then (bif (decide (0<=_v4)&&decide (_v4<(_v2.length:Int))) then (joinD (fun (_s:(List (Int×Int×List Yh))×Int×Int×Bool×(List Yi)×(List Yh)×Int)=>qnE _N _kn17 _s.1 _s.2.1 _s.2.2.1 _s.2.2.2.1 _s.2.2.2.2.1 _s.2.2.2.2.2.1 _s.2.2.2.2.2.2) fun _k18=>(bif (decide (((nth ((0:Int),((0:Int),[])) _v2 (_v4).toNat).1)<(0:Int))) then (_k18 (_v2,_v3,_v4,true,_v5,_v6,_v7)) else (bif (decide (((nth ((0:Int),((0:Int),[])) _v2 (_v4).toNat).1)>=(_v5.length:Int))) then (_k18 (_v2,_v3,_v4,true,_v5,_v6,_v7)) else (bif (decide (0<=((nth ((0:Int),((0:Int),[])) _v2 (_v4).toNat).1))&&decide (((nth ((0:Int),((0:Int),[])) _v2 (_v4).toNat).1)<(_v5.length:Int))) then (bif (((nth ((0:Int),((0:Int),((0:Int),((0:Int),(0:Int))))) _v5 ((nth ((0:Int),((0:Int),[])) _v2 (_v4).toNat).1).toNat).1) != (1:Int)) then (_k18 (_v2,_v3,_v4,true,_v5,_v6,_v7)) else (bif (decide ((((nth ((0:Int),((0:Int),[])) _v2 (_v4).toNat).2).1)<(0:Int))) then (_k18 (_v2,_v3,_v4,true,_v5,_v6,_v7)) else (_k18 (_v2,_v3,_v4,(decide ((((nth ((0:Int),((0:Int),[])) _v2 (_v4).toNat).2).1)>(1048576:Int))),_v5,_v6,_v7)))) else none)))) else none) else (_k16 ()))
def qnD(_N:Nat)(_x1:(List Yi×List Yh)×Int)(_x2:List (Int×Int×List Yh)):Option qbH:=
 (bif (decide ((_x2.length:Int)>(60:Int))) then (some ((1:Int),())) else ((qp _N (_x2,(),())).bind fun _y15=>(bif _y15.1 then (some ((1:Int),())) else (joinD (fun (_s:Unit)=>qnF _N) fun _k16=>(loopE (fun (_c:(List (Int×Int×List Yh))×Int×(List Yi)×(List Yh)×Int) (_s:Int) _kn=>qgW _N _k16 _c.1 _c.2.1 _c.2.2.1 _c.2.2.2.1 _c.2.2.2.2 _s _kn) _N (_x2,(_x2.length:Int),_x1.1.1,_x1.1.2,_x1.2) (0:Int))))))
def qjN(_N:Nat)(_x:Dens qmu):Option qbH:=qnD _N _x.1 _x.2.1
theorem qsm(_N:Nat):SpecD Tryd.prog Gs 13 qmu qms (qjN _N):=mkSpD (fn:=Tryd.f13) (c:=ql Tryd.f13) (C:=qvE _N)
  (a:=.two .none (.two .none (.join 1 ⟨[],[.none]⟩ (.two .none (.one (.loop 1 ⟨[(2,.ptr 0 0),(14,.sl (.pair (.int .i64) (.pair (.int .i64) (.sl Sv)))),(15,.int .i64),(16,.int .i64)],[.cells [.sl (.pair (.int .i64) (.pair (.int .i64) Sv)),.sl Sv,.int .i64]]⟩ [2] (.two .none (.two .none (.two (.one (.two .none (.join 2 ⟨[(2,.ptr 0 0),(14,.sl (.pair (.int .i64) (.pair (.int .i64) (.sl Sv)))),(15,.int .i64),(16,.int .i64),(52,.bool)],[.cells [.sl (.pair (.int .i64) (.pair (.int .i64) Sv)),.sl Sv,.int .i64],.none]⟩ .none .none))) .none)))))) .none)))
  (by kernel_rfl) rfl (by kernel_rfl) (by kernel_rfl) ⟨rfl,by unfold TOk;kernel_rfl,qao rfl rfl (zG.2 ⟨qbB _N,(zC _)⟩),qan rfl rfl (zC _),rfl⟩ (fun _x=>by kernel_rfl)
abbrev qeN:Sig:=⟨[.dat false (.int .i64),.form (.ptr 0 0)],[.cells [.sl (.pair (.int .i64) (.pair (.int .i64) Sv)),.sl Sv,.int .i64]],
 [.dat false .bool],[.cells [.sl (.pair (.int .i64) (.pair (.int .i64) Sv)),.sl Sv,.int .i64]],[]⟩
abbrev qii:Type:=Bool×(List Yi)×(List Yh)×Int
def qoy(_N:Nat):Ctx:={ T:=[(3,⟨.int .i64,1,8,some (.int .i64),[.int .i64 (0:Int)],false,[]⟩),(27,⟨.struct [(0,25),(2,3)],3,56,some (.pair (.pair (.sl (.pair (.int .i64) (.pair (.int .i64) Sv))) (.sl Sv)) (.int .i64)),[.nil,.nil,.int .i64 (0:Int)],false,[]⟩)],G:=findE [],I:=findI [],N:=_N,n:=8,fx:=[],fl:=1,gs:=Gs }
def qiQ(_N:Nat)(_x1:Int)(_x2:List Yi)(_x3:List Yh)(_x4:Int):Option qii:=
 (some ((decide (_x1>_x4)),_x2,_x3,_x4))
def qcI(_N:Nat)(_x:Int×(List Yi)×(List Yh)×Int):Option qii:=qiQ _N _x.1 _x.2.1 _x.2.2.1 _x.2.2.2
theorem qmD(_N:Nat):SpecH Tryd.prog Gs 27 qeN (qcI _N):=mkSpH (fn:=Tryd.f27) (c:=ql Tryd.f27) (C:=(qoy _N))
  (a:=.none)
  (by kernel_rfl) rfl (by kernel_rfl) (by kernel_rfl) (by kernel_rfl) rfl ⟨rfl,by unfold TOk;kernel_rfl,qao rfl rfl (zC _),qan rfl rfl (zC _),rfl⟩ (fun _x=>by kernel_rfl)
theorem qnb(_N:Nat):EntOk Tryd.prog Gs (mkHe 27 qeN (qcI _N)):=entH ⟨Tryd.f27,ql Tryd.f27,by kernel_rfl,by kernel_rfl,rfl⟩ (qmD _N)
abbrev qbt:Sig:=⟨[.dat false Sz,.form (.clo 27 [.ptr 0 0])],[.cells [.sl (.pair (.int .i64) (.pair (.int .i64) Sv)),.sl Sv,.int .i64]],
 [.dat false (.int .i64)],[.cells [.sl (.pair (.int .i64) (.pair (.int .i64) Sv)),.sl Sv,.int .i64]],[]⟩
abbrev qaf:Type:=Int×(List Yi)×(List Yh)×Int
def qfs(_N:Nat):Ctx:={ T:=[(3,⟨.int .i64,1,8,some (.int .i64),[.int .i64 (0:Int)],false,[]⟩),(28,⟨.slice 3,1,24,some Sz,[.nil],false,[]⟩)],G:=findE [mkHe 27 qeN (qcI _N)],I:=findI [],N:=_N,n:=19,fx:=[],fl:=1,gs:=Gs }
def qbz(_N:Nat)(_v9:List Yi)(_v10:List Yh)(_v11:Int):Option qaf:=
 (some ((-1:Int),_v9,_v10,_v11))
def qav(_N:Nat)(_k12:((List Yi)×(List Yh)×Int)->Option qaf)(_v1:List Int)(_v2:Int)(_v3:Int)(_v4:List Yi)(_v5:List Yh)(_v6:Int)(_kn13:(List Int×Int)×(Int×(List Yi)×(List Yh)×Int)->Option qaf):Option qaf:=
 (bif (decide (_v3<_v2)) then (bif (decide (0<=_v3)&&decide (_v3<(_v1.length:Int))) then ((qcI _N ((nth (0:Int) _v1 (_v3).toNat),_v4,_v5,_v6)).bind fun _y14=>(bif _y14.1 then (some (_v3,_y14.2.1,_y14.2.2.1,_y14.2.2.2)) else (_kn13 ((_v1,_v2),((IntKind.i64.wrap (_v3+(1:Int))),_y14.2.1,_y14.2.2.1,_y14.2.2.2))))) else none) else (_k12 (_v4,_v5,_v6)))
def qcG(_N:Nat)(_x1:List Int)(_x2:List Yi)(_x3:List Yh)(_x4:Int):Option qaf:=
 (joinD (fun (_s:(List Yi)×(List Yh)×Int)=>qbz _N _s.1 _s.2.1 _s.2.2) fun _k12=>(loopE (fun (_c:List Int×Int) (_s:Int×(List Yi)×(List Yh)×Int) _kn=>qav _N _k12 _c.1 _c.2 _s.1 _s.2.1 _s.2.2.1 _s.2.2.2 _kn) _N (_x1,(_x1.length:Int)) ((0:Int),_x2,_x3,_x4)))
def qap(_N:Nat)(_x:List Int×(List Yi)×(List Yh)×Int):Option qaf:=qcG _N _x.1 _x.2.1 _x.2.2.1 _x.2.2.2
theorem qfd(_N:Nat):SpecH Tryd.prog Gs 47 qbt (qap _N):=mkSpH (fn:=Tryd.f47) (c:=ql Tryd.f47) (C:=(qfs _N))
  (a:=.two .none (.join 1 ⟨[],[.cells [.sl (.pair (.int .i64) (.pair (.int .i64) Sv)),.sl Sv,.int .i64]]⟩ (.two .none (.one (.loop 1 ⟨[(0,.sl (.int .i64)),(1,.clo 27 [.ptr 0 0]),(7,.int .i64),(8,.int .i64)],[.cells [.sl (.pair (.int .i64) (.pair (.int .i64) Sv)),.sl Sv,.int .i64]]⟩ [2,3,4,5] .none))) .none))
  (by kernel_rfl) rfl (by kernel_rfl) (by kernel_rfl) (by kernel_rfl) rfl ⟨rfl,by unfold TOk;kernel_rfl,qao rfl rfl (zG.2 ⟨qnb _N,(zC _)⟩),qan rfl rfl (zC _),rfl⟩ (fun _x=>by kernel_rfl)
theorem qfl(_N:Nat):EntOk Tryd.prog Gs (mkHe 47 qbt (qap _N)):=entH ⟨Tryd.f47,ql Tryd.f47,by kernel_rfl,by kernel_rfl,rfl⟩ (qfd _N)
abbrev qbc:Sig:=⟨[.dat false Sz,.form (.clo 27 [.ptr 0 0])],[.cells [.sl (.pair (.int .i64) (.pair (.int .i64) Sv)),.sl Sv,.int .i64]],
 [.dat false .bool],[.cells [.sl (.pair (.int .i64) (.pair (.int .i64) Sv)),.sl Sv,.int .i64]],[]⟩
abbrev qcg:Type:=Bool×(List Yi)×(List Yh)×Int
def qeA(_N:Nat):Ctx:={ T:=[],G:=findE [mkHe 47 qbt (qap _N)],I:=findI [],N:=_N,n:=9,fx:=[],fl:=1,gs:=Gs }
def qcm(_N:Nat)(_x1:List Int)(_x2:List Yi)(_x3:List Yh)(_x4:Int):Option qcg:=
 ((qap _N (_x1,_x2,_x3,_x4)).bind fun _y2=>(some ((decide (_y2.1>=(0:Int))),_y2.2.1,_y2.2.2.1,_y2.2.2.2)))
def qaj(_N:Nat)(_x:List Int×(List Yi)×(List Yh)×Int):Option qcg:=qcm _N _x.1 _x.2.1 _x.2.2.1 _x.2.2.2
theorem qei(_N:Nat):SpecH Tryd.prog Gs 26 qbc (qaj _N):=mkSpH (fn:=Tryd.f26) (c:=ql Tryd.f26) (C:=(qeA _N))
  (a:=.none)
  (by kernel_rfl) rfl (by kernel_rfl) (by kernel_rfl) (by kernel_rfl) rfl ⟨rfl,by unfold TOk;kernel_rfl,qao rfl rfl (zG.2 ⟨qfl _N,(zC _)⟩),qan rfl rfl (zC _),rfl⟩ (fun _x=>by kernel_rfl)
theorem qes(_N:Nat):EntOk Tryd.prog Gs (mkHe 26 qbc (qaj _N)):=entH ⟨Tryd.f26,ql Tryd.f26,by kernel_rfl,by kernel_rfl,rfl⟩ (qei _N)
abbrev qol:List Kd:=[.dat (.pair (.pair (.sl (.pair (.int .i64) (.pair (.int .i64) Sv))) (.sl Sv)) (.int .i64)),.dat (.int .i64),.dat (.int .i64),.dat Sz]
abbrev qoj:List Kd:=[.dat (.int .i64)]
abbrev qoe:Type:=Dens qoj
def qwL(_N:Nat):Ctx:={ T:=[(3,⟨.int .i64,1,8,some (.int .i64),[.int .i64 (0:Int)],false,[]⟩),(22,⟨.slice 39,1,24,some (.sl (.pair (.int .i64) (.pair (.int .i64) Sv))),[.nil],false,[]⟩),(25,⟨.struct [(0,22),(1,23)],2,48,some (.pair (.sl (.pair (.int .i64) (.pair (.int .i64) Sv))) (.sl Sv)),[.nil,.nil],false,[]⟩),(27,⟨.struct [(0,25),(2,3)],3,56,some (.pair (.pair (.sl (.pair (.int .i64) (.pair (.int .i64) Sv))) (.sl Sv)) (.int .i64)),[.nil,.nil,.int .i64 (0:Int)],false,[]⟩),(28,⟨.slice 3,1,24,some Sz,[.nil],false,[]⟩),(39,⟨.struct [(0,3),(1,3),(2,37)],5,40,some (.pair (.int .i64) (.pair (.int .i64) Sv)),[.int .i64 (0:Int),.int .i64 (0:Int),.int .i64 (0:Int),.int .i64 (0:Int),.int .i64 (0:Int)],true,[]⟩)],G:=findE [mkP 20 qcM qcL (qaX _N),mkP 25 qfa qeX (qdp _N),mkHe 26 qbc (qaj _N)],I:=findI [],N:=_N,n:=54,fx:=[],fl:=0,gs:=Gs }
def qpw(_N:Nat)(_x1:(List Yi×List Yh)×Int)(_x2:Int)(_x3:Int)(_x4:List Int):Option qoe:=
 (bif (decide (_x2<(0:Int))) then (some ((2:Int),())) else (bif (decide (_x2>=(_x1.1.1.length:Int))) then (some ((2:Int),())) else (bif (decide (_x3<(0:Int))) then (some ((2:Int),())) else (bif (decide (0<=_x2)&&decide (_x2<(_x1.1.1.length:Int))) then ((qaX _N (((nth ((0:Int),((0:Int),((0:Int),((0:Int),(0:Int))))) _x1.1.1 (_x2).toNat).1,(((nth ((0:Int),((0:Int),((0:Int),((0:Int),(0:Int))))) _x1.1.1 (_x2).toNat).2).1,((((nth ((0:Int),((0:Int),((0:Int),((0:Int),(0:Int))))) _x1.1.1 (_x2).toNat).2).2).1,(((((nth ((0:Int),((0:Int),((0:Int),((0:Int),(0:Int))))) _x1.1.1 (_x2).toNat).2).2).2).1,((((nth ((0:Int),((0:Int),((0:Int),((0:Int),(0:Int))))) _x1.1.1 (_x2).toNat).2).2).2).2)))),())).bind fun _y4=>(bif (decide (_x3>=_y4.1)) then (some ((2:Int),())) else ((qdp _N (_x4,())).bind fun _y5=>(bif (_y5.1 != (0:Int)) then (some (_y5.1,())) else (bif (decide (0<=_x2)&&decide (_x2<(_x1.1.1.length:Int))) then (bif ((_x4.length:Int) != (((nth ((0:Int),((0:Int),((0:Int),((0:Int),(0:Int))))) _x1.1.1 (_x2).toNat).2).1)) then (some ((7:Int),())) else (bif (decide (0<=(1:Int))&&(decide ((1:Int)<=(_x4.length:Int))&&decide ((_x4.length:Int)<=(_x4.length:Int)))) then ((qaj _N (((_x4.take (_x4.length:Int).toNat).drop (1:Int).toNat),_x1.1.1,_x1.1.2,_x1.2)).bind fun _y6=>(bif _y6.1 then (some ((2:Int),())) else (some ((0:Int),())))) else none)) else none))))) else none))))
def qiL(_N:Nat)(_x:Dens qol):Option qoe:=qpw _N _x.1 _x.2.1 _x.2.2.1 _x.2.2.2.1
theorem qtX(_N:Nat):SpecD Tryd.prog Gs 14 qol qoj (qiL _N):=mkSpD (fn:=Tryd.f14) (c:=ql Tryd.f14) (C:=qwL _N)
  (a:=.none)
  (by kernel_rfl) rfl (by kernel_rfl) (by kernel_rfl) ⟨rfl,by unfold TOk;kernel_rfl,qao rfl rfl (zG.2 ⟨qhD _N,(zG.2 ⟨qrf _N,(zG.2 ⟨qes _N,(zC _)⟩)⟩)⟩),qan rfl rfl (zC _),rfl⟩ (fun _x=>by kernel_rfl)
abbrev qbv:List Kd:=[.dat Sz]
abbrev qec:Type:=List Int
def qiM(_N:Nat):Ctx:={ T:=[(3,⟨.int .i64,1,8,some (.int .i64),[.int .i64 (0:Int)],false,[]⟩),(28,⟨.slice 3,1,24,some Sz,[.nil],false,[]⟩)],G:=findE [],I:=findI [],N:=_N,n:=8,fx:=[],fl:=0,gs:=Gs }
def qej(_N:Nat)(_x1:List Int):Option qec:=
 (bif _x1.isEmpty then (dem2 (some []) (bif (decide ((([]:List Int).length+_x1.length)*8<=140737488355328)&&Nat.ble 1 8) then (some (([]:List Int)++_x1)) else none)) else (bif (decide ((([]:List Int).length+_x1.length)*8<=140737488355328)&&Nat.ble 1 8) then (some (([]:List Int)++_x1)) else none))
def qaQ(_N:Nat)(_x:Dens qbv):Option qec:=qej _N _x.1
theorem qdX(_N:Nat):SpecF Tryd.prog Gs 50 qbv 3 (.int .i64) (qaQ _N):=mkSpF (fn:=Tryd.f50) (c:=ql Tryd.f50) (C:=qiM _N)
  (a:=.none)
  (by kernel_rfl) rfl (by kernel_rfl) (by kernel_rfl) ⟨rfl,by unfold TOk;kernel_rfl,qao rfl rfl (zC _),qan rfl rfl (zC _),rfl⟩ (fun _x=>by kernel_rfl)
theorem qhW(_N:Nat):EntOk Tryd.prog Gs (mkF 50 qbv 3 (.int .i64) (qaQ _N)):=entF ⟨Tryd.f50,ql Tryd.f50,by kernel_rfl,by kernel_rfl,rfl⟩ (by kernel_rfl) (zH (by kernel_rfl)) (qdX _N)
abbrev qok:List Kd:=[.dat Sz,.dat (.int .i64)]
abbrev qod:Type:=List Int
def qwK(_N:Nat):Ctx:={ T:=[(3,⟨.int .i64,1,8,some (.int .i64),[.int .i64 (0:Int)],false,[]⟩),(28,⟨.slice 3,1,24,some Sz,[.nil],false,[]⟩)],G:=findE [mkF 50 qbv 3 (.int .i64) (qaQ _N)],I:=findI [],N:=_N,n:=14,fx:=[],fl:=0,gs:=Gs }
def qpv(_N:Nat)(_x1:List Int)(_x2:Int):Option qod:=
 (bif (decide (0<=(0:Int))&&(decide ((0:Int)<=(IntKind.i64.wrap ((_x1.length:Int) - (1:Int))))&&decide ((IntKind.i64.wrap ((_x1.length:Int) - (1:Int)))<=(_x1.length:Int)))) then ((qaQ _N (((_x1.take (IntKind.i64.wrap ((_x1.length:Int) - (1:Int))).toNat).drop (0:Int).toNat),())).bind fun _y2=>(bif (decide ((_y2.length+([_x2]).length)*8<=140737488355328)&&Nat.ble 1 8) then (some (_y2 ++ [_x2])) else none)) else none)
def qiK(_N:Nat)(_x:Dens qok):Option qod:=qpv _N _x.1 _x.2.1
theorem qtW(_N:Nat):SpecF Tryd.prog Gs 51 qok 3 (.int .i64) (qiK _N):=mkSpF (fn:=Tryd.f51) (c:=ql Tryd.f51) (C:=qwK _N)
  (a:=.none)
  (by kernel_rfl) rfl (by kernel_rfl) (by kernel_rfl) ⟨rfl,by unfold TOk;kernel_rfl,qao rfl rfl (zG.2 ⟨qhW _N,(zC _)⟩),qan rfl rfl (zC _),rfl⟩ (fun _x=>by kernel_rfl)
abbrev qfb:List Kd:=[.dat Sv]
abbrev qeY:List Kd:=[.dat (.bool)]
abbrev qkw:Type:=Dens qeY
def qtG(_N:Nat):Ctx:={ T:=[(2,⟨.int .i64,1,8,some (.int .i64),[.int .i64 (0:Int)],false,[]⟩),(69,⟨.struct [(0,2),(1,2),(2,2)],3,24,some Sv,[.int .i64 (0:Int),.int .i64 (0:Int),.int .i64 (0:Int)],true,[]⟩)],G:=findE [],I:=findI [],N:=_N,n:=6,fx:=[],fl:=0,gs:=Gs }
def qlx(_N:Nat)(_x1:Int×Int×Int):Option qkw:=
 (some ((decide (_x1.2.2>(0:Int))),()))
def qez(_N:Nat)(_x:Dens qfb):Option qkw:=qlx _N _x.1
theorem qqI(_N:Nat):SpecD Tryd.prog Gs 86 qfb qeY (qez _N):=mkSpD (fn:=Tryd.f86) (c:=ql Tryd.f86) (C:=qtG _N)
  (a:=.none)
  (by kernel_rfl) rfl (by kernel_rfl) (by kernel_rfl) ⟨rfl,by unfold TOk;kernel_rfl,qao rfl rfl (zC _),qan rfl rfl (zC _),rfl⟩ (fun _x=>by kernel_rfl)
theorem qrg(_N:Nat):EntOk Tryd.prog Gs (mkP 86 qfb qeY (qez _N)):=entP ⟨Tryd.f86,ql Tryd.f86,by kernel_rfl,by kernel_rfl,rfl⟩ (by kernel_rfl) (qqI _N)
abbrev qab:List Kd:=[.dat (.sl Sv),.clo 86 []]
abbrev qaa:List Kd:=[.dat (.int .i64)]
abbrev qF:Type:=Dens qaa
def qcl(_N:Nat):Ctx:={ T:=[(29,⟨.slice 69,1,24,some (.sl Sv),[.nil],false,[]⟩),(69,⟨.struct [(0,2),(1,2),(2,2)],3,24,some Sv,[.int .i64 (0:Int),.int .i64 (0:Int),.int .i64 (0:Int)],true,[]⟩)],G:=findE [mkP 86 qfb qeY (qez _N)],I:=findI [],N:=_N,n:=19,fx:=[],fl:=0,gs:=Gs }
def qaV(_N:Nat):Option qF:=
 (some ((-1:Int),()))
def qac(_N:Nat)(_k6:Unit->Option qF)(_v1:List Yh)(_v2:Int)(_v3:Int)(_kn7:((List Yh)×Int)×Int->Option qF):Option qF:=
 (bif (decide (_v3<_v2)) then (bif (decide (0<=_v3)&&decide (_v3<(_v1.length:Int))) then ((qez _N (((nth ((0:Int),((0:Int),(0:Int))) _v1 (_v3).toNat).1,(((nth ((0:Int),((0:Int),(0:Int))) _v1 (_v3).toNat).2).1,((nth ((0:Int),((0:Int),(0:Int))) _v1 (_v3).toNat).2).2)),())).bind fun _y8=>(bif _y8.1 then (some (_v3,())) else (_kn7 ((_v1,_v2),(IntKind.i64.wrap (_v3+(1:Int))))))) else none) else (_k6 ()))
def qaU(_N:Nat)(_x1:List Yh):Option qF:=
 (joinD (fun (_s:Unit)=>qaV _N) fun _k6=>(loopE (fun (_c:(List Yh)×Int) (_s:Int) _kn=>qac _N _k6 _c.1 _c.2 _s _kn) _N (_x1,(_x1.length:Int)) (0:Int)))
def qw(_N:Nat)(_x:Dens qab):Option qF:=qaU _N _x.1
theorem qcd(_N:Nat):SpecD Tryd.prog Gs 85 qab qaa (qw _N):=mkSpD (fn:=Tryd.f85) (c:=ql Tryd.f85) (C:=qcl _N)
  (a:=.two .none (.join 0 ⟨[],[]⟩ (.two .none (.one (.loop 0 ⟨[(0,.sl Sv),(1,.clo 86 []),(7,.int .i64),(8,.int .i64)],[]⟩ [2] .none))) .none))
  (by kernel_rfl) rfl (by kernel_rfl) (by kernel_rfl) ⟨rfl,by unfold TOk;kernel_rfl,qao rfl rfl (zG.2 ⟨qrg _N,(zC _)⟩),qan rfl rfl (zC _),rfl⟩ (fun _x=>by kernel_rfl)
theorem qce(_N:Nat):EntOk Tryd.prog Gs (mkP 85 qab qaa (qw _N)):=entP ⟨Tryd.f85,ql Tryd.f85,by kernel_rfl,by kernel_rfl,rfl⟩ (by kernel_rfl) (qcd _N)
abbrev qiJ:List Kd:=[.dat (.int .i64),.dat (.sl Sv)]
abbrev qiI:List Kd:=[.dat (.int .i64),.dat (.bool)]
abbrev qcF:Type:=Dens qiI
def qyZ(_N:Nat):Ctx:={ T:=[(2,⟨.int .i64,1,8,some (.int .i64),[.int .i64 (0:Int)],false,[]⟩),(29,⟨.slice 69,1,24,some (.sl Sv),[.nil],false,[]⟩),(69,⟨.struct [(0,2),(1,2),(2,2)],3,24,some Sv,[.int .i64 (0:Int),.int .i64 (0:Int),.int .i64 (0:Int)],true,[]⟩)],G:=findE [mkP 85 qab qaa (qw _N)],I:=findI [],N:=_N,n:=54,fx:=[],fl:=0,gs:=Gs }
def qhN(_N:Nat)(_v10:Int):Option qcF:=
 (some (_v10,true,()))
def qjS(_N:Nat)(_k11:Int->Option qcF)(_v2:List Yh)(_v3:Int)(_v1:Int)(_v4:Int)(_kn12:((List Yh)×Int)×(Int×Int)->Option qcF):Option qcF:=
 (bif (decide (_v4<_v3)) then (bif (decide (0<=_v4)&&decide (_v4<(_v2.length:Int))) then (_kn12 ((_v2,_v3),((IntKind.i64.wrap (_v1+(IntKind.i64.wrap ((((nth ((0:Int),((0:Int),(0:Int))) _v2 (_v4).toNat).2).1)*(((nth ((0:Int),((0:Int),(0:Int))) _v2 (_v4).toNat).2).2))))),(IntKind.i64.wrap (_v4+(1:Int)))))) else none) else (_k11 _v1))
def qjR(_N:Nat)(_k11:Int->Option qcF)(_v6:List Yh)(_v7:Int)(_v5:Int)(_v8:Int)(_kn13:((List Yh)×Int)×(Int×Int)->Option qcF):Option qcF:=
 (bif (decide (_v8<_v7)) then (bif (decide (0<=_v8)&&decide (_v8<(_v6.length:Int))) then (_kn13 ((_v6,_v7),((IntKind.i64.wrap (_v5+(((nth ((0:Int),((0:Int),(0:Int))) _v6 (_v8).toNat).2).2))),(IntKind.i64.wrap (_v8+(1:Int)))))) else none) else (_k11 _v5))
def qry(_N:Nat)(_x1:Int)(_x2:List Yh):Option qcF:=
 (joinD (fun (_s:Int)=>qhN _N _s) fun _k11=>(bif (_x1==(5:Int)) then (loopE (fun (_c:(List Yh)×Int) (_s:Int×Int) _kn=>qjS _N _k11 _c.1 _c.2 _s.1 _s.2 _kn) _N (_x2,(_x2.length:Int)) ((0:Int),(0:Int))) else (bif (_x1==(6:Int)) then (loopE (fun (_c:(List Yh)×Int) (_s:Int×Int) _kn=>qjR _N _k11 _c.1 _c.2 _s.1 _s.2 _kn) _N (_x2,(_x2.length:Int)) ((0:Int),(0:Int))) else (bif (_x1==(8:Int)) then ((qw _N (_x2,(),())).bind fun _y14=>(bif (decide (_y14.1<(0:Int))) then (some ((0:Int),false,())) else (bif (decide (0<=_y14.1)&&decide (_y14.1<(_x2.length:Int))) then (_k11 ((nth ((0:Int),((0:Int),(0:Int))) _x2 (_y14.1).toNat).2).1) else none))) else (_k11 (0:Int))))))
def qfS(_N:Nat)(_x:Dens qiJ):Option qcF:=qry _N _x.1 _x.2.1
theorem qvQ(_N:Nat):SpecD Tryd.prog Gs 79 qiJ qiI (qfS _N):=mkSpD (fn:=Tryd.f79) (c:=ql Tryd.f79) (C:=qyZ _N)
  (a:=.two .none (.two .none (.join 0 ⟨[(6,.int .i64)],[]⟩ (.two .none (.one (.two .none (.two (.two .none (.one (.loop 0 ⟨[(6,.int .i64),(15,.sl Sv),(16,.int .i64),(17,.int .i64)],[]⟩ [0,3] .none))) (.two .none (.two (.two .none (.one (.loop 0 ⟨[(6,.int .i64),(31,.sl Sv),(32,.int .i64),(33,.int .i64)],[]⟩ [0,3] .none))) .none)))))) .none)))
  (by kernel_rfl) rfl (by kernel_rfl) (by kernel_rfl) ⟨rfl,by unfold TOk;kernel_rfl,qao rfl rfl (zG.2 ⟨qce _N,(zC _)⟩),qan rfl rfl (zC _),rfl⟩ (fun _x=>by kernel_rfl)
theorem qwy(_N:Nat):EntOk Tryd.prog Gs (mkP 79 qiJ qiI (qfS _N)):=entP ⟨Tryd.f79,ql Tryd.f79,by kernel_rfl,by kernel_rfl,rfl⟩ (by kernel_rfl) (qvQ _N)
abbrev qhF:Sig:=⟨[.dat false (.int .i64),.dat false (.sl Sv)],[],
 [.form (.ptr 2 1000000)],[.cells [.int .i64],.cells [.sl Sv],.oth false ⟨false,88,2,.pair (.int .i64) (.int .i64),.int .i64,false⟩],[]⟩
abbrev qba:Type:=Int×(List Yh)×Yj
def qtH(_N:Nat):Ctx:={ T:=[(2,⟨.int .i64,1,8,some (.int .i64),[.int .i64 (0:Int)],false,[]⟩),(3,⟨.int .i64,1,8,some (.int .i64),[.int .i64 (0:Int)],false,[]⟩),(29,⟨.slice 69,1,24,some (.sl Sv),[.nil],false,[]⟩),(60,⟨.map 88 2 SA (.int .i64),1,8,none,[.nl .map],false,[]⟩),(69,⟨.struct [(0,2),(1,2),(2,2)],3,24,some Sv,[.int .i64 (0:Int),.int .i64 (0:Int),.int .i64 (0:Int)],true,[]⟩),(88,⟨.struct [(0,2),(1,2)],2,16,some SA,[.int .i64 (0:Int),.int .i64 (0:Int)],true,[]⟩)],G:=findE [mkHe 62 qaP (qH _N),mkP 79 qiJ qiI (qfS _N)],I:=findI [mkIp 77 (.sl Sv) (.sl Sv) qsW],N:=_N,n:=49,fx:=[],fl:=0,gs:=Gs }
def qlz(_N:Nat)(_v21:Int)(_v22:List Yh)(_v23:Int×List Yk):Option qba:=
 (some (_v21,_v22,_v23))
def qem(_N:Nat)(_kn25:(Int×(List Yh))×Yj->Option qba)(_v5:List Yh)(_v6:Int)(_v8:Int)(_v9:List Yh)(_v7:Int)(_v10:Int×List Yk)(_kn26:((List Yh)×Int×Int×(List Yh))×(Int×Yj)->Option qba):Option qba:=
 (bif (decide (_v7<_v6)) then (bif (decide (0<=_v7)&&decide (_v7<(_v5.length:Int))) then (bif (decide ((((nth ((0:Int),((0:Int),(0:Int))) _v5 (_v7).toNat).2).2)>(0:Int))) then ((qH _N (((nth ((0:Int),((0:Int),(0:Int))) _v5 (_v7).toNat).1,((nth ((0:Int),((0:Int),(0:Int))) _v5 (_v7).toNat).2).1),(1:Int),_v10)).bind fun _y27=>(_kn26 ((_v5,_v6,_v8,_v9),((IntKind.i64.wrap (_v7+(1:Int))),_y27)))) else (_kn26 ((_v5,_v6,_v8,_v9),((IntKind.i64.wrap (_v7+(1:Int))),_v10)))) else none) else (_kn25 ((_v8,_v9),_v10)))
def qel(_N:Nat)(_v2:Int)(_v3:List Yh)(_v4:Int×List Yk)(_kn25:(Int×(List Yh))×Yj->Option qba)(_y1:List Yh):Option qba:=
 (bif (_v2==(7:Int)) then (loopE (fun (_c:(List Yh)×Int×Int×(List Yh)) (_s:Int×Yj) _kn=>qem _N _kn25 _c.1 _c.2.1 _c.2.2.1 _c.2.2.2 _s.1 _s.2 _kn) _N (_y1,(_y1.length:Int),_v2,_v3) ((0:Int),_v4)) else ((qfS _N (_v2,_y1,())).bind fun _y28=>(bif _y28.2.1 then (bif (decide (0<=(0:Int))&&decide ((0:Int)<(_y1.length:Int))) then ((qH _N (((nth ((0:Int),((0:Int),(0:Int))) _y1 (0:Int).toNat).1,_y28.1),(1:Int),_v4)).bind fun _y30=>(_kn25 ((_v2,_v3),_y30))) else none) else (_kn25 ((_v2,_v3),_v4)))))
def qly(_N:Nat)(_x1:Int)(_x2:List Yh):Option qba:=
 (joinD (fun (_s:Int×(List Yh)×Yj)=>qlz _N _s.1 _s.2.1 _s.2.2) fun _k24=>(forE (fun (_c:Int×(List Yh)) (_y:List Yh) (_s:Yj) _kn=>qel _N _c.1 _c.2 _s _kn _y) (fun (_c:Int×(List Yh)) (_s:Yj)=>(_k24 (_c.1,_c.2,_s))) (qsW _x2) (_x1,_x2) ((0:Int),([]:List Yk))))
def qdq(_N:Nat)(_x:Int×(List Yh)):Option qba:=qly _N _x.1 _x.2
theorem qqJ(_N:Nat):SpecH Tryd.prog Gs 63 qhF (qdq _N):=mkSpH (fn:=Tryd.f63) (c:=ql Tryd.f63) (C:=(qtH _N))
  (a:=.two .none (.two .none (.join 4 ⟨[(5,.ptr 3 0)],[.cells [.int .i64],.cells [.sl Sv],.oth false ⟨false,88,2,.pair (.int .i64) (.int .i64),.int .i64,false⟩,.cells [.ptr 2 1000000]]⟩ (.two .none (.one (.keep [2,5,12] 4 (.each 4 [.cells [.int .i64],.cells [.sl Sv],.oth false ⟨false,88,2,.pair (.int .i64) (.int .i64),.int .i64,false⟩,.cells [.ptr 2 1000000]] [2] .none (.one (.two .none (.two (.two .none (.one (.loop 4 ⟨[(5,.ptr 3 0),(16,.sl Sv),(17,.int .i64),(18,.int .i64)],[.cells [.int .i64],.cells [.sl Sv],.oth false ⟨false,88,2,.pair (.int .i64) (.int .i64),.int .i64,false⟩,.cells [.ptr 2 1000000]]⟩ [2,5] .none))) (.two .none (.two .none (.two (.draw 0 [.rd [3],.pure,.pure,.pure,.pure,.pure,.pure,.wr [2]]) .none)))))))))) .none)))
  (by kernel_rfl) rfl (by kernel_rfl) (by kernel_rfl) (by kernel_rfl) rfl ⟨rfl,by unfold TOk;kernel_rfl,qao rfl rfl (zG.2 ⟨qbh _N,(zG.2 ⟨qwy _N,(zC _)⟩)⟩),qan rfl rfl (zG.2 ⟨qCx,(zC _)⟩),rfl⟩ (fun _x=>by kernel_rfl)
theorem qrh(_N:Nat):EntOk Tryd.prog Gs (mkHe 63 qhF (qdq _N)):=entH ⟨Tryd.f63,ql Tryd.f63,by kernel_rfl,by kernel_rfl,rfl⟩ (qqJ _N)
end Go.Proofs.YtnhjpicdijeagaaDoor
end

noncomputable section
namespace Go.Proofs.YtnhjpicdijeagaaDoor
open Go.Abs
abbrev SC:Sh:=.pair (.int .i64) (.int .i64)
abbrev SB:Sh:=.pair (.int .i64) (.pair (.int .i64) (.int .i64))
abbrev Yn:Type:=Int×Int×Int
abbrev Ym:Type:=Int×(Int×Int)×Int
abbrev Yl:Type:=Int×List (Int×(Int×Int)×Int)
abbrev qcE:Sig:=⟨[.form (.ptr 0 1000000)],[.oth true ⟨false,88,2,.pair (.int .i64) (.int .i64),.int .i64,false⟩],
 [.dat false (.sl SB)],[.oth true ⟨false,88,2,.pair (.int .i64) (.int .i64),.int .i64,false⟩],[]⟩
abbrev qbj:Type:=(List Yn)×Yl
def qmA(_N:Nat):Ctx:={ T:=[(2,⟨.int .i64,1,8,some (.int .i64),[.int .i64 (0:Int)],false,[]⟩),(29,⟨.slice 69,1,24,some (.sl SB),[.nil],false,[]⟩),(60,⟨.map 88 2 SC (.int .i64),1,8,none,[.nl .map],false,[]⟩),(69,⟨.struct [(0,2),(1,2),(2,2)],3,24,some SB,[.int .i64 (0:Int),.int .i64 (0:Int),.int .i64 (0:Int)],true,[]⟩),(88,⟨.struct [(0,2),(1,2)],2,16,some SC,[.int .i64 (0:Int),.int .i64 (0:Int)],true,[]⟩)],G:=findE [mkS 32 69 SB 33 (fun p q=>(qak _N (p,q,())).map (·.1))],I:=findI [],N:=_N,n:=25,fx:=[2],fl:=1,gs:=Gs }
def qmj(_N:Nat)(_v10:Int×List Ym)(_v12:List Yn):Option qbj:=
 ((sortR (fun p q=>(qak _N (p,q,())).map (·.1)) _v12).bind fun _y14=>(some (_y14,_v10)))
def qmi(_N:Nat)(_k15:(Yl×Yl×(List Yn))->Option qbj)(_v1:Int×List Ym)(_v2:Int×List Ym)(_v5:List Yn)(_kn16:Yl×(Yl×(List Yn))->Option qbj):Option qbj:=
 (nextE (k:=.pair (.int .i64) (.int .i64)) (v:=.int .i64) _v2 (_k15 (_v1,_v2,_v5)) (fun _y17=>fun _y18=>(bif (decide ((_v5.length+([(_y17.2.1.1,(_y17.2.1.2,_y17.2.2))]).length)*24<=140737488355328)&&Nat.ble 1 24) then (_kn16 (_v1,(((1:Int),_y17 :: _y18),(_v5 ++ [(_y17.2.1.1,(_y17.2.1.2,_y17.2.2))])))) else none)))
def qmh(_N:Nat)(_x1:Int×List Ym):Option qbj:=
 (joinD (fun (_s:Yl×Yl×(List Yn))=>qmj _N _s.1 _s.2.2) fun _k15=>(loopE (fun (_c:Yl) (_s:Yl×(List Yn)) _kn=>qmi _N _k15 _c _s.1 _s.2 _kn) _N _x1 (((0:Int),_x1.2),[])))
def qat(_N:Nat)(_x:Yl):Option qbj:=qmh _N _x
theorem qfU(_N:Nat):SpecH Tryd.prog Gs 17 qcE (qat _N):=mkSpH (fn:=Tryd.f17) (c:=ql Tryd.f17) (C:=(qmA _N))
  (a:=.two .none (.two .none (.join 3 ⟨[(3,.slc 2 0)],[.oth true ⟨false,88,2,.pair (.int .i64) (.int .i64),.int .i64,false⟩,.oth false ⟨true,88,2,.pair (.int .i64) (.int .i64),.int .i64,false⟩,.row false 0 69 SB]⟩ (.two .none (.one (.obj 3 69 SB (.loop 3 ⟨[(3,.slc 2 0),(7,.ptr 1 1000000)],[.oth true ⟨false,88,2,.pair (.int .i64) (.int .i64),.int .i64,false⟩,.oth false ⟨true,88,2,.pair (.int .i64) (.int .i64),.int .i64,false⟩,.row false 0 69 SB]⟩ [1,2] (.two .nx .none))))) .none)))
  (by kernel_rfl) rfl (by kernel_rfl) (by kernel_rfl) (by kernel_rfl) rfl ⟨rfl,by unfold TOk;kernel_rfl,qao rfl rfl (zG.2 ⟨qrQ _N,(zC _)⟩),qan rfl rfl (zC _),rfl⟩ (fun _x=>by kernel_rfl)
theorem qgx(_N:Nat):EntOk Tryd.prog Gs (mkHe 17 qcE (qat _N)):=entH ⟨Tryd.f17,ql Tryd.f17,by kernel_rfl,by kernel_rfl,rfl⟩ (qfU _N)
abbrev qex:Sig:=⟨[.dat false SB],[],
 [.form (.ifc 130 (.agg [.int .i64,.int .i64]))],[],[([.form (.ifc 131 (.agg []))],[]),([.form (.ifc 133 (.agg [.int .i64,.int .i64]))],[]),([.form (.ifc 134 (.agg []))],[]),([.form (.nl .ifc)],[])]⟩
abbrev qjM:Type:=(Int×Int) ⊕ Unit ⊕ (Int×Int) ⊕ Unit ⊕ Unit
def qrl(_N:Nat):Ctx:={ T:=[(2,⟨.int .i64,1,8,some (.int .i64),[.int .i64 (0:Int)],false,[]⟩),(3,⟨.int .i64,1,8,some (.int .i64),[.int .i64 (0:Int)],false,[]⟩),(37,⟨.struct [(0,3),(1,2),(2,2)],3,24,some SB,[.int .i64 (0:Int),.int .i64 (0:Int),.int .i64 (0:Int)],true,[]⟩),(130,⟨.struct [(0,2),(1,2)],2,16,some SC,[.int .i64 (0:Int),.int .i64 (0:Int)],true,[]⟩),(131,⟨.struct [],0,0,some .unit,[],false,[]⟩),(133,⟨.struct [(0,2),(1,2)],2,16,some SC,[.int .i64 (0:Int),.int .i64 (0:Int)],true,[]⟩),(134,⟨.struct [],0,0,some .unit,[],false,[]⟩)],G:=findE [],I:=findI [],N:=_N,n:=29,fx:=[],fl:=0,gs:=Gs }
def qeU(_N:Nat)(_x1:Int×Int×Int):Option qjM:=
 (bif (_x1.1==(1:Int)) then (some (Sum.inl (_x1.2.1,_x1.2.2))) else (bif (_x1.1==(2:Int)) then (some (Sum.inr (Sum.inl ()))) else (bif (_x1.1==(3:Int)) then (some (Sum.inr (Sum.inr (Sum.inl (_x1.2.1,_x1.2.2))))) else (bif (_x1.1==(4:Int)) then (some (Sum.inr (Sum.inr (Sum.inr (Sum.inl ()))))) else (some (Sum.inr (Sum.inr (Sum.inr (Sum.inr ())))))))))
def qbq(_N:Nat)(_x:Yn):Option qjM:=qeU _N _x
theorem qoS(_N:Nat):SpecH Tryd.prog Gs 42 qex (qbq _N):=mkSpH (fn:=Tryd.f42) (c:=ql Tryd.f42) (C:=(qrl _N))
  (a:=.none)
  (by kernel_rfl) rfl (by kernel_rfl) (by kernel_rfl) (by kernel_rfl) rfl ⟨rfl,by unfold TOk;kernel_rfl,qao rfl rfl (zC _),qan rfl rfl (zC _),rfl⟩ (fun _x=>by kernel_rfl)
theorem qjD(_N:Nat):EntOk Tryd.prog Gs (mkHe 42 qex (qbq _N)):=entH ⟨Tryd.f42,ql Tryd.f42,by kernel_rfl,by kernel_rfl,rfl⟩ (qoS _N)
abbrev qew:Sig:=⟨[.dat false SC,.dat false SB,.form (.ptr 0 1000000)],[.oth false ⟨false,88,2,.pair (.int .i64) (.int .i64),.int .i64,false⟩],
 [],[.oth false ⟨false,88,2,.pair (.int .i64) (.int .i64),.int .i64,false⟩],[]⟩
abbrev qhn:Type:=Yl
def qnu (_N : Nat) : Ctx := { T := [(2, ⟨.int .i64, 1, 8, some (.int .i64), [.int .i64 (0 : Int)], false, []⟩), (69, ⟨.struct [(0, 2), (1, 2), (2, 2)], 3, 24, some SB, [.int .i64 (0 : Int), .int .i64 (0 : Int), .int .i64 (0 : Int)], true, []⟩), (88, ⟨.struct [(0, 2), (1, 2)], 2, 16, some SC, [.int .i64 (0 : Int), .int .i64 (0 : Int)], true, []⟩), (130, ⟨.struct [(0, 2), (1, 2)], 2, 16, some SC, [.int .i64 (0 : Int), .int .i64 (0 : Int)], true, [("watershed/ops.row", 104)]⟩)], G := findE [mkHe 62 qaP (qH _N)], I := findI [], N := _N, n := 21, fx := [], fl := 1, gs := Gs }
def qhM(_N:Nat)(_x1:Int×Int)(_x2:Int×Int×Int)(_x3:Int×List Ym):Option qhn:=
 ((qH _N (((IntKind.i64.wrap (_x2.1+_x1.1)),(IntKind.i64.wrap (_x2.2.1+_x1.2))),_x2.2.2,_x3)).bind fun _y2=>(some _y2))
def qcz(_N:Nat)(_x:(Int×Int)×Yn×Yl):Option qhn:=qhM _N _x.1 _x.2.1 _x.2.2
theorem qln(_N:Nat):SpecH Tryd.prog Gs 104 qew (qcz _N):=mkSpH (fn:=Tryd.f104) (c:=ql Tryd.f104) (C:=(qnu _N))
  (a:=.none)
  (by kernel_rfl) rfl (by kernel_rfl) (by kernel_rfl) (by kernel_rfl) rfl ⟨rfl,by unfold TOk;kernel_rfl,qao rfl rfl (zG.2 ⟨qbh _N,(zC _)⟩),qan rfl rfl (zC _),rfl⟩ (fun _x=>by kernel_rfl)
theorem qlW(_N:Nat):EntOk Tryd.prog Gs (mkHe 104 qew (qcz _N)):=entH ⟨Tryd.f104,ql Tryd.f104,by kernel_rfl,by kernel_rfl,rfl⟩ (qln _N)
abbrev qeM:Sig:=⟨[.dat false .unit,.dat false SB,.form (.ptr 0 1000000)],[.oth false ⟨false,88,2,.pair (.int .i64) (.int .i64),.int .i64,false⟩],
 [],[.oth false ⟨false,88,2,.pair (.int .i64) (.int .i64),.int .i64,false⟩],[]⟩
abbrev qih:Type:=Yl
def qox(_N:Nat):Ctx:={ T:=[(2,⟨.int .i64,1,8,some (.int .i64),[.int .i64 (0:Int)],false,[]⟩),(69,⟨.struct [(0,2),(1,2),(2,2)],3,24,some SB,[.int .i64 (0:Int),.int .i64 (0:Int),.int .i64 (0:Int)],true,[]⟩),(88,⟨.struct [(0,2),(1,2)],2,16,some SC,[.int .i64 (0:Int),.int .i64 (0:Int)],true,[]⟩)],G:=findE [mkHe 62 qaP (qH _N)],I:=findI [],N:=_N,n:=15,fx:=[],fl:=1,gs:=Gs }
def qiP(_N:Nat)(_x2:Int×Int×Int)(_x3:Int×List Ym):Option qih:=
 ((qH _N ((_x2.2.1,_x2.1),_x2.2.2,_x3)).bind fun _y2=>(some _y2))
def qcH(_N:Nat)(_x:Unit×Yn×Yl):Option qih:=qiP _N _x.2.1 _x.2.2
theorem qmC(_N:Nat):SpecH Tryd.prog Gs 105 qeM (qcH _N):=mkSpH (fn:=Tryd.f105) (c:=ql Tryd.f105) (C:=(qox _N))
  (a:=.none)
  (by kernel_rfl) rfl (by kernel_rfl) (by kernel_rfl) (by kernel_rfl) rfl ⟨rfl,by unfold TOk;kernel_rfl,qao rfl rfl (zG.2 ⟨qbh _N,(zC _)⟩),qan rfl rfl (zC _),rfl⟩ (fun _x=>by kernel_rfl)
theorem qna(_N:Nat):EntOk Tryd.prog Gs (mkHe 105 qeM (qcH _N)):=entH ⟨Tryd.f105,ql Tryd.f105,by kernel_rfl,by kernel_rfl,rfl⟩ (qmC _N)
abbrev qev:Sig:=⟨[.dat false SC,.dat false SB,.form (.ptr 0 1000000)],[.oth false ⟨false,88,2,.pair (.int .i64) (.int .i64),.int .i64,false⟩],
 [],[.oth false ⟨false,88,2,.pair (.int .i64) (.int .i64),.int .i64,false⟩],[]⟩
abbrev qhm:Type:=Yl
def qnt (_N : Nat) : Ctx := { T := [(2, ⟨.int .i64, 1, 8, some (.int .i64), [.int .i64 (0 : Int)], false, []⟩), (69, ⟨.struct [(0, 2), (1, 2), (2, 2)], 3, 24, some SB, [.int .i64 (0 : Int), .int .i64 (0 : Int), .int .i64 (0 : Int)], true, []⟩), (88, ⟨.struct [(0, 2), (1, 2)], 2, 16, some SC, [.int .i64 (0 : Int), .int .i64 (0 : Int)], true, []⟩), (133, ⟨.struct [(0, 2), (1, 2)], 2, 16, some SC, [.int .i64 (0 : Int), .int .i64 (0 : Int)], true, [("watershed/ops.row", 106)]⟩)], G := findE [mkHe 62 qaP (qH _N)], I := findI [], N := _N, n := 23, fx := [], fl := 1, gs := Gs }
def qeE(_N:Nat)(_x1:Int×Int)(_x2:Int×Int×Int)(_x3:Int×List Ym):Option qhm:=
 (bif ((iand .i64 _x2.1 _x1.1)==_x1.2) then ((qH _N ((_x2.1,_x2.2.1),_x2.2.2,_x3)).bind fun _y2=>(some _y2)) else (some _x3))
def qbS(_N:Nat)(_x:(Int×Int)×Yn×Yl):Option qhm:=qeE _N _x.1 _x.2.1 _x.2.2
theorem qlm(_N:Nat):SpecH Tryd.prog Gs 106 qev (qbS _N):=mkSpH (fn:=Tryd.f106) (c:=ql Tryd.f106) (C:=(qnt _N))
  (a:=.none)
  (by kernel_rfl) rfl (by kernel_rfl) (by kernel_rfl) (by kernel_rfl) rfl ⟨rfl,by unfold TOk;kernel_rfl,qao rfl rfl (zG.2 ⟨qbh _N,(zC _)⟩),qan rfl rfl (zC _),rfl⟩ (fun _x=>by kernel_rfl)
theorem qlV(_N:Nat):EntOk Tryd.prog Gs (mkHe 106 qev (qbS _N)):=entH ⟨Tryd.f106,ql Tryd.f106,by kernel_rfl,by kernel_rfl,rfl⟩ (qlm _N)
abbrev qdT:Sig:=⟨[.dat false .unit,.dat false SB,.form (.ptr 0 1000000)],[.oth false ⟨false,88,2,.pair (.int .i64) (.int .i64),.int .i64,false⟩],
 [],[.oth false ⟨false,88,2,.pair (.int .i64) (.int .i64),.int .i64,false⟩],[]⟩
abbrev qgE:Type:=Yl
def qmx(_N:Nat):Ctx:={ T:=[(2,⟨.int .i64,1,8,some (.int .i64),[.int .i64 (0:Int)],false,[]⟩),(69,⟨.struct [(0,2),(1,2),(2,2)],3,24,some SB,[.int .i64 (0:Int),.int .i64 (0:Int),.int .i64 (0:Int)],true,[]⟩),(88,⟨.struct [(0,2),(1,2)],2,16,some SC,[.int .i64 (0:Int),.int .i64 (0:Int)],true,[]⟩)],G:=findE [mkHe 62 qaP (qH _N)],I:=findI [],N:=_N,n:=16,fx:=[],fl:=1,gs:=Gs }
def qgO(_N:Nat)(_x2:Int×Int×Int)(_x3:Int×List Ym):Option qgE:=
 ((qH _N ((_x2.1,_x2.2.1),(IntKind.i64.wrap (0 - _x2.2.2)),_x3)).bind fun _y2=>(some _y2))
def qch(_N:Nat)(_x:Unit×Yn×Yl):Option qgE:=qgO _N _x.2.1 _x.2.2
theorem qkI(_N:Nat):SpecH Tryd.prog Gs 107 qdT (qch _N):=mkSpH (fn:=Tryd.f107) (c:=ql Tryd.f107) (C:=(qmx _N))
  (a:=.none)
  (by kernel_rfl) rfl (by kernel_rfl) (by kernel_rfl) (by kernel_rfl) rfl ⟨rfl,by unfold TOk;kernel_rfl,qao rfl rfl (zG.2 ⟨qbh _N,(zC _)⟩),qan rfl rfl (zC _),rfl⟩ (fun _x=>by kernel_rfl)
theorem qkY(_N:Nat):EntOk Tryd.prog Gs (mkHe 107 qdT (qch _N)):=entH ⟨Tryd.f107,ql Tryd.f107,by kernel_rfl,by kernel_rfl,rfl⟩ (qkI _N)
abbrev qtA:Sig:=⟨[.dat false SB,.form (.ptr 0 1000000)],[.oth true ⟨false,88,2,.pair (.int .i64) (.int .i64),.int .i64,false⟩],
 [.form (.ptr 2 1000000)],[.oth true ⟨false,88,2,.pair (.int .i64) (.int .i64),.int .i64,false⟩,.cells [.int .i64,.int .i64,.int .i64],.oth false ⟨false,88,2,.pair (.int .i64) (.int .i64),.int .i64,false⟩],[([.form (.ptr 4 1000000)],[.oth true ⟨false,88,2,.pair (.int .i64) (.int .i64),.int .i64,false⟩,.cells [.int .i64,.int .i64,.int .i64],.cells [.int .i64],.cells [.sl SB],.oth false ⟨false,88,2,.pair (.int .i64) (.int .i64),.int .i64,false⟩])]⟩
abbrev qam:Type:=(Yl×Int×Int×Int×Yl) ⊕ (Yl×Int×Int×Int×Int×(List Yn)×Yl)
def qvC (_N : Nat) : Ctx := { T := [(3, ⟨.int .i64, 1, 8, some (.int .i64), [.int .i64 (0 : Int)], false, []⟩), (29, ⟨.slice 69, 1, 24, some (.sl SB), [.nil], false, []⟩), (37, ⟨.struct [(0, 3), (1, 2), (2, 2)], 3, 24, some SB, [.int .i64 (0 : Int), .int .i64 (0 : Int), .int .i64 (0 : Int)], true, []⟩), (60, ⟨.map 88 2 SC (.int .i64), 1, 8, none, [.nl .map], false, []⟩), (69, ⟨.struct [(0, 2), (1, 2), (2, 2)], 3, 24, some SB, [.int .i64 (0 : Int), .int .i64 (0 : Int), .int .i64 (0 : Int)], true, []⟩), (103, ⟨.ifc, 1, 16, none, [.nl .ifc], false, []⟩), (130, ⟨.struct [(0, 2), (1, 2)], 2, 16, some SC, [.int .i64 (0 : Int), .int .i64 (0 : Int)], true, [("watershed/ops.row", 104)]⟩), (131, ⟨.struct [], 0, 0, some .unit, [], false, [("watershed/ops.row", 105)]⟩), (133, ⟨.struct [(0, 2), (1, 2)], 2, 16, some SC, [.int .i64 (0 : Int), .int .i64 (0 : Int)], true, [("watershed/ops.row", 106)]⟩), (134, ⟨.struct [], 0, 0, some .unit, [], false, [("watershed/ops.row", 107)]⟩)], G := findE [mkHe 17 qcE (qat _N), mkHe 42 qex (qbq _N), mkHe 104 qew (qcz _N), mkHe 105 qeM (qcH _N), mkHe 106 qev (qbS _N), mkHe 107 qdT (qch _N), mkHe 63 qhF (qdq _N)], I := findI [], N := _N, n := 33, fx := [], fl := 1, gs := Gs }
def qjp(_N:Nat)(_v23:Int×List Ym)(_v24:Int)(_v25:Int)(_v26:Int)(_v27:Int×List Ym):Option qam:=
 (some (Sum.inl (_v23,_v24,_v25,_v26,_v27)))
def qgT(_N:Nat)(_k44:(Yl×Int×Int×Int×Yl)->Option qam)(_v11:Int)(_v12:Int)(_v13:List Yn)(_v14:Int)(_v16:Int×List Ym)(_v17:Int)(_v18:Int)(_v19:Int)(_v15:Int)(_v20:Int×List Ym)(_kn45:(Int×Int×(List Yn)×Int×Yl×Int×Int×Int)×(Int×Yl)->Option qam):Option qam:=
 (bif (decide (_v15<_v14)) then (bif (decide (0<=_v15)&&decide (_v15<(_v13.length:Int))) then ((qcz _N ((_v11,_v12),((nth ((0:Int),((0:Int),(0:Int))) _v13 (_v15).toNat).1,(((nth ((0:Int),((0:Int),(0:Int))) _v13 (_v15).toNat).2).1,((nth ((0:Int),((0:Int),(0:Int))) _v13 (_v15).toNat).2).2)),_v20)).bind fun _y46=>(_kn45 ((_v11,_v12,_v13,_v14,_v16,_v17,_v18,_v19),((IntKind.i64.wrap (_v15+(1:Int))),_y46)))) else none) else (_k44 (_v16,_v17,_v18,_v19,_v20)))
def qjo(_N:Nat)(_v23:Int×List Ym)(_v24:Int)(_v25:Int)(_v26:Int)(_v27:Int×List Ym):Option qam:=
 (some (Sum.inl (_v23,_v24,_v25,_v26,_v27)))
def qgS(_N:Nat)(_k49:(Yl×Int×Int×Int×Yl)->Option qam)(_v28:List Yn)(_v12:Int)(_v30:Int×List Ym)(_v15:Int)(_v31:Int)(_v17:Int)(_v29:Int)(_v32:Int×List Ym)(_kn50:((List Yn)×Int×Yl×Int×Int×Int)×(Int×Yl)->Option qam):Option qam:=
 (bif (decide (_v29<_v12)) then (bif (decide (0<=_v29)&&decide (_v29<(_v28.length:Int))) then ((qcH _N ((),((nth ((0:Int),((0:Int),(0:Int))) _v28 (_v29).toNat).1,(((nth ((0:Int),((0:Int),(0:Int))) _v28 (_v29).toNat).2).1,((nth ((0:Int),((0:Int),(0:Int))) _v28 (_v29).toNat).2).2)),_v32)).bind fun _y51=>(_kn50 ((_v28,_v12,_v30,_v15,_v31,_v17),((IntKind.i64.wrap (_v29+(1:Int))),_y51)))) else none) else (_k49 (_v30,_v15,_v31,_v17,_v32)))
def qjn(_N:Nat)(_v23:Int×List Ym)(_v24:Int)(_v25:Int)(_v26:Int)(_v27:Int×List Ym):Option qam:=
 (some (Sum.inl (_v23,_v24,_v25,_v26,_v27)))
def qfh(_N:Nat)(_k54:(Yl×Int×Int×Int×Yl)->Option qam)(_v11:Int)(_v12:Int)(_v13:List Yn)(_v14:Int)(_v16:Int×List Ym)(_v17:Int)(_v18:Int)(_v19:Int)(_v15:Int)(_v20:Int×List Ym)(_kn55:(Int×Int×(List Yn)×Int×Yl×Int×Int×Int)×(Int×Yl)->Option qam):Option qam:=
 (bif (decide (_v15<_v14)) then (bif (decide (0<=_v15)&&decide (_v15<(_v13.length:Int))) then ((qbS _N ((_v11,_v12),((nth ((0:Int),((0:Int),(0:Int))) _v13 (_v15).toNat).1,(((nth ((0:Int),((0:Int),(0:Int))) _v13 (_v15).toNat).2).1,((nth ((0:Int),((0:Int),(0:Int))) _v13 (_v15).toNat).2).2)),_v20)).bind fun _y56=>(_kn55 ((_v11,_v12,_v13,_v14,_v16,_v17,_v18,_v19),((IntKind.i64.wrap (_v15+(1:Int))),_y56)))) else none) else (_k54 (_v16,_v17,_v18,_v19,_v20)))
def qjm(_N:Nat)(_v23:Int×List Ym)(_v24:Int)(_v25:Int)(_v26:Int)(_v27:Int×List Ym):Option qam:=
 (some (Sum.inl (_v23,_v24,_v25,_v26,_v27)))
def qgR(_N:Nat)(_k59:(Yl×Int×Int×Int×Yl)->Option qam)(_v28:List Yn)(_v12:Int)(_v30:Int×List Ym)(_v15:Int)(_v31:Int)(_v17:Int)(_v29:Int)(_v32:Int×List Ym)(_kn60:((List Yn)×Int×Yl×Int×Int×Int)×(Int×Yl)->Option qam):Option qam:=
 (bif (decide (_v29<_v12)) then (bif (decide (0<=_v29)&&decide (_v29<(_v28.length:Int))) then ((qch _N ((),((nth ((0:Int),((0:Int),(0:Int))) _v28 (_v29).toNat).1,(((nth ((0:Int),((0:Int),(0:Int))) _v28 (_v29).toNat).2).1,((nth ((0:Int),((0:Int),(0:Int))) _v28 (_v29).toNat).2).2)),_v32)).bind fun _y61=>(_kn60 ((_v28,_v12,_v30,_v15,_v31,_v17),((IntKind.i64.wrap (_v29+(1:Int))),_y61)))) else none) else (_k59 (_v30,_v15,_v31,_v17,_v32)))
def qjl(_N:Nat)(_x1:Int×Int×Int)(_x2:Int×List Ym):Option qam:=
 ((qat _N _x2).bind fun _y40=>((qbq _N (_x1.1,(_x1.2.1,_x1.2.2))).bind fun _y41=>(caseD _y41 (fun _y42=>(joinD (fun (_s:Yl×Int×Int×Int×Yl)=>qjp _N _s.1 _s.2.1 _s.2.2.1 _s.2.2.2.1 _s.2.2.2.2) fun _k44=>(loopE (fun (_c:Int×Int×(List Yn)×Int×Yl×Int×Int×Int) (_s:Int×Yl) _kn=>qgT _N _k44 _c.1 _c.2.1 _c.2.2.1 _c.2.2.2.1 _c.2.2.2.2.1 _c.2.2.2.2.2.1 _c.2.2.2.2.2.2.1 _c.2.2.2.2.2.2.2 _s.1 _s.2 _kn) _N (_y42.1,_y42.2,_y40.1,(_y40.1.length:Int),_y40.2,_x1.1,_x1.2.1,_x1.2.2) ((0:Int),((0:Int),([]:List Ym)))))) fun _y43=>(caseD _y43 (fun _y47=>(joinD (fun (_s:Yl×Int×Int×Int×Yl)=>qjo _N _s.1 _s.2.1 _s.2.2.1 _s.2.2.2.1 _s.2.2.2.2) fun _k49=>(loopE (fun (_c:(List Yn)×Int×Yl×Int×Int×Int) (_s:Int×Yl) _kn=>qgS _N _k49 _c.1 _c.2.1 _c.2.2.1 _c.2.2.2.1 _c.2.2.2.2.1 _c.2.2.2.2.2 _s.1 _s.2 _kn) _N (_y40.1,(_y40.1.length:Int),_y40.2,_x1.1,_x1.2.1,_x1.2.2) ((0:Int),((0:Int),([]:List Ym)))))) fun _y48=>(caseD _y48 (fun _y52=>(joinD (fun (_s:Yl×Int×Int×Int×Yl)=>qjn _N _s.1 _s.2.1 _s.2.2.1 _s.2.2.2.1 _s.2.2.2.2) fun _k54=>(loopE (fun (_c:Int×Int×(List Yn)×Int×Yl×Int×Int×Int) (_s:Int×Yl) _kn=>qfh _N _k54 _c.1 _c.2.1 _c.2.2.1 _c.2.2.2.1 _c.2.2.2.2.1 _c.2.2.2.2.2.1 _c.2.2.2.2.2.2.1 _c.2.2.2.2.2.2.2 _s.1 _s.2 _kn) _N (_y52.1,_y52.2,_y40.1,(_y40.1.length:Int),_y40.2,_x1.1,_x1.2.1,_x1.2.2) ((0:Int),((0:Int),([]:List Ym)))))) fun _y53=>(caseD _y53 (fun _y57=>(joinD (fun (_s:Yl×Int×Int×Int×Yl)=>qjm _N _s.1 _s.2.1 _s.2.2.1 _s.2.2.2.1 _s.2.2.2.2) fun _k59=>(loopE (fun (_c:(List Yn)×Int×Yl×Int×Int×Int) (_s:Int×Yl) _kn=>qgR _N _k59 _c.1 _c.2.1 _c.2.2.1 _c.2.2.2.1 _c.2.2.2.2.1 _c.2.2.2.2.2 _s.1 _s.2 _kn) _N (_y40.1,(_y40.1.length:Int),_y40.2,_x1.1,_x1.2.1,_x1.2.2) ((0:Int),((0:Int),([]:List Ym)))))) fun _y58=>((qdq _N (_x1.1,_y40.1)).bind fun _y62=>(some (Sum.inr (_y40.2,_x1.1,_x1.2.1,_x1.2.2,_y62.1,_y62.2.1,_y62.2.2))))))))))
def qfm(_N:Nat)(_x:Yn×Yl):Option qam:=qjl _N _x.1 _x.2
theorem qlo(_N:Nat):SpecH Tryd.prog Gs 48 qtA (qfm _N):=mkSpH (fn:=Tryd.f48) (c:=ql Tryd.f48) (C:=(qvC _N))
  (a:=.two .none (.two .none (.two .none (.sel 6 134 (.two .none (.two .none (.join 3 ⟨[(7,.ptr 2 1000000)],[.oth true ⟨false,88,2,.pair (.int .i64) (.int .i64),.int .i64,false⟩,.cells [.int .i64,.int .i64,.int .i64],.oth false ⟨false,88,2,.pair (.int .i64) (.int .i64),.int .i64,false⟩]⟩ (.two .none (.one (.loop 3 ⟨[(6,.ifc 134 (.agg [])),(7,.ptr 2 1000000),(21,.sl SB),(22,.int .i64),(23,.int .i64)],[.oth true ⟨false,88,2,.pair (.int .i64) (.int .i64),.int .i64,false⟩,.cells [.int .i64,.int .i64,.int .i64],.oth false ⟨false,88,2,.pair (.int .i64) (.int .i64),.int .i64,false⟩]⟩ [2,7] .none))) .none))) (.sel 6 133 (.two .none (.two .none (.join 3 ⟨[(7,.ptr 2 1000000)],[.oth true ⟨false,88,2,.pair (.int .i64) (.int .i64),.int .i64,false⟩,.cells [.int .i64,.int .i64,.int .i64],.oth false ⟨false,88,2,.pair (.int .i64) (.int .i64),.int .i64,false⟩]⟩ (.two .none (.one (.loop 3 ⟨[(6,.ifc 133 (.agg [.int .i64,.int .i64])),(7,.ptr 2 1000000),(21,.sl SB),(22,.int .i64),(23,.int .i64)],[.oth true ⟨false,88,2,.pair (.int .i64) (.int .i64),.int .i64,false⟩,.cells [.int .i64,.int .i64,.int .i64],.oth false ⟨false,88,2,.pair (.int .i64) (.int .i64),.int .i64,false⟩]⟩ [4,9] .none))) .none))) (.sel 6 131 (.two .none (.two .none (.join 3 ⟨[(7,.ptr 2 1000000)],[.oth true ⟨false,88,2,.pair (.int .i64) (.int .i64),.int .i64,false⟩,.cells [.int .i64,.int .i64,.int .i64],.oth false ⟨false,88,2,.pair (.int .i64) (.int .i64),.int .i64,false⟩]⟩ (.two .none (.one (.loop 3 ⟨[(6,.ifc 131 (.agg [])),(7,.ptr 2 1000000),(21,.sl SB),(22,.int .i64),(23,.int .i64)],[.oth true ⟨false,88,2,.pair (.int .i64) (.int .i64),.int .i64,false⟩,.cells [.int .i64,.int .i64,.int .i64],.oth false ⟨false,88,2,.pair (.int .i64) (.int .i64),.int .i64,false⟩]⟩ [2,7] .none))) .none))) (.sel 6 130 (.two .none (.two .none (.join 3 ⟨[(7,.ptr 2 1000000)],[.oth true ⟨false,88,2,.pair (.int .i64) (.int .i64),.int .i64,false⟩,.cells [.int .i64,.int .i64,.int .i64],.oth false ⟨false,88,2,.pair (.int .i64) (.int .i64),.int .i64,false⟩]⟩ (.two .none (.one (.loop 3 ⟨[(6,.ifc 130 (.agg [.int .i64,.int .i64])),(7,.ptr 2 1000000),(21,.sl SB),(22,.int .i64),(23,.int .i64)],[.oth true ⟨false,88,2,.pair (.int .i64) (.int .i64),.int .i64,false⟩,.cells [.int .i64,.int .i64,.int .i64],.oth false ⟨false,88,2,.pair (.int .i64) (.int .i64),.int .i64,false⟩]⟩ [4,9] .none))) .none))) .none)))))))
  (by kernel_rfl) rfl (by kernel_rfl) (by kernel_rfl) (by kernel_rfl) rfl ⟨rfl,by unfold TOk;kernel_rfl,qao rfl rfl (zG.2 ⟨qgx _N,(zG.2 ⟨qjD _N,(zG.2 ⟨qlW _N,(zG.2 ⟨qna _N,(zG.2 ⟨qlV _N,(zG.2 ⟨qkY _N,(zG.2 ⟨qrh _N,(zC _)⟩)⟩)⟩)⟩)⟩)⟩)⟩),qan rfl rfl (zC _),rfl⟩ (fun _x=>by kernel_rfl)
abbrev qtz:Sig:=⟨[.dat false SB,.form (.ptr 0 1000000),.form (.ptr 1 1000000)],[.oth true ⟨false,88,2,.pair (.int .i64) (.int .i64),.int .i64,false⟩,.oth true ⟨false,88,2,.pair (.int .i64) (.int .i64),.int .i64,false⟩],
 [.form (.ptr 3 1000000)],[.oth true ⟨false,88,2,.pair (.int .i64) (.int .i64),.int .i64,false⟩,.oth true ⟨false,88,2,.pair (.int .i64) (.int .i64),.int .i64,false⟩,.cells [.int .i64,.int .i64,.int .i64],.oth false ⟨false,88,2,.pair (.int .i64) (.int .i64),.int .i64,false⟩],[]⟩
abbrev qal:Type:=Yl×Yl×Int×Int×Int×Yl
def qvB(_N:Nat):Ctx:={ T:=[(2,⟨.int .i64,1,8,some (.int .i64),[.int .i64 (0:Int)],false,[]⟩),(3,⟨.int .i64,1,8,some (.int .i64),[.int .i64 (0:Int)],false,[]⟩),(29,⟨.slice 69,1,24,some (.sl SB),[.nil],false,[]⟩),(37,⟨.struct [(0,3),(1,2),(2,2)],3,24,some SB,[.int .i64 (0:Int),.int .i64 (0:Int),.int .i64 (0:Int)],true,[]⟩),(60,⟨.map 88 2 SC (.int .i64),1,8,none,[.nl .map],false,[]⟩),(69,⟨.struct [(0,2),(1,2),(2,2)],3,24,some SB,[.int .i64 (0:Int),.int .i64 (0:Int),.int .i64 (0:Int)],true,[]⟩),(88,⟨.struct [(0,2),(1,2)],2,16,some SC,[.int .i64 (0:Int),.int .i64 (0:Int)],true,[]⟩),(141,⟨.map 2 29 (.int .i64) (.sl SB),1,8,none,[.nl .map],false,[]⟩)],G:=findE [mkHe 17 qcE (qat _N),mkHe 44 qcQ (qaz _N),mkHe 62 qaP (qH _N)],I:=findI [],N:=_N,n:=87,fx:=[],fl:=2,gs:=Gs }
def qjk(_N:Nat)(_v67:Int×List Ym)(_v68:Int×List Ym)(_v69:Int)(_v70:Int)(_v71:Int)(_v72:Int×List Ym):Option qal:=
 (some (_v67,_v68,_v69,_v70,_v71,_v72))
def qgQ(_N:Nat)(_kn80:((List Yn)×Int×Yl×Yl×Int×Int×Int×(Int×List (Int×Int×List Yn)))×(Int×Yl)->Option qal)(_v52:List Yn)(_v53:Int)(_v54:Int)(_v55:Int×List Ym)(_v56:Int×List Ym)(_v57:Int)(_v58:Int)(_v59:Int)(_v60:Int×List Ym)(_v61:Int×List (Int×Int×List Yn)):Option qal:=
 (_kn80 ((_v52,_v53,_v55,_v56,_v57,_v58,_v59,_v61),((IntKind.i64.wrap (_v54+(1:Int))),_v60)))
def qfg(_N:Nat)(_k81:((List Yn)×Int×Int×Yl×Yl×Int×Int×Int×Yl×(Int×List (Int×Int×List Yn))×Int×Int×Int)->Option qal)(_v34:List Yn)(_v35:Int)(_v36:Int)(_v37:List Yn)(_v38:Int)(_v40:Int×List Ym)(_v41:Int×List Ym)(_v42:Int)(_v43:Int)(_v44:Int)(_v46:Int×List (Int×Int×List Yn))(_v47:Int)(_v48:Int)(_v49:Int)(_v39:Int)(_v45:Int×List Ym)(_kn82:((List Yn)×Int×Int×(List Yn)×Int×Yl×Yl×Int×Int×Int×(Int×List (Int×Int×List Yn))×Int×Int×Int)×(Int×Yl)->Option qal):Option qal:=
 (bif (decide (_v39<_v38)) then (bif (decide (0<=_v39)&&decide (_v39<(_v37.length:Int))) then ((qH _N ((_v47,(IntKind.i64.wrap ((IntKind.i64.wrap (_v43*_v48))+(IntKind.i64.wrap (_v44*(((nth ((0:Int),((0:Int),(0:Int))) _v37 (_v39).toNat).2).1)))))),(IntKind.i64.wrap (_v49*(((nth ((0:Int),((0:Int),(0:Int))) _v37 (_v39).toNat).2).2))),_v45)).bind fun _y83=>(_kn82 ((_v34,_v35,_v36,_v37,_v38,_v40,_v41,_v42,_v43,_v44,_v46,_v47,_v48,_v49),((IntKind.i64.wrap (_v39+(1:Int))),_y83)))) else none) else (_k81 (_v34,_v35,_v36,_v40,_v41,_v42,_v43,_v44,_v45,_v46,_v47,_v48,_v49)))
def qgP(_N:Nat)(_k78:(Yl×Yl×Int×Int×Int×Yl×(Int×List (Int×Int×List Yn)))->Option qal)(_v24:List Yn)(_v25:Int)(_v27:Int×List Ym)(_v28:Int×List Ym)(_v29:Int)(_v30:Int)(_v31:Int)(_v33:Int×List (Int×Int×List Yn))(_v26:Int)(_v32:Int×List Ym)(_kn80:((List Yn)×Int×Yl×Yl×Int×Int×Int×(Int×List (Int×Int×List Yn)))×(Int×Yl)->Option qal):Option qal:=
 (bif (decide (_v26<_v25)) then (joinD (fun (_s:(List Yn)×Int×Int×Yl×Yl×Int×Int×Int×Yl×(Int×List (Int×Int×List Yn))×Int×Int×Int)=>qgQ _N _kn80 _s.1 _s.2.1 _s.2.2.1 _s.2.2.2.1 _s.2.2.2.2.1 _s.2.2.2.2.2.1 _s.2.2.2.2.2.2.1 _s.2.2.2.2.2.2.2.1 _s.2.2.2.2.2.2.2.2.1 _s.2.2.2.2.2.2.2.2.2.1) fun _k81=>(bif (decide (0<=_v26)&&decide (_v26<(_v24.length:Int))) then (loopE (fun (_c:(List Yn)×Int×Int×(List Yn)×Int×Yl×Yl×Int×Int×Int×(Int×List (Int×Int×List Yn))×Int×Int×Int) (_s:Int×Yl) _kn=>qfg _N _k81 _c.1 _c.2.1 _c.2.2.1 _c.2.2.2.1 _c.2.2.2.2.1 _c.2.2.2.2.2.1 _c.2.2.2.2.2.2.1 _c.2.2.2.2.2.2.2.1 _c.2.2.2.2.2.2.2.2.1 _c.2.2.2.2.2.2.2.2.2.1 _c.2.2.2.2.2.2.2.2.2.2.1 _c.2.2.2.2.2.2.2.2.2.2.2.1 _c.2.2.2.2.2.2.2.2.2.2.2.2.1 _c.2.2.2.2.2.2.2.2.2.2.2.2.2 _s.1 _s.2 _kn) _N (_v24,_v25,_v26,(mpGet (.int .i64) (.sl SB) _v33 ((nth ((0:Int),((0:Int),(0:Int))) _v24 (_v26).toNat).1)),((mpGet (.int .i64) (.sl SB) _v33 ((nth ((0:Int),((0:Int),(0:Int))) _v24 (_v26).toNat).1)).length:Int),_v27,_v28,_v29,_v30,_v31,_v33,(nth ((0:Int),((0:Int),(0:Int))) _v24 (_v26).toNat).1,((nth ((0:Int),((0:Int),(0:Int))) _v24 (_v26).toNat).2).1,((nth ((0:Int),((0:Int),(0:Int))) _v24 (_v26).toNat).2).2) ((0:Int),_v32)) else none)) else (_k78 (_v27,_v28,_v29,_v30,_v31,_v32,_v33)))
def qjj(_N:Nat)(_v16:Int×List Ym)(_v17:Int×List Ym)(_v18:Int)(_v19:Int)(_v20:Int)(_v21:Int×List Ym)(_v22:Int×List (Int×Int×List Yn)):Option qal:=
 (joinD (fun (_s:Yl×Yl×Int×Int×Int×Yl×(Int×List (Int×Int×List Yn)))=>qjk _N _s.1 _s.2.1 _s.2.2.1 _s.2.2.2.1 _s.2.2.2.2.1 _s.2.2.2.2.2.1) fun _k78=>((qat _N _v16).bind fun _y79=>(loopE (fun (_c:(List Yn)×Int×Yl×Yl×Int×Int×Int×(Int×List (Int×Int×List Yn))) (_s:Int×Yl) _kn=>qgP _N _k78 _c.1 _c.2.1 _c.2.2.1 _c.2.2.2.1 _c.2.2.2.2.1 _c.2.2.2.2.2.1 _c.2.2.2.2.2.2.1 _c.2.2.2.2.2.2.2 _s.1 _s.2 _kn) _N (_y79.1,(_y79.1.length:Int),_y79.2,_v17,_v18,_v19,_v20,_v22) ((0:Int),_v21))))
def qff(_N:Nat)(_k84:(Yl×Yl×Int×Int×Int×Yl×(Int×List (Int×Int×List Yn)))->Option qal)(_v6:List Yn)(_v7:Int)(_v9:Int×List Ym)(_v10:Int×List Ym)(_v11:Int)(_v12:Int)(_v13:Int)(_v14:Int×List Ym)(_v8:Int)(_v15:Int×List (Int×Int×List Yn))(_kn86:((List Yn)×Int×Yl×Yl×Int×Int×Int×Yl)×(Int×(Int×List (Int×Int×List Yn)))->Option qal):Option qal:=
 (bif (decide (_v8<_v7)) then (bif (decide (0<=_v8)&&decide (_v8<(_v6.length:Int))) then (bif (decide (((mpGet (.int .i64) (.sl SB) _v15 ((nth ((0:Int),((0:Int),(0:Int))) _v6 (_v8).toNat).1)).length+([((nth ((0:Int),((0:Int),(0:Int))) _v6 (_v8).toNat).1,(((nth ((0:Int),((0:Int),(0:Int))) _v6 (_v8).toNat).2).1,((nth ((0:Int),((0:Int),(0:Int))) _v6 (_v8).toNat).2).2))]).length)*24<=140737488355328)&&Nat.ble 1 24) then (bif (qrJ (.int .i64) SB (some ((nth ((0:Int),((0:Int),(0:Int))) _v6 (_v8).toNat).1,.bad)) _v15 ((nth ((0:Int),((0:Int),(0:Int))) _v6 (_v8).toNat).1)) then (_kn86 ((_v6,_v7,_v9,_v10,_v11,_v12,_v13,_v14),((IntKind.i64.wrap (_v8+(1:Int))),(mpPut (.int .i64) (.sl SB) _v15 ((nth ((0:Int),((0:Int),(0:Int))) _v6 (_v8).toNat).1) ((mpGet (.int .i64) (.sl SB) _v15 ((nth ((0:Int),((0:Int),(0:Int))) _v6 (_v8).toNat).1)) ++ [((nth ((0:Int),((0:Int),(0:Int))) _v6 (_v8).toNat).1,(((nth ((0:Int),((0:Int),(0:Int))) _v6 (_v8).toNat).2).1,((nth ((0:Int),((0:Int),(0:Int))) _v6 (_v8).toNat).2).2))]))))) else none) else none) else none) else (_k84 (_v9,_v10,_v11,_v12,_v13,_v14,_v15)))
def qji(_N:Nat)(_x1:Int×Int×Int)(_x2:Int×List Ym)(_x3:Int×List Ym):Option qal:=
 (bif (_x1.1==(9:Int)) then ((qat _N _x2).bind fun _y74=>((qaz _N (_y74.1,(1:Int),((0:Int),([]:List Ym)))).bind fun _y75=>((qat _N _x3).bind fun _y76=>((qaz _N (_y76.1,(1:Int),_y75)).bind fun _y77=>(some (_y74.2,_y76.2,_x1.1,_x1.2.1,_x1.2.2,_y77)))))) else (joinD (fun (_s:Yl×Yl×Int×Int×Int×Yl×(Int×List (Int×Int×List Yn)))=>qjj _N _s.1 _s.2.1 _s.2.2.1 _s.2.2.2.1 _s.2.2.2.2.1 _s.2.2.2.2.2.1 _s.2.2.2.2.2.2) fun _k84=>((qat _N _x3).bind fun _y85=>(loopE (fun (_c:(List Yn)×Int×Yl×Yl×Int×Int×Int×Yl) (_s:Int×(Int×List (Int×Int×List Yn))) _kn=>qff _N _k84 _c.1 _c.2.1 _c.2.2.1 _c.2.2.2.1 _c.2.2.2.2.1 _c.2.2.2.2.2.1 _c.2.2.2.2.2.2.1 _c.2.2.2.2.2.2.2 _s.1 _s.2 _kn) _N (_y85.1,(_y85.1.length:Int),_x2,_y85.2,_x1.1,_x1.2.1,_x1.2.2,((0:Int),([]:List Ym))) ((0:Int),((0:Int),([]:List (Int×Int×List Yn))))))))
def qee(_N:Nat)(_x:Yn×Yl×Yl):Option qal:=qji _N _x.1 _x.2.1 _x.2.2
theorem qsk(_N:Nat):SpecH Tryd.prog Gs 49 qtz (qee _N):=mkSpH (fn:=Tryd.f49) (c:=ql Tryd.f49) (C:=(qvB _N))
  (a:=.two .none (.two .none (.two .none (.two .none (.join 5 ⟨[(1,.ptr 0 1000000),(3,.ptr 2 0),(7,.ptr 3 1000000),(8,.ptr 4 1000000)],[.oth true ⟨false,88,2,.pair (.int .i64) (.int .i64),.int .i64,false⟩,.oth true ⟨false,88,2,.pair (.int .i64) (.int .i64),.int .i64,false⟩,.cells [.int .i64,.int .i64,.int .i64],.oth false ⟨false,88,2,.pair (.int .i64) (.int .i64),.int .i64,false⟩,.kds 0 (.map 2 29 (.int .i64)) (.row 69 SB)]⟩ (.two (.thw 4 69 .none) (.one (.loop 5 ⟨[(1,.ptr 0 1000000),(3,.ptr 2 0),(7,.ptr 3 1000000),(8,.ptr 4 1000000),(30,.sl SB),(31,.int .i64),(32,.int .i64)],[.oth true ⟨false,88,2,.pair (.int .i64) (.int .i64),.int .i64,false⟩,.oth true ⟨false,88,2,.pair (.int .i64) (.int .i64),.int .i64,false⟩,.cells [.int .i64,.int .i64,.int .i64],.oth false ⟨false,88,2,.pair (.int .i64) (.int .i64),.int .i64,false⟩,.kds 0 (.map 2 29 (.int .i64)) (.row 69 SB)]⟩ [2,9] (.two .none (.two .none (.two (.one (.two .none (.draw 2 [.pure,.pure,.rd [5],.pure,.pure,.rd [5],.wr [6,4],.rd [5],.new 7,.wr [6,7],.wr [4,6]]))) .none)))))) (.join 5 ⟨[(7,.ptr 3 1000000)],[.oth true ⟨false,88,2,.pair (.int .i64) (.int .i64),.int .i64,false⟩,.oth true ⟨false,88,2,.pair (.int .i64) (.int .i64),.int .i64,false⟩,.cells [.int .i64,.int .i64,.int .i64],.oth false ⟨false,88,2,.pair (.int .i64) (.int .i64),.int .i64,false⟩,.oth false ⟨false,2,29,.int .i64,.sl SB,false⟩]⟩ (.two (.frk 4 .none) (.one (.loop 5 ⟨[(3,.ptr 2 0),(7,.ptr 3 1000000),(8,.ptr 4 1000000),(48,.sl SB),(49,.int .i64),(50,.int .i64)],[.oth true ⟨false,88,2,.pair (.int .i64) (.int .i64),.int .i64,false⟩,.oth true ⟨false,88,2,.pair (.int .i64) (.int .i64),.int .i64,false⟩,.cells [.int .i64,.int .i64,.int .i64],.oth false ⟨false,88,2,.pair (.int .i64) (.int .i64),.int .i64,false⟩,.oth false ⟨false,2,29,.int .i64,.sl SB,false⟩]⟩ [2,8] (.two .none (.two .none (.join 6 ⟨[(3,.ptr 2 0),(7,.ptr 3 1000000),(8,.ptr 4 1000000),(48,.sl SB),(49,.int .i64),(50,.int .i64)],[.oth true ⟨false,88,2,.pair (.int .i64) (.int .i64),.int .i64,false⟩,.oth true ⟨false,88,2,.pair (.int .i64) (.int .i64),.int .i64,false⟩,.cells [.int .i64,.int .i64,.int .i64],.oth false ⟨false,88,2,.pair (.int .i64) (.int .i64),.int .i64,false⟩,.oth false ⟨false,2,29,.int .i64,.sl SB,false⟩,.cells [.int .i64,.int .i64,.int .i64]]⟩ (.one (.two .none (.two .none (.one (.loop 6 ⟨[(3,.ptr 2 0),(7,.ptr 3 1000000),(8,.ptr 4 1000000),(12,.ptr 5 0),(48,.sl SB),(49,.int .i64),(50,.int .i64),(57,.sl SB),(58,.int .i64),(59,.int .i64)],[.oth true ⟨false,88,2,.pair (.int .i64) (.int .i64),.int .i64,false⟩,.oth true ⟨false,88,2,.pair (.int .i64) (.int .i64),.int .i64,false⟩,.cells [.int .i64,.int .i64,.int .i64],.oth false ⟨false,88,2,.pair (.int .i64) (.int .i64),.int .i64,false⟩,.oth false ⟨false,2,29,.int .i64,.sl SB,false⟩,.cells [.int .i64,.int .i64,.int .i64]]⟩ [5,11] .none))))) .none)))))) .none))))))
  (by kernel_rfl) rfl (by kernel_rfl) (by kernel_rfl) (by kernel_rfl) rfl ⟨rfl,by unfold TOk;kernel_rfl,qao rfl rfl (zG.2 ⟨qgx _N,(zG.2 ⟨qhf _N,(zG.2 ⟨qbh _N,(zC _)⟩)⟩)⟩),qan rfl rfl (zC _),rfl⟩ (fun _x=>by kernel_rfl)
end Go.Proofs.YtnhjpicdijeagaaDoor
end

namespace Go.Proofs.YtnhjpicdijeagaaDoor
open Go.Abs Go.Bag
theorem qhp{N:Nat}{f:Key->Int}{d:Bg}(h:BOk f d)(hN:d.2.length+10<N)(hb:d.2.length*24<=140737488355328) :
  ∃ out:List Row,qat N d=some (out,d)/\IsBag f out/\out.length=d.2.length:=qBs h hN hb
theorem qlI{R C:Type}{N:Nat}(g:C->Int×Bg->(C×(Int×Bg)->Option R)->Option R)(c:C)(rows:List Row)(f:Row->Option Row)(k:Bg->Option R){F0:Key->Int}{d0:Bg}(h0:BOk F0 d0)
  (step:∀ (i:Nat) (b:Bg) (F:Key->Int),i<rows.length->BOk F b->∃ b',(∀ kn,g c ((i:Int),b) kn=kn (c,((i:Int)+1,b')))/\BOk (fun e=>F e+amtO (f (nth (0,0,0) rows i)) e) b'/\b'.2.length<=b.2.length+1)
  (stop:∀ b kn,g c ((rows.length:Int),b) kn=k b) (hN:rows.length<N) :
  ∃ d',loopE g N c ((0:Int),d0)=k d'/\BOk (fun e=>F0 e+amt (rows.filterMap f) e) d'/\d'.2.length<=d0.2.length+rows.length:=by
 unfold loopE
 obtain⟨s',⟨h1,h2,h3⟩,e⟩:=qhT (g:=fun (s:Int×Bg) kn=>g c s (backE c kn)) (k:=fun s:Int×Bg=>k s.2) rows.length
  (fun i s=>s.1=(i:Int)/\BOk (fun z=>F0 z+amt ((rows.take i).filterMap f) z) s.2/\s.2.2.length<=d0.2.length+i) (N:=N) (s:=((0:Int),d0))
  (by
   rintro i ⟨_,b⟩ hi ⟨rfl,hb,hlen⟩
   simp only at hb hlen
   obtain⟨b',e1,e2,e3⟩:=step i b _ hi hb
   refine⟨((i:Int)+1,b'),⟨by simp,e2.cg fun z=>?_,by simp only;omega⟩,fun kn=>by rw [e1,qaq]⟩
   rw [qeS (z:=((0:Int),(0:Int),(0:Int))) hi,zAf,qbi,qmm]
   simp only [zAv,amt,zAo]
   exact .of_eq (by omega))
  (by
   rintro⟨_,b⟩ ⟨rfl,hb,hlen⟩ kn
   exact stop b _)
  hN ⟨rfl,h0.cg fun z=>by simp only [List.take_zero,zAv,amt,zAo];exact Cg.rfl,Nat.le_refl _⟩
 exact⟨s'.2,e,by simpa only [zAR] using h2,h3⟩
theorem qjL(r:Row)(e:Key):amtO (some r) e=if e=ky r then r.2.2 else 0:=by
 unfold amtO
 by_cases h:ky r=e
 ·simp only [zJ h,zJ h.symm]
 ·simp only [zL h]
  rw [zL (fun q:e=ky r=>h q.symm)]
theorem qCJ{N:Nat}{F:Key->Int}{d:Bg}(h:BOk F d)(k A B:Int)(hk:1<=k)(hk4:k<=4)(hN:d.2.length+10<N)(hb:d.2.length*24<=140737488355328) :
  ∃ (rows:List Row) (out:Bg),qfm N ((k,A,B),d)=some (.inl (d,k,A,B,out))/\IsBag F rows/\BOk (amt (rows.filterMap (rowF k A B))) out/\rows.length=d.2.length/\out.2.length<=rows.length:=by
 obtain⟨rows,r1,r2,r3⟩:=qhp h hN hb
 have hlen:rows.length<=4611686018427387904:=by omega
 have hN':rows.length<N:=by omega
 simp only [qfm,qjl,r1,Option.bind_some,qbq,qeU]
 rcases (by omega:k=1\/k=2\/k=3\/k=4) with rfl | rfl | rfl | rfl
 ·simp only [zAZ,cond_true,Option.bind_some,qmf,joinD]
  obtain⟨d',e1,e2,e3⟩:=qlI (N:=N) (fun (c:Int×Int×(List Row)×Int×Bg×Int×Int×Int) (s:Int×Bg) kn=>qgT N (fun s=>qjp N s.1 s.2.1 s.2.2.1 s.2.2.2.1 s.2.2.2.2) c.1 c.2.1 c.2.2.1 c.2.2.2.1 c.2.2.2.2.1 c.2.2.2.2.2.1 c.2.2.2.2.2.2.1 c.2.2.2.2.2.2.2 s.1 s.2 kn) (A,B,rows,(rows.length:Int),d,1,A,B) rows (rowF 1 A B) (fun b=>some (.inl (d,1,A,B,b))) BOk.empty (fun i b F hi hb=>by
    obtain⟨b',p1,p2,p3⟩:=qom (N:=N) hb (w ((nth ((0:Int),(0:Int),(0:Int)) rows i).1+A),w ((nth ((0:Int),(0:Int),(0:Int)) rows i).2.1+B)) (nth ((0:Int),(0:Int),(0:Int)) rows i).2.2
    refine⟨b',fun kn=>?_,p2.cg fun e=>.of_eq ?_,p3⟩
    ·simp only [qgT,lt_d hi,ge0_d,Int.toNat_natCast,Bool.and_self,cond_true,qcz,qhM,ix1 hi hlen]
     unfold w at p1
     simp only [p1,Option.bind_some]
    ·rw [show rowF 1 A B (nth ((0:Int),(0:Int),(0:Int)) rows i)=some (w ((nth ((0:Int),(0:Int),(0:Int)) rows i).1+A),w ((nth ((0:Int),(0:Int),(0:Int)) rows i).2.1+B),(nth ((0:Int),(0:Int),(0:Int)) rows i).2.2) from rfl,qjL]
     rfl)
   (fun b kn=>by simp only [qgT,qbb,cond_false,qjp]) hN'
  exact⟨rows,d',e1,r2,e2.cg fun e=>.of_eq (zBG _),r3,by simpa using e3⟩
 ·simp only [show ((2:Int)==1)=false from rfl,zAZ,cond_true,cond_false,Option.bind_some,qmf,qme,joinD]
  obtain⟨d',e1,e2,e3⟩:=qlI (N:=N) (fun (c:(List Row)×Int×Bg×Int×Int×Int) (s:Int×Bg) kn=>qgS N (fun s=>qjo N s.1 s.2.1 s.2.2.1 s.2.2.2.1 s.2.2.2.2) c.1 c.2.1 c.2.2.1 c.2.2.2.1 c.2.2.2.2.1 c.2.2.2.2.2 s.1 s.2 kn) (rows,(rows.length:Int),d,2,A,B) rows (rowF 2 A B) (fun b=>some (.inl (d,2,A,B,b))) BOk.empty (fun i b F hi hb=>by
    obtain⟨b',p1,p2,p3⟩:=qom (N:=N) hb ((nth ((0:Int),(0:Int),(0:Int)) rows i).2.1,(nth ((0:Int),(0:Int),(0:Int)) rows i).1) (nth ((0:Int),(0:Int),(0:Int)) rows i).2.2
    refine⟨b',fun kn=>?_,p2.cg fun e=>.of_eq ?_,p3⟩
    ·simp only [qgS,lt_d hi,ge0_d,Int.toNat_natCast,Bool.and_self,cond_true,qcH,qiP,ix1 hi hlen,p1,Option.bind_some]
    ·rw [show rowF 2 A B (nth ((0:Int),(0:Int),(0:Int)) rows i)=some ((nth ((0:Int),(0:Int),(0:Int)) rows i).2.1,(nth ((0:Int),(0:Int),(0:Int)) rows i).1,(nth ((0:Int),(0:Int),(0:Int)) rows i).2.2) from rfl,qjL]
     rfl)
   (fun b kn=>by simp only [qgS,qbb,cond_false,qjo]) hN'
  exact⟨rows,d',e1,r2,e2.cg fun e=>.of_eq (zBG _),r3,by simpa using e3⟩
 ·simp only [show ((3:Int)==1)=false from rfl,show ((3:Int)==2)=false from rfl,zAZ,cond_true,cond_false,Option.bind_some,qmf,qme,joinD]
  obtain⟨d',e1,e2,e3⟩:=qlI (N:=N) (fun (c:Int×Int×(List Row)×Int×Bg×Int×Int×Int) (s:Int×Bg) kn=>qfh N (fun s=>qjn N s.1 s.2.1 s.2.2.1 s.2.2.2.1 s.2.2.2.2) c.1 c.2.1 c.2.2.1 c.2.2.2.1 c.2.2.2.2.1 c.2.2.2.2.2.1 c.2.2.2.2.2.2.1 c.2.2.2.2.2.2.2 s.1 s.2 kn) (A,B,rows,(rows.length:Int),d,3,A,B) rows (rowF 3 A B) (fun b=>some (.inl (d,3,A,B,b))) BOk.empty (fun i b F hi hb=>by
    by_cases q:iand .i64 (nth ((0:Int),(0:Int),(0:Int)) rows i).1 A=B
    ·obtain⟨b',p1,p2,p3⟩:=qom (N:=N) hb ((nth ((0:Int),(0:Int),(0:Int)) rows i).1,(nth ((0:Int),(0:Int),(0:Int)) rows i).2.1) (nth ((0:Int),(0:Int),(0:Int)) rows i).2.2
     refine⟨b',fun kn=>?_,p2.cg fun e=>.of_eq ?_,p3⟩
     ·simp only [qfh,lt_d hi,ge0_d,Int.toNat_natCast,Bool.and_self,cond_true,qbS,qeE,ix1 hi hlen,p1,Option.bind_some,beq_iff_eq.2 q]
     ·rw [show rowF 3 A B (nth ((0:Int),(0:Int),(0:Int)) rows i)=some (nth ((0:Int),(0:Int),(0:Int)) rows i) from zJ q,qjL]
      rfl
    ·refine⟨b,fun kn=>?_,hb.cg fun e=>.of_eq ?_,zBc _⟩
     ·simp only [qfh,lt_d hi,ge0_d,Int.toNat_natCast,Bool.and_self,cond_true,qbS,qeE,ix1 hi hlen,Option.bind_some,zO q,cond_false]
     ·rw [show rowF 3 A B (nth ((0:Int),(0:Int),(0:Int)) rows i)=none from zL q]
      simp [amtO])
   (fun b kn=>by simp only [qfh,qbb,cond_false,qjn]) hN'
  exact⟨rows,d',e1,r2,e2.cg fun e=>.of_eq (zBG _),r3,by simpa using e3⟩
 ·simp only [show ((4:Int)==1)=false from rfl,show ((4:Int)==2)=false from rfl,show ((4:Int)==3)=false from rfl,zAZ,cond_true,cond_false,Option.bind_some,qmf,qme,joinD]
  obtain⟨d',e1,e2,e3⟩:=qlI (N:=N) (fun (c:(List Row)×Int×Bg×Int×Int×Int) (s:Int×Bg) kn=>qgR N (fun s=>qjm N s.1 s.2.1 s.2.2.1 s.2.2.2.1 s.2.2.2.2) c.1 c.2.1 c.2.2.1 c.2.2.2.1 c.2.2.2.2.1 c.2.2.2.2.2 s.1 s.2 kn) (rows,(rows.length:Int),d,4,A,B) rows (rowF 4 A B) (fun b=>some (.inl (d,4,A,B,b))) BOk.empty (fun i b F hi hb=>by
    obtain⟨b',p1,p2,p3⟩:=qom (N:=N) hb ((nth ((0:Int),(0:Int),(0:Int)) rows i).1,(nth ((0:Int),(0:Int),(0:Int)) rows i).2.1) (w (0 - (nth ((0:Int),(0:Int),(0:Int)) rows i).2.2))
    refine⟨b',fun kn=>?_,p2.cg fun e=>.of_eq ?_,p3⟩
    ·simp only [qgR,lt_d hi,ge0_d,Int.toNat_natCast,Bool.and_self,cond_true,qch,qgO,ix1 hi hlen]
     unfold w at p1
     simp only [p1,Option.bind_some]
    ·rw [show rowF 4 A B (nth ((0:Int),(0:Int),(0:Int)) rows i)=some ((nth ((0:Int),(0:Int),(0:Int)) rows i).1,(nth ((0:Int),(0:Int),(0:Int)) rows i).2.1,w (0 - (nth ((0:Int),(0:Int),(0:Int)) rows i).2.2)) from rfl,qjL]
     rfl)
   (fun b kn=>by simp only [qgR,qbb,cond_false,qjm]) hN'
  exact⟨rows,d',e1,r2,e2.cg fun e=>.of_eq (zBG _),r3,by simpa using e3⟩
theorem qCM{N:Nat}(xs:List Row)(hN:xs.length<N)(hl:xs.length<=4611686018427387904 - 1) :
  (∃ i:Nat,i<xs.length/\qw N (xs,(),())=some ((i:Int),())/\xs.find? (fun r=>decide (r.2.2>0))=some (nth (0,0,0) xs i)) \/
  (qw N (xs,(),())=some (-1,())/\xs.find? (fun r=>decide (r.2.2>0))=none):=by
 simp only [qw,qaU,joinD,loopE]
 have hb:∀ (K:Unit->_) (i:Nat),i<xs.length->∀ kn,qac N K xs (xs.length:Int) (i:Int) (backE (xs,(xs.length:Int)) kn)=if (nth ((0:Int),(0:Int),(0:Int)) xs i).2.2>0 then some ((i:Int),()) else kn ((i:Int)+1):=fun K i hi kn=>by
  simp only [qac,lt_d hi,ge0_d,Int.toNat_natCast,Bool.and_self,cond_true,qez,qlx,Option.bind_some,ix1 hi (by omega),qaq]
  by_cases q:(nth ((0:Int),(0:Int),(0:Int)) xs i).2.2>0
  ·rw [qY q,zJ q];rfl
  ·rw [qah q,zL q];rfl
 by_cases hex:∃ i,i<xs.length/\(nth ((0:Int),(0:Int),(0:Int)) xs i).2.2>0
 ·obtain⟨i0,⟨a1,a2⟩,a3⟩:=least hex
  refine .inl ⟨i0,a1,qcJ i0 (fun i=>(i:Int)) (fun i hi kn=>?_) (fun kn=>?_) (by omega),?_⟩
  ·rw [hb _ i (by omega),zL (fun h=>by have:=a3 i ⟨by omega,h⟩;omega)];rfl
  ·rw [hb _ i0 a1,zJ a2]
  ·rw [List.find?_eq_some_iff_getElem]
   refine⟨by simpa using a2,i0,a1,(qfj a1).symm,fun j hj=>?_⟩
   have:=fun h=>a3 j ⟨by omega,h⟩
   rw [qfj (z:=((0:Int),(0:Int),(0:Int))) (show j<xs.length by omega)] at this
   simp only [zT,decide_eq_false_iff_not]
   intro h
   have:=this h
   omega
 ·refine .inr ⟨qcK (n:=xs.length) (by omega) (fun i hi kn=>?_) (fun kn=>?_) (by omega),?_⟩
  ·rw [hb _ i hi,zL (fun h=>hex ⟨i,hi,h⟩)]
  ·simp only [qac,qbb,cond_false,qaV]
  ·rw [List.find?_eq_none]
   intro x hx h
   obtain⟨i,hi,rfl⟩:=qds (z:=((0:Int),(0:Int),(0:Int))) hx
   exact hex ⟨i,hi,by simpa using h⟩
theorem qvL(a b:List Row):vsum (a++b)=vsum a+vsum b:=by
 induction a with
 | nil=>simp [vsum]
 | cons r a ih=>simp only [List.cons_append,vsum,ih];omega
theorem qDF{N:Nat}(kind:Int)(xs:List Row)(hN:xs.length<N)(hl:xs.length<=4611686018427387904 - 1) :
  qfS N (kind,xs,())=some (match hv kind xs with | some v=>(v,true,()) | none=>(0,false,())):=by
 simp only [qfS,qry,joinD,loopE,hv]
 by_cases h5:kind=5
 ·rw [show (kind==5)=true from beq_iff_eq.2 h5,cond_true,zJ h5]
  obtain⟨s',hI,e⟩:=qhT (g:=fun (s:Int×Int) kn=>qjS N (fun s=>qhN N s) xs (xs.length:Int) s.1 s.2 (backE (xs,(xs.length:Int)) kn)) (k:=fun s:Int×Int=>some (s.1,true,())) xs.length
   (fun i s=>s=(w (vsum (xs.take i)),(i:Int))) (N:=N) (s:=((0:Int),(0:Int)))
   (by
    rintro i _ hi rfl
    refine⟨_,rfl,fun kn=>?_⟩
    have h1:IntKind.i64.wrap (w (vsum (xs.take i))+IntKind.i64.wrap ((nth ((0:Int),(0:Int),(0:Int)) xs i).2.1*(nth ((0:Int),(0:Int),(0:Int)) xs i).2.2))=w (vsum (xs.take (i+1))):=by
     rw [qeS (z:=((0:Int),(0:Int),(0:Int))) hi,qvL]
     simp only [vsum,zAo]
     exact (cg_w _).add (cg_w _)
    simp only [qjS,lt_d hi,ge0_d,Int.toNat_natCast,Bool.and_self,cond_true,ix1 hi (by omega),qaq,h1]
    rfl)
   (by
    rintro _ rfl kn
    simp only [qjS,qbb,cond_false,qhN])
   hN (by simp only [List.take_zero,vsum,qny];rfl)
  subst hI
  rw [e,zAR]
 rw [show (kind==5)=false from zO h5,cond_false,zL h5]
 by_cases h6:kind=6
 ·rw [show (kind==6)=true from beq_iff_eq.2 h6,cond_true,zJ h6]
  obtain⟨s',hI,e⟩:=qhT (g:=fun (s:Int×Int) kn=>qjR N (fun s=>qhN N s) xs (xs.length:Int) s.1 s.2 (backE (xs,(xs.length:Int)) kn)) (k:=fun s:Int×Int=>some (s.1,true,())) xs.length
   (fun i s=>s=(w (tot (xs.take i)),(i:Int))) (N:=N) (s:=((0:Int),(0:Int)))
   (by
    rintro i _ hi rfl
    refine⟨_,rfl,fun kn=>?_⟩
    have h1:IntKind.i64.wrap (w (tot (xs.take i))+(nth ((0:Int),(0:Int),(0:Int)) xs i).2.2)=w (tot (xs.take (i+1))):=by
     rw [qeS (z:=((0:Int),(0:Int),(0:Int))) hi,qye]
     simp only [tot,zAo]
     exact (cg_w _).add Cg.rfl
    simp only [qjR,lt_d hi,ge0_d,Int.toNat_natCast,Bool.and_self,cond_true,ix1 hi (by omega),qaq,h1]
    rfl)
   (by
    rintro _ rfl kn
    simp only [qjR,qbb,cond_false,qhN])
   hN (by simp only [List.take_zero,tot,qny];rfl)
  subst hI
  rw [e,zAR]
 rw [show (kind==6)=false from zO h6,cond_false,zL h6]
 by_cases h8:kind=8
 ·rw [show (kind==8)=true from beq_iff_eq.2 h8,cond_true,zJ h8]
  rcases qCM (N:=N) xs hN hl with⟨i,hi,e1,e2⟩ | ⟨e1,e2⟩
  ·rw [e1,e2,Option.bind_some,qah (show ¬ ((i:Nat):Int)<0 by omega),cond_false,ge0_d,lt_d hi]
   rfl
  ·rw [e1,e2];rfl
 ·rw [show (kind==8)=false from zO h8,cond_false,zL h8]
  rfl
def addG(kind:Int)(xs:List Row):List Row:=if kind=7 then (xs.filter fun r=>decide (r.2.2>0)).map oneR else (rowG kind xs).toList
theorem qAq{N:Nat}(kind:Int)(rows xs:List Row)(hx:xs ≠ [])(hN:xs.length<N)(hl:xs.length<=4611686018427387904 - 1){F:Key->Int}{b:Bg}(hb:BOk F b)(kn:(Int×List Row)×Bg->Option qba) :
  ∃ b',qel N kind rows b kn xs=kn ((kind,rows),b')/\BOk (fun e=>F e+amt (addG kind xs) e) b'/\b'.2.length<=b.2.length+xs.length:=by
 simp only [qel,addG]
 have hpos:0<xs.length:=zAk.2 hx
 by_cases h7:kind=7
 ·rw [show (kind==7)=true from beq_iff_eq.2 h7,cond_true,zJ h7]
  obtain⟨d',e1,e2,e3⟩:=qlI (N:=N) (fun (c:List Row×Int×Int×List Row) (s:Int×Bg) kn9=>qem N kn c.1 c.2.1 c.2.2.1 c.2.2.2 s.1 s.2 kn9) (xs,(xs.length:Int),kind,rows) xs (fun r=>if r.2.2>0 then some (oneR r) else none) (fun b=>kn ((kind,rows),b)) hb (fun i b F hi hb=>by
    by_cases q:(nth ((0:Int),(0:Int),(0:Int)) xs i).2.2>0
    ·obtain⟨b',p1,p2,p3⟩:=qom (N:=N) hb (ky (nth (0,0,0) xs i)) 1
     refine⟨b',fun kn9=>?_,p2.cg fun e=>.of_eq ?_,p3⟩
     ·have p1':qH N (((nth ((0:Int),(0:Int),(0:Int)) xs i).1,(nth ((0:Int),(0:Int),(0:Int)) xs i).2.1),1,b)=some b':=p1
      simp only [qem,lt_d hi,ge0_d,Int.toNat_natCast,Bool.and_self,cond_true,qY q,p1',Option.bind_some,ix1 hi (by omega)]
     ·rw [zJ q,qjL];rfl
    ·refine⟨b,fun kn9=>?_,hb.cg fun e=>.of_eq ?_,zBc _⟩
     ·simp only [qem,lt_d hi,ge0_d,Int.toNat_natCast,Bool.and_self,cond_true,qah q,cond_false,ix1 hi (by omega)]
     ·rw [zL q];simp [amtO])
   (fun b kn9=>by simp only [qem,qbb,cond_false]) hN
  refine⟨d',e1,e2.cg fun e=>.of_eq ?_,by simpa using e3⟩
  congr 2
  clear e1 e2 e3 hx hN hl hpos
  induction xs with
  | nil=>rfl
  | cons r xs ih=>
   by_cases q:r.2.2>0
   ·rw [zBa (b:=oneR r) (by rw [zJ q]),zAK (by simpa using q),List.map_cons,ih]
   ·rw [zBb (by rw [zL q]),zAQ (by simpa using q),ih]
 ·rw [show (kind==7)=false from zO h7,cond_false,zL h7,qDF kind xs hN hl]
  unfold rowG
  cases q:hv kind xs with
  | none=>
   refine⟨b,rfl,hb.cg fun e=>.of_eq ?_,zBg _ _⟩
   simp [amt]
  | some v=>
   obtain⟨b',p1,p2,p3⟩:=qom (N:=N) hb (gkey xs,v) 1
   have p1':qH N (((nth ((0:Int),(0:Int),(0:Int)) xs ((0:Int)).toNat).1,v),1,b)=some b':=p1
   refine⟨b',?_,p2.cg fun e=>.of_eq ?_,by omega⟩
   ·simp only [Option.bind_some,cond_true,show decide ((0:Int)<=0)=true from rfl,qY (show (0:Int)<(xs.length:Int) by omega),Bool.and_self,p1']
   ·simp only [Option.map_some,Option.toList_some,amt,zAo]
    by_cases h:e=(gkey xs,v)
    ·rw [zJ h,zJ (show ky (gkey xs,v,1)=e from h.symm)]
    ·rw [zL h,zL (show ¬ ky (gkey xs,v,1)=e from fun h'=>h h'.symm)]
theorem qrK{N:Nat}(kind:Int)(rows:List Row)(K:Bg->Option qba):∀ (gs:List (List Row)),(∀ xs∈gs,xs ≠ []/\xs.length<N/\xs.length<=4611686018427387904 - 1)->∀ {F:Key->Int} {b:Bg},BOk F b ->
  ∃ b',forD (fun y s kn=>qel N kind rows s (backE (kind,rows) kn) y) K gs b=K b'/\BOk (fun e=>F e+amt (gs.flatMap (addG kind)) e) b'/\b'.2.length<=b.2.length+gs.flatten.length
 | [],_,F,b,hb=>⟨b,rfl,hb.cg fun e=>.of_eq (by simp [amt]),by simp⟩
 | xs :: gs,hg,F,b,hb=>by
  obtain⟨g1,g2,g3⟩:=hg xs (by simp)
  obtain⟨b1,p1,p2,p3⟩:=qAq (N:=N) kind rows xs g1 g2 g3 hb (backE (kind,rows) (forD (fun y s kn=>qel N kind rows s (backE (kind,rows) kn) y) K gs))
  obtain⟨b2,q1,q2,q3⟩:=qrK kind rows K gs (fun ys hy=>hg ys (by simp [hy])) p2
  refine⟨b2,?_,q2.cg fun e=>.of_eq ?_,by simp only [zBZ,zq];omega⟩
  ·simp only [forD]
   rw [p1,qaq]
   exact q1
  ·rw [List.flatMap_cons,qbi];omega
theorem qxI:∀ (n:Nat) (t:List Row),t.length<=n->(grp t).flatten=t:=by
 intro n
 induction n with
 | zero=>intro t hl;have:t = []:=zY (by omega);subst this;rfl
 | succ n ih=>
  intro t hl
  cases t with
  | nil=>rfl
  | cons r l=>
   have hp:=qAn (l:=r :: l) (by simp)
   rw [qoG,zBZ,ih _ (by rw [zAI];simp only [List.length_cons] at hl ⊢;omega),zAe]
theorem qBq(kind:Int)(t:List Row):(grp t).flatMap (addG kind)=outG kind t:=by
 unfold outG
 by_cases h:kind=7
 ·rw [zJ h]
  have e:addG kind=fun xs=>(xs.filter fun r:Row=>decide (r.2.2>0)).map oneR:=funext fun xs=>by unfold addG;rw [zJ h]
  rw [e]
  conv=>rhs;rw [<- qxI t.length t (Nat.le_refl _)]
  generalize grp t=gs
  induction gs with
  | nil=>rfl
  | cons xs gs ih=>rw [List.flatMap_cons,ih,zBZ,zAL,zAr]
 ·rw [zL h]
  have e:addG kind=fun xs=>(rowG kind xs).toList:=funext fun xs=>by unfold addG;rw [zL h]
  rw [e]
  generalize grp t=gs
  induction gs with
  | nil=>rfl
  | cons xs gs ih=>
   rw [List.flatMap_cons,ih]
   cases q:rowG kind xs with
   | none=>rw [zBb q];rfl
   | some r=>rw [zBa q];rfl
theorem qCn{N:Nat}(kind:Int)(t:List Row)(hs:t.Pairwise rlt)(hN:t.length<N)(hl:t.length<=4611686018427387904 - 1) :
  ∃ out:Bg,qdq N (kind,t)=some (kind,t,out)/\BOk (amt (outG kind t)) out/\out.2.length<=t.length:=by
 simp only [qdq,qly,joinD,forE]
 obtain⟨g1,-,-⟩:=qAp t.length t (Nat.le_refl _) (qEp hs)
 obtain⟨b',p1,p2,p3⟩:=qrK (N:=N) kind t (fun s=>qlz N kind t s) (grp t) (fun xs hx=>by
  obtain⟨q1,q2⟩:=g1 xs hx
  have:xs.length<=t.length:=by rw [q2];exact zAP _ _
  exact⟨q1,by omega,by omega⟩) BOk.empty
 refine⟨b',p1,p2.cg fun e=>.of_eq ?_,?_⟩
 ·rw [qBq,zBG]
 ·rw [qxI t.length t (Nat.le_refl _)] at p3
  simpa using p3
theorem qCK{N:Nat}{F:Key->Int}{d:Bg}(h:BOk F d)(k A B:Int)(hk:5<=k)(hN:d.2.length+10<N)(hb:d.2.length*24<=140737488355328) :
  ∃ (rows:List Row) (out:Bg),qfm N ((k,A,B),d)=some (.inr (d,k,A,B,k,rows,out))/\IsBag F rows/\BOk (amt (outG k rows)) out/\rows.length=d.2.length/\out.2.length<=rows.length:=by
 obtain⟨rows,r1,r2,r3⟩:=qhp h hN hb
 obtain⟨out,g1,g2,g3⟩:=qCn (N:=N) k rows r2.rise (by omega) (by omega)
 refine⟨rows,out,?_,r2,g2,r3,g3⟩
 simp only [qfm,qjl,r1,Option.bind_some,qbq,qeU,show (k==1)=false from zO (by omega),show (k==2)=false from zO (by omega),show (k==3)=false from zO (by omega),show (k==4)=false from zO (by omega),cond_false,qme,g1]
theorem qwW{R C α X:Type}{N:Nat}{z:α}(g:X->C->Int×Bg->(C×(Int×Bg)->Option R)->Option R)(c:C)(xs:List α)(f:α->List Row)(k:X->Bg->Option R){F0:Key->Int}{d0:Bg}(h0:BOk F0 d0)
  (step:∀ (i:Nat) (b:Bg) (F:Key->Int),i<xs.length->BOk F b->∃ b',(∀ x kn,g x c ((i:Int),b) kn=kn (c,((i:Int)+1,b')))/\BOk (fun e=>F e+amt (f (nth z xs i)) e) b'/\b'.2.length<=b.2.length+(f (nth z xs i)).length)
  (stop:∀ x b kn,g x c ((xs.length:Int),b) kn=k x b) (hN:xs.length<N) :
  ∃ d',(∀ x,loopE (g x) N c ((0:Int),d0)=k x d')/\BOk (fun e=>F0 e+amt (xs.flatMap f) e) d'/\d'.2.length<=d0.2.length+(xs.flatMap f).length:=by
 unfold loopE
 obtain⟨s',⟨h1,h2,h3⟩,e⟩:=qys (fun (x:X) (s:Int×Bg) kn=>g x c s (backE c kn)) (fun (x:X) (s:Int×Bg)=>k x s.2) xs.length
  (fun i s=>s.1=(i:Int)/\BOk (fun z=>F0 z+amt ((xs.take i).flatMap f) z) s.2/\s.2.2.length<=d0.2.length+((xs.take i).flatMap f).length)
  (by
   rintro i ⟨_,b⟩ hi ⟨rfl,hb,hlen⟩
   simp only at hb hlen
   obtain⟨b',e1,e2,e3⟩:=step i b _ hi hb
   have ht:(xs.take (i+1)).flatMap f=(xs.take i).flatMap f++f (nth z xs i):=by
    rw [qeS (z:=z) hi,List.flatMap_append,List.flatMap_cons,List.flatMap_nil,List.append_nil]
   refine⟨((i:Int)+1,b'),⟨by simp,e2.cg fun z=>?_,?_⟩,fun x kn=>by rw [e1,qaq]⟩
   ·rw [ht,qbi];exact .of_eq (by omega)
   ·rw [ht,zq];simp only;omega)
  (by
   rintro⟨_,b⟩ ⟨rfl,hb,hlen⟩ x kn
   exact stop x b _)
  (N:=N) hN (s:=((0:Int),d0)) ⟨rfl,h0.cg fun z=>by simp only [List.take_zero,List.flatMap_nil,amt,zAo];exact Cg.rfl,Nat.le_refl _⟩
 exact⟨s'.2,e,by simpa only [zAR] using h2,by simpa only [zAR] using h3⟩
abbrev Wt:Type:=Int×List (Int×Int×List (Int×Int×Int))
abbrev wGet(d:Wt)(k:Int):List Row:=mpGet (.int .i64) (.sl (.pair (.int .i64) (.pair (.int .i64) (.int .i64)))) d k
theorem qzb{N:Nat}(K:Bg×Bg×Int×Int×Int×Bg×Wt->Option qal)(rb:List Row)(da db out:Bg)(k A B:Int)(hN:rb.length<N)(hl:rb.length<=1000000) :
  ∃ m:Wt,loopE (fun (c:(List Row)×Int×Bg×Bg×Int×Int×Int×Bg) (s:Int×Wt) kn=>qff N K c.1 c.2.1 c.2.2.1 c.2.2.2.1 c.2.2.2.2.1 c.2.2.2.2.2.1 c.2.2.2.2.2.2.1 c.2.2.2.2.2.2.2 s.1 s.2 kn) N (rb,(rb.length:Int),da,db,k,A,B,out) ((0:Int),((0:Int),[]))=K (da,db,k,A,B,out,m) /\
   ∀ x,wGet m x=rb.filter fun s=>decide (s.1=x):=by
 unfold loopE
 obtain⟨s',⟨h1,h2⟩,e⟩:=qhT (g:=fun (s:Int×Wt) kn=>qff N K rb (rb.length:Int) da db k A B out s.1 s.2 (backE (rb,(rb.length:Int),da,db,k,A,B,out) kn)) (k:=fun s:Int×Wt=>K (da,db,k,A,B,out,s.2)) rb.length
  (fun i s=>s.1=(i:Int)/\∀ x,wGet s.2 x=(rb.take i).filter fun s=>decide (s.1=x)) (N:=N) (s:=((0:Int),((0:Int),[])))
  (by
   rintro i ⟨_,m⟩ hi ⟨rfl,hm⟩
   simp only at hm
   refine⟨((i:Int)+1,mpPut (.int .i64) (.sl (.pair (.int .i64) (.pair (.int .i64) (.int .i64)))) m (nth ((0:Int),(0:Int),(0:Int)) rb i).1 (wGet m (nth ((0:Int),(0:Int),(0:Int)) rb i).1 ++ [nth ((0:Int),(0:Int),(0:Int)) rb i])),⟨by simp,fun x=>?_⟩,fun kn=>?_⟩
   ·rw [qeS (z:=((0:Int),(0:Int),(0:Int))) hi,zAL]
    by_cases q:x=(nth ((0:Int),(0:Int),(0:Int)) rb i).1
    ·subst q
     rw [zAK (by simp),List.filter_nil,<- hm]
     exact qxz rfl _ _ _
    ·rw [zAQ (by simp;exact fun e=>q e.symm),List.filter_nil,List.append_nil,<- hm]
     exact qkR rfl _ q _
   ·have hlen:(wGet m (nth ((0:Int),(0:Int),(0:Int)) rb i).1).length<=rb.length:=by
     rw [hm]
     exact zn (zAP _ _) (by rw [zAN];omega)
    have hh:qrJ (.int .i64) (.pair (.int .i64) (.pair (.int .i64) (.int .i64))) (some ((nth ((0:Int),(0:Int),(0:Int)) rb i).1,V.bad)) m (nth ((0:Int),(0:Int),(0:Int)) rb i).1=true:=qhe (s:=.int .i64) rfl _
    simp only [qff,lt_d hi,ge0_d,Int.toNat_natCast,Bool.and_self,cond_true,hh,ix1 hi (by omega),show Nat.ble 1 24=true from rfl,qaq]
    refine (congrArg (fun b=>cond (b&&true) _ _) (qY (show ((wGet m (nth ((0:Int),(0:Int),(0:Int)) rb i).1).length+1)*24<=140737488355328 by omega))).trans ?_
    rfl)
  (by
   rintro⟨_,m⟩ ⟨rfl,hm⟩ kn
   simp only [qff,qbb,cond_false])
  hN ⟨rfl,fun x=>rfl⟩
 exact⟨s'.2,e,by simpa only [zAR] using h2⟩
theorem qBt{N:Nat}{F G:Key->Int}{da db:Bg}(hF:BOk F da)(hG:BOk G db)(A B:Int)(h1:da.2.length+10<N)(h2:db.2.length+10<N)(h3:da.2.length<=1000000)(h4:db.2.length<=1000000) :
  ∃ (ra rb:List Row) (out:Bg),qee N ((10,A,B),da,db)=some (da,db,10,A,B,out)/\IsBag F ra/\IsBag G rb/\BOk (amt (JL A B ra rb)) out/\ra.length=da.2.length/\rb.length=db.2.length/\out.2.length<=ra.length*rb.length:=by
 obtain⟨ra,a1,a2,a3⟩:=qhp hF h1 (by omega)
 obtain⟨rb,b1,b2,b3⟩:=qhp hG h2 (by omega)
 simp only [qee,qji,show ((10:Int)==9)=false from rfl,cond_false,joinD,b1,Option.bind_some]
 obtain⟨m,m1,m2⟩:=qzb (N:=N) (fun s=>qjj N s.1 s.2.1 s.2.2.1 s.2.2.2.1 s.2.2.2.2.1 s.2.2.2.2.2.1 s.2.2.2.2.2.2) rb da db ((0:Int),[]) 10 A B (by omega) (by omega)
 refine⟨ra,rb,?_⟩
 rw [m1]
 simp only [qjj,joinD,a1,Option.bind_some]
 obtain⟨d',e1,e2,e3⟩:=qwW (X:=Unit) (N:=N) (z:=((0:Int),(0:Int),(0:Int))) (fun _ (c:(List Row)×Int×Bg×Bg×Int×Int×Int×Wt) (s:Int×Bg) kn=>qgP N (fun s=>qjk N s.1 s.2.1 s.2.2.1 s.2.2.2.1 s.2.2.2.2.1 s.2.2.2.2.2.1) c.1 c.2.1 c.2.2.1 c.2.2.2.1 c.2.2.2.2.1 c.2.2.2.2.2.1 c.2.2.2.2.2.2.1 c.2.2.2.2.2.2.2 s.1 s.2 kn) (ra,(ra.length:Int),da,db,10,A,B,m) ra (JL1 A B rb) (fun _ b=>some (da,db,10,A,B,b)) BOk.empty (fun i b F hi hb=>by
   have hlen:(wGet m (nth ((0:Int),(0:Int),(0:Int)) ra i).1).length<=rb.length:=by rw [m2];exact zAP _ _
   let cc:=(ra,(ra.length:Int),(i:Int),wGet m (nth ((0:Int),(0:Int),(0:Int)) ra i).1,((wGet m (nth ((0:Int),(0:Int),(0:Int)) ra i).1).length:Int),da,db,(10:Int),A,B,m,(nth ((0:Int),(0:Int),(0:Int)) ra i).1,(nth ((0:Int),(0:Int),(0:Int)) ra i).2.1,(nth ((0:Int),(0:Int),(0:Int)) ra i).2.2)
   have key:∃ b',(∀ kn:((List Row)×Int×Bg×Bg×Int×Int×Int×Wt)×(Int×Bg)->Option qal,loopE (fun (c:(List Row)×Int×Int×(List Row)×Int×Bg×Bg×Int×Int×Int×Wt×Int×Int×Int) (s:Int×Bg) kn'=>qfg N (fun s=>qgQ N kn s.1 s.2.1 s.2.2.1 s.2.2.2.1 s.2.2.2.2.1 s.2.2.2.2.2.1 s.2.2.2.2.2.2.1 s.2.2.2.2.2.2.2.1 s.2.2.2.2.2.2.2.2.1 s.2.2.2.2.2.2.2.2.2.1) c.1 c.2.1 c.2.2.1 c.2.2.2.1 c.2.2.2.2.1 c.2.2.2.2.2.1 c.2.2.2.2.2.2.1 c.2.2.2.2.2.2.2.1 c.2.2.2.2.2.2.2.2.1 c.2.2.2.2.2.2.2.2.2.1 c.2.2.2.2.2.2.2.2.2.2.1 c.2.2.2.2.2.2.2.2.2.2.2.1 c.2.2.2.2.2.2.2.2.2.2.2.2.1 c.2.2.2.2.2.2.2.2.2.2.2.2.2 s.1 s.2 kn') N cc ((0:Int),b)=kn ((ra,(ra.length:Int),da,db,10,A,B,m),((i:Int)+1,b')))/\BOk (fun e=>F e+amt ((wGet m (nth ((0:Int),(0:Int),(0:Int)) ra i).1).flatMap fun s=>[jrow A B (nth (0,0,0) ra i) s]) e) b'/\b'.2.length<=b.2.length+((wGet m (nth ((0:Int),(0:Int),(0:Int)) ra i).1).flatMap fun s=>[jrow A B (nth (0,0,0) ra i) s]).length:=by
    refine qwW (X:=((List Row)×Int×Bg×Bg×Int×Int×Int×Wt)×(Int×Bg)->Option qal) (N:=N) (z:=((0:Int),(0:Int),(0:Int))) (fun kn (c:(List Row)×Int×Int×(List Row)×Int×Bg×Bg×Int×Int×Int×Wt×Int×Int×Int) (s:Int×Bg) kn'=>qfg N (fun s=>qgQ N kn s.1 s.2.1 s.2.2.1 s.2.2.2.1 s.2.2.2.2.1 s.2.2.2.2.2.1 s.2.2.2.2.2.2.1 s.2.2.2.2.2.2.2.1 s.2.2.2.2.2.2.2.2.1 s.2.2.2.2.2.2.2.2.2.1) c.1 c.2.1 c.2.2.1 c.2.2.2.1 c.2.2.2.2.1 c.2.2.2.2.2.1 c.2.2.2.2.2.2.1 c.2.2.2.2.2.2.2.1 c.2.2.2.2.2.2.2.2.1 c.2.2.2.2.2.2.2.2.2.1 c.2.2.2.2.2.2.2.2.2.2.1 c.2.2.2.2.2.2.2.2.2.2.2.1 c.2.2.2.2.2.2.2.2.2.2.2.2.1 c.2.2.2.2.2.2.2.2.2.2.2.2.2 s.1 s.2 kn') cc (wGet m (nth ((0:Int),(0:Int),(0:Int)) ra i).1) (fun s=>[jrow A B (nth (0,0,0) ra i) s]) (fun kn b'=>kn ((ra,(ra.length:Int),da,db,10,A,B,m),((i:Int)+1,b'))) hb (fun j b F hj hb=>?_) (fun kn b kn'=>?_) (by omega)
    ·obtain⟨b',p1,p2,p3⟩:=qom (N:=N) hb (ky (jrow A B (nth (0,0,0) ra i) (nth (0,0,0) (wGet m (nth ((0:Int),(0:Int),(0:Int)) ra i).1) j))) (jrow A B (nth (0,0,0) ra i) (nth (0,0,0) (wGet m (nth ((0:Int),(0:Int),(0:Int)) ra i).1) j)).2.2
     refine⟨b',fun kn kn'=>?_,p2.cg fun e=>.of_eq ?_,by simpa using p3⟩
     ·simp only [cc,qfg,lt_d hj,ge0_d,Int.toNat_natCast,Bool.and_self,cond_true,ix1 hj (by omega)]
      refine (congrArg (fun o=>Option.bind o _) p1).trans ?_
      rfl
     ·simp only [amt,zAo]
      congr 1
      by_cases q:e=ky (jrow A B (nth (0,0,0) ra i) (nth (0,0,0) (wGet m (nth ((0:Int),(0:Int),(0:Int)) ra i).1) j))
      ·rw [zJ q,zJ q.symm]
      ·rw [zL q,zL (fun h=>q h.symm)]
    ·simp only [cc,qfg,qbb,cond_false,qgQ,ix1 hi (show ra.length<=4611686018427387904 by omega)]
   obtain⟨b',k1,k2,k3⟩:=key
   have hfm:((wGet m (nth ((0:Int),(0:Int),(0:Int)) ra i).1).flatMap fun s=>[jrow A B (nth (0,0,0) ra i) s])=JL1 A B rb (nth (0,0,0) ra i):=by
    rw [m2];unfold JL1;exact List.map_eq_flatMap.symm
   rw [hfm] at k2 k3
   refine⟨b',fun _ kn=>?_,k2,k3⟩
   simp only [qgP,lt_d hi,ge0_d,Int.toNat_natCast,Bool.and_self,cond_true,joinD]
   exact k1 kn)
  (fun _ b kn=>by simp only [qgP,qbb,cond_false,qjk]) (by omega)
 refine⟨d',e1 (),a2,b2,e2.cg fun e=>.of_eq (zBG _),a3,b3,?_⟩
 have:=qEG A B ra rb
 unfold JL at this
 simp only [List.length_nil,Nat.zero_add] at e3
 omega
def twoF(k A B:Int)(a b:List Row):List Row:=if k=9 then a++b else JL A B a b
theorem qwI{N:Nat}{F G:Key->Int}{da db:Bg}(hF:BOk F da)(hG:BOk G db)(A B:Int)(h1:da.2.length+10<N)(h2:db.2.length+10<N)(h3:da.2.length<=1000000)(h4:db.2.length<=1000000) :
  ∃ (ra rb:List Row) (out:Bg),qee N ((9,A,B),da,db)=some (da,db,9,A,B,out)/\IsBag F ra/\IsBag G rb/\BOk (amt (ra++rb)) out/\ra.length=da.2.length/\rb.length=db.2.length/\out.2.length<=ra.length+rb.length:=by
 obtain⟨ra,a1,a2,a3⟩:=qhp hF h1 (by omega)
 obtain⟨rb,b1,b2,b3⟩:=qhp hG h2 (by omega)
 obtain⟨d1,p1,p2,p3⟩:=qqz (N:=N) BOk.empty ra 1 (by omega) (by omega)
 obtain⟨d2,q1,q2,q3⟩:=qqz (N:=N) p2 rb 1 (by omega) (by omega)
 refine⟨ra,rb,d2,?_,a2,b2,q2.cg fun e=>.of_eq (by rw [qbi];omega),a3,b3,by simp at p3;omega⟩
 simp only [qee,qji,zAZ,cond_true,a1,b1,p1,q1,Option.bind_some]
end Go.Proofs.YtnhjpicdijeagaaDoor
