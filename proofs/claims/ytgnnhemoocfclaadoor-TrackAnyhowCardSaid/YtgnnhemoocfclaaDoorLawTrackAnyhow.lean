import Derived.Test.YtgnnhemoocfclaaDoorTrk
import Derived.Test.YtgnnhemoocfclaaDoorFrame
noncomputable section
namespace Go.Proofs.YtgnnhemoocfclaaDoor
open Go Go.ChangeShapes Go.WideShapes Go.ChangeAt Go.WideMaps Go.WideElems Go.RowKit Go.Abs
abbrev SY:Sh:=.sl (.int .i64)
abbrev SX:Sh:=.pair (.int .i64) (.pair (.int .i64) (.int .i64))
abbrev SV:Sh:=.pair (.int .i64) (.pair (.sl (.int .i64)) (.int .i64))
abbrev Yt:Type:=Int×Int×Int
abbrev Yr:Type:=Int×Int×Int×Int×Int
abbrev Yq:Type:=Int×List Int×Int
abbrev qeq:List Kd:=[.dat (.sl SV),.dat (.int .i64),.dat SY]
abbrev qej:List Kd:=[.dat (.int .i64)]
abbrev qci:Type:=Dens qej
def qqU(_N:Nat):Ctx:={ T:=[(2,⟨.int .i64,1,8,some (.int .i64),[.int .i64 (0:Int)],false,[]⟩),(3,⟨.int .i64,1,8,some (.int .i64),[.int .i64 (0:Int)],false,[]⟩),(38,⟨.slice 3,1,24,some SY,[.nil],false,[]⟩),(70,⟨.slice 75,1,24,some (.sl SV),[.nil],false,[]⟩),(75,⟨.struct [(0,3),(1,38),(2,2)],3,40,some SV,[.int .i64 (0:Int),.nil,.int .i64 (0:Int)],false,[]⟩)],G:=findE [mkP 40 qcd qcb (qaG _N)],I:=findI [],N:=_N,n:=32,fx:=[],fl:=0,gs:=Gs }
def qkd(_N:Nat)(_v9:Int):Option qci:=
 (some (_v9,()))
def qhh(_N:Nat)(_k10:Int->Option qci)(_v1:Int)(_v2:List Int)(_v4:List Yq)(_v5:Int)(_v3:Int)(_v6:Int)(_kn11:(Int×List Int×(List Yq)×Int)×(Int×Int)->Option qci):Option qci:=
 (bif (decide (_v6<_v5)) then (bif (decide (0<=_v6)&&decide (_v6<(_v4.length:Int))) then (bif (((nth ((0:Int),([],(0:Int))) _v4 (_v6).toNat).1)==_v1) then ((qaG _N (((nth ((0:Int),([],(0:Int))) _v4 (_v6).toNat).2).1,_v2,())).bind fun _y12=>(bif _y12.1 then (_kn11 ((_v1,_v2,_v4,_v5),((IntKind.i64.wrap (_v3+(((nth ((0:Int),([],(0:Int))) _v4 (_v6).toNat).2).2))),(IntKind.i64.wrap (_v6+(1:Int)))))) else (_kn11 ((_v1,_v2,_v4,_v5),(_v3,(IntKind.i64.wrap (_v6+(1:Int)))))))) else (_kn11 ((_v1,_v2,_v4,_v5),(_v3,(IntKind.i64.wrap (_v6+(1:Int))))))) else none) else (_k10 _v3))
def qkc(_N:Nat)(_x1:List Yq)(_x2:Int)(_x3:List Int):Option qci:=
 (joinD (fun (_s:Int)=>qkd _N _s) fun _k10=>(loopE (fun (_c:Int×List Int×(List Yq)×Int) (_s:Int×Int) _kn=>qhh _N _k10 _c.1 _c.2.1 _c.2.2.1 _c.2.2.2 _s.1 _s.2 _kn) _N (_x2,_x3,_x1,(_x1.length:Int)) ((0:Int),(0:Int))))
def qbW(_N:Nat)(_x:Dens qeq):Option qci:=qkc _N _x.1 _x.2.1 _x.2.2.1
theorem qof(_N:Nat):SpecD Tryd.prog Gs 25 qeq qej (qbW _N):=mkSpD (fn:=Tryd.f25) (c:=qB Tryd.f25) (C:=qqU _N)
  (a:=.two .none (.two .none (.join 0 ⟨[(7,.int .i64)],[]⟩ (.two .none (.one (.loop 0 ⟨[(1,.int .i64),(2,.sl (.int .i64)),(7,.int .i64),(10,.sl SV),(11,.int .i64),(12,.int .i64)],[]⟩ [2,5] .none))) .none)))
  (by kernel_rfl) rfl (by kernel_rfl) (by kernel_rfl) ⟨rfl,by unfold TOk;kernel_rfl,qax rfl rfl (zG.2 ⟨qhA _N,(zD _)⟩),qaw rfl rfl (zD _),rfl⟩ (fun _x=>by kernel_rfl)
theorem qoD(_N:Nat):EntOk Tryd.prog Gs (mkP 25 qeq qej (qbW _N)):=entP ⟨Tryd.f25,qB Tryd.f25,by kernel_rfl,by kernel_rfl,rfl⟩ (by kernel_rfl) (qof _N)
abbrev qgl:List Kd:=[.dat (.sl SV),.dat (.sl SV)]
abbrev qgi:List Kd:=[.dat (.bool)]
abbrev qdw:Type:=Dens qgi
def qtH(_N:Nat):Ctx:={ T:=[(2,⟨.int .i64,1,8,some (.int .i64),[.int .i64 (0:Int)],false,[]⟩),(3,⟨.int .i64,1,8,some (.int .i64),[.int .i64 (0:Int)],false,[]⟩),(38,⟨.slice 3,1,24,some SY,[.nil],false,[]⟩),(70,⟨.slice 75,1,24,some (.sl SV),[.nil],false,[]⟩),(75,⟨.struct [(0,3),(1,38),(2,2)],3,40,some SV,[.int .i64 (0:Int),.nil,.int .i64 (0:Int)],false,[]⟩)],G:=findE [mkP 40 qcd qcb (qaG _N)],I:=findI [],N:=_N,n:=55,fx:=[],fl:=0,gs:=Gs }
def qmA(_N:Nat):Option qdw:=
 (some (true,()))
def qji(_N:Nat)(_k6:Unit->Option qdw)(_v1:List Yq)(_v2:List Yq)(_v3:Int)(_kn7:((List Yq)×(List Yq))×Int->Option qdw):Option qdw:=
 (bif (decide (_v3<(_v1.length:Int))) then (bif (decide (0<=_v3)&&decide (_v3<(_v1.length:Int))) then (bif (decide (0<=_v3)&&decide (_v3<(_v2.length:Int))) then (bif (((nth ((0:Int),([],(0:Int))) _v1 (_v3).toNat).1) != ((nth ((0:Int),([],(0:Int))) _v2 (_v3).toNat).1)) then (some (false,())) else (bif (decide (0<=_v3)&&decide (_v3<(_v1.length:Int))) then (bif (decide (0<=_v3)&&decide (_v3<(_v2.length:Int))) then (bif ((((nth ((0:Int),([],(0:Int))) _v1 (_v3).toNat).2).2) != (((nth ((0:Int),([],(0:Int))) _v2 (_v3).toNat).2).2)) then (some (false,())) else (bif (decide (0<=_v3)&&decide (_v3<(_v1.length:Int))) then (bif (decide (0<=_v3)&&decide (_v3<(_v2.length:Int))) then ((qaG _N (((nth ((0:Int),([],(0:Int))) _v1 (_v3).toNat).2).1,((nth ((0:Int),([],(0:Int))) _v2 (_v3).toNat).2).1,())).bind fun _y8=>(bif (!_y8.1) then (some (false,())) else (_kn7 ((_v1,_v2),(IntKind.i64.wrap (_v3+(1:Int))))))) else none) else none)) else none) else none)) else none) else none) else (_k6 ()))
def qmz(_N:Nat)(_x1:List Yq)(_x2:List Yq):Option qdw:=
 (bif ((_x1.length:Int) != (_x2.length:Int)) then (some (false,())) else (joinD (fun (_s:Unit)=>qmA _N) fun _k6=>(loopE (fun (_c:(List Yq)×(List Yq)) (_s:Int) _kn=>qji _N _k6 _c.1 _c.2 _s _kn) _N (_x1,_x2) (0:Int))))
def qeb(_N:Nat)(_x:Dens qgl):Option qdw:=qmz _N _x.1 _x.2.1
theorem qrg(_N:Nat):SpecD Tryd.prog Gs 26 qgl qgi (qeb _N):=mkSpD (fn:=Tryd.f26) (c:=qB Tryd.f26) (C:=qtH _N)
  (a:=.two .none (.two .none (.join 0 ⟨[],[]⟩ (.two .none (.one (.loop 0 ⟨[(0,.sl SV),(1,.sl SV),(5,.int .i64)],[]⟩ [2] (.two .none (.two (.one (.two (.draw 0 (.pure :: .pure :: .pure :: .pure :: .pure :: .pure :: .pure :: .pure :: .pure :: .pure :: .pure :: .pure :: .pure :: .pure :: .pure :: .pure :: .pure :: .pure :: .pure :: .pure :: .pure :: .pure :: .pure :: .pure :: .pure :: .pure :: .pure :: .pure :: .pure :: .pure :: .pure :: .pure :: .pure :: .pure :: .pure :: .pure :: .pure :: .pure :: [])) .none)) .none))))) .none)))
  (by kernel_rfl) rfl (by kernel_rfl) (by kernel_rfl) ⟨rfl,by unfold TOk;kernel_rfl,qax rfl rfl (zG.2 ⟨qhA _N,(zD _)⟩),qaw rfl rfl (zD _),rfl⟩ (fun _x=>by kernel_rfl)
theorem qsl(_N:Nat):EntOk Tryd.prog Gs (mkP 26 qgl qgi (qeb _N)):=entP ⟨Tryd.f26,qB Tryd.f26,by kernel_rfl,by kernel_rfl,rfl⟩ (by kernel_rfl) (qrg _N)
abbrev qfR:List Kd:=[.dat (.pair (.sl (.pair (.int .i64) (.pair (.int .i64) SX))) (.sl SX)),.dat (.sl SV),.dat (.int .u8)]
abbrev qfP:List Kd:=[.dat (.bool)]
abbrev qaQ:Type:=Dens qfP
def qkA(_N:Nat):Ctx:={ T:=[(2,⟨.int .i64,1,8,some (.int .i64),[.int .i64 (0:Int)],false,[]⟩),(3,⟨.int .i64,1,8,some (.int .i64),[.int .i64 (0:Int)],false,[]⟩),(5,⟨.int .u8,1,1,some (.int .u8),[.int .u8 (0:Int)],false,[]⟩),(25,⟨.struct [(0,22),(1,23)],2,48,some (.pair (.sl (.pair (.int .i64) (.pair (.int .i64) SX))) (.sl SX)),[.nil,.nil],false,[]⟩),(38,⟨.slice 3,1,24,some SY,[.nil],false,[]⟩),(70,⟨.slice 75,1,24,some (.sl SV),[.nil],false,[]⟩),(75,⟨.struct [(0,3),(1,38),(2,2)],3,40,some SV,[.int .i64 (0:Int),.nil,.int .i64 (0:Int)],false,[]⟩)],G:=findE [mkQ 24 qbN qbL (qaK _N),mkP 25 qeq qej (qbW _N),mkD 24 qbN qbL (qaK _N),mkP 26 qgl qgi (qeb _N)],I:=findI [],N:=_N,n:=123,fx:=[1],fl:=0,gs:=Gs }
def qgb(_N:Nat)(_v11:List Yq)(_v12:List Yr)(_v13:List Yt)(_v14:List Yq):Option qaQ:=
 (bif (decide (0<=(0:Int))&&decide ((0:Int)<(_v14.length:Int))) then (bif ((2:Int)==0) then none else (bif (decide (0<=(0:Int))&&decide ((0:Int)<(_v14.length:Int))) then (bif (decide (0<=(0:Int))&&decide ((0:Int)<(_v14.length:Int))) then (bif (decide (0<=(0:Int))&&decide ((0:Int)<((_v14.set ((0:Int).toNat) ((nth ((0:Int),([],(0:Int))) _v14 ((0:Int).toNat)).1,(((nth ((0:Int),([],(0:Int))) _v14 ((0:Int).toNat)).2).1,(IntKind.i64.wrap ((((nth ((0:Int),([],(0:Int))) _v14 ((0:Int).toNat)).2).2) - (IntKind.i64.wrap ((((nth ((0:Int),([],(0:Int))) _v14 ((0:Int).toNat)).2).2).tdiv (2:Int)))))))).length:Int))) then (bif (decide (0<=(0:Int))&&decide ((0:Int)<((_v14.set ((0:Int).toNat) ((nth ((0:Int),([],(0:Int))) _v14 ((0:Int).toNat)).1,(((nth ((0:Int),([],(0:Int))) _v14 ((0:Int).toNat)).2).1,(IntKind.i64.wrap ((((nth ((0:Int),([],(0:Int))) _v14 ((0:Int).toNat)).2).2) - (IntKind.i64.wrap ((((nth ((0:Int),([],(0:Int))) _v14 ((0:Int).toNat)).2).2).tdiv (2:Int)))))))).length:Int))) then (bif (decide (((_v14.set ((0:Int).toNat) ((nth ((0:Int),([],(0:Int))) _v14 ((0:Int).toNat)).1,(((nth ((0:Int),([],(0:Int))) _v14 ((0:Int).toNat)).2).1,(IntKind.i64.wrap ((((nth ((0:Int),([],(0:Int))) _v14 ((0:Int).toNat)).2).2) - (IntKind.i64.wrap ((((nth ((0:Int),([],(0:Int))) _v14 ((0:Int).toNat)).2).2).tdiv (2:Int)))))))).length+([((nth ((0:Int),([],(0:Int))) (_v14.set ((0:Int).toNat) ((nth ((0:Int),([],(0:Int))) _v14 ((0:Int).toNat)).1,(((nth ((0:Int),([],(0:Int))) _v14 ((0:Int).toNat)).2).1,(IntKind.i64.wrap ((((nth ((0:Int),([],(0:Int))) _v14 ((0:Int).toNat)).2).2) - (IntKind.i64.wrap ((((nth ((0:Int),([],(0:Int))) _v14 ((0:Int).toNat)).2).2).tdiv (2:Int)))))))) ((0:Int).toNat)).1,(((nth ((0:Int),([],(0:Int))) (_v14.set ((0:Int).toNat) ((nth ((0:Int),([],(0:Int))) _v14 ((0:Int).toNat)).1,(((nth ((0:Int),([],(0:Int))) _v14 ((0:Int).toNat)).2).1,(IntKind.i64.wrap ((((nth ((0:Int),([],(0:Int))) _v14 ((0:Int).toNat)).2).2) - (IntKind.i64.wrap ((((nth ((0:Int),([],(0:Int))) _v14 ((0:Int).toNat)).2).2).tdiv (2:Int)))))))) ((0:Int).toNat)).2).1,(IntKind.i64.wrap ((((nth ((0:Int),([],(0:Int))) _v14 ((0:Int).toNat)).2).2).tdiv (2:Int)))))]:List Yq).length)*40<=140737488355328)&&Nat.ble 1 40) then ((qaK _N ((_v12,_v13),((_v14.set ((0:Int).toNat) ((nth ((0:Int),([],(0:Int))) _v14 ((0:Int).toNat)).1,(((nth ((0:Int),([],(0:Int))) _v14 ((0:Int).toNat)).2).1,(IntKind.i64.wrap ((((nth ((0:Int),([],(0:Int))) _v14 ((0:Int).toNat)).2).2) - (IntKind.i64.wrap ((((nth ((0:Int),([],(0:Int))) _v14 ((0:Int).toNat)).2).2).tdiv (2:Int))))))))++([((nth ((0:Int),([],(0:Int))) (_v14.set ((0:Int).toNat) ((nth ((0:Int),([],(0:Int))) _v14 ((0:Int).toNat)).1,(((nth ((0:Int),([],(0:Int))) _v14 ((0:Int).toNat)).2).1,(IntKind.i64.wrap ((((nth ((0:Int),([],(0:Int))) _v14 ((0:Int).toNat)).2).2) - (IntKind.i64.wrap ((((nth ((0:Int),([],(0:Int))) _v14 ((0:Int).toNat)).2).2).tdiv (2:Int)))))))) ((0:Int).toNat)).1,(((nth ((0:Int),([],(0:Int))) (_v14.set ((0:Int).toNat) ((nth ((0:Int),([],(0:Int))) _v14 ((0:Int).toNat)).1,(((nth ((0:Int),([],(0:Int))) _v14 ((0:Int).toNat)).2).1,(IntKind.i64.wrap ((((nth ((0:Int),([],(0:Int))) _v14 ((0:Int).toNat)).2).2) - (IntKind.i64.wrap ((((nth ((0:Int),([],(0:Int))) _v14 ((0:Int).toNat)).2).2).tdiv (2:Int)))))))) ((0:Int).toNat)).2).1,(IntKind.i64.wrap ((((nth ((0:Int),([],(0:Int))) _v14 ((0:Int).toNat)).2).2).tdiv (2:Int)))))]:List Yq)),())).bind fun _y20=>(bif (_y20.2.1==(0:Int)) then ((qeb _N (_v11,_y20.1,())).bind fun _y21=>(some (_y21.1,()))) else (some (false,())))) else none) else none) else none) else none) else none)) else none)
def qdE(_N:Nat)(_k22:((List Yq)×(List Yr)×(List Yt)×(List Yq))->Option qaQ)(_v4:List Yq)(_v5:List Yq)(_v6:Int)(_v8:List Yr)(_v9:List Yt)(_v7:Int)(_v10:List Yq)(_kn23:((List Yq)×(List Yq)×Int×(List Yr)×(List Yt))×(Int×(List Yq))->Option qaQ):Option qaQ:=
 (bif (decide (_v7<(_v4.length:Int))) then (bif ((_v4.length:Int)==0) then none else (bif (decide (0<=((IntKind.i64.wrap (_v6+_v7)).tmod (_v4.length:Int)))&&decide (((IntKind.i64.wrap (_v6+_v7)).tmod (_v4.length:Int))<(_v4.length:Int))) then (bif (decide ((_v10.length+([((nth ((0:Int),([],(0:Int))) _v4 ((IntKind.i64.wrap (_v6+_v7)).tmod (_v4.length:Int)).toNat).1,(((nth ((0:Int),([],(0:Int))) _v4 ((IntKind.i64.wrap (_v6+_v7)).tmod (_v4.length:Int)).toNat).2).1,((nth ((0:Int),([],(0:Int))) _v4 ((IntKind.i64.wrap (_v6+_v7)).tmod (_v4.length:Int)).toNat).2).2))]:List Yq).length)*40<=140737488355328)&&Nat.ble 1 40) then (_kn23 ((_v4,_v5,_v6,_v8,_v9),((IntKind.i64.wrap (_v7+(1:Int))),(_v10++([((nth ((0:Int),([],(0:Int))) _v4 ((IntKind.i64.wrap (_v6+_v7)).tmod (_v4.length:Int)).toNat).1,(((nth ((0:Int),([],(0:Int))) _v4 ((IntKind.i64.wrap (_v6+_v7)).tmod (_v4.length:Int)).toNat).2).1,((nth ((0:Int),([],(0:Int))) _v4 ((IntKind.i64.wrap (_v6+_v7)).tmod (_v4.length:Int)).toNat).2).2))]:List Yq))))) else none) else none)) else (_k22 (_v5,_v8,_v9,_v10)))
def qga(_N:Nat)(_x1:List Yr×List Yt)(_x2:List Yq)(_x3:Int):Option qaQ:=
 ((qaK _N ((_x1.1,_x1.2),_x2,())).bind fun _y17=>(bif (_y17.2.1 != (0:Int)) then (bif (_y17.2.1==(0:Int)) then (some (true,())) else (some (((_y17.1.length:Int)==(0:Int)),()))) else (bif ((_x2.length:Int)==(0:Int)) then (bif (_y17.2.1==(0:Int)) then (some (true,())) else (some (((_y17.1.length:Int)==(0:Int)),()))) else (bif ((_x2.length:Int)==(64:Int)) then (bif (_y17.2.1==(0:Int)) then (some (true,())) else (some (((_y17.1.length:Int)==(0:Int)),()))) else (bif (decide (0<=(0:Int))&&decide ((0:Int)<(_x2.length:Int))) then (bif (decide (0<=(0:Int))&&decide ((0:Int)<(_x2.length:Int))) then ((qbW _N (_y17.1,(nth ((0:Int),([],(0:Int))) _x2 (0:Int).toNat).1,((nth ((0:Int),([],(0:Int))) _x2 (0:Int).toNat).2).1,())).bind fun _y18=>(bif (decide (0<=(0:Int))&&decide ((0:Int)<(_x2.length:Int))) then (bif (decide (0<=(0:Int))&&decide ((0:Int)<(_x2.length:Int))) then ((qbW _N (_x2,(nth ((0:Int),([],(0:Int))) _x2 (0:Int).toNat).1,((nth ((0:Int),([],(0:Int))) _x2 (0:Int).toNat).2).1,())).bind fun _y19=>(bif (_y18.1 != _y19.1) then (some (false,())) else (bif ((_x2.length:Int)==0) then none else (joinD (fun (_s:(List Yq)×(List Yr)×(List Yt)×(List Yq))=>qgb _N _s.1 _s.2.1 _s.2.2.1 _s.2.2.2) fun _k22=>(loopE (fun (_c:(List Yq)×(List Yq)×Int×(List Yr)×(List Yt)) (_s:Int×(List Yq)) _kn=>qdE _N _k22 _c.1 _c.2.1 _c.2.2.1 _c.2.2.2.1 _c.2.2.2.2 _s.1 _s.2 _kn) _N (_x2,_y17.1,((IntKind.i64.wrap _x3).tmod (_x2.length:Int)),_x1.1,_x1.2) ((0:Int),[])))))) else none) else none)) else none) else none)))))
def qdQ(_N:Nat)(_x:Dens qfR):Option qaQ:=qga _N _x.1 _x.2.1 _x.2.2.1
theorem qjf(_N:Nat):SpecD Tryd.prog Gs 10 qfR qfP (qdQ _N):=mkSpD (fn:=Tryd.f10) (c:=qB Tryd.f10) (C:=qkA _N)
  (a:=.two .none (.two .none (.two .none (.two (.two (.draw 0 [.pure,.pure,.pure,.pure,.pure,.pure,.pure,.pure,.pure,.pure,.pure,.pure,.pure,.pure,.pure,.pure,.pure,.pure,.pure,.pure,.pure]) .none) (.two .none (.two .none (.join 2 ⟨[(3,.ptr 0 0),(7,.sl SV),(9,.slc 1 0)],[.cells [.sl (.pair (.int .i64) (.pair (.int .i64) SX)),.sl SX],.row false 0 75 SV]⟩ (.two .none (.one (.obj 9 75 SV (.loop 2 ⟨[(1,.sl SV),(3,.ptr 0 0),(7,.sl SV),(9,.slc 1 0),(10,.int .i64),(11,.int .i64)],[.cells [.sl (.pair (.int .i64) (.pair (.int .i64) SX)),.sl SX],.row false 0 75 SV]⟩ [3,6] .none)))) (.two .none (.two .none (.two (.draw 1 [.pure,.pure,.rd [1],.rd [1],.rd [1],.pure,.rd [1],.rd [1],.rd [1],.pure,.pure,.new 2,.wr [1,2],.pure]) .none))))))))))
  (by kernel_rfl) rfl (by kernel_rfl) (by kernel_rfl) ⟨rfl,by unfold TOk;kernel_rfl,qax rfl rfl (zG.2 ⟨qlQ _N,(zG.2 ⟨qoD _N,(zG.2 ⟨qnA _N,(zG.2 ⟨qsl _N,(zD _)⟩)⟩)⟩)⟩),qaw rfl rfl (zD _),rfl⟩ (fun _x=>by kernel_rfl)
open Rea
open Gh (Nd Ed qaP GrOk nsum)
abbrev z0:Mk:=((0:Int),([]:List Int),(0:Int))
theorem qzQ{N:Nat}(hN:200000000<=N){a:List Int}(ha:a.length<=100000000)(b:List Int):∃ c,qaG N (a,b,())=some (c,())/\(c=true↔a=b):=by
 simp only [qaG,qfi]
 by_cases hl:a.length=b.length
 case neg=>
  refine⟨false,by rw [show ((a.length:Int) != (b.length:Int))=true from bne_iff_ne.2 (by omega),cond_true],⟨fun h=>(by cases h),fun h=>absurd (congrArg List.length h) hl⟩⟩
 rw [show ((a.length:Int) != (b.length:Int))=false by rw [hl];exact bne_self_eq_false _,cond_false]
 simp only [joinD,loopE]
 have hbody:∀ i,i<a.length->∀ kn,qbH N (fun _=>qdB N) a b (i:Int) (backE (a,b) kn)=if nth 0 a i≠nth 0 b i then some (false,()) else kn ((i:Int)+1):=fun i hi kn=>by
  simp only [qbH,lt_d hi,ge0_d,lt_d (show i<b.length by omega),Bool.and_self,cond_true,Int.toNat_natCast,qU,ix1 hi (by omega)]
  by_cases q:nth 0 a i=nth 0 b i
  ·rw [q,bne_self_eq_false,cond_false,zK (fun h=>h rfl)]
  ·rw [bne_iff_ne.2 q,cond_true,zH q]
 by_cases he:a=b
 ·refine⟨true,qdX (n:=a.length) (by omega) (fun i hi kn=>by rw [hbody i hi,zK (by rw [he];exact fun h=>h rfl)]) (fun kn=>by simp only [qbH,qbr,cond_false,qdB]) (by omega),by simp [he]⟩
 ·refine⟨false,qjX (n:=a.length) (by omega) (fun i=>nth 0 a i≠nth 0 b i) (fun i hi hb kn=>by rw [hbody i hi,zH hb]) (fun i hi hb kn=>by rw [hbody i hi,zK hb]) (by omega) ?_,by simp [he]⟩
  exact Classical.byContradiction fun hn=>he (Go.Smy.nth_ext hl fun i hi=>Classical.byContradiction fun hne=>hn ⟨i,hi,hne⟩)
theorem qrH{N:Nat}(hN:200000000<=N){l:List Mk}(hl:l.length<=64)(h4:∀ m∈l,m.2.1.length<=4)(hb:∀ r a t,-9223372036854775808<=sumT (l.take r) a t/\sumT (l.take r) a t<=9223372036854775807)(a:Int)(t:List Int):qbW N (l,a,t,())=some (sumT l a t,()):=by
 simp only [qbW,qkc,joinD,loopE]
 refine qcA (N:=N) l.length (fun i=>(sumT (l.take i) a t,(i:Int))) (fun i hi kn=>?_) (fun kn=>?_) (by omega)
 ·obtain⟨c,c1,c2⟩:=qzQ hN (a:=(nth z0 l i).2.1) (by have:=h4 _ (qbI (z:=z0) hi);omega) t
  have htk:sumT (l.take (i+1)) a t=sumT (l.take i) a t+if (nth z0 l i).1=a/\(nth z0 l i).2.1=t then (nth z0 l i).2.2 else 0:=by
   rw [zAD hi,qgW,qma,qcU hi]
  have hbd:=hb (i+1) a t
  rw [htk] at hbd
  simp only [qhh,lt_d hi,ge0_d,Bool.and_self,cond_true,Int.toNat_natCast,qU,ix1 hi (show l.length<=1000000000 by omega),htk]
  by_cases q:(nth z0 l i).1=a
  ·rw [show ((nth z0 l i).1==a)=true from beq_iff_eq.2 q,cond_true,c1]
   simp only [Option.bind_some]
   by_cases q2:(nth z0 l i).2.1=t
   ·have:c=true:=c2.2 q2
    subst this
    rw [zH ⟨q,q2⟩] at hbd ⊢
    rw [cond_true,w64 hbd.1 hbd.2];rfl
   ·have:c=false:=by cases c with | false=>rfl | true=>exact absurd (c2.1 rfl) q2
    subst this
    rw [zK (fun h=>q2 h.2),zBl];rfl
  ·rw [show ((nth z0 l i).1==a)=false from zW q,cond_false,zK (fun h=>q h.1),zBl];rfl
 ·simp only [qhh,qbr,cond_false,qkd,zAW]
theorem qvx{N:Nat}(hN:200000000<=N){l:List Mk}(hl:l.length<=1000)(h4:∀ m∈l,m.2.1.length<=4):qeb N (l,l,())=some (true,()):=by
 simp only [qeb,qmz,bne_self_eq_false,cond_false,joinD,loopE]
 refine qdX (n:=l.length) (by omega) (fun i hi kn=>?_) (fun kn=>by simp only [qji,qbr,cond_false,qmA]) (by omega)
 have hs:=qxG (N:=N) (xs:=(nth z0 l i).2.1) hN (by have:=h4 _ (qbI (z:=z0) hi);omega)
 simp only [qji,lt_d hi,ge0_d,Bool.and_self,cond_true,Int.toNat_natCast,bne_self_eq_false,cond_false,hs,Option.bind_some,Bool.not_true,qU,ix1 hi (show l.length<=1000000000 by omega)]
def rot(l:List Mk)(k:Nat):List Mk:=(List.range l.length).map fun i=>nth z0 l ((k+i) % l.length)
theorem qxV{l:List Mk}{k:Nat}(hk:k<l.length):(rot l k).Perm l:=by
 have e:rot l k=l.drop k++l.take k:=by
  refine List.ext_getElem (by simp [rot];omega) fun i h1 h2=>?_
  simp only [rot,zm,zAT] at h1
  simp only [rot,List.getElem_map,List.getElem_range]
  rw [List.getElem_append]
  split
  ·rename_i h
   rw [zh] at h
   rw [List.getElem_drop,zBP (by omega),qcU (by omega)]
  ·rename_i h
   rw [zh] at h
   have e2:(k+i) % l.length=i - (l.length - k):=by
    rw [Nat.mod_eq_sub_mod (by omega),zBP (by omega)];omega
   rw [e2,List.getElem_take,qcU (by omega)]
   simp only [zh]
 rw [e]
 have h:=List.perm_append_comm (l₁:=l.drop k) (l₂:=l.take k)
 rwa [zAp] at h
theorem qvM{L:List Mk}{a:Int}{t:List Int}(h:∀ m∈L,¬ (m.1=a/\m.2.1=t)):sumT L a t=0:=by
 refine Classical.byContradiction fun hne=>?_
 obtain⟨m,h1,h2⟩:=qtO hne
 exact h m h1 h2
theorem qsN{a:Int}{t:List Int}{n:Int}:∀ {L:List Mk},L.Pairwise mlt->(a,t,n)∈L->sumT L a t=n
 | [],_,h=>by cases h
 | m :: L,hp,h=>by
  rw [zAU] at hp
  have key:∀ x y:Mk,mlt x y->x.1=y.1->x.2.1=y.2.1->False:=fun x y h e1 e2=>by
   rcases h with h | ⟨-,h⟩
   ·omega
   ·rw [e2,qhZ] at h;omega
  simp only [sumT]
  rcases zf.1 h with e | h
  ·subst e
   rw [zH ⟨rfl,rfl⟩,qvM fun x hx e=>key _ x (hp.1 x hx) e.1.symm e.2.symm,zBl]
  ·rw [zK (fun e=>key m _ (hp.1 _ h) e.1 e.2),Int.zero_add]
   exact qsN hp.2 h
theorem qxK{f:Int->List Int->Int}{L:List Mk}(h:Rea.Told f L)(a:Int){t:List Int}(ht:t.length<=4):sumT L a t=f a t:=by
 by_cases q:f a t=0
 ·rw [q]
  refine qvM fun m hm e=>?_
  obtain⟨b,u,n⟩:=m
  obtain⟨rfl,rfl⟩:=e
  obtain⟨e1,e2⟩:=(h.mem _ _ n ht).1 hm
  exact e2 (e1.trans q)
 ·exact qsN h.so ((h.mem a t _ ht).2 ⟨rfl,q⟩)
theorem quO{L:List Mk}(hp:L.Pairwise mlt){C:Int}(hC:0<=C)(hb:∀ m∈L,-C<=m.2.2/\m.2.2<=C)(a:Int)(t:List Int):-C<=sumT L a t/\sumT L a t<=C:=by
 by_cases q:sumT L a t=0
 ·rw [q];omega
 ·obtain⟨⟨b,u,n⟩,h1,rfl,rfl⟩:=qtO q
  rw [qsN hp h1]
  exact hb _ h1
theorem law_TrackAnyhow(g:List Nd×List Ed)(l:List Mk)(k:Int)(_h1:wfS (.pair (.sl (.pair (.int .i64) (.pair (.int .i64) SX))) (.sl SX)) g)(_h2:wfS (.sl SV) l)(h3:wfS (.int .u8) k):∃ N,qdQ N (g,l,k,())=some (true,()):=by
 obtain⟨ns,es⟩:=g
 obtain⟨N,hN⟩:∃ N:Nat,600000000<=N:=⟨600000000,Nat.le_refl _⟩
 refine⟨N,?_⟩
 simp only [qdQ,qga]
 rcases qsI (N:=N) (by omega) ns es l with⟨e,t1,t2,-⟩ | ⟨hg,hm,L,t1,t2,t3⟩
 ·simp only [t1,Option.bind_some]
  rw [bne_iff_ne.2 t2,cond_true,zW t2,cond_false]
  rfl
 simp only [t1,Option.bind_some,bne_self_eq_false,cond_false,zAX,cond_true]
 by_cases q0:(l.length:Int)=0
 ·rw [beq_iff_eq.2 q0,cond_true]
 by_cases q1:(l.length:Int)=64
 ·rw [zW q0,cond_false,beq_iff_eq.2 q1,cond_true]
 rw [zW q0,cond_false,zW q1,cond_false]
 have hl:=hm.len
 have hpos:0<l.length:=by omega
 have h4:∀ m∈l,m.2.1.length<=4:=fun m hx=>(qvH (hm.st m hx).tk).2
 have hbl:∀ (a:Int) (t:List Int) (n:Int),(a,t,n)∈L -> -70368744177664<=n/\n<=70368744177664:=fun a t n hx=>by
  obtain⟨e1,-⟩:=(t2.mem a t n (t2.l4 (a,t,n) hx)).1 hx
  have:=qkC hm.n a t
  omega
 have hL:=qrH (N:=N) (by omega) t3 t2.l4 (fun r a t=>by
  have:=quO (L:=L.take r) (t2.so.sublist (List.take_sublist r L)) (C:=70368744177664) (by decide) (fun m hx=>hbl m.1 m.2.1 m.2.2 (zAQ hx)) a t
  omega) (nth z0 l 0).1 (nth z0 l 0).2.1
 have hl2:=qrH (N:=N) (by omega) hl h4 (fun r a t=>by
  have:=qkC (l:=l.take r) (fun m hx=>hm.n m (zAQ hx)) a t
  have h5:(l.take r).length<=64:=by rw [zq];omega
  omega) (nth z0 l 0).1 (nth z0 l 0).2.1
 have h40:=h4 _ (qbI (z:=z0) hpos)
 have hsame:sumT L (nth z0 l 0).1 (nth z0 l 0).2.1=sumT l (nth z0 l 0).1 (nth z0 l 0).2.1:=qxK t2 _ h40
 have hlt0:decide ((0:Int)<(l.length:Int))=true:=qA (by omega)
 simp only [qA (zAR 0),hlt0,Bool.and_self,cond_true,zCC,hL,hl2,Option.bind_some,hsame,bne_self_eq_false,cond_false,zW q0,joinD,loopE]
 have hk3:0<=k/\k<=255:=h3
 obtain⟨kn,rfl⟩:∃ kn:Nat,k=(kn:Int):=⟨k.toNat,by omega⟩
 have hkw:IntKind.i64.wrap ((kn:Nat):Int)=(kn:Int):=w64 (by omega) (by omega)
 have hkm:((kn:Nat):Int).tmod (l.length:Int)=((kn % l.length:Nat):Int):=rfl
 rw [hkw,hkm]
 obtain⟨K,hK,hKe⟩:∃ K,K<l.length/\K=kn % l.length:=⟨_,zBL _ hpos,rfl⟩
 rw [<- hKe]
 refine qcA (N:=N) l.length (fun i=>((i:Int),(List.range i).map fun j=>nth z0 l ((K+j) % l.length))) (fun i hi kn=>?_) (fun kn=>?_) (by omega)
 ·have hw:IntKind.i64.wrap ((K:Int)+(i:Int))=((K+i:Nat):Int):=by rw [w64 (by omega) (by omega)];omega
  have hm2:((K+i:Nat):Int).tmod (l.length:Int)=(((K+i) % l.length:Nat):Int):=rfl
  have hlt:=zBL (K+i) hpos
  simp only [qdE,lt_d hi,cond_true,zW q0,cond_false,hw,hm2,ge0_d,lt_d hlt,Bool.and_self,Int.toNat_natCast,qU,ix1 hi (show l.length<=1000000000 by omega)]
  rw [qA (by simp only [zm,zAT,List.length_cons,List.length_nil];omega),show Nat.ble 1 40=true from rfl,Bool.and_self,cond_true,zBx,zAk]
  rfl
 ·simp only [qdE,qbr,cond_false]
  have hR0:((List.range l.length).map fun j=>nth z0 l ((K+j) % l.length))=rot l K:=rfl
  rw [hR0]
  have hperm:=qxV hK
  obtain⟨r0,rest,hR⟩:∃ r0 rest,rot l K=r0 :: rest:=by
   cases e:rot l K with
   | nil=>rw [e] at hperm;have:=hperm.length_eq;simp only [List.length_nil] at this;omega
   | cons a b=>exact⟨a,b,rfl⟩
  rw [hR] at hperm ⊢
  have hrl:rest.length+1=l.length:=by have:=hperm.length_eq;simpa using this
  have hr0:r0∈l:=hperm.subset (by simp)
  have hrr:∀ m∈rest,m∈l:=fun m hx=>hperm.subset (by simp [hx])
  obtain⟨a,t,n⟩:=r0
  have hn:=hm.n _ hr0
  have hst:=hm.st _ hr0
  dsimp only at hn hst
  obtain⟨hf,hfe,hfb⟩:∃ hf:Int,hf=n.tdiv 2 /\ -1099511627776<=hf/\hf<=1099511627776 /\ -1099511627776<=n - hf/\n - hf<=1099511627776:=by
   refine⟨_,rfl,?_⟩
   rcases Int.lt_or_le n 0 with hneg | hneg
   ·have h2:-(n.tdiv 2)=(-n).tdiv 2:=(Int.neg_tdiv n 2).symm
    have h3:(-n).tdiv 2=(-n) / 2:=zBy (by omega)
    omega
   ·have h3:n.tdiv 2=n / 2:=zBy hneg
    omega
  have w1:IntKind.i64.wrap (n.tdiv 2)=hf:=by rw [<- hfe];exact w64 (by omega) (by omega)
  have w2:IntKind.i64.wrap (n - hf)=n - hf:=w64 (by omega) (by omega)
  have hlt1:decide ((0:Int)<(((a,t,n) :: rest).length:Int))=true:=qA (by rw [List.length_cons];omega)
  have hlt2:decide ((0:Int)<(((a,t,n - hf) :: rest).length:Int))=true:=qA (by rw [List.length_cons];omega)
  have hn0:nth ((0:Int),([]:List Int),(0:Int)) ((a,t,n) :: rest) 0=(a,t,n):=rfl
  have hn1:nth ((0:Int),([]:List Int),(0:Int)) ((a,t,n - hf) :: rest) 0=(a,t,n - hf):=rfl
  have hs0:((a,t,n) :: rest).set 0 (a,t,n - hf)=(a,t,n - hf) :: rest:=rfl
  simp only [qgb,qA (zAR 0),hlt1,Bool.and_self,cond_true,zCC,hn0,w1,w2,hs0,hlt2,hn1,show ((2:Int)==0)=false from rfl,cond_false]
  rw [qA (by simp only [List.length_cons,List.length_nil];omega),show Nat.ble 1 40=true from rfl,Bool.and_self,cond_true]
  have hok:MksOk ns ((a,t,n - hf) :: rest ++ [(a,t,hf)]):=by
   refine⟨by simp only [zS,List.length_cons,List.length_nil];omega,fun m hx=>?_,fun m hx=>?_⟩
   ·rcases zL.1 hx with hx | hx
    ·rcases zf.1 hx with e | hx
     ·rw [e];exact hst
     ·exact hm.st m (hrr m hx)
    ·rw [zO.1 hx];exact hst
   ·rcases zL.1 hx with hx | hx
    ·rcases zf.1 hx with e | hx
     ·rw [e];exact⟨hfb.2.2.1,hfb.2.2.2⟩
     ·exact hm.n m (hrr m hx)
    ·rw [zO.1 hx];exact⟨hfb.1,hfb.2.1⟩
  rcases qsI (N:=N) (by omega) ns es ((a,t,n - hf) :: rest ++ [(a,t,hf)]) with⟨e,-,-,u3⟩ | ⟨-,-,L',u1,u2,u3⟩
  ·exact absurd ⟨hg,hok⟩ u3
  ·simp only [u1,Option.bind_some,zAX,cond_true]
   have heq:L=L':=t2.uniq u2 fun b u _=>by
    rw [<- qvL hperm b u,qgW,qma]
    simp only [sumT]
    by_cases q:a=b/\t=u
    ·rw [zH q,zH q,zH q];omega
    ·rw [zK q,zK q,zK q];omega
   have hms:=qvx (N:=N) (by omega) (l:=L) (by omega) t2.l4
   rw [<- heq,hms]
   rfl
set_option maxRecDepth 100000 in
theorem lifted_TrackAnyhow(os:Os)(started:os.Started)(H:Type)(enc:TypeId×Value->H) :
  ReturnsInHanded {} Tryd.checked os 10 .any (fun w args=>(Rows.trackAnyhowSpec.pre enc Tryd.prog Tryd.f10 [] false w args/\laidMetH Tryd.prog Rows.trackAnyhowRow.laid w)/\sizedMet enc Tryd.prog Tryd.f10 (OpenSpec.ofChange Rows.trackAnyhowSpec) false w args) (Rows.trackAnyhowSpec.post enc Tryd.prog Tryd.f10 false true false false):=by
 refine returnsInHanded_of_change_and (C:=Tryd.checked) (X:=fun w _=>laidMetH Tryd.prog Rows.trackAnyhowRow.laid w) (fun _ _ _ hh h=>h.of_heap hh) own started (by kernel_rfl) Tryd.func10
  (ChangeSpec.witness_shaped (enc:=enc) (C:=Tryd.checked) (os:=os) (X:=fun w _=>laidMetH Tryd.prog Rows.trackAnyhowRow.laid w) false (World.doorLaid Tryd.prog 400 os) #[.agg #[.slice none 0 0,.slice none 0 0],.slice none 0 0,.int .u8 0] 8 rfl (World.shaped_of_RefB (by kernel_rfl) (by kernel_rfl)) (by kernel_rfl) (by kernel_rfl) (by kernel_rfl) (door_met os _)) ?_
 intro W base args ds gs before hval0 hW _ hsz0 hL _
 have hgw:GW Gs W:=gw_of hL
 have hval:∀ (j:Nat) t v,Tryd.f10.params[j]? = some t->args[j]? = some v->Value.okWide Tryd.prog W .any base t v:=hval0
 have hW':=hW
 obtain⟨p,q,hA0,hV,rfl,_,_⟩:=hW
 have hA:DataW.TrodAll enc Tryd.prog W 0 (fun _=>true) true Tryd.f10.params.toList args.toList ds p:=hA0
 rw [Tryd.params10] at hA hval
 obtain⟨v0,vs0,d0,ds0,p0,q0,hargs,rfl,rfl,h0,r0⟩:=trodAll_cons hA
 obtain⟨v1,vs1,d1,ds1,p1,q1,rfl,rfl,rfl,h1,r1⟩:=trodAll_cons r0
 obtain⟨v2,vs2,d2,ds2,p2,q2,rfl,rfl,rfl,h2,r2⟩:=trodAll_cons r1
 obtain⟨rfl,rfl,rfl⟩:=trodAll_nil r2
 obtain rfl:args = #[v0,v1,v2]:=by cases args;simp_all
 obtain⟨rfl,rfl⟩:=trodVars_none hV
 have hall:=zo.1 hsz0
 clear hA0 hval0 hsz0
 simp only [List.append_nil] at hW'
 have hlt0:∀ x∈p0,x.block<W.heap.size:=fun x hx=>hW'.lt x (by simp [hx])
 have hlt1:∀ x∈p1,x.block<W.heap.size:=fun x hx=>hW'.lt x (by simp [hx])
 have hlt2:∀ x∈p2,x.block<W.heap.size:=fun x hx=>hW'.lt x (by simp [hx])
 obtain⟨x0,g0,w0⟩:=qsZ (k:=.dat (.pair (.sl (.pair (.int .i64) (.pair (.int .i64) SX))) (.sl SX))) (by kernel_rfl) (hval 0 25 v0 rfl rfl) h0
 obtain⟨x1,g1,w1⟩:=qsZ (k:=.dat (.sl SV)) (by kernel_rfl) (hval 1 70 v1 rfl rfl) h1
 obtain⟨x2,g2,w2⟩:=qsZ (k:=.dat (.int .u8)) (by kernel_rfl) (hval 2 5 v2 rfl rfl) h2
 obtain⟨N,hN⟩:=law_TrackAnyhow x0 x1 x2 w0 w1 w2
 refine (qjf N (fun _=>False) W (x0,x1,x2,()) (true,()) [v0,v1,v2] (fun _ h=>h.elim) hgw ⟨v0,_,rfl,g0,⟨v1,_,rfl,g1,⟨v2,_,rfl,g2,rfl⟩⟩⟩ hN).mono ?_
 rintro e W' ⟨v,rfl,hg,hr⟩
 replace hg:=hg.old
 have hr:v=.bool true:=by simpa only [kvals,retV,Kd.val,Go.Abs.enc,RV] using hr
 subst hr
 exact⟨_,rfl,_,_,_,[],p0++(p1++(p2 ++ [])),[],hW',(trodAll_cons_mk (shut_bool (show Tryd.prog.underlying 4=some .bool by kernel_rfl) _) trodAll_mk0),(trodAll_cons_mk (Below.trod laidOut (by kernel_rfl) (zl (by kernel_rfl)) h0 hg hlt0) (trodAll_cons_mk (Below.trod laidOut (by kernel_rfl) (zl (by kernel_rfl)) h1 hg hlt1) (trodAll_cons_mk (Below.trod laidOut (by kernel_rfl) (zl (by kernel_rfl)) h2 hg hlt2) trodAll_mk0))),rfl,hg.frame _,fun h=>by cases h⟩
theorem trackAnyhow_holds:Rows.TrackAnyhowSaid:=
 OpenClaim.holds_of_wide 10 Tryd.f10 rfl rfl rfl rfl rfl rfl rfl ⟨rfl,rfl,rfl,rfl,rfl⟩ rfl rfl rfl rfl rfl (by kernel_rfl) Tryd.func10 (by kernel_rfl)
  (zl (by kernel_rfl)) (by unfold Func.isWrapper;first | (rw [zH (by decide +kernel)];kernel_rfl) | (rw [zK (by decide +kernel)];exact⟨rfl,rfl⟩))
  (fun os started H enc _=>lifted_TrackAnyhow os started H enc)
theorem trackAnyhow_card:Rows.TrackAnyhowCardSaid:=
 Claim7.holds_tied_plain_at .later [] [.data] true (true, "b049033100521c0328afe8a8273d62bdb84d2c9756645822752d68c43c86d84a") false trackAnyhow_holds (fun _ h => by cases h) (by kernel_rfl) (fun _ h => by cases h) trackAnyhow_row_tie rfl ⟨rfl, rfl⟩ (by kernel_rfl) rfl
  (fun f fn hf hfn=>by
   obtain rfl : f = 10 := Option.some.inj ((show Tryd.prog.funcNamed "watershed/watershedkeep.TrackAnyhow" = some 10 by kernel_rfl).symm.trans hf) |>.symm
   obtain rfl:fn=Tryd.f10:=(zBt (Tryd.func10.symm.trans hfn)).symm
   exact⟨by kernel_rfl,fun j t ht=>by
    have h3:=zo.1 (show (Tryd.f10.params.toList.all fun t=>!(Tryd.prog.wantsStandIn t))=true by kernel_rfl) t (by rw [<- zp] at ht;exact zz ht)
    have h4:Tryd.prog.wantsStandIn t=false:=by simpa using h3
    exact h4⟩)
  (by kernel_rfl)
end Go.Proofs.YtgnnhemoocfclaaDoor
end
