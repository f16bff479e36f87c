import Derived.Test.YtnhjpicdijeagaaDoorMeaR
import Derived.Test.YtnhjpicdijeagaaDoorFrameV
noncomputable section
namespace Go.Proofs.YtnhjpicdijeagaaDoor
open Go Go.ChangeShapes Go.WideShapes Go.ChangeAt Go.WideMaps Go.WideElems Go.RowKit Go.Abs Go.Bag
abbrev SK:Sh:=.pair (.int .i64) (.pair (.int .i64) (.int .i64))
abbrev Yv:Type:=Int×Int×Int
abbrev Yu:Type:=Int×Int×Int×Int×Int
abbrev qfI:List Kd:=[.dat SK]
abbrev qfE:List Kd:=[.dat (.bool)]
abbrev qmp:Type:=Dens qfE
def qvD(_N:Nat):Ctx:={ T:=[(37,⟨.struct [(0,3),(1,2),(2,2)],3,24,some SK,[.int .i64 (0:Int),.int .i64 (0:Int),.int .i64 (0:Int)],true,[]⟩),(103,⟨.ifc,1,16,none,[.nl .ifc],false,[]⟩)],G:=findE [mkHe 42 qex (qbq _N)],I:=findI [],N:=_N,n:=6,fx:=[],fl:=0,gs:=Gs }
def qnA(_N:Nat)(_x1:Int×Int×Int):Option qmp:=
 ((qbq _N (_x1.1,(_x1.2.1,_x1.2.2))).bind fun _y10=>(caseD _y10 (fun _y11=>(some (true,()))) fun _y12=>(caseD _y12 (fun _y13=>(some (true,()))) fun _y14=>(caseD _y14 (fun _y15=>(some (true,()))) fun _y16=>(caseD _y16 (fun _y17=>(some (true,()))) fun _y18=>(some (false,())))))))
def qef(_N:Nat)(_x:Dens qfI):Option qmp:=qnA _N _x.1
theorem qsl(_N:Nat):SpecD Tryd.prog Gs 21 qfI qfE (qef _N):=mkSpD (fn:=Tryd.f21) (c:=ql Tryd.f21) (C:=qvD _N)
  (a:=.none)
  (by kernel_rfl) rfl (by kernel_rfl) (by kernel_rfl) ⟨rfl,by unfold TOk;kernel_rfl,qao rfl rfl (zG.2 ⟨qjD _N,(zC _)⟩),qan rfl rfl (zC _),rfl⟩ (fun _x=>by kernel_rfl)
theorem qtl(_N:Nat):EntOk Tryd.prog Gs (mkP 21 qfI qfE (qef _N)):=entP ⟨Tryd.f21,ql Tryd.f21,by kernel_rfl,by kernel_rfl,rfl⟩ (by kernel_rfl) (qsl _N)
abbrev qdN:List Kd:=[.dat (.pair (.pair (.sl (.pair (.int .i64) (.pair (.int .i64) SK))) (.sl SK)) (.int .i64))]
abbrev qdK:List Kd:=[.dat (.bool)]
abbrev qaW:Type:=Dens qdK
def qqD(_N:Nat):Ctx:={ T:=[(3,⟨.int .i64,1,8,some (.int .i64),[.int .i64 (0:Int)],false,[]⟩),(22,⟨.slice 39,1,24,some (.sl (.pair (.int .i64) (.pair (.int .i64) SK))),[.nil],false,[]⟩),(25,⟨.struct [(0,22),(1,23)],2,48,some (.pair (.sl (.pair (.int .i64) (.pair (.int .i64) SK))) (.sl SK)),[.nil,.nil],false,[]⟩),(27,⟨.struct [(0,25),(2,3)],3,56,some (.pair (.pair (.sl (.pair (.int .i64) (.pair (.int .i64) SK))) (.sl SK)) (.int .i64)),[.nil,.nil,.int .i64 (0:Int)],false,[]⟩),(37,⟨.struct [(0,3),(1,2),(2,2)],3,24,some SK,[.int .i64 (0:Int),.int .i64 (0:Int),.int .i64 (0:Int)],true,[]⟩),(39,⟨.struct [(0,3),(1,3),(2,37)],5,40,some (.pair (.int .i64) (.pair (.int .i64) SK)),[.int .i64 (0:Int),.int .i64 (0:Int),.int .i64 (0:Int),.int .i64 (0:Int),.int .i64 (0:Int)],true,[]⟩)],G:=findE [mkP 21 qfI qfE (qef _N)],I:=findI [],N:=_N,n:=34,fx:=[],fl:=0,gs:=Gs }
def qjy(_N:Nat):Option qaW:=
 (some (true,()))
def qjx(_N:Nat)(_kn28:((List Yu)×Int×(List Yu)×(List Yv)×Int)×Int->Option qaW)(_v8:List Yu)(_v9:Int)(_v10:Int)(_v15:List Yu)(_v16:List Yv)(_v17:Int):Option qaW:=
 (_kn28 ((_v8,_v9,_v15,_v16,_v17),(IntKind.i64.wrap (_v10+(1:Int)))))
def qep(_N:Nat)(_k27:((List Yu)×(List Yv)×Int)->Option qaW)(_v1:List Yu)(_v2:Int)(_v4:List Yu)(_v5:List Yv)(_v6:Int)(_v3:Int)(_kn28:((List Yu)×Int×(List Yu)×(List Yv)×Int)×Int->Option qaW):Option qaW:=
 (bif (decide (_v3<_v2)) then (joinD (fun (_s:(List Yu)×Int×Int×Int×Bool×Bool×Bool×(List Yu)×(List Yv)×Int×Int×Int×Int×Int×Int)=>qjx _N _kn28 _s.1 _s.2.1 _s.2.2.1 _s.2.2.2.2.2.2.2.1 _s.2.2.2.2.2.2.2.2.1 _s.2.2.2.2.2.2.2.2.2.1) fun _k29=>(bif (decide (0<=_v3)&&decide (_v3<(_v1.length:Int))) then (bif (((nth ((0:Int),((0:Int),((0:Int),((0:Int),(0:Int))))) _v1 (_v3).toNat).1)==(2:Int)) then ((qef _N (((((nth ((0:Int),((0:Int),((0:Int),((0:Int),(0:Int))))) _v1 (_v3).toNat).2).2).1,(((((nth ((0:Int),((0:Int),((0:Int),((0:Int),(0:Int))))) _v1 (_v3).toNat).2).2).2).1,((((nth ((0:Int),((0:Int),((0:Int),((0:Int),(0:Int))))) _v1 (_v3).toNat).2).2).2).2)),())).bind fun _y30=>(bif (!_y30.1) then (some (false,())) else (bif (((nth ((0:Int),((0:Int),((0:Int),((0:Int),(0:Int))))) _v1 (_v3).toNat).1)==(3:Int)) then (bif (((((nth ((0:Int),((0:Int),((0:Int),((0:Int),(0:Int))))) _v1 (_v3).toNat).2).2).1) != (9:Int)) then (some (false,())) else (_k29 (_v1,_v2,_v3,(nth ((0:Int),((0:Int),((0:Int),((0:Int),(0:Int))))) _v1 (_v3).toNat).1,(((nth ((0:Int),((0:Int),((0:Int),((0:Int),(0:Int))))) _v1 (_v3).toNat).1)==(3:Int)),true,(((((nth ((0:Int),((0:Int),((0:Int),((0:Int),(0:Int))))) _v1 (_v3).toNat).2).2).1) != (9:Int)),_v4,_v5,_v6,(nth ((0:Int),((0:Int),((0:Int),((0:Int),(0:Int))))) _v1 (_v3).toNat).1,((nth ((0:Int),((0:Int),((0:Int),((0:Int),(0:Int))))) _v1 (_v3).toNat).2).1,(((nth ((0:Int),((0:Int),((0:Int),((0:Int),(0:Int))))) _v1 (_v3).toNat).2).2).1,((((nth ((0:Int),((0:Int),((0:Int),((0:Int),(0:Int))))) _v1 (_v3).toNat).2).2).2).1,((((nth ((0:Int),((0:Int),((0:Int),((0:Int),(0:Int))))) _v1 (_v3).toNat).2).2).2).2))) else (_k29 (_v1,_v2,_v3,(nth ((0:Int),((0:Int),((0:Int),((0:Int),(0:Int))))) _v1 (_v3).toNat).1,(((nth ((0:Int),((0:Int),((0:Int),((0:Int),(0:Int))))) _v1 (_v3).toNat).1)==(3:Int)),false,false,_v4,_v5,_v6,(nth ((0:Int),((0:Int),((0:Int),((0:Int),(0:Int))))) _v1 (_v3).toNat).1,((nth ((0:Int),((0:Int),((0:Int),((0:Int),(0:Int))))) _v1 (_v3).toNat).2).1,(((nth ((0:Int),((0:Int),((0:Int),((0:Int),(0:Int))))) _v1 (_v3).toNat).2).2).1,((((nth ((0:Int),((0:Int),((0:Int),((0:Int),(0:Int))))) _v1 (_v3).toNat).2).2).2).1,((((nth ((0:Int),((0:Int),((0:Int),((0:Int),(0:Int))))) _v1 (_v3).toNat).2).2).2).2))))) else (bif (((nth ((0:Int),((0:Int),((0:Int),((0:Int),(0:Int))))) _v1 (_v3).toNat).1)==(3:Int)) then (bif (((((nth ((0:Int),((0:Int),((0:Int),((0:Int),(0:Int))))) _v1 (_v3).toNat).2).2).1) != (9:Int)) then (some (false,())) else (_k29 (_v1,_v2,_v3,(nth ((0:Int),((0:Int),((0:Int),((0:Int),(0:Int))))) _v1 (_v3).toNat).1,(((nth ((0:Int),((0:Int),((0:Int),((0:Int),(0:Int))))) _v1 (_v3).toNat).1)==(3:Int)),true,(((((nth ((0:Int),((0:Int),((0:Int),((0:Int),(0:Int))))) _v1 (_v3).toNat).2).2).1) != (9:Int)),_v4,_v5,_v6,(nth ((0:Int),((0:Int),((0:Int),((0:Int),(0:Int))))) _v1 (_v3).toNat).1,((nth ((0:Int),((0:Int),((0:Int),((0:Int),(0:Int))))) _v1 (_v3).toNat).2).1,(((nth ((0:Int),((0:Int),((0:Int),((0:Int),(0:Int))))) _v1 (_v3).toNat).2).2).1,((((nth ((0:Int),((0:Int),((0:Int),((0:Int),(0:Int))))) _v1 (_v3).toNat).2).2).2).1,((((nth ((0:Int),((0:Int),((0:Int),((0:Int),(0:Int))))) _v1 (_v3).toNat).2).2).2).2))) else (_k29 (_v1,_v2,_v3,(nth ((0:Int),((0:Int),((0:Int),((0:Int),(0:Int))))) _v1 (_v3).toNat).1,(((nth ((0:Int),((0:Int),((0:Int),((0:Int),(0:Int))))) _v1 (_v3).toNat).1)==(3:Int)),false,false,_v4,_v5,_v6,(nth ((0:Int),((0:Int),((0:Int),((0:Int),(0:Int))))) _v1 (_v3).toNat).1,((nth ((0:Int),((0:Int),((0:Int),((0:Int),(0:Int))))) _v1 (_v3).toNat).2).1,(((nth ((0:Int),((0:Int),((0:Int),((0:Int),(0:Int))))) _v1 (_v3).toNat).2).2).1,((((nth ((0:Int),((0:Int),((0:Int),((0:Int),(0:Int))))) _v1 (_v3).toNat).2).2).2).1,((((nth ((0:Int),((0:Int),((0:Int),((0:Int),(0:Int))))) _v1 (_v3).toNat).2).2).2).2)))) else none)) else (_k27 (_v4,_v5,_v6)))
def qjw(_N:Nat)(_x1:(List Yu×List Yv)×Int):Option qaW:=
 (joinD (fun (_s:(List Yu)×(List Yv)×Int)=>qjy _N) fun _k27=>(loopE (fun (_c:(List Yu)×Int×(List Yu)×(List Yv)×Int) (_s:Int) _kn=>qep _N _k27 _c.1 _c.2.1 _c.2.2.1 _c.2.2.2.1 _c.2.2.2.2 _s _kn) _N (_x1.1.1,(_x1.1.1.length:Int),_x1.1.1,_x1.1.2,_x1.2) (0:Int)))
def qcA(_N:Nat)(_x:Dens qdN):Option qaW:=qjw _N _x.1
theorem qoo(_N:Nat):SpecD Tryd.prog Gs 10 qdN qdK (qcA _N):=mkSpD (fn:=Tryd.f10) (c:=ql Tryd.f10) (C:=qqD _N)
  (a:=.two .none (.join 1 ⟨[],[.cells [.sl (.pair (.int .i64) (.pair (.int .i64) SK)),.sl SK,.int .i64]]⟩ (.two .none (.one (.loop 1 ⟨[(7,.sl (.pair (.int .i64) (.pair (.int .i64) SK))),(8,.int .i64),(9,.int .i64)],[.cells [.sl (.pair (.int .i64) (.pair (.int .i64) SK)),.sl SK,.int .i64]]⟩ [2] (.two .none (.two .none (.join 2 ⟨[(7,.sl (.pair (.int .i64) (.pair (.int .i64) SK))),(8,.int .i64),(9,.int .i64),(23,.ptr 1 0),(24,.int .i64),(25,.bool),(26,.bool),(31,.bool)],[.cells [.sl (.pair (.int .i64) (.pair (.int .i64) SK)),.sl SK,.int .i64],.cells [.int .i64,.int .i64,.int .i64,.int .i64,.int .i64]]⟩ .none .none)))))) .none))
  (by kernel_rfl) rfl (by kernel_rfl) (by kernel_rfl) ⟨rfl,by unfold TOk;kernel_rfl,qao rfl rfl (zG.2 ⟨qtl _N,(zC _)⟩),qan rfl rfl (zC _),rfl⟩ (fun _x=>by kernel_rfl)
theorem qov(_N:Nat):EntOk Tryd.prog Gs (mkP 10 qdN qdK (qcA _N)):=entP ⟨Tryd.f10,ql Tryd.f10,by kernel_rfl,by kernel_rfl,rfl⟩ (by kernel_rfl) (qoo _N)
abbrev qja:List Kd:=[.dat (.pair (.pair (.sl (.pair (.int .i64) (.pair (.int .i64) SK))) (.sl SK)) (.int .i64)),.dat (.sl (.pair (.int .i64) (.pair (.int .i64) (.sl SK)))),.dat (.sl (.pair (.int .i64) (.pair (.int .i64) (.sl SK)))),.dat (.int .i64),.dat (.int .i64),.dat (.sl (.int .i64))]
abbrev qiZ:List Kd:=[.dat (.bool)]
abbrev qiX:Type:=Dens qiZ
def qqE(_N:Nat):Ctx:={ T:=[(27,⟨.struct [(0,25),(2,3)],3,56,some (.pair (.pair (.sl (.pair (.int .i64) (.pair (.int .i64) SK))) (.sl SK)) (.int .i64)),[.nil,.nil,.int .i64 (0:Int)],false,[]⟩)],G:=findE [mkD 6 qin qil (qci _N),mkQ 8 qbY [.dat (.sl (.pair (.int .i64) (.pair (.int .i64) (.sl SK))))] (fun _x=>(qaT _N _x).map fun _y=>(_y,())),mkP 10 qdN qdK (qcA _N),mkQ 11 qhz qhu (qeR _N),mkP 12 qde qdd (qbJ _N)],I:=findI [],N:=_N,n:=89,fx:=[],fl:=0,gs:=Gs }
def qjz(_N:Nat)(_x1:(List Yu×List Yv)×Int)(_x2:List (Int×Int×List Yv))(_x3:List (Int×Int×List Yv))(_x4:Int)(_x5:Int)(_x6:List Int):Option qiX:=
 ((qci _N (((_x1.1.1,_x1.1.2),_x1.2),_x2,_x4,_x5,_x6,())).bind fun _y9=>((qci _N (((_x1.1.1,_x1.1.2),_x1.2),_x3,_x4,_x5,_x6,())).bind fun _y10=>(((fun _x=>(qaT _N _x).map fun _y=>(_y,())) (_x2,_x3,())).bind fun _y11=>((qci _N (((_x1.1.1,_x1.1.2),_x1.2),_y11.1,_x4,_x5,_x6,())).bind fun _y12=>((qci _N (((_x1.1.1,_x1.1.2),_x1.2),_x2,(-1:Int),_x5,_x6,())).bind fun _y13=>(bif (_y13.2.1==(0:Int)) then (some (false,())) else (bif (_y9.2.1 != (0:Int)) then (some (true,())) else (bif (_y10.2.1 != (0:Int)) then (some (true,())) else (bif (_y12.2.1 != (0:Int)) then (some (true,())) else ((qcA _N (((_x1.1.1,_x1.1.2),_x1.2),())).bind fun _y14=>(bif (!_y14.1) then (some (true,())) else ((qeR _N (_y9.1,_y10.1,())).bind fun _y15=>(bif (_y15.2.1==(0:Int)) then ((qbJ _N (_y12.1,_y15.1,())).bind fun _y16=>(some (_y16.1,()))) else (some (false,())))))))))))))))
def qgL(_N:Nat)(_x:Dens qja):Option qiX:=qjz _N _x.1 _x.2.1 _x.2.2.1 _x.2.2.2.1 _x.2.2.2.2.1 _x.2.2.2.2.2.1
theorem qop(_N:Nat):SpecD Tryd.prog Gs 5 qja qiZ (qgL _N):=mkSpD (fn:=Tryd.f5) (c:=ql Tryd.f5) (C:=qqE _N)
  (a:=.two .none (.two .none (.two .none (.two (.draw 0 [.rd [0],.pure,.pure,.pure,.pure,.pure,.pure,.full,.pure,.pure,.pure,.pure,.pure]) .none))))
  (by kernel_rfl) rfl (by kernel_rfl) (by kernel_rfl) ⟨rfl,by unfold TOk;kernel_rfl,qao rfl rfl (zG.2 ⟨qrR _N,(zG.2 ⟨qft _N,(zG.2 ⟨qov _N,(zG.2 ⟨qsD _N,(zG.2 ⟨qjC _N,(zC _)⟩)⟩)⟩)⟩)⟩),qan rfl rfl (zC _),rfl⟩ (fun _x=>by kernel_rfl)
theorem nd_ex:∀ (n:Nat) (m:List Row),m.length<=n->∃ xs:List Row,(xs.map ky).Nodup/\(∀ r∈xs,r.2.2≠0)/\(∀ r∈xs,∃ s∈m,ky s=ky r)/\∀ e,amt xs e=w (amt m e)
 | 0,m,h=>by
  obtain rfl:m = []:=zY (by omega)
  exact⟨[],zBX,(fun _ h=>by cases h),(fun _ h=>by cases h),fun e=>qny.symm⟩
 | n+1,[],_=>⟨[],zBX,(fun _ h=>by cases h),(fun _ h=>by cases h),fun e=>qny.symm⟩
 | n+1,r :: m,h=>by
  obtain⟨xs,h1,h2,h3,h4⟩:=nd_ex n (m.filter fun s=>decide (ky s≠ky r)) (by have:=zAP (fun s=>decide (ky s≠ky r)) m;simp only [List.length_cons] at h;omega)
  have hA:∀ e,e≠ky r->amt (r :: m) e=amt (m.filter fun s=>decide (ky s≠ky r)) e:=fun e he=>by
   rw [qfD,zL he]
   simp only [amt]
   rw [zL (fun h=>he h.symm)]
   omega
  by_cases hv:w (amt (r :: m) (ky r))=0
  ·refine⟨xs,h1,h2,fun s hs=>?_,fun e=>?_⟩
   ·obtain⟨u,hu,e⟩:=h3 s hs
    exact⟨u,zb _ (zc.1 hu).1,e⟩
   ·by_cases he:e=ky r
    ·rw [he,hv,h4,qfD,zJ rfl,qny]
    ·rw [h4,hA e he]
  ·refine⟨((ky r).1,(ky r).2,w (amt (r :: m) (ky r))) :: xs,?_,?_,?_,?_⟩
   ·rw [List.map_cons,zZ]
    refine⟨fun hm=>?_,h1⟩
    obtain⟨s,hs,e⟩:=zr.1 hm
    obtain⟨u,hu,e2⟩:=h3 s hs
    exact zV (zc.1 hu).2 (e2.trans e)
   ·intro s hs
    rcases zi.1 hs with rfl | hs
    ·exact hv
    ·exact h2 s hs
   ·intro s hs
    rcases zi.1 hs with rfl | hs
    ·exact⟨r,zAH ..,rfl⟩
    ·obtain⟨u,hu,e⟩:=h3 s hs
     exact⟨u,zb _ (zc.1 hu).1,e⟩
   ·intro e
    show (if ky r=e then w (amt (r :: m) (ky r)) else 0)+amt xs e=_
    by_cases he:e=ky r
    ·rw [zJ he.symm,h4,qfD,zJ he,qny,he]
     omega
    ·rw [zL (fun h=>he h.symm),h4,hA e he]
     omega
theorem qBg(m:List Row):∃ l,IsBag (amt m) l:=by
 obtain⟨xs,h1,h2,-,h4⟩:=nd_ex _ m (Nat.le_refl _)
 have hp:=List.pairwise_mergeSort (le:=fun a b=>!decide (rlt b a)) (fun a b c h h'=>by
  simp only [zT,decide_eq_false_iff_not] at *
  unfold rlt at *
  omega) (fun a b=>by
  by_cases q:rlt b a
  ·have:¬ rlt a b:=fun q'=>qhJ _ (qlv q q')
   simp [this]
  ·simp [q]) xs
 have hq:=List.mergeSort_perm xs (fun a b=>!decide (rlt b a))
 have hn:((xs.mergeSort fun a b=>!decide (rlt b a)).map ky).Nodup:=(hq.map ky).nodup_iff.2 h1
 unfold List.Nodup at hn
 rw [zAx] at hn
 refine⟨_,(hp.and hn).imp (fun {a b} h=>Classical.byContradiction fun q=>h.2 (qpb q (by simpa using h.1))),fun r hr=>h2 r (hq.mem_iff.1 hr),fun e=>?_⟩
 rw [qxY hq,h4]
theorem qsY(fs:List Fd)(n:Nat)(e:Int):∃ l,inpF fs n e=amt l:=by
 induction fs with
 | nil=>exact⟨[],rfl⟩
 | cons f r ih=>
  obtain⟨l,h⟩:=ih
  by_cases q:f.1=(n:Int)/\f.2.1<=e
  ·refine⟨f.2.2++l,funext fun z=>?_⟩
   simp only [inpF]
   rw [zJ q,h,qbi]
  ·refine⟨l,funext fun z=>?_⟩
   simp only [inpF]
   rw [zL q,h]
   omega
def StrN(x:Nd):Prop:=(x.1=2->1<=x.2.2.1/\x.2.2.1<=4)/\(x.1=3->x.2.2.1=9)
open Classical in
def rcS(ns:List Nd)(es:List Ed)(rd:Int)(fs:List Fd)(s s':S3):Option Fn:=if R3 ns es rd s' s then semC ns es rd fs s' else none
theorem qoF{ns:List Nd}{es:List Ed}{rd:Int}{fs:List Fd}{s s':S3}{F:Fn}(h:rcS ns es rd fs s s'=some F):R3 ns es rd s' s/\semC ns es rd fs s'=some F:=by
 unfold rcS at h
 split at h
 ·rename_i q;exact⟨q,h⟩
 ·cases h
theorem qsu{ns:List Nd}{es:List Ed}(h:Gh.GrOk ns es){rd:Int}{fs:List Fd}{s:S3}{F:Fn}(hs:semC ns es rd fs s=some F):bodyG ns rd fs (rcS ns es rd fs s) (frO es s.1 s.2.1) s.2.2=some F:=by
 rw [qsv h] at hs
 have hs:bodyC ns es rd fs (rcS ns es rd fs s) s=some F:=hs
 unfold bodyC at hs
 obtain⟨G,h1,h2⟩:=zR.1 hs
 split at h2
 ·cases h2
 ·cases h2;exact h1
def Adds(F G H:Fn):Prop:=(∃ l,F=amt l)/\(∃ l,G=amt l)/\(∃ l,H=amt l)/\∀ e,Cg (H e) (F e+G e)
theorem qmn{F G H:Fn}(h:Adds F G H):IsBag F (rowsF F)/\IsBag G (rowsF G)/\IsBag H (rowsF H)/\∀ e,Cg (amt (rowsF H) e) (amt (rowsF F++rowsF G) e):=by
 obtain⟨⟨a,rfl⟩,⟨b,rfl⟩,⟨c,rfl⟩,h⟩:=h
 obtain⟨x,ix⟩:=qBg a
 obtain⟨y,iy⟩:=qBg b
 obtain⟨z,iz⟩:=qBg c
 rw [qfA ix,qfA iy,qfA iz]
 refine⟨ix,iy,iz,fun e=>?_⟩
 rw [qbi]
 exact (iz.amt_cg e).trans ((h e).trans ((ix.amt_cg e).add (iy.amt_cg e)).symm)
theorem qBJ{ns:List Nd}{es:List Ed}(h:Gh.GrOk ns es)(rd:Int)(fs gs:List Fd)(hst:∀ i,i<ns.length->StrN (ndA ns i)):∀ (s:S3) (F G H:Fn),semC ns es rd fs s=some F->semC ns es rd gs s=some G->semC ns es rd (fs++gs) s=some H->Adds F G H:=by
 intro s
 induction s using (r3_wf h rd).induction with
 | _ s IH=>
  intro F G H hF hG hH
  replace hF:=qsu h hF
  replace hG:=qsu h hG
  replace hH:=qsu h hH
  have IH':∀ s' F G H,rcS ns es rd fs s s'=some F->rcS ns es rd gs s s'=some G->rcS ns es rd (fs++gs) s s'=some H->Adds F G H:=fun s' F G H a b c=>IH s' (qoF a).1 F G H (qoF a).2 (qoF b).2 (qoF c).2
  generalize frO es s.1 s.2.1=n at hF hG hH
  have hlt:(ndA ns n).1≠0->n<ns.length:=fun q=>Classical.byContradiction fun hn=>q (by
   have:ndA ns n=Gh.z5:=by
    show nth Gh.z5 ns n=Gh.z5
    unfold nth
    rw [zK,zX (by omega)]
    rfl
   rw [this])
  unfold bodyG at hF hG hH
  simp only at hF hG hH
  by_cases k1:(ndA ns n).1=1
  ·rw [zJ k1] at hF hG hH
   cases hF;cases hG;cases hH
   exact⟨qsY ..,qsY ..,qsY ..,fun e=>.of_eq (qix ..)⟩
  rw [zL k1] at hF hG hH
  by_cases k2:(ndA ns n).1=2
  ·rw [zJ k2] at hF hG hH
   obtain⟨F,f1,rfl⟩:=zw.1 hF
   obtain⟨G,g1,rfl⟩:=zw.1 hG
   obtain⟨H,h1,rfl⟩:=zw.1 hH
   obtain⟨-,-,-,hc⟩:=qmn (IH' _ _ _ _ f1 g1 h1)
   have ho:=(hst n (hlt (by omega))).1 k2
   unfold opF
   rw [zJ ho.2,zJ ho.2,zJ ho.2]
   refine⟨⟨_,rfl⟩,⟨_,rfl⟩,⟨_,rfl⟩,fun e=>?_⟩
   rw [<- qbi,<- zAf]
   exact qEt _ _ _ hc e
  rw [zL k2] at hF hG hH
  by_cases k3:(ndA ns n).1=3
  ·rw [zJ k3] at hF hG hH
   obtain⟨F,f1,hF⟩:=zR.1 hF
   obtain⟨F',f2,rfl⟩:=zw.1 hF
   obtain⟨G,g1,hG⟩:=zR.1 hG
   obtain⟨G',g2,rfl⟩:=zw.1 hG
   obtain⟨H,h1,hH⟩:=zR.1 hH
   obtain⟨H',h2,rfl⟩:=zw.1 hH
   obtain⟨-,-,-,hc⟩:=qmn (IH' _ _ _ _ f1 g1 h1)
   obtain⟨-,-,-,hc'⟩:=qmn (IH' _ _ _ _ f2 g2 h2)
   have ho:=(hst n (hlt (by omega))).2 k3
   unfold pairF twoF
   rw [zJ ho,zJ ho,zJ ho]
   refine⟨⟨_,rfl⟩,⟨_,rfl⟩,⟨_,rfl⟩,fun e=>?_⟩
   rw [qbi,qbi,qbi]
   have:=(hc e).add (hc' e)
   rw [qbi,qbi] at this
   exact this.trans (.of_eq (by omega))
  rw [zL k3] at hF hG hH
  by_cases k4:(ndA ns n).1=4
  ·rw [zJ k4] at hF hG hH;exact IH' _ _ _ _ hF hG hH
  rw [zL k4] at hF hG hH
  by_cases k5:(ndA ns n).1=5
  ·rw [zJ k5] at hF hG hH;exact IH' _ _ _ _ hF hG hH
  rw [zL k5] at hF hG hH
  by_cases k6:0<s.2.2.getLastD 0
  ·rw [zJ k6] at hF hG hH;exact IH' _ _ _ _ hF hG hH
  ·rw [zL k6] at hF hG hH
   cases hF;cases hG;cases hH
   exact⟨⟨[],rfl⟩,⟨[],rfl⟩,⟨[],rfl⟩,fun e=>.of_eq rfl⟩
theorem qAd(N:Nat)(k A B:Int):qef N ((k,A,B),())=some (decide (1<=k/\k<=4),()):=by
 simp only [qef,qnA,qbq,qeU]
 by_cases h1:k=1
 ·subst h1;rfl
 by_cases h2:k=2
 ·subst h2;rfl
 by_cases h3:k=3
 ·subst h3;rfl
 by_cases h4:k=4
 ·subst h4;rfl
 rw [show (k==1)=false from zO h1,show (k==2)=false from zO h2,show (k==3)=false from zO h3,show (k==4)=false from zO h4,zAi (show ¬ (1<=k/\k<=4) by omega)]
 rfl
open Classical in
theorem qvO{N:Nat}{ns:List Nd}(es:List Ed)(rd:Int)(hN:ns.length<N)(hl:ns.length<=1000):∃ b,qcA N (((ns,es),rd),())=some (b,())/\(b=true->∀ i,i<ns.length->StrN (ndA ns i)):=by
 simp only [qcA,qjw,joinD,loopE]
 have hb:∀ (K:_->Option qaW) (i:Nat),i<ns.length->∀ kn,qep N K ns (ns.length:Int) ns es rd (i:Int) (backE (ns,(ns.length:Int),ns,es,rd) kn)=if StrN (ndA ns i) then kn ((i:Int)+1) else some (false,()):=fun K i hi kn=>by
  have e0:nth ((0:Int),(0:Int),(0:Int),(0:Int),(0:Int)) ns i=ndA ns i:=rfl
  simp only [qep,joinD,lt_d hi,ge0_d,Int.toNat_natCast,Bool.and_self,cond_true,e0,qjx,ix1 hi (by omega),qaq]
  rw [qAd N (ndA ns i).2.2.1 (ndA ns i).2.2.2.1 (ndA ns i).2.2.2.2]
  simp only [Option.bind_some]
  unfold StrN
  by_cases q2:(ndA ns i).1=2
  ·rw [show ((ndA ns i).1==2)=true from beq_iff_eq.2 q2,cond_true]
   by_cases q:1<=(ndA ns i).2.2.1/\(ndA ns i).2.2.1<=4
   ·rw [decide_eq_true q,Bool.not_true,cond_false,show ((ndA ns i).1==3)=false from zO (by omega),cond_false,zJ ⟨fun _=>q,fun h=>by omega⟩]
   ·rw [zAi q,Bool.not_false,cond_true,zL (fun h=>q (h.1 q2))]
  ·rw [show ((ndA ns i).1==2)=false from zO q2,cond_false]
   by_cases q3:(ndA ns i).1=3
   ·rw [show ((ndA ns i).1==3)=true from beq_iff_eq.2 q3,cond_true]
    by_cases q:(ndA ns i).2.2.1=9
    ·rw [show ((ndA ns i).2.2.1 != 9)=false from by simp [q],cond_false,zJ ⟨fun h=>absurd h q2,fun _=>q⟩]
    ·rw [show ((ndA ns i).2.2.1 != 9)=true from by simp [q],cond_true,zL (fun h=>q (h.2 q3))]
   ·rw [show ((ndA ns i).1==3)=false from zO q3,cond_false,zJ ⟨fun h=>absurd h q2,fun h=>absurd h q3⟩]
 by_cases hex:∃ i,i<ns.length/\¬ StrN (ndA ns i)
 ·refine⟨false,qju (n:=ns.length) (by omega) (fun i=>¬ StrN (ndA ns i)) (fun i hi hq kn=>by rw [hb _ i hi,zL hq]) (fun i hi hq kn=>by rw [hb _ i hi,zJ (Classical.not_not.1 hq)]) hN hex,fun h=>by cases h⟩
 ·have hall:∀ i,i<ns.length->StrN (ndA ns i):=fun i hi=>Classical.byContradiction fun q=>hex ⟨i,hi,q⟩
  refine⟨true,qcK (n:=ns.length) (by omega) (fun i hi kn=>?_) (fun kn=>?_) hN,fun _=>hall⟩
  ·rw [hb _ i hi,zJ (hall i hi)]
  ·simp only [qep,joinD,qbb,cond_false,qjy]
theorem law_MeanAdds(p:(List Yu×List Yv)×Int)(feeds more:List (Int×Int×List Yv))(node port:Int)(t:List Int)(_h1:wfS (.pair (.pair (.sl (.pair (.int .i64) (.pair (.int .i64) SK))) (.sl SK)) (.int .i64)) p)
  (_h2:wfS (.sl (.pair (.int .i64) (.pair (.int .i64) (.sl SK)))) feeds) (_h3:wfS (.sl (.pair (.int .i64) (.pair (.int .i64) (.sl SK)))) more) (_h4:wfS (.int .i64) node) (_h5:wfS (.int .i64) port) (_h6:wfS (.sl (.int .i64)) t)
  (hf:feeds.length<=1048576) (hm:more.length<=1048576):∃ N,qgL N (p,feeds,more,node,port,t,())=some (true,()):=by
 obtain⟨⟨ns,es⟩,rd⟩:=p
 obtain⟨N,hN⟩:∃ N,N=10000000:=⟨_,rfl⟩
 refine⟨N,?_⟩
 simp only [qgL,qjz,quF (N:=N) hf hm (by omega),Option.map_some,Option.bind_some]
 rw [At_eq N ns es rd feeds node port t,At_eq N ns es rd more node port t,At_eq N ns es rd (feeds++more) node port t,At_eq N ns es rd feeds (-1) port t]
 have hn:=at_neg ⟨ns,es,rd,feeds⟩ port t
 have l1:=at_len ⟨ns,es,rd,feeds⟩ node port t
 have l2:=at_len ⟨ns,es,rd,more⟩ node port t
 have l3:=at_len ⟨ns,es,rd,feeds++more⟩ node port t
 simp only [Option.bind_some,zO hn,cond_false]
 by_cases q1:(atF ⟨ns,es,rd,feeds⟩ node port t).2=0
 case neg=>rw [bne_iff_ne.2 q1,cond_true]
 by_cases q2:(atF ⟨ns,es,rd,more⟩ node port t).2=0
 case neg=>rw [q1,bne_self_eq_false,cond_false,bne_iff_ne.2 q2,cond_true]
 by_cases q3:(atF ⟨ns,es,rd,feeds++more⟩ node port t).2=0
 case neg=>rw [q1,q2,bne_self_eq_false,cond_false,cond_false,bne_iff_ne.2 q3,cond_true]
 rw [q1,q2,q3,bne_self_eq_false,cond_false,cond_false,cond_false]
 obtain⟨k1,k2,k3,F,s1,e1⟩:=qno q1
 obtain⟨-,-,-,G,s2,e2⟩:=qno q2
 obtain⟨-,-,-,H,s3,e3⟩:=qno q3
 have hP:=qmc k1 k2
 have h12:=hP.gr.n12
 simp only at h12
 obtain⟨b,h1,h2⟩:=qvO (N:=N) (ns:=ns) es rd (by omega) (by omega)
 rw [h1]
 simp only [Option.bind_some]
 cases b with
 | false=>rfl
 | true=>
  rw [Bool.not_true,cond_false]
  obtain⟨iF,iG,iH,hc⟩:=qmn (qBJ hP.gr rd feeds more (h2 rfl) _ F G H s1 s2 s3)
  rw [e1] at l1 ⊢
  rw [e2] at l2 ⊢
  rw [e3] at l3 ⊢
  obtain⟨d,z,d1,d2⟩:=qEh (N:=N) (by omega) (rowsF F) (rowsF G)
  have hsum:∀ v,Cg (amt (rowsF H) v) (1*amt (rowsF F) v+1*amt (rowsF G) v):=fun v=>(hc v).trans (.of_eq (by rw [qbi];omega))
  obtain rfl:z=0:=d2.is0 (by omega) l3 fun v hv=>(hsum v).symm.trans (Cg.of_eq (qml hv))
  obtain⟨-,-,id⟩:=d2.ok rfl
  have hcd:rowsF H=d:=iH.same id fun v=>((iH.amt_cg v).symm).trans (hsum v)
  rw [d1]
  simp only [Option.bind_some]
  rw [zAZ,cond_true,<- hcd,qBr (N:=N) (a:=rowsF H) (b:=rowsF H) (by omega) (by omega)]
  simp only [decide_true,Option.bind_some]
set_option maxRecDepth 100000 in
theorem qnh(H:Type)(enc:TypeId×Value->H)(W:World)(base:Nat)(args:Array Value)(ds gs:List (DataW H))(before:List MemPlace)
  (hval0:∀ (j:Nat) t v,Tryd.f5.params[j]? = some t->args[j]? = some v->Value.okWide Tryd.prog W .any base t v)
  (hW:DataW.Whole enc Tryd.prog Tryd.f5.params.toList Rows.meanAddsSpec.vars false W args.toList ds gs before) (hk:Rows.uptoSmall H (ds++gs)=true) (hL:laidMetH Tryd.prog Rows.meanAddsUptoRow.laid W) :
  Calls Tryd.prog 5 args W fun e W'=>∃ v,e=.returned v/\Rows.meanAddsSpec.post enc Tryd.prog Tryd.f5 false true false false W args v W':=by
 have hgw:GW Gs W:=gw_of hL
 have hval:∀ (j:Nat) t v,Tryd.f5.params[j]? = some t->args[j]? = some v->Value.okWide Tryd.prog W .any base t v:=hval0
 have hW':=hW
 obtain⟨p,q,hA0,hV,rfl,hnf,_⟩:=hW
 have hA:DataW.TrodAll enc Tryd.prog W 0 (fun _=>true) true Tryd.f5.params.toList args.toList ds p:=hA0
 rw [Tryd.params5] at hA hval
 obtain⟨v0,vs0,d0,ds0,p0,q0,hargs,rfl,rfl,h0,r0⟩:=trodAll_cons hA
 obtain⟨v1,vs1,d1,ds1,p1,q1,rfl,rfl,rfl,h1,r1⟩:=trodAll_cons r0
 obtain⟨v2,vs2,d2,ds2,p2,q2,rfl,rfl,rfl,h2,r2⟩:=trodAll_cons r1
 obtain⟨v3,vs3,d3,ds3,p3,q3,rfl,rfl,rfl,h3,r3⟩:=trodAll_cons r2
 obtain⟨v4,vs4,d4,ds4,p4,q4,rfl,rfl,rfl,h4,r4⟩:=trodAll_cons r3
 obtain⟨v5,vs5,d5,ds5,p5,q5,rfl,rfl,rfl,h5,r5⟩:=trodAll_cons r4
 obtain⟨rfl,rfl,rfl⟩:=trodAll_nil r5
 obtain rfl:args = #[v0,v1,v2,v3,v4,v5]:=by cases args;simp_all
 obtain⟨rfl,rfl⟩:=trodVars_none hV
 have hall:Rows.uptoBulkAll [d0,d1,d2,d3,d4,d5]<=1048576:=zV hk
 simp only [Rows.uptoBulkAll] at hall
 clear hA0 hval0 hk
 simp only [List.append_nil] at hW'
 have hlt0:∀ x∈p0,x.block<W.heap.size:=fun x hx=>hW'.lt x (by simp [hx])
 have hlt1:∀ x∈p1,x.block<W.heap.size:=fun x hx=>hW'.lt x (by simp [hx])
 have hlt2:∀ x∈p2,x.block<W.heap.size:=fun x hx=>hW'.lt x (by simp [hx])
 have hlt3:∀ x∈p3,x.block<W.heap.size:=fun x hx=>hW'.lt x (by simp [hx])
 have hlt4:∀ x∈p4,x.block<W.heap.size:=fun x hx=>hW'.lt x (by simp [hx])
 have hlt5:∀ x∈p5,x.block<W.heap.size:=fun x hx=>hW'.lt x (by simp [hx])
 obtain⟨x0,g0,w0⟩:=qfn (k:=.dat (.pair (.pair (.sl (.pair (.int .i64) (.pair (.int .i64) SK))) (.sl SK)) (.int .i64))) (by kernel_rfl) (hval 0 27 v0 rfl rfl) h0 (fun b off hm=>hnf b off (by simp [hm]))
 obtain⟨x1,g1,w1⟩:=qfn (k:=.dat (.sl (.pair (.int .i64) (.pair (.int .i64) (.sl SK))))) (by kernel_rfl) (hval 1 41 v1 rfl rfl) h1 (fun b off hm=>hnf b off (by simp [hm]))
 obtain⟨x2,g2,w2⟩:=qfn (k:=.dat (.sl (.pair (.int .i64) (.pair (.int .i64) (.sl SK))))) (by kernel_rfl) (hval 2 41 v2 rfl rfl) h2 (fun b off hm=>hnf b off (by simp [hm]))
 obtain⟨x3,g3,w3⟩:=qfn (k:=.dat (.int .i64)) (by kernel_rfl) (hval 3 3 v3 rfl rfl) h3 (fun b off hm=>hnf b off (by simp [hm]))
 obtain⟨x4,g4,w4⟩:=qfn (k:=.dat (.int .i64)) (by kernel_rfl) (hval 4 3 v4 rfl rfl) h4 (fun b off hm=>hnf b off (by simp [hm]))
 obtain⟨x5,g5,w5⟩:=qfn (k:=.dat (.sl (.int .i64))) (by kernel_rfl) (hval 5 28 v5 rfl rfl) h5 (fun b off hm=>hnf b off (by simp [hm]))
 have z1:x1.length<=1048576:=zn (qtt (t:=41) (e:=43) (by kernel_rfl) g1 h1) (by omega)
 have z2:x2.length<=1048576:=zn (qtt (t:=41) (e:=43) (by kernel_rfl) g2 h2) (by omega)
 obtain⟨N,hN⟩:=law_MeanAdds x0 x1 x2 x3 x4 x5 w0 w1 w2 w3 w4 w5 z1 z2
 refine (qop N (fun _=>False) W (x0,x1,x2,x3,x4,x5,()) (true,()) [v0,v1,v2,v3,v4,v5] (fun _ h=>h.elim) hgw ⟨v0,_,rfl,g0,⟨v1,_,rfl,g1,⟨v2,_,rfl,g2,⟨v3,_,rfl,g3,⟨v4,_,rfl,g4,⟨v5,_,rfl,g5,rfl⟩⟩⟩⟩⟩⟩ hN).mono ?_
 rintro e W' ⟨v,rfl,hg,hr⟩
 replace hg:=hg.old
 have hr:v=.bool true:=by simpa only [kvals,retV,Kd.val,Go.Abs.enc,RV] using hr
 subst hr
 exact⟨_,rfl,_,_,_,[],p0++(p1++(p2++(p3++(p4++(p5 ++ []))))),[],hW',(trodAll_cons_mk (shut_bool (show Tryd.prog.underlying 4=some .bool by kernel_rfl) _) trodAll_mk0),(trodAll_cons_mk (Below.trod laidOut (by kernel_rfl) (zV (by kernel_rfl)) h0 hg hlt0) (trodAll_cons_mk (Below.trod laidOut (by kernel_rfl) (zV (by kernel_rfl)) h1 hg hlt1) (trodAll_cons_mk (Below.trod laidOut (by kernel_rfl) (zV (by kernel_rfl)) h2 hg hlt2) (trodAll_cons_mk (Below.trod laidOut (by kernel_rfl) (zV (by kernel_rfl)) h3 hg hlt3) (trodAll_cons_mk (Below.trod laidOut (by kernel_rfl) (zV (by kernel_rfl)) h4 hg hlt4) (trodAll_cons_mk (Below.trod laidOut (by kernel_rfl) (zV (by kernel_rfl)) h5 hg hlt5) trodAll_mk0)))))),rfl,hg.frame _,fun h=>by cases h⟩
set_option maxRecDepth 100000 in
theorem qqT(os:Os){H:Type}(enc:TypeId×Value->H):∃ places,DataW.whole enc Tryd.prog ((World.doorLaid Tryd.prog 400 os).forCall (fun _ _=>0) ⟨#[],#[.agg #[.slice none 0 0,.slice none 0 0,.int .i64 0],.slice none 0 0,.slice none 0 0,.int .i64 0,.int .i64 0,.slice none 0 0],[]⟩).memory Tryd.f5.params.toList Rows.meanAddsSpec.vars false (#[.agg #[.slice none 0 0,.slice none 0 0,.int .i64 0],.slice none 0 0,.slice none 0 0,.int .i64 0,.int .i64 0,.slice none 0 0]:Array Value).toList 8=some ([.agg [.agg [.nil,.nil],.lit (.int .i64 0)],.nil,.nil,.lit (.int .i64 0),.lit (.int .i64 0),.nil],[],places):=
 ⟨[],by kernel_rfl⟩
set_option maxRecDepth 100000 in
theorem lifted_MeanAdds(os:Os)(started:os.Started)(H:Type)(enc:TypeId×Value->H)(F:Stop.Interp) :
  ReturnsInHanded {} Tryd.checked os 5 .any ((Rows.OpenSpec.upto Rows.meanAddsSpec).preRow enc Tryd.prog Tryd.f5 Rows.meanAddsUptoRow.domain false Rows.meanAddsUptoRow.laid) (((Rows.OpenSpec.upto Rows.meanAddsSpec).at F).post enc Tryd.prog Tryd.f5 false true false false):=by
 obtain⟨places,hx⟩:=qqT os enc
 refine returnsInHanded_of_row (C:=Tryd.checked) (s:=Rows.OpenSpec.upto Rows.meanAddsSpec) own started (by kernel_rfl) Tryd.func5
  (witness_row_atRef (enc:=enc) (C:=Tryd.checked) false (World.doorLaid Tryd.prog 400 os) #[.agg #[.slice none 0 0,.slice none 0 0,.int .i64 0],.slice none 0 0,.slice none 0 0,.int .i64 0,.int .i64 0,.slice none 0 0] rfl (by kernel_rfl) (by kernel_rfl) (by kernel_rfl)
   (OpenSpec.preRow_of_cond 8 hx (by kernel_rfl) (fun k hk=>by cases hk;kernel_rfl) (by kernel_rfl) (door_met os _))) ?_
 intro W base args ds gs before hval hW _ hk _ hL _ _
 exact qnh H enc W base args ds gs before hval hW (hk _ rfl) hL
theorem meanAdds_holds:Rows.MeanAddsUptoSaid:=
 OpenClaim.holds_of_cond 5 Tryd.f5 rfl rfl rfl rfl rfl rfl rfl ⟨rfl,rfl,rfl,rfl,rfl⟩ rfl rfl rfl rfl rfl (by kernel_rfl) Tryd.func5 (by kernel_rfl)
  (zV (by kernel_rfl)) (by unfold Func.isWrapper;first | (rw [zJ (by decide +kernel)];kernel_rfl) | (rw [zL (by decide +kernel)];exact⟨rfl,rfl⟩))
  (fun os started H enc _ F=>by rw [OpenClaim.pre_eq_preRow];exact lifted_MeanAdds os started H enc F)
theorem meanAdds_card:Rows.MeanAddsUptoCardSaid:=
 Claim7.holds_tied_plain_at .later [] _ _ _ _ meanAdds_holds (fun _ h=>by cases h) (by kernel_rfl) (fun _ h=>by cases h) meanAddsUpto_row_tie rfl ⟨rfl,rfl⟩ (by kernel_rfl) rfl
  (fun f fn hf hfn=>by
   obtain rfl : f = 5 := Option.some.inj ((show Tryd.prog.funcNamed "watershed/watershedkeep.MeanAdds" = some 5 by kernel_rfl).symm.trans hf) |>.symm
   obtain rfl:fn=Tryd.f5:=(zAj (Tryd.func5.symm.trans hfn)).symm
   exact⟨by kernel_rfl,fun j t ht=>by
    have h3:=zm.1 (show (Tryd.f5.params.toList.all fun t=>!(Tryd.prog.wantsStandIn t))=true by kernel_rfl) t (by rw [<- zp] at ht;exact zh ht)
    have h4:Tryd.prog.wantsStandIn t=false:=by simpa using h3
    exact h4⟩)
  (by kernel_rfl)
end Go.Proofs.YtnhjpicdijeagaaDoor
end
