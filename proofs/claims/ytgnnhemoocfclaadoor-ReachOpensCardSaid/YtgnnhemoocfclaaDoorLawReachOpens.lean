import Derived.Test.YtgnnhemoocfclaaDoorReaE
import Derived.Test.YtgnnhemoocfclaaDoorFrame
noncomputable section
namespace Go.Proofs.YtgnnhemoocfclaaDoor
open Go Go.ChangeShapes Go.WideShapes Go.ChangeAt Go.WideMaps Go.WideElems Go.RowKit Go.Abs
abbrev Sab:Sh:=.sl (.sl (.int .i64))
abbrev Saa:Sh:=.pair (.int .i64) (.sl (.int .i64))
abbrev SY:Sh:=.pair (.int .i64) (.pair (.int .i64) (.int .i64))
abbrev YB:Type:=List (List Int)
abbrev YA:Type:=Int×Int×Int
abbrev Yz:Type:=List (Int×Int×List Int)
abbrev Yy:Type:=Int×List Int
abbrev Yx:Type:=List (Int×Int×Int)
abbrev Yw:Type:=Int×Int×Int×Int×Int
abbrev qeR:List Kd:=[.dat (.pair (.sl (.pair (.int .i64) (.pair (.int .i64) SY))) (.sl SY)),.dat (.sl Saa)]
abbrev qeP:List Kd:=[.dat (.sl Sab),.dat (.int .i64)]
abbrev qaJ:Type:=Dens qeP
def qqm(_N:Nat):Ctx:={ T:=[(25,⟨.struct [(0,22),(1,23)],2,48,some (.pair (.sl (.pair (.int .i64) (.pair (.int .i64) SY))) (.sl SY)),[.nil,.nil],false,[]⟩),(27,⟨.int .i64,1,8,some (.int .i64),[.int .i64 (0:Int)],false,[]⟩),(29,⟨.struct [(0,27),(1,3)],2,16,some (.pair (.int .i64) (.int .i64)),[.int .i64 (0:Int),.int .i64 (0:Int)],true,[]⟩),(52,⟨.struct [(0,3),(1,38)],2,32,some Saa,[.int .i64 (0:Int),.nil],false,[]⟩),(62,⟨.slice 52,1,24,some (.sl Saa),[.nil],false,[]⟩)],G:=findE [mkHe 27 qfY (qbz _N),mkP 38 qee qeb (qaW _N),mkQ 43 qcb qca (qba _N)],I:=findI [],N:=_N,n:=40,fx:=[],fl:=0,gs:=Gs }
def qpT(_N:Nat):Option qaJ:=
 none
def qpS(_N:Nat)(_k35:((List Yy)×(List Yw)×Yx×Int×Int)->Option qaJ)(_v4:List Yy)(_v5:List Yy)(_v6:Int)(_v8:List Yw)(_v9:List YA)(_v10:Int)(_v11:Int)(_v7:Int)(_kn36:((List Yy)×(List Yy)×Int×(List Yw)×Yx×Int×Int)×Int->Option qaJ):Option qaJ:=
 (bif (decide (_v7<_v6)) then (bif (decide (0<=_v7)&&decide (_v7<(_v5.length:Int))) then ((qaW _N ((_v8,_v9),((nth ((0:Int),[]) _v5 (_v7).toNat).1,(nth ((0:Int),[]) _v5 (_v7).toNat).2),())).bind fun _y37=>(bif (_y37.1 != (0:Int)) then (some ([],_y37.1,())) else (_kn36 ((_v4,_v5,_v6,_v8,_v9,_v10,_v11),(IntKind.i64.wrap (_v7+(1:Int))))))) else none) else (_k35 (_v4,_v8,_v9,_v10,_v11)))
def qki(_N:Nat)(_v14:List Yy)(_v26:List Yw)(_v27:List YA)(_v28:List Yz):Option qaJ:=
 ((qba _N (((_v26,_v27),_v28),_v14,())).bind fun _y38=>(some (_y38.1,(0:Int),())))
def qhA(_N:Nat)(_k39:((List Yy)×(List Yw)×Yx×(List Yw)×Yx×(List Yz)×Int×Int)->Option qaJ)(_v4:List Yy)(_v5:List Yy)(_v6:Int)(_v8:List Yw)(_v9:List YA)(_v19:List Yw)(_v20:List YA)(_v21:List Yz)(_v22:Int)(_v23:Int)(_v7:Int)(_kn40:((List Yy)×(List Yy)×Int×(List Yw)×Yx×(List Yw)×Yx×(List Yz)×Int×Int)×Int->Option qaJ):Option qaJ:=
 (bif (decide (_v7<_v6)) then (bif (decide (0<=_v7)&&decide (_v7<(_v5.length:Int))) then ((qaW _N ((_v8,_v9),((nth ((0:Int),[]) _v5 (_v7).toNat).1,(nth ((0:Int),[]) _v5 (_v7).toNat).2),())).bind fun _y41=>(bif (_y41.1 != (0:Int)) then (some ([],_y41.1,())) else (_kn40 ((_v4,_v5,_v6,_v8,_v9,_v19,_v20,_v21,_v22,_v23),(IntKind.i64.wrap (_v7+(1:Int))))))) else none) else (_k39 (_v4,_v8,_v9,_v19,_v20,_v21,_v22,_v23)))
def qkh(_N:Nat)(_x1:List Yw×List YA)(_x2:List Yy):Option qaJ:=
 ((qbz _N (_x1.1,_x1.2)).bind fun _y32=>(caseD _y32 (fun _y33=>(bif (_y33.1 != (0:Int)) then (some ([],_y33.1,())) else (bif (decide ((_x2.length:Int)>(64:Int))) then (some ([],(1:Int),())) else (joinD (fun (_s:(List Yy)×(List Yw)×Yx×Int×Int)=>qpT _N) fun _k35=>(loopE (fun (_c:(List Yy)×(List Yy)×Int×(List Yw)×Yx×Int×Int) (_s:Int) _kn=>qpS _N _k35 _c.1 _c.2.1 _c.2.2.1 _c.2.2.2.1 _c.2.2.2.2.1 _c.2.2.2.2.2.1 _c.2.2.2.2.2.2 _s _kn) _N (_x2,_x2,(_x2.length:Int),_x1.1,_x1.2,_y33.1,_y33.2) (0:Int)))))) fun _y34=>(bif (_y34.1.1 != (0:Int)) then (some ([],_y34.1.1,())) else (bif (decide ((_x2.length:Int)>(64:Int))) then (some ([],(1:Int),())) else (joinD (fun (_s:(List Yy)×(List Yw)×Yx×(List Yw)×Yx×(List Yz)×Int×Int)=>qki _N _s.1 _s.2.2.2.1 _s.2.2.2.2.1 _s.2.2.2.2.2.1) fun _k39=>(loopE (fun (_c:(List Yy)×(List Yy)×Int×(List Yw)×Yx×(List Yw)×Yx×(List Yz)×Int×Int) (_s:Int) _kn=>qhA _N _k39 _c.1 _c.2.1 _c.2.2.1 _c.2.2.2.1 _c.2.2.2.2.1 _c.2.2.2.2.2.1 _c.2.2.2.2.2.2.1 _c.2.2.2.2.2.2.2.1 _c.2.2.2.2.2.2.2.2.1 _c.2.2.2.2.2.2.2.2.2 _s _kn) _N (_x2,_x2,(_x2.length:Int),_x1.1,_x1.2,_y34.2.1,_y34.2.2.1,_y34.2.2.2,_y34.1.1,_y34.1.2) (0:Int)))))))
def qde(_N:Nat)(_x:Dens qeR):Option qaJ:=qkh _N _x.1 _x.2.1
theorem qnZ(_N:Nat):SpecD Tryd.prog Gs 21 qeR qeP (qde _N):=mkSpD (fn:=Tryd.f21) (c:=qw Tryd.f21) (C:=qqm _N)
  (a:=.two .none (.two .none (.sel 6 999999999 (.two (.two .none (.two (.two (.draw 0 [.pure,.rd [6],.pure,.pure]) .none) .none)) (.two .none (.join 7 ⟨[(1,.sl Saa),(6,.ptr 5 0)],[.cells [.sl (.pair (.int .i64) (.pair (.int .i64) SY)),.sl SY],.none,.none,.none,.none,.cells [.sl (.pair (.int .i64) (.pair (.int .i64) SY)),.sl SY,.sl (.sl (.pair (.int .i64) Saa))],.cells [.int .i64,.int .i64]]⟩ (.two .none (.one (.loop 7 ⟨[(1,.sl Saa),(2,.ptr 0 0),(6,.ptr 5 0),(24,.sl Saa),(25,.int .i64),(26,.int .i64)],[.cells [.sl (.pair (.int .i64) (.pair (.int .i64) SY)),.sl SY],.none,.none,.none,.none,.cells [.sl (.pair (.int .i64) (.pair (.int .i64) SY)),.sl SY,.sl (.sl (.pair (.int .i64) Saa))],.cells [.int .i64,.int .i64]]⟩ [3] .none))) (.two (.giv 6 (.pair (.pair (.sl (.pair (.int .i64) (.pair (.int .i64) SY))) (.sl SY)) (.sl (.sl (.pair (.int .i64) Saa)))) .none) .none)))) (.two (.two .none (.two (.two (.draw 0 [.pure,.rd [1],.pure,.pure]) .none) .none)) (.two .none (.join 2 ⟨[(1,.sl Saa),(6,.nl .ptr)],[.cells [.sl (.pair (.int .i64) (.pair (.int .i64) SY)),.sl SY],.cells [.int .i64,.int .i64]]⟩ (.two .none (.one (.loop 2 ⟨[(1,.sl Saa),(2,.ptr 0 0),(6,.nl .ptr),(24,.sl Saa),(25,.int .i64),(26,.int .i64)],[.cells [.sl (.pair (.int .i64) (.pair (.int .i64) SY)),.sl SY],.cells [.int .i64,.int .i64]]⟩ [3] .none))) (.two (.giv 6 (.pair (.pair (.sl (.pair (.int .i64) (.pair (.int .i64) SY))) (.sl SY)) (.sl (.sl (.pair (.int .i64) Saa)))) .none) .none)))))))
  (by kernel_rfl) rfl (by kernel_rfl) (by kernel_rfl) ⟨rfl,by unfold TOk;kernel_rfl,qar rfl rfl (zF.2 ⟨qlW _N,(zF.2 ⟨qko _N,(zF.2 ⟨qiv _N,(zC _)⟩)⟩)⟩),qaq rfl rfl (zC _),rfl⟩ (fun _x=>by kernel_rfl)
theorem qnB(_N:Nat):EntOk Tryd.prog Gs (mkQ 21 qeR qeP (qde _N)):=entQ ⟨Tryd.f21,qw Tryd.f21,by kernel_rfl,by kernel_rfl,rfl⟩ (qnZ _N)
abbrev qhw:List Kd:=[.dat (.pair (.sl (.pair (.int .i64) (.pair (.int .i64) SY))) (.sl SY)),.dat (.sl Saa),.dat Saa]
abbrev qhs:List Kd:=[.dat (.bool)]
abbrev qbC:Type:=Dens qhs
def qmQ(_N:Nat):Ctx:={ T:=[(3,⟨.int .i64,1,8,some (.int .i64),[.int .i64 (0:Int)],false,[]⟩),(4,⟨.bool,1,1,some .bool,[.bool false],false,[]⟩),(22,⟨.slice 37,1,24,some (.sl (.pair (.int .i64) (.pair (.int .i64) SY))),[.nil],false,[]⟩),(25,⟨.struct [(0,22),(1,23)],2,48,some (.pair (.sl (.pair (.int .i64) (.pair (.int .i64) SY))) (.sl SY)),[.nil,.nil],false,[]⟩),(38,⟨.slice 3,1,24,some (.sl (.int .i64)),[.nil],false,[]⟩),(52,⟨.struct [(0,3),(1,38)],2,32,some Saa,[.int .i64 (0:Int),.nil],false,[]⟩),(62,⟨.slice 52,1,24,some (.sl Saa),[.nil],false,[]⟩),(63,⟨.slice 68,1,24,some (.sl Sab),[.nil],false,[]⟩),(68,⟨.slice 38,1,24,some Sab,[.nil],false,[]⟩)],G:=findE [mkQ 21 qeR qeP (qde _N),mkP 17 qft qfn (qbm _N),mkP 22 qdG qdC (qcf _N),mkP 23 qgb qfZ (qdv _N)],I:=findI [],N:=_N,n:=82,fx:=[],fl:=0,gs:=Gs }
def qid(_N:Nat)(_v15:List YB)(_v16:Bool)(_v17:List Yw)(_v19:Int)(_v20:List Int):Option qbC:=
 (bif ((_v15.length:Int)==(_v17.length:Int)) then (bif (decide (0<=_v19)&&decide (_v19<(_v15.length:Int))) then ((qdv _N ((nth ([]) _v15 (_v19).toNat),_v20,())).bind fun _y25=>(some ((_y25.1==_v16),()))) else none) else (some (false,())))
def qfa(_N:Nat)(_k26:(List YB×Bool×(List Yw)×Yx×Int×List Int)->Option qbC)(_v4:List YB)(_v6:List Yy)(_v7:Int)(_v9:List Yw)(_v10:List YA)(_v11:Int)(_v12:List Int)(_v5:Bool)(_v8:Int)(_kn27:(List YB×(List Yy)×Int×(List Yw)×Yx×Int×List Int)×(Bool×Int)->Option qbC):Option qbC:=
 (bif (decide (_v8<_v7)) then (bif (decide (0<=_v8)&&decide (_v8<(_v6.length:Int))) then ((qbm _N ((_v9,_v10),((nth ((0:Int),[]) _v6 (_v8).toNat).1,(nth ((0:Int),[]) _v6 (_v8).toNat).2),(_v11,_v12),())).bind fun _y28=>(bif (_y28.2.1 != (0:Int)) then (some (false,())) else (bif _v5 then (_kn27 ((_v4,_v6,_v7,_v9,_v10,_v11,_v12),(true,(IntKind.i64.wrap (_v8+(1:Int)))))) else (_kn27 ((_v4,_v6,_v7,_v9,_v10,_v11,_v12),(_y28.1,(IntKind.i64.wrap (_v8+(1:Int))))))))) else none) else (_k26 (_v4,_v5,_v9,_v10,_v11,_v12)))
def qic(_N:Nat)(_x1:List Yw×List YA)(_x2:List Yy)(_x3:Int×List Int):Option qbC:=
 ((qde _N ((_x1.1,_x1.2),_x2,())).bind fun _y22=>((qbm _N ((_x1.1,_x1.2),(_x3.1,_x3.2),(_x3.1,_x3.2),())).bind fun _y23=>((qcf _N ((_x1.1,_x1.2),_x3.1,_x3.2,())).bind fun _y24=>(bif (_y24.1 != (0:Int)) then (some ((_y23.2.1 != (0:Int)),())) else (bif (_y22.2.1 != (0:Int)) then (some (true,())) else (bif (_y23.2.1 != (0:Int)) then (some (true,())) else (joinD (fun (_s:List YB×Bool×(List Yw)×Yx×Int×List Int)=>qid _N _s.1 _s.2.1 _s.2.2.1 _s.2.2.2.2.1 _s.2.2.2.2.2) fun _k26=>(loopE (fun (_c:List YB×(List Yy)×Int×(List Yw)×Yx×Int×List Int) (_s:Bool×Int) _kn=>qfa _N _k26 _c.1 _c.2.1 _c.2.2.1 _c.2.2.2.1 _c.2.2.2.2.1 _c.2.2.2.2.2.1 _c.2.2.2.2.2.2 _s.1 _s.2 _kn) _N (_y22.1,_x2,(_x2.length:Int),_x1.1,_x1.2,_x3.1,_x3.2) (false,(0:Int))))))))))
def qfh(_N:Nat)(_x:Dens qhw):Option qbC:=qic _N _x.1 _x.2.1 _x.2.2.1
theorem qlo(_N:Nat):SpecD Tryd.prog Gs 9 qhw qhs (qfh _N):=mkSpD (fn:=Tryd.f9) (c:=qw Tryd.f9) (C:=qmQ _N)
  (a:=.two .none (.two .none (.two .none (.two .none (.two .none (.two .none (.join 2 ⟨[(3,.ptr 0 0),(5,.ptr 1 0),(7,.sl Sab),(11,.bool)],[.cells [.sl (.pair (.int .i64) (.pair (.int .i64) SY)),.sl SY],.cells [.int .i64,.sl (.int .i64)]]⟩ (.two .none (.one (.loop 2 ⟨[(3,.ptr 0 0),(5,.ptr 1 0),(7,.sl Sab),(11,.bool),(44,.sl Saa),(45,.int .i64),(46,.int .i64)],[.cells [.sl (.pair (.int .i64) (.pair (.int .i64) SY)),.sl SY],.cells [.int .i64,.sl (.int .i64)]]⟩ [1,4] .none))) (.two (.draw 0 [.pure,.pure,.pure,.rd [0],.pure,.pure,.pure,.pure,.pure,.rd [1],.pure,.pure,.pure,.rd [1],.pure,.pure,.pure,.pure,.pure]) .none))))))))
  (by kernel_rfl) rfl (by kernel_rfl) (by kernel_rfl) ⟨rfl,by unfold TOk;kernel_rfl,qar rfl rfl (zF.2 ⟨qnB _N,(zF.2 ⟨qqh _N,(zF.2 ⟨qmF _N,(zF.2 ⟨qse _N,(zC _)⟩)⟩)⟩)⟩),qaq rfl rfl (zC _),rfl⟩ (fun _x=>by kernel_rfl)
open Rea
open Gh (Nd Ed qbr GrOk nsum)
theorem qxx{N:Nat}(hN:5000000000<=N)(ns:List Nd)(es:List Ed)(l:List Yy):∃ f e,qde N ((ns,es),l,())=some (f,e,()) /\
  (e=0->GrOk ns es/\(∀ s∈l,Sok ns s)/\l.length<=64/\∃ P,ReachOk ns es P/\qbz N (ns,es)=some (Sum.inr (((0:Int),(0:Int)),ns,es,P))/\f.length=ns.length/\∀ i,i<ns.length->(∀ t,t∈nth [] f i↔isMin (allA ns es P l i) t)/\(nth [] f i).length<=2000000000):=by
 simp only [qde,qkh]
 rcases Of_eq (N:=N) (by omega) ns es with⟨c,p,h1,h2,h3⟩ | ⟨h,P,hP,hO⟩
 ·refine⟨[],c,?_,fun e=>absurd e h1⟩
  simp only [h2,Option.bind_some,caseD]
  rw [bne_iff_ne.2 h1,cond_true]
 simp only [hO,Option.bind_some,caseD,bne_self_eq_false,cond_false]
 by_cases hl:(l.length:Int)>64
 ·exact⟨[],1,by rw [qx hl,cond_true],fun e=>(by cases e)⟩
 rw [qJ hl,cond_false]
 simp only [joinD,loopE]
 obtain⟨Post,hPost⟩:∃ Post:Option qaJ->Prop,∀ o,Post o↔∃ f e,o=some (f,e,())/\(e=0->(∀ s∈l,Sok ns s)/\f.length=ns.length/\∀ i,i<ns.length->(∀ t,t∈nth [] f i↔isMin (allA ns es P l i) t)/\(nth [] f i).length<=2000000000):=⟨_,fun _=>Iff.rfl⟩
 generalize hO2:loopD _ N (0:Int)=o
 have key:Post o:=by
  rw [<- hO2]
  refine qqy (fun st:Int=>∃ i:Nat,st=(i:Int)/\i<=l.length/\∀ s∈l.take i,Sok ns s) (fun st=>l.length - st.toNat) Post ?_ N _ ⟨0,rfl,zq _,fun s hs=>(nomatch hs)⟩ (by simp;omega)
  rintro _ ⟨i,rfl,hi,hp⟩ kn hkn
  by_cases hlt:i<l.length
  ·obtain⟨e,h1,h2⟩:=qmN (ns:=ns) (es:=es) (N:=N) (by omega) ((nth ((0:Int),([]:List Int)) l i).1,(nth ((0:Int),([]:List Int)) l i).2)
   simp only [qhA,lt_d hlt,ge0_d,Bool.and_self,cond_true,Int.toNat_natCast,h1,Option.bind_some]
   by_cases q:e=0
   case neg=>exact (hPost _).2 ⟨[],e,by rw [bne_iff_ne.2 q,cond_true],fun h=>absurd h q⟩
   have hst:=h2.1 q
   rw [q,bne_self_eq_false,cond_false,qU,ix1 hlt (show l.length<=1000000000 by omega)]
   refine hkn _ ⟨i+1,by simp,hlt,fun s hs=>?_⟩ (by simp;omega)
   rw [zm hlt,<- qcR (z:=((0:Int),([]:List Int))) hlt] at hs
   rcases zL.1 hs with hs | hs
   ·exact hp s hs
   ·rw [zN.1 hs];exact hst
  ·obtain rfl:i=l.length:=by omega
   rw [zAP] at hp
   obtain⟨f,f1,f2,f3⟩:=qxw hN h hP (l:=l) (by omega) hp
   refine (hPost _).2 ⟨f,0,?_,fun _=>⟨hp,f2,f3⟩⟩
   simp only [qhA,qbE,cond_false,qki,f1,Option.bind_some]
 obtain⟨f,e,k1,k2⟩:=(hPost _).1 key
 exact⟨f,e,k1,fun he=>⟨h,(k2 he).1,by omega,P,hP,rfl,(k2 he).2⟩⟩
theorem law_ReachOpens(g:List Nd×List Ed)(l:List Yy)(s:Int×List Int)(_h1:wfS (.pair (.sl (.pair (.int .i64) (.pair (.int .i64) SY))) (.sl SY)) g)(_h2:wfS (.sl Saa) l)(_h3:wfS Saa s):∃ N,qfh N (g,l,s,())=some (true,()):=by
 obtain⟨ns,es⟩:=g
 obtain⟨N,hN⟩:∃ N:Nat,6000000000<=N:=⟨6000000000,Nat.le_refl _⟩
 refine⟨N,?_⟩
 obtain⟨c2,h1,h2⟩:=qzy (N:=N) (by omega) ns es s.1 s.2
 obtain⟨f,e,t1,t2⟩:=qxx (N:=N) (by omega) ns es l
 simp only [qfh,qic]
 rcases qzD (N:=N) (by omega) ns es with⟨hg,hB⟩ | ⟨hg,P0,hP0,hC0⟩
 ·obtain⟨b0,x0,k1,k2⟩:=hB (s.1,s.2) (s.1,s.2)
  simp only [t1,k1,h1,Option.bind_some]
  by_cases q:c2=0
  ·rw [q,bne_self_eq_false,cond_false,bne_iff_ne.2 (fun h=>hg (t2 h).1),cond_true]
  ·rw [bne_iff_ne.2 q,cond_true,bne_iff_ne.2 k2]
 ·obtain⟨b0,x0,k1,k2,k3⟩:=hC0 (s.1,s.2) (s.1,s.2)
  simp only [t1,k1,h1,Option.bind_some]
  by_cases q:c2=0
  case neg=>rw [bne_iff_ne.2 q,cond_true,bne_iff_ne.2 (fun h=>q (h2.2 (k2.1 h).1))]
  subst q
  have ss:=h2.1 rfl
  have hx0:=k2.2 ⟨ss,ss⟩
  subst hx0
  rw [bne_self_eq_false,cond_false]
  by_cases q:e=0
  case neg=>rw [bne_iff_ne.2 q,cond_true]
  subst q
  obtain⟨-,hs,hl,P,hP,hO,f2,f3⟩:=t2 rfl
  simp only [bne_self_eq_false,cond_false,joinD,loopE]
  obtain⟨cB,hcB⟩:∃ cB:Int×List Int->Bool,∀ m,cB m=true↔could ns P m s:=⟨fun m=>@decide (could ns P m s) (Classical.propDecidable _),fun m=>@decide_eq_true_iff _ (Classical.propDecidable _)⟩
  refine qcA (N:=N) l.length (fun i=>((l.take i).any cB,(i:Int))) (fun i hi kn=>?_) (fun kn=>?_) (by omega)
  ·have hmi:=qbK (z:=((0:Int),([]:List Int))) hi
   obtain⟨b1,x1,u1,u2,u3⟩:=qwK (N:=N) (by omega) hg hP hO ((nth ((0:Int),([]:List Int)) l i).1,(nth ((0:Int),([]:List Int)) l i).2) (s.1,s.2)
   have hx1:=u2.2 ⟨hs _ hmi,ss⟩
   subst hx1
   have hb:=hcB (nth ((0:Int),([]:List Int)) l i)
   have hb1:=u3 rfl
   have hbe:cB (nth ((0:Int),([]:List Int)) l i)=b1:=by rw [zBE,hb];exact hb1.symm
   have htk:(l.take (i+1)).any cB=((l.take i).any cB||b1):=by
    rw [zm hi,List.any_append,<- hbe,qcR hi];simp
   simp only [qfa,lt_d hi,ge0_d,Bool.and_self,cond_true,Int.toNat_natCast,u1,Option.bind_some,qU,ix1 hi (show l.length<=1000000000 by omega),bne_self_eq_false,cond_false,htk]
   cases (l.take i).any cB with
   | true=>rfl
   | false=>rfl
  ·have hi:s.1.toNat<ns.length:=by have:=ss.a0;have:=ss.an;dsimp only at *;omega
   obtain⟨m1,m2⟩:=f3 s.1.toNat hi
   obtain⟨b,o1,o2⟩:=qxi (N:=N) (by omega) hg hP hs (s:=s) ss m1 m2
   simp only [qfa,qbE,cond_false,qid,f2,zAh,cond_true,o1,Option.bind_some,zAP]
   rw [qx (show 0<=s.1 from ss.a0),qx (show s.1<(ns.length:Int) from ss.an),Bool.and_self,cond_true]
   have e:b=l.any cB:=by
    rw [zBE,o2,zAX]
    constructor
    ·rintro⟨a,ha,hc⟩
     exact⟨a,ha,(hcB a).2 hc⟩
    ·rintro⟨a,ha,hc⟩
     exact⟨a,ha,(hcB a).1 hc⟩
   rw [e,zAh]
set_option maxRecDepth 100000 in
theorem lifted_ReachOpens(os:Os)(started:os.Started)(H:Type)(enc:TypeId×Value->H) :
  ReturnsInHanded {} Tryd.checked os 9 .any (fun w args=>(Rows.reachOpensSpec.pre enc Tryd.prog Tryd.f9 [] false w args/\laidMetH Tryd.prog Rows.reachOpensRow.laid w)/\sizedMet enc Tryd.prog Tryd.f9 (OpenSpec.ofChange Rows.reachOpensSpec) false w args) (Rows.reachOpensSpec.post enc Tryd.prog Tryd.f9 false true false false):=by
 refine returnsInHanded_of_change_and (C:=Tryd.checked) (X:=fun w _=>laidMetH Tryd.prog Rows.reachOpensRow.laid w) (fun _ _ _ hh h=>h.of_heap hh) own started (by kernel_rfl) Tryd.func9
  (ChangeSpec.witness_shaped (enc:=enc) (C:=Tryd.checked) (os:=os) (X:=fun w _=>laidMetH Tryd.prog Rows.reachOpensRow.laid w) false (World.doorLaid Tryd.prog 400 os) #[.agg #[.slice none 0 0,.slice none 0 0],.slice none 0 0,.agg #[.int .i64 0,.slice none 0 0]] 8 rfl (World.shaped_of_RefB (by kernel_rfl) (by kernel_rfl)) (by kernel_rfl) (by kernel_rfl) (by kernel_rfl) (door_met os _)) ?_
 intro W base args ds gs before hval0 hW _ hsz0 hL _
 have hgw:GW Gs W:=gw_of hL
 have hval:∀ (j:Nat) t v,Tryd.f9.params[j]? = some t->args[j]? = some v->Value.okWide Tryd.prog W .any base t v:=hval0
 have hW':=hW
 obtain⟨p,q,hA0,hV,rfl,_,_⟩:=hW
 have hA:DataW.TrodAll enc Tryd.prog W 0 (fun _=>true) true Tryd.f9.params.toList args.toList ds p:=hA0
 rw [Tryd.params9] at hA hval
 obtain⟨v0,vs0,d0,ds0,p0,q0,hargs,rfl,rfl,h0,r0⟩:=trodAll_cons hA
 obtain⟨v1,vs1,d1,ds1,p1,q1,rfl,rfl,rfl,h1,r1⟩:=trodAll_cons r0
 obtain⟨v2,vs2,d2,ds2,p2,q2,rfl,rfl,rfl,h2,r2⟩:=trodAll_cons r1
 obtain⟨rfl,rfl,rfl⟩:=trodAll_nil r2
 obtain rfl:args = #[v0,v1,v2]:=by cases args;simp_all
 obtain⟨rfl,rfl⟩:=trodVars_none hV
 have hall:=zb.1 hsz0
 clear hA0 hval0 hsz0
 simp only [List.append_nil] at hW'
 have hlt0:∀ x∈p0,x.block<W.heap.size:=fun x hx=>hW'.lt x (by simp [hx])
 have hlt1:∀ x∈p1,x.block<W.heap.size:=fun x hx=>hW'.lt x (by simp [hx])
 have hlt2:∀ x∈p2,x.block<W.heap.size:=fun x hx=>hW'.lt x (by simp [hx])
 obtain⟨x0,g0,w0⟩:=quL (k:=.dat (.pair (.sl (.pair (.int .i64) (.pair (.int .i64) SY))) (.sl SY))) (by kernel_rfl) (hval 0 25 v0 rfl rfl) h0
 obtain⟨x1,g1,w1⟩:=quL (k:=.dat (.sl Saa)) (by kernel_rfl) (hval 1 62 v1 rfl rfl) h1
 obtain⟨x2,g2,w2⟩:=quL (k:=.dat Saa) (by kernel_rfl) (hval 2 52 v2 rfl rfl) h2
 obtain⟨N,hN⟩:=law_ReachOpens x0 x1 x2 w0 w1 w2
 refine (qlo N (fun _=>False) W (x0,x1,x2,()) (true,()) [v0,v1,v2] (fun _ h=>h.elim) hgw ⟨v0,_,rfl,g0,⟨v1,_,rfl,g1,⟨v2,_,rfl,g2,rfl⟩⟩⟩ hN).mono ?_
 rintro e W' ⟨v,rfl,hg,hr⟩
 replace hg:=hg.old
 have hr:v=.bool true:=by simpa only [kvals,retV,Kd.val,Go.Abs.enc,RV] using hr
 subst hr
 exact⟨_,rfl,_,_,_,[],p0++(p1++(p2 ++ [])),[],hW',(trodAll_cons_mk (shut_bool (show Tryd.prog.underlying 4=some .bool by kernel_rfl) _) trodAll_mk0),(trodAll_cons_mk (Below.trod laidOut (by kernel_rfl) (zu (by kernel_rfl)) h0 hg hlt0) (trodAll_cons_mk (Below.trod laidOut (by kernel_rfl) (zu (by kernel_rfl)) h1 hg hlt1) (trodAll_cons_mk (Below.trod laidOut (by kernel_rfl) (zu (by kernel_rfl)) h2 hg hlt2) trodAll_mk0))),rfl,hg.frame _,fun h=>by cases h⟩
theorem reachOpens_holds:Rows.ReachOpensSaid:=
 OpenClaim.holds_of_wide 9 Tryd.f9 rfl rfl rfl rfl rfl rfl rfl ⟨rfl,rfl,rfl,rfl,rfl⟩ rfl rfl rfl rfl rfl (by kernel_rfl) Tryd.func9 (by kernel_rfl)
  (zu (by kernel_rfl)) (by unfold Func.isWrapper;first | (rw [zH (by decide +kernel)];kernel_rfl) | (rw [zK (by decide +kernel)];exact⟨rfl,rfl⟩))
  (fun os started H enc _=>lifted_ReachOpens os started H enc)
theorem reachOpens_card:Rows.ReachOpensCardSaid:=
 Claim7.holds_tied_plain_at .later [] [.data] true (true, "b049033100521c0328afe8a8273d62bdb84d2c9756645822752d68c43c86d84a") false reachOpens_holds (fun _ h => by cases h) (by kernel_rfl) (fun _ h => by cases h) reachOpens_row_tie rfl ⟨rfl, rfl⟩ (by kernel_rfl) rfl
  (fun f fn hf hfn=>by
   obtain rfl : f = 9 := Option.some.inj ((show Tryd.prog.funcNamed "watershed/watershedkeep.ReachOpens" = some 9 by kernel_rfl).symm.trans hf) |>.symm
   obtain rfl:fn=Tryd.f9:=(zBZ (Tryd.func9.symm.trans hfn)).symm
   exact⟨by kernel_rfl,fun j t ht=>by
    have h3:=zb.1 (show (Tryd.f9.params.toList.all fun t=>!(Tryd.prog.wantsStandIn t))=true by kernel_rfl) t (by rw [<- zk] at ht;exact zAD ht)
    have h4:Tryd.prog.wantsStandIn t=false:=by simpa using h3
    exact h4⟩)
  (by kernel_rfl)
end Go.Proofs.YtgnnhemoocfclaaDoor
end
