import Derived.Test.YtnhjpicdijeagaaDoorGhG
import Derived.Test.YtnhjpicdijeagaaDoorMeaC
import Derived.Test.YtnhjpicdijeagaaDoorMeaY
import Derived.Test.YtnhjpicdijeagaaDoorAbsKds
namespace Go.Gr
section
variable {n : Nat} {dp : Nat -> Nat} {fd : Nat -> Bool} {E : Nat -> Nat -> Prop}
def inb(dp:Nat->Nat)(fd:Nat->Bool)(f x:Nat):Prop:=f<dp x\/(dp x=f/\fd x=false)
def EG(dp:Nat->Nat)(fd:Nat->Bool)(E:Nat->Nat->Prop)(f a b:Nat):Prop:=E a b/\inb dp fd f a/\inb dp fd f b
abbrev St:=Nat×List Int
def cf(f:Nat)(s:St):Nat:=(s.2.getD (f - 1) 0).toNat
noncomputable def rk(n:Nat)(dp:Nat->Nat)(fd:Nat->Bool)(E:Nat->Nat->Prop)(f i:Nat):Nat:=(List.range n).countP fun x=>@decide (dp x=f/\fd x=false/\Pk (EG dp fd E f) n x i) (Classical.propDecidable _)
noncomputable def rh(n:Nat)(dp:Nat->Nat)(fd:Nat->Bool)(E:Nat->Nat->Prop)(f i:Nat):Nat:=if dp i=f then (if fd i=true then 2*n+2 else 2*rk n dp fd E f i+1) else 2*rk n dp fd E f i
theorem rk_le{f i:Nat}:rk n dp fd E f i<=n:=by
 unfold rk
 refine Nat.le_trans List.countP_le_length ?_
 rw [List.length_range];exact Nat.le_refl _
theorem qDm{f i j:Nat}(hj:j<n)(h:EG dp fd E f j i):rk n dp fd E f j<=rk n dp fd E f i:=by
 unfold rk
 refine List.countP_mono_left fun x _ hx=>?_
 simp only [decide_eq_true_eq] at hx ⊢
 exact⟨hx.1,hx.2.1,Pk.trans hj hx.2.2 (.one h)⟩
theorem rk_lt{f i j:Nat}(hj:j<n)(h:EG dp fd E f j i)(h1:dp j=f)(h2:fd j=false)(h3:¬ Pk (EG dp fd E f) n j j):rk n dp fd E f j<rk n dp fd E f i:=by
 have key:∀ l:List Nat,j∈l->(l.countP fun x=>@decide (dp x=f/\fd x=false/\Pk (EG dp fd E f) n x j) (Classical.propDecidable _))<l.countP fun x=>@decide (dp x=f/\fd x=false/\Pk (EG dp fd E f) n x i) (Classical.propDecidable _):=fun l hl=>by
  induction l with
  | nil=>cases hl
  | cons y l ih=>
   have hm:(l.countP fun x=>@decide (dp x=f/\fd x=false/\Pk (EG dp fd E f) n x j) (Classical.propDecidable _))<=l.countP fun x=>@decide (dp x=f/\fd x=false/\Pk (EG dp fd E f) n x i) (Classical.propDecidable _):=List.countP_mono_left fun x _ hx=>by
    simp only [decide_eq_true_eq] at hx ⊢
    exact⟨hx.1,hx.2.1,Pk.trans hj hx.2.2 (.one h)⟩
   rw [List.countP_cons,List.countP_cons]
   by_cases e:y=j
   ·subst e
    rw [if_neg (by simp only [decide_eq_true_eq];exact fun q=>h3 q.2.2),if_pos (by simp only [decide_eq_true_eq];exact⟨h1,h2,.one h⟩)]
    omega
   ·have:=ih (by rcases List.mem_cons.1 hl with q | q;exact absurd q.symm e;exact q)
    by_cases q:dp y=f/\fd y=false/\Pk (EG dp fd E f) n y j
    ·rw [if_pos (by simp only [decide_eq_true_eq];exact q),if_pos (by simp only [decide_eq_true_eq];exact⟨q.1,q.2.1,Pk.trans hj q.2.2 (.one h)⟩)]
     omega
    ·rw [if_neg (by simp only [decide_eq_true_eq];exact q)]
     omega
 exact key _ (List.mem_range.2 hj)
theorem back_wf{S:St->St->Prop}(hd:∀ i,1<=dp i/\dp i<=4)(hE:∀ s' s,S s' s->E s'.1 s.1/\s'.1<n)
  (hr:∀ f j,dp j=f->fd j=false->¬ Pk (EG dp fd E f) n j j)
  (hc:∀ s' s f,S s' s->1<=f->f<=dp s'.1->f<=dp s.1->if fd s'.1=true/\dp s'.1=f then cf f s'<cf f s else cf f s'=cf f s):WellFounded S:=by
 have key:∀ k,k<=4->WellFounded fun s' s=>S s' s/\5 - k<=dp s'.1/\5 - k<=dp s.1:=by
  intro k
  induction k with
  | zero=>intro _;exact⟨fun s=>⟨_,fun s' h=>by have:=(hd s'.1).2;omega⟩⟩
  | succ k ih=>
   intro hk
   have ih:=ih (by omega)
   have hf1:1<=5 - (k+1):=by omega
   have hf2:5 - k=(5 - (k+1))+1:=by omega
   rw [hf2] at ih
   generalize 5 - (k+1)=f at hf1 ih
   refine Subrelation.wf (r:=InvImage (Prod.Lex Nat.lt (Prod.Lex Nat.lt fun s' s=>S s' s/\f+1<=dp s'.1/\f+1<=dp s.1)) fun s:St=>(cf f s,rh n dp fd E f s.1,s)) ?_
    (InvImage.wf _ (Prod.lex ⟨Nat.lt,Nat.lt_wfRel.wf⟩ (Prod.lex ⟨Nat.lt,Nat.lt_wfRel.wf⟩ ⟨_,ih⟩)).wf)
   rintro⟨j,t'⟩ ⟨i,t⟩ ⟨hS,h1,h2⟩
   have hcc:=hc _ _ f hS hf1 h1 h2
   obtain⟨he,hj⟩:=hE _ _ hS
   simp only at hcc he hj h1 h2
   show Prod.Lex _ _ (cf f (j,t'),rh n dp fd E f j,(j,t')) (cf f (i,t),rh n dp fd E f i,(i,t))
   by_cases hfe:fd j=true/\dp j=f
   ·rw [if_pos hfe] at hcc
    exact .left _ _ hcc
   rw [if_neg hfe] at hcc
   rw [hcc]
   refine .right _ ?_
   have hbj:inb dp fd f j:=by
    rcases Nat.lt_or_ge f (dp j) with h | h
    ·exact .inl h
    ·refine .inr ⟨by omega,?_⟩
     cases hb:fd j with
     | false=>rfl
     | true=>exact absurd ⟨hb,by omega⟩ hfe
   by_cases hfi:dp i=f/\fd i=true
   ·refine .left _ _ ?_
    have:=rk_le (n:=n) (dp:=dp) (fd:=fd) (E:=E) (f:=f) (i:=j)
    unfold rh
    rw [if_pos hfi.1,if_pos hfi.2]
    split
    ·rename_i hdj
     rw [if_neg (fun h=>hfe ⟨h,hdj⟩)]
     show (_:Nat)<(_:Nat)
     omega
    ·show (_:Nat)<(_:Nat)
     omega
   have hbi:inb dp fd f i:=by
    rcases Nat.lt_or_ge f (dp i) with h | h
    ·exact .inl h
    ·refine .inr ⟨by omega,?_⟩
     cases hb:fd i with
     | false=>rfl
     | true=>exact absurd ⟨by omega,hb⟩ hfi
   have hg:EG dp fd E f j i:=⟨he,hbj,hbi⟩
   have hm:=qDm hj hg
   have ei:rh n dp fd E f i=2*rk n dp fd E f i+(if dp i=f then 1 else 0):=by
    unfold rh
    split
    ·rename_i h;rw [if_neg (fun h'=>hfi ⟨h,h'⟩)]
    ·rfl
   have ej:rh n dp fd E f j=2*rk n dp fd E f j+(if dp j=f then 1 else 0):=by
    unfold rh
    split
    ·rename_i h;rw [if_neg (fun h'=>hfe ⟨h',h⟩)]
    ·rfl
   by_cases hdj:dp j=f
   ·have hfj:fd j=false:=by
     cases hb:fd j with
     | false=>rfl
     | true=>exact absurd ⟨hb,hdj⟩ hfe
    have:=rk_lt hj hg hdj hfj (hr f j hdj hfj)
    refine .left _ _ ?_
    rw [ei,ej,if_pos hdj]
    show (_:Nat)<(_:Nat)
    split <;> omega
   ·by_cases hdi:dp i=f
    ·refine .left _ _ ?_
     rw [ei,ej,if_neg hdj,if_pos hdi]
     show (_:Nat)<(_:Nat)
     omega
    ·rcases Nat.lt_or_ge (rh n dp fd E f j) (rh n dp fd E f i) with h | h
     ·exact .left _ _ h
     ·have:rh n dp fd E f j=rh n dp fd E f i:=by
       rw [ei,ej,if_neg hdj,if_neg hdi] at h ⊢
       omega
      rw [this]
      exact .right _ ⟨hS,by show f+1<=dp j;omega,by show f+1<=dp i;omega⟩
 have k4:=key 4 (Nat.le_refl _)
 refine Subrelation.wf (fun {s' s} h=>?_) k4
 exact⟨h,by have:=(hd s'.1).1;omega,by have:=(hd s.1).1;omega⟩
end
end Go.Gr

noncomputable section
namespace Go.Proofs.YtnhjpicdijeagaaDoor
open Go.Abs
abbrev SE:Sh:=.pair (.int .i64) (.pair (.int .i64) (.int .i64))
abbrev Yo:Type:=Int×Int×Int
abbrev qcx:Sig:=⟨[.dat false SE,.form (.ptr 0 0),.form (.ptr 1 0)],[.cells [.int .i64],.cells [.int .i64]],
 [.dat false .bool],[.cells [.int .i64],.cells [.int .i64]],[]⟩
abbrev qed:Type:=Bool×Int×Int
def qiN(_N:Nat):Ctx:={ T:=[(3,⟨.int .i64,1,8,some (.int .i64),[.int .i64 (0:Int)],false,[]⟩),(84,⟨.struct [(0,3),(1,3),(2,3)],3,24,some SE,[.int .i64 (0:Int),.int .i64 (0:Int),.int .i64 (0:Int)],true,[]⟩)],G:=findE [],I:=findI [],N:=_N,n:=15,fx:=[],fl:=2,gs:=Gs }
def qeo(_N:Nat)(_x1:Int×Int×Int)(_x2:Int)(_x3:Int):Option qed:=
 (bif (_x1.2.1==_x2) then (some ((_x1.2.2==_x3),_x2,_x3)) else (some (false,_x2,_x3)))
def qbe(_N:Nat)(_x:Yo×Int×Int):Option qed:=qeo _N _x.1 _x.2.1 _x.2.2
theorem qhH(_N:Nat):SpecH Tryd.prog Gs 30 qcx (qbe _N):=mkSpH (fn:=Tryd.f30) (c:=ql Tryd.f30) (C:=(qiN _N))
  (a:=.none)
  (by kernel_rfl) rfl (by kernel_rfl) (by kernel_rfl) (by kernel_rfl) rfl ⟨rfl,by unfold TOk;kernel_rfl,qao rfl rfl (zC _),qan rfl rfl (zC _),rfl⟩ (fun _x=>by kernel_rfl)
theorem qhX(_N:Nat):EntOk Tryd.prog Gs (mkHe 30 qcx (qbe _N)):=entH ⟨Tryd.f30,ql Tryd.f30,by kernel_rfl,by kernel_rfl,rfl⟩ (qhH _N)
abbrev qcX:Sig:=⟨[.dat false (.sl SE),.form (.clo 30 [.ptr 0 0,.ptr 1 0])],[.cells [.int .i64],.cells [.int .i64]],
 [.dat false (.int .i64)],[.cells [.int .i64],.cells [.int .i64]],[]⟩
abbrev qM:Type:=Int×Int×Int
def qdh(_N:Nat):Ctx:={ T:=[(23,⟨.slice 84,1,24,some (.sl SE),[.nil],false,[]⟩),(84,⟨.struct [(0,3),(1,3),(2,3)],3,24,some SE,[.int .i64 (0:Int),.int .i64 (0:Int),.int .i64 (0:Int)],true,[]⟩)],G:=findE [mkHe 30 qcx (qbe _N)],I:=findI [],N:=_N,n:=19,fx:=[],fl:=2,gs:=Gs }
def qcY(_N:Nat)(_v8:Int)(_v9:Int):Option qM:=
 (some ((-1:Int),_v8,_v9))
def qaK(_N:Nat)(_k10:(Int×Int)->Option qM)(_v1:List Yo)(_v2:Int)(_v3:Int)(_v4:Int)(_v5:Int)(_kn11:((List Yo)×Int)×Yo->Option qM):Option qM:=
 (bif (decide (_v3<_v2)) then (bif (decide (0<=_v3)&&decide (_v3<(_v1.length:Int))) then ((qbe _N (((nth ((0:Int),((0:Int),(0:Int))) _v1 (_v3).toNat).1,(((nth ((0:Int),((0:Int),(0:Int))) _v1 (_v3).toNat).2).1,((nth ((0:Int),((0:Int),(0:Int))) _v1 (_v3).toNat).2).2)),_v4,_v5)).bind fun _y12=>(bif _y12.1 then (some (_v3,_y12.2.1,_y12.2.2)) else (_kn11 ((_v1,_v2),((IntKind.i64.wrap (_v3+(1:Int))),_y12.2.1,_y12.2.2))))) else none) else (_k10 (_v4,_v5)))
def qbr(_N:Nat)(_x1:List Yo)(_x2:Int)(_x3:Int):Option qM:=
 (joinD (fun (_s:Int×Int)=>qcY _N _s.1 _s.2) fun _k10=>(loopE (fun (_c:(List Yo)×Int) (_s:Int×Int×Int) _kn=>qaK _N _k10 _c.1 _c.2 _s.1 _s.2.1 _s.2.2 _kn) _N (_x1,(_x1.length:Int)) ((0:Int),_x2,_x3)))
def qaN(_N:Nat)(_x:(List Yo)×Int×Int):Option qM:=qbr _N _x.1 _x.2.1 _x.2.2
theorem qcW(_N:Nat):SpecH Tryd.prog Gs 29 qcX (qaN _N):=mkSpH (fn:=Tryd.f29) (c:=ql Tryd.f29) (C:=(qdh _N))
  (a:=.two .none (.join 2 ⟨[],[.cells [.int .i64],.cells [.int .i64]]⟩ (.two .none (.one (.loop 2 ⟨[(0,.sl SE),(1,.clo 30 [.ptr 0 0,.ptr 1 0]),(7,.int .i64),(8,.int .i64)],[.cells [.int .i64],.cells [.int .i64]]⟩ [2,3,4] .none))) .none))
  (by kernel_rfl) rfl (by kernel_rfl) (by kernel_rfl) (by kernel_rfl) rfl ⟨rfl,by unfold TOk;kernel_rfl,qao rfl rfl (zG.2 ⟨qhX _N,(zC _)⟩),qan rfl rfl (zC _),rfl⟩ (fun _x=>by kernel_rfl)
end Go.Proofs.YtnhjpicdijeagaaDoor
end

namespace Go.Proofs.YtnhjpicdijeagaaDoor
open Go.Abs
open Go.ChangeMaps (setBlock)
abbrev kP:Sh:=.pair (.int .i64) (.pair (.int .i64) (.pair (.int .i64) (.pair (.int .i64) (.pair (.int .i64) (.pair (.int .i64) (.int .i64))))))
theorem kP_ok:keyOk Tryd.prog 80 kP=true:=by kernel_rfl
theorem und56:∃ et,Tryd.prog.underlying 56=some (.map 80 et):=⟨60,by kernel_rfl⟩
structure Told (w:World) (bt:Nat) (R:kP.den->Value->Prop):Prop where
 ex:∃ (es:Array MapEntry) (clock:Nat) (xs:Ents kP .unit),w.heap[bt]? = some (.map es clock)/\KKs w (fun _=>False) kP xs es.toList/\∀ (j:Nat) (e:MapEntry) (y:Int×(kP.den×Unit)),es.toList[j]? = some e->KE w (fun _=>False) kP y e->R y.2.1 e.val
theorem qCZ{w w':World}{M M':Nat->Prop}{x:kP.den}{v:Value}(h:RV w M [] σ0 (enc kP x) v):RV w' M' [] σ0 (enc kP x) v:=h
theorem quE{w w':World}{M M':Nat->Prop}{x:Int×(kP.den×Unit)}{e:MapEntry}(h:KE w M kP x e):KE w' M' kP x e:=⟨h.born,qCZ h.key⟩
theorem qsV{w w':World}{M M':Nat->Prop}:{xs:List (Int×(kP.den×Unit))} -> {es:List MapEntry}->KKs w M kP xs es->KKs w' M' kP xs es
 | [],_,h=>h
 | _ :: _,_,⟨e,r,h1,h2,h3,h4⟩=>⟨e,r,h1,h2,qCZ h3,qsV h4⟩
theorem qxE{w:World}{M:Nat->Prop}{x y:kP.den}{v:Value}(h:RV w M [] σ0 (enc kP x) v)(h':RV w M [] σ0 (enc kP y) v):x=y:=by
 obtain⟨x0,x1,x2,x3,x4,x5,x6⟩:=x
 obtain⟨y0,y1,y2,y3,y4,y5,y6⟩:=y
 obtain⟨cs,e1,-,r1⟩:=h
 obtain⟨cs',e2,-,r2⟩:=h'
 rw [e1] at e2;cases e2
 have r1:RVs w M [] σ0 [.int .i64 x0,.int .i64 x1,.int .i64 x2,.int .i64 x3,.int .i64 x4,.int .i64 x5,.int .i64 x6] cs.toList:=r1
 have r2:RVs w M [] σ0 [.int .i64 y0,.int .i64 y1,.int .i64 y2,.int .i64 y3,.int .i64 y4,.int .i64 y5,.int .i64 y6] cs.toList:=r2
 simp only [RVs,RV] at r1 r2
 obtain⟨_,_,f1,rfl,_,_,rfl,rfl,_,_,rfl,rfl,_,_,rfl,rfl,_,_,rfl,rfl,_,_,rfl,rfl,_,_,rfl,rfl,rfl⟩:=r1
 obtain⟨_,_,f2,rfl,_,_,rfl,rfl,_,_,rfl,rfl,_,_,rfl,rfl,_,_,rfl,rfl,_,_,rfl,rfl,_,_,rfl,rfl,rfl⟩:=r2
 rw [f1] at f2
 cases f2
 rfl
theorem qCV(w:World)(i p k0 k1 k2 k3 k4:Int):Dat w (fun _=>False) kP (i,p,k0,k1,k2,k3,k4) (plV i p k0 k1 k2 k3 k4):=by
 refine⟨?_,rfl⟩
 simp only [Value.cells,RC]
 exact⟨[_],_,rfl,rfl,[_],_,rfl,rfl,[_],_,rfl,rfl,[_],_,rfl,rfl,[_],_,rfl,rfl,[_],[_],rfl,rfl,rfl⟩
theorem Told.lookup{w:World}{bt:Nat}{R:kP.den->Value->Prop}(h:Told w bt R)(i p k0 k1 k2 k3 k4:Int) :
  (∃ v,R (i,p,k0,k1,k2,k3,k4) v/\(Instr.lookup 56 (.map (some bt)) (plV i p k0 k1 k2 k3 k4) true).run Tryd.prog w=.ok (.tuple #[v,.bool true]) w) \/
   (Instr.lookup 56 (.map (some bt)) (plV i p k0 k1 k2 k3 k4) true).run Tryd.prog w=.ok (.tuple #[.map none,.bool false]) w:=by
 obtain⟨es,clock,xs,hb,hk,hv⟩:=h.ex
 obtain⟨et,hu⟩:=und56
 have ha:=qCV w i p k0 k1 k2 k3 k4
 have hz:∀ w:World,(zeroValue et).run Tryd.prog w=.ok (.map none) w:=by
  have:et=60:=by
   have h60:Tryd.prog.underlying 56=some (.map 80 60):=by kernel_rfl
   rw [h60] at hu;cases hu;rfl
  subst this
  intro w
  obtain⟨ti,hti,hz⟩:=zR.1 (show (Tryd.prog.info? 60).bind (·.zero)=some (.map none) by kernel_rfl)
  simp [zeroValue,typeInfo,hti,hz]
 rcases qlP (w':=w) kP_ok ha hk with⟨h1,h2⟩ | ⟨j,e,y,h1,h2,h3,h4⟩
 ·refine .inr ?_
  simp [Instr.lookup,run_underlying hu,MapKept.run_getObj_map hb,qbg kP_ok ha,h1,hz,Result.andThen]
 ·refine .inl ⟨e.val,?_,?_⟩
  ·have:=hv j e y h2 h3
   rw [<- qfx h4.eq] at this
   exact this
  ·simp [Instr.lookup,run_underlying hu,MapKept.run_getObj_map hb,qbg kP_ok ha,h1,Result.andThen]
theorem Told.mono{w w':World}{bt:Nat}{R R':kP.den->Value->Prop}(h:Told w bt R)(hb:w'.heap[bt]? = w.heap[bt]?)(hR:∀ x v,R x v->R' x v):Told w' bt R':=by
 obtain⟨es,clock,xs,h1,hk,hv⟩:=h.ex
 refine⟨es,clock,xs,hb.trans h1,qsV hk,fun j e y he hy=>hR _ _ (hv j e y he (quE hy))⟩
theorem Told.update{w:World}{bt:Nat}{R:kP.den->Value->Prop}(h:Told w bt R)(i p k0 k1 k2 k3 k4:Int){v:Value}(hv:R (i,p,k0,k1,k2,k3,k4) v) :
  ∃ es' clock',(Instr.mapUpdate 56 (.map (some bt)) (plV i p k0 k1 k2 k3 k4) v).run Tryd.prog w=.ok () (setBlock w bt (.map es' clock'))/\Told (setBlock w bt (.map es' clock')) bt R:=by
 obtain⟨es,clock,xs,hb,hk,hR⟩:=h.ex
 obtain⟨et,hu⟩:=und56
 have ha:=qCV w i p k0 k1 k2 k3 k4
 have hlt:=(zI.1 hb).1
 have hnew:∀ o,(setBlock w bt o).heap[bt]? = some o:=fun o=>by
  simp [setBlock,hlt]
 rcases qlP (w':=w) kP_ok ha hk with⟨h1,h2⟩ | ⟨j,e,y,h1,h2,h3,h4⟩
 ·refine⟨es.push ⟨plV i p k0 k1 k2 k3 k4,v,clock⟩,clock+1,by simp [Instr.mapUpdate,run_underlying hu,MapKept.run_getObj_map hb,qbg kP_ok ha,h1,MapKept.run_setObj_map _ hb,Result.andThen,setBlock],⟨_,_,_,hnew _,qsV (by rw [zAT];exact hk.push (x:=((clock:Int),((i,p,k0,k1,k2,k3,k4),()))) ⟨rfl,qeB ha⟩),?_⟩⟩
  intro j e y he hy
  rw [zAT,zBp] at he
  split at he
  ·exact hR j e y he (quE hy)
  ·have he2:=zh he
   rw [zAG] at he2
   subst he2
   have e2:y.2.1=(i,p,k0,k1,k2,k3,k4):=qxE (quE hy).key (qeB ha)
   rw [e2];exact hv
 ·have hj:es[j]? = some e:=by simpa using h2
  have hx:=qfx h4.eq
  have hka:e.key=plV i p k0 k1 k2 k3 k4:=h3.kD.det (qha kP_ok) (by rw [<- hx];exact ha)
  refine⟨es.modify j (fun e'=>{ e' with key:=plV i p k0 k1 k2 k3 k4,val:=v }),clock,by simp [Instr.mapUpdate,run_underlying hu,MapKept.run_getObj_map hb,qbg kP_ok ha,h1,hj,hka,qlK (qha kP_ok) ha,MapKept.run_setObj_map _ hb,Result.andThen,setBlock],⟨_,_,_,hnew _,qsV (by rw [qcs h2];exact hk.set (x:=(y.1,(y.2.1,()))) ⟨h3.born,by rw [<- hka];exact h3.key⟩),?_⟩⟩
  intro j' e' y' he hy
  rw [qcs h2,zAc] at he
  split at he
  ·rename_i hjj
   split at he
   ·cases he
    have e2:y'.2.1=(i,p,k0,k1,k2,k3,k4):=qxE (quE hy).key (qeB ha)
    rw [e2];exact hv
   ·cases he
  ·exact hR j' e' y' he (quE hy)
end Go.Proofs.YtnhjpicdijeagaaDoor

noncomputable section
namespace Go.Proofs.YtnhjpicdijeagaaDoor
open Go.Abs Go.Bag
abbrev Nd:=Gh.Nd
abbrev Ed:=Gh.Ed
abbrev Fd:=Int×Int×List Row
abbrev Fn:=Key->Int
abbrev zF:Fd:=(0,0,[])
abbrev ndA(ns:List Nd)(i:Nat):Nd:=nth Gh.z5 ns i
def edI(es:List Ed)(n:Nat)(p:Int):Nat:=es.findIdx fun e=>decide (e.2.1=(n:Int)/\e.2.2=p)
def frO(es:List Ed)(n:Nat)(p:Int):Nat:=(nth Gh.z3 es (edI es n p)).1.toNat
def inpF(fs:List Fd)(n:Nat)(e:Int):Fn:=fun z=>match fs with
 | []=>0
 | f :: r=>(if f.1=(n:Int)/\f.2.1<=e then amt f.2.2 z else 0)+inpF r n e z
open Classical in
def rowsF(F:Fn):List Row:=if h:∃ l,IsBag F l then Classical.choose h else []
theorem qfA{F:Fn}{l:List Row}(h:IsBag F l):rowsF F=l:=by
 unfold rowsF
 rw [dif_pos ⟨l,h⟩]
 exact (zAg (⟨l,h⟩:∃ l,IsBag F l)).uniq h
def opF(k A B:Int)(F:Fn):Fn:=if k<=4 then amt ((rowsF F).filterMap (rowF k A B)) else amt (outG k (rowsF F))
def pairF(k A B:Int)(F G:Fn):Fn:=amt (twoF k A B (rowsF F) (rowsF G))
abbrev S3:=Nat×Int×List Int
def bodyG(ns:List Nd)(rd:Int)(fs:List Fd)(rec:S3->Option Fn)(n:Nat)(t:List Int):Option Fn:=
 let x:=ndA ns n
 if x.1=1 then some (inpF fs n (t.headD 0))
 else if x.1=2 then (rec (n,0,t)).map (opF x.2.2.1 x.2.2.2.1 x.2.2.2.2)
 else if x.1=3 then (rec (n,0,t)).bind fun F=>(rec (n,1,t)).map fun G=>pairF x.2.2.1 x.2.2.2.1 x.2.2.2.2 F G
 else if x.1=4 then rec (n,0,t.dropLast)
 else if x.1=5 then rec (n,0,t ++ [rd])
 else if 0<t.getLastD 0 then rec (n,0,t.dropLast ++ [t.getLastD 0 - 1]) else some fun _=>0
def bodyC(ns:List Nd)(es:List Ed)(rd:Int)(fs:List Fd)(rec:S3->Option Fn)(s:S3):Option Fn:=
 (bodyG ns rd fs rec (frO es s.1 s.2.1) s.2.2).bind fun F=>if 128<(rowsF F).length then none else some F
structure Ask (ns:List Nd) (es:List Ed) (rd:Int) (s' s:Nat×List Int):Prop where
 ed:∃ e∈es,e.1=(s'.1:Int)/\e.2.1=(s.1:Int)
 l:s.1<ns.length
 l':s'.1<ns.length
 len:(s.2.length:Int)=(ndA ns s.1).2.1
 nn:∀ x∈s.2,(0:Int)<=x
 tm:s'.2=if (ndA ns s'.1).1=4 then s.2.dropLast else if (ndA ns s'.1).1=5 then s.2 ++ [rd] else if (ndA ns s'.1).1=6 then s.2.dropLast ++ [s.2.getLastD 0 - 1] else s.2
 pos:(ndA ns s'.1).1=6->0<s.2.getLastD 0
theorem qlZ(l:List Int)(i:Nat)(h:i+1<l.length):l.dropLast.getD i 0=l.getD i 0:=by
 simp only [zK,List.getElem?_dropLast]
 rw [zJ (by omega)]
theorem qiz(l:List Int)(h:l ≠ []):l.getLastD 0=l.getD (l.length - 1) 0:=by
 cases l with
 | nil=>exact absurd rfl h
 | cons a l=>simp [List.getLastD,List.getLast_eq_getElem,zK]
theorem qEF{ns:List Nd}{es:List Ed}(h:Gh.GrOk ns es)(rd:Int):WellFounded (Ask ns es rd):=by
 have hdeep:∀ j,j<ns.length->1<=(ndA ns j).2.1/\(ndA ns j).2.1<=4:=fun j hj=>h.deep hj
 refine Go.Gr.back_wf (n:=ns.length) (dp:=fun i=>if i<ns.length then (ndA ns i).2.1.toNat else 1) (fd:=fun i=>(ndA ns i).1==6) (E:=fun a b=>a<ns.length/\b<ns.length/\∃ e∈es,e.1=(a:Int)/\e.2.1=(b:Int)) ?_ ?_ ?_ ?_
 ·intro i
  by_cases q:i<ns.length
  ·rw [zJ q];have:=hdeep i q;omega
  ·rw [zL q];omega
 ·intro s' s hs
  exact⟨⟨hs.l',hs.l,hs.ed⟩,hs.l'⟩
 ·intro f j hf hfd hp
  by_cases q:j<ns.length
  ·rw [zJ q] at hf
   have hd:=hdeep j q
   have hmono:∀ a b,Go.Gr.EG (fun i=>if i<ns.length then (ndA ns i).2.1.toNat else 1) (fun i=>(ndA ns i).1==6) (fun a b=>a<ns.length/\b<ns.length/\∃ e∈es,e.1=(a:Int)/\e.2.1=(b:Int)) f a b->Gh.EdG ns es (Gh.deepOf ns j) a b:=by
    rintro a b ⟨⟨ha,hb,e,he,e1,e2⟩,h1,h2⟩
    have hin:∀ x,x<ns.length->Go.Gr.inb (fun i=>if i<ns.length then (ndA ns i).2.1.toNat else 1) (fun i=>(ndA ns i).1==6) f x->Gh.inB (Gh.deepOf ns j) (nth Gh.z5 ns x)=true:=by
     intro x hx hb
     unfold Go.Gr.inb at hb
     simp only [zJ hx] at hb
     have hdx:=hdeep x hx
     unfold Gh.inB Gh.deepOf
     have e1:(ndA ns x)=nth Gh.z5 ns x:=rfl
     rw [<- e1]
     rcases hb with hb | ⟨hb,hb2⟩
     ·rw [zJ (by show (ndA ns x).2.1>(ndA ns j).2.1;omega)]
     ·have e3:(ndA ns x).2.1=(ndA ns j).2.1:=by omega
      rw [zL (by show ¬ (ndA ns x).2.1>(ndA ns j).2.1;omega),zJ e3]
      simpa [bne] using hb2
    exact⟨e,he,e1,e2,hin a ha h1,hin b hb h2⟩
   exact h.rings j j q q ⟨hp.mono hmono,hp.mono hmono⟩
  ·rw [zL q] at hf
   have hnone:∀ a b,Go.Gr.Pk (Go.Gr.EG (fun i=>if i<ns.length then (ndA ns i).2.1.toNat else 1) (fun i=>(ndA ns i).1==6) (fun a b=>a<ns.length/\b<ns.length/\∃ e∈es,e.1=(a:Int)/\e.2.1=(b:Int)) f) ns.length a b->a<ns.length:=by
    intro a b hp
    induction hp with
    | one h=>exact h.1.1
    | cons h _ _ _=>exact h.1.1
   exact q (hnone j j hp)
 ·intro s' s f hs h1 h2 h3
  simp only [zJ hs.l,zJ hs.l'] at h2 h3 ⊢
  have hl:=hs.len
  have hd:=hdeep s.1 hs.l
  have hd':=hdeep s'.1 hs.l'
  obtain⟨e,he,e1,e2⟩:=hs.ed
  obtain⟨i,hi,hei⟩:=qds (z:=Gh.z3) he
  have hx:=(h.edges i hi).deep
  have hei':nth ((0:Int),(0:Int),(0:Int)) es i=e:=hei
  rw [hei',e1,e2] at hx
  simp only [Int.toNat_natCast] at hx
  have hx:Gh.outOf (ndA ns s'.1)=(ndA ns s.1).2.1:=hx
  have hne:s.2 ≠ []:=fun q=>by rw [q] at hl;simp at hl;omega
  have htm:=hs.tm
  unfold Go.Gr.cf
  unfold Gh.outOf at hx
  by_cases k6:(ndA ns s'.1).1=6
  ·have hpos:=hs.pos k6
   rw [zL (by omega),zL (by omega),zJ k6] at htm
   rw [zL (by omega),zL (by omega)] at hx
   have hk:((ndA ns s'.1).1==6)=true:=beq_iff_eq.2 k6
   have hlen:s.2.dropLast.length=s.2.length - 1:=zBR
   by_cases hf:(ndA ns s'.1).2.1.toNat=f
   ·rw [zJ ⟨hk,hf⟩,htm]
    have i1:f - 1=s.2.length - 1:=by omega
    have e3:(s.2.dropLast ++ [s.2.getLastD 0 - 1]).getD (f - 1) 0=s.2.getLastD 0 - 1:=by
     rw [zK,zu (by omega),hlen,i1];simp
    rw [e3,i1,<- qiz _ hne]
    omega
   ·rw [zL (fun q=>hf q.2),htm]
    have e3:(s.2.dropLast ++ [s.2.getLastD 0 - 1]).getD (f - 1) 0=s.2.getD (f - 1) 0:=by
     rw [zK,zl (by omega),<- zK]
     exact qlZ _ _ (by omega)
    rw [e3]
  ·have hk:¬ (((ndA ns s'.1).1==6)=true/\(ndA ns s'.1).2.1.toNat=f):=fun q=>k6 (beq_iff_eq.1 q.1)
   rw [zL hk,htm]
   by_cases k4:(ndA ns s'.1).1=4
   ·rw [zJ k4] at hx ⊢
    rw [qlZ _ _ (by omega)]
   ·rw [zL k4] at hx ⊢
    by_cases k5:(ndA ns s'.1).1=5
    ·rw [zJ k5] at hx ⊢
     have e3:(s.2 ++ [rd]).getD (f - 1) 0=s.2.getD (f - 1) 0:=by
      rw [zK,zl (by omega),<- zK]
     rw [e3]
    ·rw [zL k5,zL k6]
abbrev R3(ns:List Nd)(es:List Ed)(rd:Int)(s' s:S3):Prop:=Ask ns es rd (s'.1,s'.2.2) (s.1,s.2.2)
theorem r3_wf{ns:List Nd}{es:List Ed}(h:Gh.GrOk ns es)(rd:Int):WellFounded (R3 ns es rd):=InvImage.wf (fun s:S3=>(s.1,s.2.2)) (qEF h rd)
open Classical in
def semC(ns:List Nd)(es:List Ed)(rd:Int)(fs:List Fd):S3->Option Fn:=
 if h:WellFounded (R3 ns es rd) then h.fix fun s rec=>bodyC ns es rd fs (fun s'=>if q:R3 ns es rd s' s then rec s' q else none) s else fun _=>none
open Classical in
theorem qsv{ns:List Nd}{es:List Ed}(h:Gh.GrOk ns es)(rd:Int)(fs:List Fd)(s:S3) :
  semC ns es rd fs s=bodyC ns es rd fs (fun s'=>if R3 ns es rd s' s then semC ns es rd fs s' else none) s:=by
 have hw:=r3_wf h rd
 have e:semC ns es rd fs=hw.fix fun s rec=>bodyC ns es rd fs (fun s'=>if q:R3 ns es rd s' s then rec s' q else none) s:=by
  unfold semC
  rw [dif_pos hw]
 rw [e,WellFounded.fix_eq]
 rfl
end Go.Proofs.YtnhjpicdijeagaaDoor
end

namespace Go.Proofs.YtnhjpicdijeagaaDoor
open Go.Abs Go.Bag Go.RowKit
section
variable {w : World}
theorem qoK{w w':World}(h:Fr w (fun _=>False) w'):Go.Abs.Below w.heap.size w w':=⟨h.os,h.tape,h.output,h.size,fun k hk=>h.block k hk (fun q=>q)⟩
theorem qvw{c:Nat}{d:BagD}{M:Nat->Prop}{l:Abs.Loc}(hl:l.a=some c)(h:BagAt w c d):RU w M l bq d:=by
 refine RQ.u ?_
 obtain⟨b,es,cl,h1,h2,h3,h4,h5,h6⟩:=h
 cases h1
 exact⟨c,es,cl,hl,h2,h3,qoL h4,h5,h6⟩
theorem qxd{c:Nat}{d:BagD}{M:Nat->Prop}{l:Abs.Loc}(hl:l.a=some c)(h:RU w M l bq d):BagAt w c d:=by
 obtain⟨b,es,cl,h1,h2,h3,h4,h5,h6⟩:=h.q rfl
 rw [hl] at h1;cases h1
 exact⟨c,es,cl,rfl,h2,h3,qoL h4,h5,h6⟩
theorem qzu{c:Nat}{d:BagD}(h:BagAt w c d):Rep w (fun _=>False) (fun _=>False) w [.oth true bq d] (fun _=>⟨some c,0,[]⟩) where
 fr:=⟨rfl,TDr.rfl,rfl,Nat.le_refl _,fun _ _ _=>rfl⟩
 m0:=fun b h=>h.elim
 inA:=by
  rintro b ⟨o,hl,ha⟩
  cases o with
  | zero=>exact absurd hl (by simp [live,getO])
  | succ o=>exact hl.elim
 apart:=fun o o' b h1 h2 _ _=>by
  cases o with
  | zero=>exact absurd h1 (by simp [live,getO])
  | succ o=>exact h1.elim
 obj:=fun o=>by
  cases o with
  | zero=>
   refine⟨qvw rfl h,fun _ b _ hm=>?_⟩
   rcases hm with hm | ⟨o,hl,ha⟩
   ·exact hm
   ·cases o with
    | zero=>exact absurd hl (by simp [live,getO])
    | succ o=>exact hl.elim
  | succ o=>trivial
theorem qBP{c c':Nat}{d d':BagD}(h:BagAt w c d)(h':BagAt w c' d'):Rep w (fun _=>False) (fun _=>False) w [.oth true bq d,.oth true bq d'] (fun o=>if o=0 then ⟨some c,0,[]⟩ else ⟨some c',0,[]⟩):=by
 have hn:∀ b,¬ own [.oth true bq d,.oth true bq d'] (fun o=>if o=0 then (⟨some c,0,[]⟩:Abs.Loc) else ⟨some c',0,[]⟩) b:=by
  rintro b ⟨o,hl,ha⟩
  match o,hl with
  | 0,hl=>exact absurd hl (by simp [live,getO])
  | 1,hl=>exact absurd hl (by simp [live,getO])
  | _+2,hl=>exact hl.elim
 refine⟨⟨rfl,TDr.rfl,rfl,Nat.le_refl _,fun _ _ _=>rfl⟩,fun b h=>h.elim,fun b hb=>(hn b hb).elim,fun o o' b h1 h2 _ _=>?_,fun o=>?_⟩
 ·match o,h1 with
  | 0,hl=>exact absurd hl (by simp [live,getO])
  | 1,hl=>exact absurd hl (by simp [live,getO])
  | _+2,hl=>exact hl.elim
 ·match o with
  | 0=>exact⟨qvw rfl h,fun _ b _ hm=>hm.elim (fun q=>q) (hn b)⟩
  | 1=>exact⟨qvw rfl h',fun _ b _ hm=>hm.elim (fun q=>q) (hn b)⟩
  | _+2=>trivial
theorem op_rv{k A B:Int}{M:Nat->Prop}{h:List O}{σ:Nat->Abs.Loc}:RV w M h σ (.agg [.int .i64 k,.int .i64 A,.int .i64 B]) (opV k A B):=
 ⟨_,rfl,by simp [Value.oneCell'],by simp [RVs,RV]⟩
theorem qzZ{c:Nat}{d:BagD}{F:Fn}(k A B:Int)(hk:1<=k)(hg:GW Gs w)(hb:BagAt w c d)(hF:BOk F d)(hl:d.2.length<=128) :
  Calls Tryd.prog 48 #[opV k A B,.map (some c)] w fun e w'=>Go.Abs.Below w.heap.size w w'/\∃ c' d',e=.returned (.map (some c'))/\w.heap.size<=c'/\BagAt w' c' d'/\BOk (opF k A B F) d'/\d'.2.length<=128:=by
 by_cases h4:k<=4
 ·obtain⟨rows,out,h1,h2,h3,h5,h6⟩:=qCJ (N:=100000) hF k A B hk h4 (by omega) (by omega)
  refine (qlo 100000 w (fun _=>False) (fun _=>False) _ ((k,A,B),d) _ [opV k A B,.map (some c)] hg (fun _ _ q=>q) (qzu hb) ?_ h1).mono ?_
  ·exact⟨_,_,rfl,op_rv,_,_,rfl,⟨c,rfl,rfl,rfl⟩,rfl⟩
  ·rintro e w' ⟨v,σ',rfl,N,hv⟩
   have hv:RV w' _ _ σ' (.ptr 2 1000000) v:=hv
   simp only [RV] at hv
   obtain⟨b,hb2,hp⟩:=hv
   obtain⟨-,rfl⟩:=hp
   have ho:=N.rep.obj 2
   have hin:=N.rep.inA b ⟨2,rfl,hb2⟩
   refine⟨qoK N.rep.fr,b,out,rfl,hin.resolve_left (fun q=>q),qxd hb2 ho.1,?_,by omega⟩
   unfold opF
   rw [zJ h4,qfA h2]
   exact h3
 ·obtain⟨rows,out,h1,h2,h3,h5,h6⟩:=qCK (N:=100000) hF k A B (by omega) (by omega) (by omega)
  refine (qlo 100000 w (fun _=>False) (fun _=>False) _ ((k,A,B),d) _ [opV k A B,.map (some c)] hg (fun _ _ q=>q) (qzu hb) ?_ h1).mono ?_
  ·exact⟨_,_,rfl,op_rv,_,_,rfl,⟨c,rfl,rfl,rfl⟩,rfl⟩
  ·rintro e w' ⟨v,σ',rfl,N,hv⟩
   have hv:RV w' _ _ σ' (.ptr 4 1000000) v:=hv
   simp only [RV] at hv
   obtain⟨b,hb2,hp⟩:=hv
   obtain⟨-,rfl⟩:=hp
   have ho:=N.rep.obj 4
   have hin:=N.rep.inA b ⟨4,rfl,hb2⟩
   refine⟨qoK N.rep.fr,b,out,rfl,hin.resolve_left (fun q=>q),qxd hb2 ho.1,?_,by omega⟩
   unfold opF
   rw [zL h4,qfA h2]
   exact h3
theorem qzB{c c2:Nat}{d d2:BagD}{F G:Fn}(k A B:Int)(hk:k=9\/k=10)(hg:GW Gs w)(hb:BagAt w c d)(hF:BOk F d)(hl:d.2.length<=128)(hb2:BagAt w c2 d2)(hG:BOk G d2)(hl2:d2.2.length<=128) :
  Calls Tryd.prog 49 #[opV k A B,.map (some c),.map (some c2)] w fun e w'=>Go.Abs.Below w.heap.size w w'/\∃ c' d',e=.returned (.map (some c'))/\w.heap.size<=c'/\BagAt w' c' d'/\BOk (pairF k A B F G) d'/\d'.2.length<=20000:=by
 have key:∃ (ra rb:List Row) (out:Bg),qee 100000 ((k,A,B),d,d2)=some (d,d2,k,A,B,out)/\IsBag F ra/\IsBag G rb/\BOk (amt (twoF k A B ra rb)) out/\out.2.length<=20000:=by
  rcases hk with rfl | rfl
  ·obtain⟨ra,rb,out,m1,m2,m3,m4,m5,m6,m7⟩:=qwI (N:=100000) hF hG A B (by omega) (by omega) (by omega) (by omega)
   exact⟨ra,rb,out,m1,m2,m3,m4,by omega⟩
  ·obtain⟨ra,rb,out,m1,m2,m3,m4,m5,m6,m7⟩:=qBt (N:=100000) hF hG A B (by omega) (by omega) (by omega) (by omega)
   refine⟨ra,rb,out,m1,m2,m3,m4,?_⟩
   have:ra.length*rb.length<=128*128:=Nat.mul_le_mul (by omega) (by omega)
   omega
 obtain⟨ra,rb,out,h1,h2,h3,h4,h5⟩:=key
 refine (qsk 100000 w (fun _=>False) (fun _=>False) _ ((k,A,B),d,d2) _ [opV k A B,.map (some c),.map (some c2)] hg (fun _ _ q=>q) (qBP hb hb2) ?_ h1).mono ?_
 ·exact⟨_,_,rfl,op_rv,_,_,rfl,⟨c,rfl,rfl,rfl⟩,_,_,rfl,⟨c2,rfl,rfl,rfl⟩,rfl⟩
 ·rintro e w' ⟨v,σ',rfl,N,hv⟩
  have hv:RV w' _ _ σ' (.ptr 3 1000000) v:=hv
  simp only [RV] at hv
  obtain⟨b,hb2,hp⟩:=hv
  obtain⟨-,rfl⟩:=hp
  have ho:=N.rep.obj 3
  have hin:=N.rep.inA b ⟨3,rfl,hb2⟩
  refine⟨qoK N.rep.fr,b,out,rfl,hin.resolve_left (fun q=>q),qxd hb2 ho.1,?_,h5⟩
  unfold pairF
  rw [qfA h2,qfA h3]
  exact h4
abbrev rlS:Sh:=.sl (.pair (.int .i64) (.pair (.int .i64) (.int .i64)))
theorem qBO{c:Nat}{d:BagD}{M0:Nat->Prop}(h:BagAt w c d)(hM:∀ b,M0 b->b<w.heap.size)(hc:¬ M0 c):Rep w (fun _=>False) M0 w [.oth true bq d] (fun _=>⟨some c,0,[]⟩) where
 fr:=⟨rfl,TDr.rfl,rfl,Nat.le_refl _,fun _ _ _=>rfl⟩
 m0:=fun b h=>⟨hM b h,fun q=>q⟩
 inA:=by
  rintro b ⟨o,hl,ha⟩
  cases o with
  | zero=>exact absurd hl (by simp [live,getO])
  | succ o=>exact hl.elim
 apart:=fun o o' b h1 h2 _ _=>by
  cases o with
  | zero=>exact absurd h1 (by simp [live,getO])
  | succ o=>exact h1.elim
 obj:=fun o=>by
  cases o with
  | zero=>
   refine⟨qvw rfl h,fun _ b hb hm=>?_⟩
   cases hb
   rcases hm with hm | ⟨o,hl,ha⟩
   ·exact hc hm
   ·cases o with
    | zero=>exact absurd hl (by simp [live,getO])
    | succ o=>exact hl.elim
  | succ o=>trivial
theorem rows_call{c:Nat}{d:BagD}{F:Fn}{M0:Nat->Prop}(hg:GW Gs w)(hb:BagAt w c d)(hF:BOk F d)(hl:d.2.length<=20000)(hM:∀ b,M0 b->b<w.heap.size)(hc:¬ M0 c) :
  Calls Tryd.prog 17 #[.map (some c)] w fun e w'=>Go.Abs.Below w.heap.size w w'/\∃ v,e=.returned v/\RC w' M0 rlS (rowsF F) [v]:=by
 obtain⟨rows,h1,h2,h3⟩:=qhp (N:=100000) hF (by omega) (by omega)
 refine (qfU 100000 w (fun _=>False) M0 _ d _ [.map (some c)] hg (fun _ _ q=>q) (qBO hb hM hc) ?_ h1).mono ?_
 ·exact⟨_,_,rfl,⟨c,rfl,rfl,rfl⟩,rfl⟩
 ·rintro e w' ⟨v,σ',rfl,N,hv⟩
  have hv:RV w' _ _ σ' (.sl (.pair (.int .i64) (.pair (.int .i64) (.int .i64))) rows) v:=hv
  simp only [RV] at hv
  refine⟨qoK N.rep.fr,v,rfl,?_⟩
  rw [qfA h2]
  exact RC.keeps (qbW fun b hb=>.inl hb) hv
theorem qBN{c:Nat}{d:BagD}(h:BagAt w c d):Rep w (fun b=>b=c) (fun _=>False) w [.oth false bq d] (fun _=>⟨some c,0,[]⟩) where
 fr:=⟨rfl,TDr.rfl,rfl,Nat.le_refl _,fun _ _ _=>rfl⟩
 m0:=fun b h=>h.elim
 inA:=by
  rintro b ⟨o,hl,ha⟩
  cases o with
  | zero=>cases ha;exact .inl rfl
  | succ o=>exact hl.elim
 apart:=fun o o' b h1 h2 _ _=>by
  cases o with
  | zero=>
   cases o' with
   | zero=>rfl
   | succ o'=>exact h2.elim
  | succ o=>exact h1.elim
 obj:=fun o=>by
  cases o with
  | zero=>exact⟨qvw rfl h,fun q=>by cases q⟩
  | succ o=>trivial
theorem qzz{c:Nat}{d:BagD}{F:Fn}{l:List Row}{v:Value}(hg:GW Gs w)(hgc:∀ p∈Gs,p.1≠c)(hb:BagAt w c d)(hF:BOk F d)(hr:RC w (fun b=>b=c) rlS l [v])(hl:l.length<=128) :
  Calls Tryd.prog 44 #[.map (some c),v,.int .i64 1] w fun e w'=>e=.returned (.tuple #[])/\Fr w (fun b=>b=c) w'/\∃ d',BagAt w' c d'/\BOk (fun z=>F z+amt l z) d'/\d'.2.length<=d.2.length+l.length:=by
 obtain⟨d',h1,h2,h3⟩:=qqz (N:=100000) hF l 1 (by omega) (by omega)
 refine (qgN 100000 w (fun b=>b=c) (fun _=>False) _ (l,1,d) _ [.map (some c),v,.int .i64 1] hg (fun p hp=>hgc p hp) (qBN hb) ?_ h1).mono ?_
 ·refine⟨_,_,rfl,⟨c,rfl,rfl,rfl⟩,_,_,rfl,?_,_,_,rfl,rfl,rfl⟩
  show RC _ _ _ _ _
  refine RC.keeps (qbW fun b hb=>?_) hr
  rcases hb with hb | ⟨o,hl,ha⟩
  ·exact hb.elim
  ·cases o with
   | zero=>cases ha;rfl
   | succ o=>exact hl.elim
 ·rintro e w' ⟨x,σ',rfl,N,hx⟩
  have hx:RV w' _ _ σ' (.tup []) x:=hx
  simp only [RV,RVs] at hx
  obtain⟨us,rfl,hus⟩:=hx
  obtain rfl:us = #[]:=by apply Array.ext';exact hus
  have ho:=N.rep.obj 0
  have hs:=N.step 0
  have ha:(σ' 0).a=some c:=hs.2
  exact⟨rfl,N.rep.fr,d',qxd ha ho.1,h2.cg fun e=>.of_eq (by omega),h3⟩
end
end Go.Proofs.YtnhjpicdijeagaaDoor

namespace Go.Proofs.YtnhjpicdijeagaaDoor
open Go.Abs Go.Bag Go.RowKit
open Go.ChangeMaps (setBlock)
def DM(s0:Nat)(w:World):Nat->Prop:=fun b=>s0<=b/\∃ es cl,w.heap[b]? = some (.map es cl)
theorem Fb.keeps{s0 bt:Nat}{w w':World}(h:Fb s0 bt w w'):Keeps w (DM s0 w) w' (DM s0 w'):=by
 have key:∀ b,b<w.heap.size->¬ DM s0 w b->w'.heap[b]? = w.heap[b]?:=fun b hb hm=>by
  have e:=zd hb
  rw [e]
  refine h.block b _ e ?_
  rcases zAO b s0 with q | q
  ·exact .inl q
  ·refine .inr ?_
   cases ho:w.heap[b] with
   | map es cl=>exact absurd ⟨q,es,cl,by rw [e,ho]⟩ hm
   | _=>rfl
 exact⟨h.size,key,fun b hb hm ⟨q,es,cl,hc⟩=>hm ⟨q,es,cl,by rw [<- key b hb hm];exact hc⟩⟩
theorem GW.fb{gs:List (Nat×List Value)}{s0 bt:Nat}{w w':World}(g:GW gs w)(h:Fb s0 bt w w'):GW gs w':=fun p hp=>by
 obtain⟨h1,h2⟩:=g p hp
 exact⟨zM h1 h.size,fun j v hj=>h.cell (h2 j v hj)⟩
def BG(s0 bt m:Nat)(o:Option Fn)(v:Value)(w:World):Prop:=
 ∃ F c d,o=some F/\v=.map (some c)/\s0<=c/\c≠bt/\BagAt w c d/\BOk F d/\d.2.length<=m
theorem BG.fb{s0 bt m:Nat}{o:Option Fn}{v:Value}{w w':World}(h:BG s0 bt m o v w)(f:Fb s0 bt w w'):BG s0 bt m o v w':=by
 obtain⟨F,c,d,h1,h2,h3,h4,h5,h6,h7⟩:=h
 exact⟨F,c,d,h1,h2,h3,h4,f.bag c d h3 h4 h5,h6,h7⟩
abbrev iL:Sh:=.sl (.int .i64)
def Tm(s0:Nat)(t:List Int)(v:Value)(w:World):Prop:=RC w (DM s0 w) iL t [v]
theorem Tm.fb{s0 bt:Nat}{t:List Int}{v:Value}{w w':World}(h:Tm s0 t v w)(f:Fb s0 bt w w'):Tm s0 t v w':=RC.keeps f.keeps h
theorem qzh{s0:Nat}{M:Nat->Prop}{t:List Int}{v:Value}{w:World}(h:RC w M iL t [v]):Tm s0 t v w:=by
 unfold Tm
 simp only [RC] at h ⊢
 obtain⟨a,cap,h1,h2,h3,h4⟩:=h
 refine⟨a,cap,h1,h2,h3,fun hne=>?_⟩
 obtain⟨b,q,k1,k2,k3,k4⟩:=h4 hne
 refine⟨b,q,k1,k2,?_,fun i x hi=>?_⟩
 ·rintro⟨-,es,cl,hm⟩
  match t,hne with
  | x :: r,_=>
   obtain⟨cs,g1,g2⟩:=k4 0 x rfl
   try simp only [RC] at g2
   subst g2
   have:=(g1 0 _ rfl).1
   simp [World.cell?,hm] at this
 ·obtain⟨cs,g1,g2⟩:=k4 i x hi
  exact⟨cs,g1,g2⟩
theorem Tm.slice{s0:Nat}{t:List Int}{v:Value}{w:World}(h:Tm s0 t v w)(hne:t ≠ []):∃ b q cap,v=.slice (some ⟨b,q,none⟩) t.length cap/\t.length<=cap/\cap<=maxI/\∀ i x,t[i]? = some x->w.cell? ⟨b,q+i,none⟩=some (.int .i64 x):=by
 unfold Tm at h
 simp only [RC] at h
 obtain⟨a,cap,h1,h2,h3,h4⟩:=h
 obtain⟨b,q,k1,k2,k3,k4⟩:=h4 hne
 subst k1
 cases h1
 refine⟨b,q,cap,rfl,h2,h3,fun i x hi=>?_⟩
 obtain⟨cs,g1,g2⟩:=k4 i x hi
 try simp only [RC] at g2
 subst g2
 have:=(g1 0 _ rfl).1
 simpa [Sh.n] using this
abbrev ndS:Sh:=.pair (.int .i64) (.pair (.int .i64) (.pair (.int .i64) (.pair (.int .i64) (.int .i64))))
abbrev edS:Sh:=.pair (.int .i64) (.pair (.int .i64) (.int .i64))
abbrev fdS:Sh:=.pair (.int .i64) (.pair (.int .i64) rlS)
def tkey(t:List Int):Int×Int×Int×Int×Int:=((t.length:Int),nth 0 (cpy [0,0,0,0] t) 0,nth 0 (cpy [0,0,0,0] t) 1,nth 0 (cpy [0,0,0,0] t) 2,nth 0 (cpy [0,0,0,0] t) 3)
structure Pl where
 ns:List Nd
 es:List Ed
 rd:Int
 fs:List Fd
noncomputable abbrev Pl.sem(p:Pl)(s:S3):Option Fn:=semC p.ns p.es p.rd p.fs s
def RT(s0 bt:Nat)(p:Pl)(w:World)(x:kP.den)(v:Value):Prop:=∀ (n:Nat) (q:Int) (t:List Int),t.length<=4->x=((n:Int),q,tkey t)->BG s0 bt 128 (p.sem (n,q,t)) v w
structure Inv (s0 ba bt:Nat) (p:Pl) (nv ev fv:Value) (w:World):Prop where
 gw:GW Gs w
 gl:∀ g∈Gs,g.1<s0
 sb:s0<=bt
 box:w.heap[ba]? = some (.cells #[nv,ev,.int .i64 p.rd,fv,.map (some bt)] 58 (0,0))
 nds:RC w (DM s0 w) (.sl ndS) p.ns [nv]
 eds:RC w (DM s0 w) (.sl edS) p.es [ev]
 fds:RC w (DM s0 w) (.sl fdS) p.fs [fv]
 told:Told w bt (RT s0 bt p w)
section
variable {s0 ba bt : Nat} {p : Pl} {nv ev fv : Value} {w w' : World}
theorem Inv.lt(h:Inv s0 ba bt p nv ev fv w):bt<w.heap.size:=by
 obtain⟨es,cl,xs,h1,_⟩:=h.told.ex
 exact (zI.1 h1).1
theorem Inv.fb(h:Inv s0 ba bt p nv ev fv w)(f:Fb s0 bt w w')(hb:w'.heap[bt]? = w.heap[bt]?):Inv s0 ba bt p nv ev fv w':=
 ⟨GW.fb h.gw f,h.gl,h.sb,f.heap h.box,RC.keeps f.keeps h.nds,RC.keeps f.keeps h.eds,RC.keeps f.keeps h.fds,h.told.mono hb fun x v hR n q t ht hx=>(hR n q t ht hx).fb f⟩
theorem Inv.grow(h:Inv s0 ba bt p nv ev fv w)(b:Go.Abs.Below w.heap.size w w'):Inv s0 ba bt p nv ev fv w':=h.fb (Fb.of b) (b.block bt h.lt)
theorem Inv.cells(h:Inv s0 ba bt p nv ev fv w):w.cell? ⟨ba,0,none⟩=some nv/\w.cell? ⟨ba,1,none⟩=some ev/\w.cell? ⟨ba,2,none⟩=some (.int .i64 p.rd)/\w.cell? ⟨ba,3,none⟩=some fv/\w.cell? ⟨ba,4,none⟩=some (.map (some bt)):=by
 simp [World.cell?,h.box]
theorem Inv.put(h:Inv s0 ba bt p nv ev fv w)(n:Nat)(q:Int)(t:List Int)(ht:t.length<=4){v:Value}(hv:BG s0 bt 128 (p.sem (n,q,t)) v w)(hbb:ba≠bt)
  (hinj:∀ t',t'.length<=4->tkey t=tkey t'->t=t') :
  ∃ w2,(Instr.mapUpdate 56 (.map (some bt)) (plV n q (tkey t).1 (tkey t).2.1 (tkey t).2.2.1 (tkey t).2.2.2.1 (tkey t).2.2.2.2) v).run Tryd.prog w=.ok () w2/\Inv s0 ba bt p nv ev fv w2/\BG s0 bt 128 (p.sem (n,q,t)) v w2/\Fb s0 bt w w2:=by
 obtain⟨es',cl',h1,h2⟩:=h.told.update n q (tkey t).1 (tkey t).2.1 (tkey t).2.2.1 (tkey t).2.2.2.1 (tkey t).2.2.2.2 (v:=v) (fun n' q' t' ht' hx=>by
  have e1:((n:Int),q,tkey t)=((n':Int),q',tkey t'):=hx
  have e2:=congrArg (fun z:Int×Int×_=>z.1) e1
  have e3:=congrArg (fun z:Int×Int×_=>z.2.1) e1
  have e4:=congrArg (fun z:Int×Int×_=>z.2.2) e1
  simp only at e2 e3 e4
  obtain rfl:=hinj t' ht' e4
  obtain rfl:n=n':=by omega
  subst e3
  exact hv)
 have hlt:=h.lt
 have hne:∀ k,k≠bt->(setBlock w bt (.map es' cl')).heap[k]? = w.heap[k]?:=fun k hk=>by
  simp only [setBlock,zk]
  rw [zL (Ne.symm hk)]
 have f:Fb s0 bt w (setBlock w bt (.map es' cl')):=by
  refine⟨rfl,TDr.rfl,rfl,by simp [setBlock],fun k o hk hc=>?_,fun c d h1 h2 hb=>qtw hb (hne c h2)⟩
  have:k≠bt:=by
   rintro rfl
   obtain⟨es,cl,xs,g1,_⟩:=h.told.ex
   rw [g1] at hk;cases hk
   rcases hc with hc | hc
   ·have:=h.sb;omega
   ·cases hc
  rw [hne k this];exact hk
 refine⟨_,h1,⟨GW.fb h.gw f,h.gl,h.sb,f.heap h.box,RC.keeps f.keeps h.nds,RC.keeps f.keeps h.eds,RC.keeps f.keeps h.fds,?_⟩,hv.fb f,f⟩
 obtain⟨es,clk,xs,g1,g2,g3⟩:=h2.ex
 exact⟨es,clk,xs,g1,g2,fun j e y he hy n q t ht hx=>(g3 j e y he hy n q t ht hx).fb f⟩
end
end Go.Proofs.YtnhjpicdijeagaaDoor

namespace Go.Proofs.YtnhjpicdijeagaaDoor
open Go.Abs Go.Bag Go.RowKit
structure POk (p:Pl):Prop where
 gr:Gh.GrOk p.ns p.es
 one:∀ x∈p.ns,x.1=2->1<=x.2.2.1
 two:∀ x∈p.ns,x.1=3->x.2.2.1=9\/x.2.2.1=10
 rd:0<=p.rd/\p.rd<=8
 fl:p.fs.length<=60
 fr:∀ f∈p.fs,f.2.2.length<=128
structure Val (p:Pl) (s:S3):Prop where
 lt:s.1<p.ns.length
 p0:0<=s.2.1
 pn:s.2.1<Gh.prt (ndA p.ns s.1)
 len:(s.2.2.length:Int)=(ndA p.ns s.1).2.1
 nn:∀ x∈s.2.2,(0:Int)<=x/\x<=1048576
theorem qwe{ns:List Nd}{i:Nat}(h:i<ns.length):ndA ns i∈ns:=qdP h
theorem POk.nd{p:Pl}(h:POk p){i:Nat}(hi:i<p.ns.length):(1<=(ndA p.ns i).2.1/\(ndA p.ns i).2.1<=4/\1<=(ndA p.ns i).1/\(ndA p.ns i).1<=6/\((ndA p.ns i).1=1->(ndA p.ns i).2.1=1)/\((ndA p.ns i).1=4->(ndA p.ns i).2.1≠4)/\(5<=(ndA p.ns i).1->2<=(ndA p.ns i).2.1)):=
 Gh.nodeOk_iff.1 (h.gr.nodes _ (qwe hi))
structure EdOk (p:Pl) (s:S3):Prop where
 lt:edI p.es s.1 s.2.1<p.es.length
 to:(nth Gh.z3 p.es (edI p.es s.1 s.2.1)).2.1=(s.1:Int)
 po:(nth Gh.z3 p.es (edI p.es s.1 s.2.1)).2.2=s.2.1
 fr:(nth Gh.z3 p.es (edI p.es s.1 s.2.1)).1=(frO p.es s.1 s.2.1:Int)
 fl:frO p.es s.1 s.2.1<p.ns.length
 out:Gh.outOf (ndA p.ns (frO p.es s.1 s.2.1))=(ndA p.ns s.1).2.1
 fst:∀ j,j<edI p.es s.1 s.2.1->¬ ((nth Gh.z3 p.es j).2.1=(s.1:Int)/\(nth Gh.z3 p.es j).2.2=s.2.1)
theorem Val.ed{p:Pl}(h:POk p){s:S3}(v:Val p s):EdOk p s:=by
 have hm:=(Gh.ports_iff (ns:=p.ns) (es:=p.es) h.gr.edges).2 h.gr.ports
 have hex:∃ e∈p.es,e.2.1=(s.1:Int)/\e.2.2=s.2.1:=by
  refine Classical.byContradiction fun hno=>hm ⟨s.1,s.2.1.toNat,v.lt,?_,fun e he hc=>hno ⟨e,he,hc.1,?_⟩⟩
  ·have:=v.p0;have:=v.pn;rw [zBx v.p0];exact v.pn
  ·rw [hc.2,zBx v.p0]
 have hlt:edI p.es s.1 s.2.1<p.es.length:=by
  unfold edI
  rw [List.findIdx_lt_length]
  obtain⟨e,he,h1,h2⟩:=hex
  exact⟨e,he,by simp [h1,h2]⟩
 have hat:=List.findIdx_getElem (xs:=p.es) (p:=fun e:Ed=>decide (e.2.1=(s.1:Int)/\e.2.2=s.2.1)) (w:=hlt)
 have hn:nth Gh.z3 p.es (edI p.es s.1 s.2.1)=p.es[edI p.es s.1 s.2.1]:=qfj hlt
 have hat2:(nth Gh.z3 p.es (edI p.es s.1 s.2.1)).2.1=(s.1:Int)/\(nth Gh.z3 p.es (edI p.es s.1 s.2.1)).2.2=s.2.1:=by
  rw [hn];exact zV hat
 have ho:=h.gr.edges _ hlt
 have hfr:(nth Gh.z3 p.es (edI p.es s.1 s.2.1)).1=(frO p.es s.1 s.2.1:Int):=by
  unfold frO
  rw [zBx ho.f0]
 refine⟨hlt,hat2.1,hat2.2,hfr,?_,?_,fun j hj hc=>?_⟩
 ·have:=ho.fn
  have e1:(nth ((0:Int),(0:Int),(0:Int)) p.es (edI p.es s.1 s.2.1)).1=(frO p.es s.1 s.2.1:Int):=hfr
  rw [e1] at this;omega
 ·have:=ho.deep
  have e1:(nth ((0:Int),(0:Int),(0:Int)) p.es (edI p.es s.1 s.2.1)).2.1=(s.1:Int):=hat2.1
  rw [e1] at this
  exact this
 ·have:=List.not_of_lt_findIdx (xs:=p.es) (p:=fun e:Ed=>decide (e.2.1=(s.1:Int)/\e.2.2=s.2.1)) hj
  rw [qfj (show j<p.es.length by omega)] at hc
  exact absurd (decide_eq_true hc) (by simpa using this)
theorem qCl{p:Pl}(h:POk p){s:S3}(e:EdOk p s){N:Nat}(hN:1000<=N):qaN N (p.es,(s.1:Int),s.2.1)=some ((edI p.es s.1 s.2.1:Int),(s.1:Int),s.2.1):=by
 have hl:=h.gr.e20
 simp only [qaN,qbr,joinD,loopE]
 have hb:∀ (K:Int×Int->_) (i:Nat),i<p.es.length->∀ kn,qaK N K p.es (p.es.length:Int) (i:Int) (s.1:Int) s.2.1 (backE (p.es,(p.es.length:Int)) kn) =
   if (nth Gh.z3 p.es i).2.1=(s.1:Int)/\(nth Gh.z3 p.es i).2.2=s.2.1 then some ((i:Int),(s.1:Int),s.2.1) else kn ((i:Int)+1,(s.1:Int),s.2.1):=fun K i hi kn=>by
  simp only [qaK,lt_d hi,ge0_d,Int.toNat_natCast,Bool.and_self,cond_true,qbe,qeo,ix1 hi (by omega),qaq]
  have e3:nth ((0:Int),(0:Int),(0:Int)) p.es i=nth Gh.z3 p.es i:=rfl
  rw [e3]
  by_cases q1:(nth Gh.z3 p.es i).2.1=(s.1:Int)
  ·rw [show ((nth Gh.z3 p.es i).2.1==(s.1:Int))=true from beq_iff_eq.2 q1,cond_true]
   by_cases q2:(nth Gh.z3 p.es i).2.2=s.2.1
   ·rw [zJ ⟨q1,q2⟩]
    simp only [Option.bind_some,show ((nth Gh.z3 p.es i).2.2==s.2.1)=true from beq_iff_eq.2 q2,cond_true]
   ·rw [zL (fun q=>q2 q.2)]
    simp only [Option.bind_some,show ((nth Gh.z3 p.es i).2.2==s.2.1)=false from zO q2,cond_false]
  ·rw [show ((nth Gh.z3 p.es i).2.1==(s.1:Int))=false from zO q1,cond_false,zL (fun q=>q1 q.1)]
   simp only [Option.bind_some,cond_false]
 refine qcJ (edI p.es s.1 s.2.1) (fun i=>((i:Int),(s.1:Int),s.2.1)) (fun i hi kn=>?_) (fun kn=>?_) (by have:=e.lt;omega)
 ·rw [hb _ i (by have:=e.lt;omega),zL (e.fst i hi)];rfl
 ·rw [hb _ _ e.lt,zJ ⟨e.to,e.po⟩]
theorem qDp{w:World}{b5 b6:Nat}{x y:Int}(h5:w.heap[b5]? = some (.cells #[.int .i64 x] 3 (0,0)))(h6:w.heap[b6]? = some (.cells #[.int .i64 y] 3 (0,0)))(hne:b5≠b6) :
  Rep w (fun b=>b=b5\/b=b6) (fun _=>False) w [.cells [.int .i64 x],.cells [.int .i64 y]] (fun o=>if o=0 then ⟨some b5,0,[]⟩ else ⟨some b6,0,[]⟩) where
 fr:=⟨rfl,TDr.rfl,rfl,Nat.le_refl _,fun _ _ _=>rfl⟩
 m0:=fun b h=>h.elim
 inA:=by
  rintro b ⟨o,hl,ha⟩
  match o,hl,ha with
  | 0,_,ha=>cases ha;exact .inl (.inl rfl)
  | 1,_,ha=>cases ha;exact .inl (.inr rfl)
  | _+2,hl,_=>exact hl.elim
 apart:=fun o o' b h1 h2 h3 h4=>by
  match o,o',h1,h2,h3,h4 with
  | 0,0,_,_,_,_=>rfl
  | 1,1,_,_,_,_=>rfl
  | 0,1,_,_,h3,h4=>cases h3;cases h4;exact absurd rfl hne
  | 1,0,_,_,h3,h4=>cases h3;cases h4;exact absurd rfl hne
  | _+2,_,h1,_,_,_=>exact h1.elim
  | _,_+2,_,h2,_,_=>exact h2.elim
 obj:=fun o=>by
  match o with
  | 0=>exact⟨b5,3,_,rfl,h5,⟨_,_,rfl,rfl,rfl⟩,by simp [Value.oneCell']⟩
  | 1=>exact⟨b6,3,_,rfl,h6,⟨_,_,rfl,rfl,rfl⟩,by simp [Value.oneCell']⟩
  | _+2=>trivial
theorem qyy{s0 ba bt:Nat}{p:Pl}{nv ev fv:Value}(h:POk p){s:S3}(e:EdOk p s){W w:World}{b5 b6:Nat}(hI:Inv s0 ba bt p nv ev fv W)(hs:s0<=W.heap.size)(hB:Go.Abs.Below W.heap.size W w)(h5:W.heap.size<=b5)(h56:b5<b6)
  (q5:w.heap[b5]? = some (.cells #[.int .i64 (s.1:Int)] 3 (0,0))) (q6:w.heap[b6]? = some (.cells #[.int .i64 s.2.1] 3 (0,0))) :
  Calls Tryd.prog 29 #[ev,.func (.func 30) #[] #[.pointer (some ⟨b5,0,none⟩),.pointer (some ⟨b6,0,none⟩)]] w fun e' w'=>e'=.returned (.int .i64 (edI p.es s.1 s.2.1:Int))/\Go.Abs.Below W.heap.size W w'/\∀ k,k<w.heap.size->k≠b5->k≠b6->w'.heap[k]? = w.heap[k]?:=by
 refine (qcW 100000 w (fun b=>b=b5\/b=b6) (fun _=>False) _ (p.es,(s.1:Int),s.2.1) _ [ev,.func (.func 30) #[] #[.pointer (some ⟨b5,0,none⟩),.pointer (some ⟨b6,0,none⟩)]] (GW.below hI.gw hB) (fun g hg q=>?_) (qDp q5 q6 (by omega)) ?_ (qCl h e (by omega))).mono ?_
 ·have:=hI.gl g hg
  omega
 ·refine⟨_,_,rfl,?_,_,_,rfl,?_,rfl⟩
  ·show RC _ _ _ _ _
   refine RC.keeps (w:=W) (M:=DM s0 W) ⟨hB.size,fun b hb _=>hB.block b hb,fun b hb _ hm=>?_⟩ hI.eds
   rcases hm with hm | ⟨o,hl,ha⟩
   ·exact hm
   ·match o,hl,ha with
    | 0,_,ha=>cases ha;omega
    | 1,_,ha=>cases ha;omega
    | _+2,hl,_=>exact hl.elim
  ·exact⟨#[.pointer (some ⟨b5,0,none⟩),.pointer (some ⟨b6,0,none⟩)],rfl,_,_,rfl,⟨b5,rfl,rfl⟩,_,_,rfl,⟨b6,rfl,rfl⟩,rfl⟩
 ·rintro e' w' ⟨v,σ',rfl,N,hv⟩
  have hv:RV w' _ _ σ' (.int .i64 (edI p.es s.1 s.2.1:Int)) v:=hv
  simp only [RV] at hv
  subst hv
  have f:=N.rep.fr
  exact⟨rfl,⟨f.os.trans hB.os,TDr.trans f.tape hB.tape,f.output.trans hB.output,zn hB.size f.size,fun k hk=>(f.block k (zM hk hB.size) (by omega)).trans (hB.block k hk)⟩,fun k hk h1 h2=>f.block k hk (by omega)⟩
end Go.Proofs.YtnhjpicdijeagaaDoor

namespace Go.Proofs.YtnhjpicdijeagaaDoor
open Go.Abs Go.Bag Go.RowKit
theorem row_of{w:World}{M:Nat->Prop}{s:Sh}{xs:List s.den}{v:Value}(h:RC w M (.sl s) xs [v]):∃ a cap,v=.slice a xs.length cap/\xs.length<=cap/\(xs ≠ []->∃ b q,a=some ⟨b,q,none⟩/\RowAt (RC w M s) s.n w b q xs):=by
 simp only [RC] at h
 obtain⟨a,cap,h1,h2,h3,h4⟩:=h
 cases h1
 refine⟨a,cap,rfl,h2,fun hne=>?_⟩
 obtain⟨b,q,k1,k2,k3,k4⟩:=h4 hne
 exact⟨b,q,k1,k4⟩
theorem quk{w:World}{M:Nat->Prop}{s:Sh}{xs:List s.den}{b q n cap:Nat}(h:RC w M (.sl s) xs [.slice (some ⟨b,q,none⟩) n cap])(hne:xs ≠ []):RowAt (RC w M s) s.n w b q xs:=by
 obtain⟨a,cap',h1,h2,h3⟩:=row_of h
 cases h1
 obtain⟨b',q',e,h4⟩:=h3 hne
 cases e
 exact h4
theorem qBU{w:World}{M:Nat->Prop}{b q i:Nat}{ns:List Nd}(h:RowAt (RC w M ndS) ndS.n w b q ns)(hi:i<ns.length) :
  w.cell? ⟨b,q+i*5,none⟩=some (.int .i64 (ndA ns i).1)/\w.cell? ⟨b,q+i*5+1,none⟩=some (.int .i64 (ndA ns i).2.1)/\w.cell? ⟨b,q+i*5+2,none⟩=some (.int .i64 (ndA ns i).2.2.1) /\
   w.cell? ⟨b,q+i*5+3,none⟩=some (.int .i64 (ndA ns i).2.2.2.1)/\w.cell? ⟨b,q+i*5+4,none⟩=some (.int .i64 (ndA ns i).2.2.2.2):=by
 obtain⟨cs,g1,g2⟩:=h i ns[i] (zW hi)
 have e:ndA ns i=ns[i]:=qfj hi
 rw [e]
 simp only [RC] at g2
 obtain⟨_,_,rfl,rfl,_,_,rfl,rfl,_,_,rfl,rfl,_,_,rfl,rfl,rfl⟩:=g2
 exact⟨(g1 0 _ rfl).1,(g1 1 _ rfl).1,(g1 2 _ rfl).1,(g1 3 _ rfl).1,(g1 4 _ rfl).1⟩
theorem qDO{w:World}{M:Nat->Prop}{b q i:Nat}{es:List Ed}(h:RowAt (RC w M edS) edS.n w b q es)(hi:i<es.length):w.cell? ⟨b,q+i*3,none⟩=some (.int .i64 (nth Gh.z3 es i).1):=by
 obtain⟨cs,g1,g2⟩:=h i es[i] (zW hi)
 have e:nth Gh.z3 es i=es[i]:=qfj hi
 rw [e]
 simp only [RC] at g2
 obtain⟨_,_,rfl,rfl,_,_,rfl,rfl,rfl⟩:=g2
 exact (g1 0 _ rfl).1
theorem qCv{w:World}{M:Nat->Prop}{b q i:Nat}{fs:List Fd}(h:RowAt (RC w M fdS) fdS.n w b q fs)(hi:i<fs.length) :
  w.cell? ⟨b,q+i*3,none⟩=some (.int .i64 (nth zF fs i).1)/\w.cell? ⟨b,q+i*3+1,none⟩=some (.int .i64 (nth zF fs i).2.1)/\∃ v,w.cell? ⟨b,q+i*3+2,none⟩=some v/\RC w M rlS (nth zF fs i).2.2 [v]:=by
 obtain⟨cs,g1,g2⟩:=h i fs[i] (zW hi)
 have e:nth zF fs i=fs[i]:=qfj hi
 rw [e]
 obtain⟨_,_,rfl,h1,_,_,rfl,h2,h3⟩:=g2
 have h1:_ = [Value.int .i64 fs[i].1]:=h1
 have h2:_ = [Value.int .i64 fs[i].2.1]:=h2
 subst h1;subst h2
 have h3:RC w M rlS fs[i].2.2 _:=h3
 have h4:=h3
 simp only [RC] at h4
 obtain⟨a,cap,rfl,_⟩:=h4
 exact⟨(g1 0 _ rfl).1,(g1 1 _ rfl).1,_,(g1 2 _ rfl).1,h3⟩
theorem qxR{w:World}{M:Nat->Prop}{k v:Sh}:{xs:List (Int×(k.den×v.den))} -> {es:List MapEntry}->MEs w M k v xs es->es.length=xs.length
 | [],es,h=>by have h:es = []:=h;subst h;rfl
 | _ :: _,_,⟨e,r,rfl,_,h⟩=>by simp [qxR h]
theorem qDz{w:World}{c:Nat}{d:BagD}(h:BagAt w c d):(Builtin.len_ #[60] 3 #[.map (some c)]).run Tryd.prog w=.ok (.int .i64 (d.2.length:Int)) w:=by
 obtain⟨b,es,cl,h1,h2,h3,h4,h5,h6⟩:=h
 cases h1
 have hl:=qxR h4
 simp at hl
 simp [Builtin.len_,go_sem,MapKept.run_getObj_map h2,Result.andThen,hl]
theorem qBy{t t':List Int}(h:t.length<=4)(h':t'.length<=4)(e:tkey t=tkey t'):t=t':=by
 have hl:t.length=t'.length:=by
  have:=congrArg (fun z:Int×Int×Int×Int×Int=>z.1) e
  simp only [tkey] at this
  omega
 match t,t',hl with
 | [],[],_=>rfl
 | [a],[b],_=>simp [tkey,cpy,nth] at e;simp [e]
 | [a,a1],[b,b1],_=>simp [tkey,cpy,nth] at e;simp [e]
 | [a,a1,a2],[b,b1,b2],_=>simp [tkey,cpy,nth] at e;simp [e]
 | [a,a1,a2,a3],[b,b1,b2,b3],_=>simp [tkey,cpy,nth] at e;simp [e]
 | _ :: _ :: _ :: _ :: _ :: _,_,_=>simp at h
theorem qCi{s0:Nat}{t:List Int}{v:Value}{w:World}(hg:GW Gs w)(h:Tm s0 t v w)(hs:s0<=w.heap.size) :
  Calls Tryd.prog 28 #[v] w fun e w'=>e=.returned (.agg #[.int .i64 (tkey t).1,.int .i64 (tkey t).2.1,.int .i64 (tkey t).2.2.1,.int .i64 (tkey t).2.2.2.1,.int .i64 (tkey t).2.2.2.2])/\Go.Abs.Below w.heap.size w w':=by
 refine (qqN 1000 (fun _=>False) w (t,()) (tkey t,()) [v] (fun b hb=>hb.elim) hg ⟨_,_,rfl,?_,rfl⟩ rfl).mono ?_
 ·show RC _ _ _ _ _
  exact RC.keeps (qbW fun b hb=>hb.elim) h
 ·rintro e w' ⟨x,rfl,hb,hx⟩
  obtain⟨cs,rfl,-,r1⟩:=hx
  have r1:RVs w' _ [] σ0 [.int .i64 (tkey t).1,.int .i64 (tkey t).2.1,.int .i64 (tkey t).2.2.1,.int .i64 (tkey t).2.2.2.1,.int .i64 (tkey t).2.2.2.2] cs.toList:=r1
  simp only [RVs,RV] at r1
  obtain⟨_,_,f1,rfl,_,_,rfl,rfl,_,_,rfl,rfl,_,_,rfl,rfl,_,_,rfl,rfl,rfl⟩:=r1
  have:cs = #[.int .i64 (tkey t).1,.int .i64 (tkey t).2.1,.int .i64 (tkey t).2.2.1,.int .i64 (tkey t).2.2.2.1,.int .i64 (tkey t).2.2.2.2]:=by apply Array.ext';rw [f1]
  subst this
  exact⟨rfl,hb⟩
theorem Val.ask{p:Pl}(h:POk p){s:S3}(v:Val p s){q:Int}{t':List Int}(hq:0<=q/\q<Gh.prt (ndA p.ns (frO p.es s.1 s.2.1)))
  (htm:t'=if (ndA p.ns (frO p.es s.1 s.2.1)).1=4 then s.2.2.dropLast else if (ndA p.ns (frO p.es s.1 s.2.1)).1=5 then s.2.2 ++ [p.rd] else if (ndA p.ns (frO p.es s.1 s.2.1)).1=6 then s.2.2.dropLast ++ [s.2.2.getLastD 0 - 1] else s.2.2)
  (hpos:(ndA p.ns (frO p.es s.1 s.2.1)).1=6->0<s.2.2.getLastD 0):R3 p.ns p.es p.rd (frO p.es s.1 s.2.1,q,t') s/\Val p (frO p.es s.1 s.2.1,q,t'):=by
 have E:=v.ed h
 have hlen:=v.len
 have hnn:=v.nn
 have hout:=E.out
 have hd:=h.nd E.fl
 have hd2:=h.nd v.lt
 have hne:s.2.2 ≠ []:=fun e=>by rw [e] at hlen;simp at hlen;omega
 have hdl:s.2.2.dropLast.length=s.2.2.length - 1:=zBR
 have hlast:s.2.2.getLastD 0∈s.2.2:=by
  have:0<s.2.2.length:=zAk.2 hne
  rw [qiz _ hne,zK,zW (by omega)]
  exact zAu _
 have hl1:=hnn _ hlast
 refine⟨⟨⟨_,qdP E.lt,E.fr,E.to⟩,v.lt,E.fl,hlen,fun x hx=>(hnn x hx).1,htm,hpos⟩,⟨E.fl,hq.1,hq.2,?_,?_⟩⟩
 ·unfold Gh.outOf at hout
  show (t'.length:Int)=(ndA p.ns (frO p.es s.1 s.2.1)).2.1
  rw [htm]
  by_cases k4:(ndA p.ns (frO p.es s.1 s.2.1)).1=4
  ·rw [zJ k4] at hout ⊢;omega
  ·rw [zL k4] at hout ⊢
   by_cases k5:(ndA p.ns (frO p.es s.1 s.2.1)).1=5
   ·rw [zJ k5] at hout ⊢;simp;omega
   ·rw [zL k5] at hout ⊢
    by_cases k6:(ndA p.ns (frO p.es s.1 s.2.1)).1=6
    ·rw [zJ k6];simp;omega
    ·rw [zL k6];omega
 ·intro x hx
  have hx:x∈t':=hx
  rw [htm] at hx
  have hr:=h.rd
  split at hx
  ·exact hnn x (List.dropLast_subset _ hx)
  ·split at hx
   ·rcases zU.1 hx with hx | hx
    ·exact hnn x hx
    ·simp at hx;omega
   ·split at hx
    ·rename_i k6
     have:=hpos k6
     rcases zU.1 hx with hx | hx
     ·exact hnn x (List.dropLast_subset _ hx)
     ·rw [zAG] at hx;omega
    ·exact hnn x hx
end Go.Proofs.YtnhjpicdijeagaaDoor

namespace Go.Proofs.YtnhjpicdijeagaaDoor
open Go.Abs Go.Bag Go.RowKit
section
variable {s0 ba bt : Nat} {p : Pl} {nv ev fv : Value}
def CC(s0 ba bt:Nat)(p:Pl)(nv ev fv:Value)(s:S3):Prop:=∀ (w:World) (vt:Value),Inv s0 ba bt p nv ev fv w->Tm s0 s.2.2 vt w ->
 Calls Tryd.prog 16 #[.pointer (some ⟨ba,0,none⟩),.int .i64 (s.1:Int),.int .i64 s.2.1,vt] w (CPost s0 bt w (Inv s0 ba bt p nv ev fv) (BG s0 bt 128 (p.sem s)) (p.sem s=none))
open Classical in
noncomputable def rcF(p:Pl)(s:S3)(s':S3):Option Fn:=if R3 p.ns p.es p.rd s' s then p.sem s' else none
theorem qru{p:Pl}{s s':S3}(h:R3 p.ns p.es p.rd s' s):rcF p s s'=p.sem s':=zJ h
noncomputable def gF(p:Pl)(s:S3):Option Fn:=bodyG p.ns p.rd p.fs (rcF p s) (frO p.es s.1 s.2.1) s.2.2
theorem sem_g{p:Pl}(h:POk p)(s:S3):p.sem s=(gF p s).bind fun F=>if 128<(rowsF F).length then none else some F:=qsv h.gr p.rd p.fs s
theorem nodeAt{I:World->Prop}(hI:∀ w,I w->Inv s0 ba bt p nv ev fv w)(hg:∀ w w',I w->Go.Abs.Below w.heap.size w w'->I w'){bn qn cn i:Nat}(hn:nv=.slice (some ⟨bn,qn,none⟩) p.ns.length cn)(hi:i<p.ns.length)(h12:p.ns.length<=12) :
  NodeAt ba bt bn qn i p.ns.length cn (ndA p.ns i).1 (ndA p.ns i).2.1 (ndA p.ns i).2.2.1 (ndA p.ns i).2.2.2.1 (ndA p.ns i).2.2.2.2 I:=by
 subst hn
 have hne:p.ns ≠ []:=fun e=>by rw [e] at hi;simp at hi
 have hc:=fun w (h:I w)=>qBU (quk (hI w h).nds hne) hi
 exact⟨fun w h=>(hI w h).cells.1,fun w h=>(hc w h).1,fun w h=>(hc w h).2.1,fun w h=>(hc w h).2.2.1,fun w h=>(hc w h).2.2.2.1,fun w h=>(hc w h).2.2.2.2,fun w h=>(hI w h).lt,hg,hi,by omega⟩
theorem qjT{w:World}(h:Inv s0 ba bt p nv ev fv w)(hne:p.ns ≠ []):∃ bn qn cn,nv=.slice (some ⟨bn,qn,none⟩) p.ns.length cn:=by
 obtain⟨a,cap,rfl,_,h3⟩:=row_of h.nds
 obtain⟨b,q,rfl,_⟩:=h3 hne
 exact⟨b,q,cap,rfl⟩
theorem qBe{w w':World}{c' m:Nat}{d':BagD}{F:Fn}{o:Option Fn}(hI:Inv s0 ba bt p nv ev fv w)(ho:o=some F)(hc:w.heap.size<=c')(hb:BagAt w' c' d')(hk:BOk F d')(hl:d'.2.length<=m):BG s0 bt m o (.map (some c')) w':=by
 have:=hI.lt
 have:=hI.sb
 exact⟨F,c',d',ho,rfl,by omega,by omega,hb,hk,hl⟩
theorem bg_le{m m':Nat}{o:Option Fn}{v:Value}{w:World}(h:BG s0 bt m o v w)(hm:m<=m'):BG s0 bt m' o v w:=by
 obtain⟨F,c,d,h1,h2,h3,h4,h5,h6,h7⟩:=h
 exact⟨F,c,d,h1,h2,h3,h4,h5,h6,by omega⟩
theorem qnj{s:S3}(hc:CC s0 ba bt p nv ev fv s){I:World->Prop}{K:World->Prop}(hI:∀ w,I w↔Inv s0 ba bt p nv ev fv w/\K w)(hK:∀ w w',K w->Fb s0 bt w w'->K w'){Bad:Prop}(hb:p.sem s=none->Bad){w:World}{vt:Value}(h:I w)(ht:Tm s0 s.2.2 vt w) :
  Calls Tryd.prog 16 #[.pointer (some ⟨ba,0,none⟩),.int .i64 (s.1:Int),.int .i64 s.2.1,vt] w (CPost s0 bt w I (BG s0 bt 128 (p.sem s)) Bad):=by
 refine (hc w vt ((hI w).1 h).1 ht).mono ?_
 rintro e w' ⟨hf,⟨v,rfl,hv,hi⟩ | ⟨rfl,hbad⟩⟩
 ·exact⟨hf,.inl ⟨v,rfl,hv,(hI w').2 ⟨hi,hK w w' ((hI w).1 h).2 hf⟩⟩⟩
 ·exact⟨hf,.inr ⟨rfl,hb hbad⟩⟩
theorem qgu{I:World->Prop}(hI:∀ w,I w->Inv s0 ba bt p nv ev fv w){W:World}{G:Value->World->Prop}{Bad:Prop}{e:Ending}{w':World}(h:GPost s0 bt W I G Bad e w'):GPost s0 bt W (Inv s0 ba bt p nv ev fv) G Bad e w':=by
 obtain⟨hf,⟨v,h1,h2,h3⟩ | h4⟩:=h
 ·exact⟨hf,.inl ⟨v,h1,h2,hI _ h3⟩⟩
 ·exact⟨hf,.inr h4⟩
variable {s : S3}
def GG(s0 ba bt:Nat)(p:Pl)(nv ev fv:Value)(s:S3):Prop:=∀ (w:World) (vt:Value),Inv s0 ba bt p nv ev fv w->Tm s0 s.2.2 vt w ->
 Calls Tryd.prog 31 #[.pointer (some ⟨ba,0,none⟩),.int .i64 (frO p.es s.1 s.2.1:Int),vt] w (GPost s0 bt w (Inv s0 ba bt p nv ev fv) (BG s0 bt 20000 (gF p s)) (gF p s=none))
theorem qlB{α:Type}{l:List α}{i:Nat}(h:i<l.length):l ≠ []:=fun e=>by rw [e] at h;simp at h
theorem go2(h:POk p)(v:Val p s)(IH:∀ s',R3 p.ns p.es p.rd s' s->Val p s'->CC s0 ba bt p nv ev fv s')(k:(ndA p.ns (frO p.es s.1 s.2.1)).1=2):GG s0 ba bt p nv ev fv s:=by
 intro w vt hi ht
 have E:=v.ed h
 obtain⟨bn,qn,cn,hn⟩:=qjT hi (qlB E.fl)
 have hout:=E.out
 obtain⟨hR,hV⟩:=v.ask h (q:=0) (t':=s.2.2) (by unfold Gh.prt;rw [k];decide) (by rw [k];rfl) (by rw [k];intro q;cases q)
 have hg:gF p s=(p.sem (frO p.es s.1 s.2.1,0,s.2.2)).map (opF (ndA p.ns (frO p.es s.1 s.2.1)).2.2.1 (ndA p.ns (frO p.es s.1 s.2.1)).2.2.2.1 (ndA p.ns (frO p.es s.1 s.2.1)).2.2.2.2):=by
  unfold gF bodyG
  simp only [k,qru hR]
  rfl
 have N:=nodeAt (I:=fun w=>Inv s0 ba bt p nv ev fv w/\Tm s0 s.2.2 vt w) (fun w q=>q.1) (fun w w' q b=>⟨q.1.grow b,q.2.fb (bt:=bt) (Fb.of b)⟩) hn E.fl h.gr.n12
 rw [k] at N
 refine (qCp s0 ba bt bn qn _ _ cn _ _ _ _ vt w _ (BG s0 bt 20000 (gF p s)) (gF p s=none) N ⟨hi,ht⟩ (BG s0 bt 128 (p.sem (frO p.es s.1 s.2.1,0,s.2.2))) (fun v w w' q f=>q.fb f) (fun w q=>?_) (fun w v q hv=>?_)).mono (fun e w' q=>qgu (fun w q=>q.1) q)
 ·exact qnj (IH _ hR hV) (fun w=>Iff.rfl) (fun w w' q f=>q.fb f) (fun e=>by rw [hg,e];rfl) q q.2
 ·obtain⟨F,c,d,h1,rfl,h3,h4,h5,h6,h7⟩:=hv
  refine (qzZ _ _ _ (h.one _ (qwe E.fl) k) q.1.gw h5 h6 h7).mono ?_
  rintro e w' ⟨hb,c',d',rfl,g1,g2,g3,g4⟩
  exact⟨Fb.of hb,⟨q.1.grow hb,q.2.fb (bt:=bt) (Fb.of hb)⟩,_,rfl,qBe q.1 (by rw [hg,h1];rfl) g1 g2 g3 (by omega)⟩
theorem go3(h:POk p)(v:Val p s)(IH:∀ s',R3 p.ns p.es p.rd s' s->Val p s'->CC s0 ba bt p nv ev fv s')(k:(ndA p.ns (frO p.es s.1 s.2.1)).1=3):GG s0 ba bt p nv ev fv s:=by
 intro w vt hi ht
 have E:=v.ed h
 obtain⟨bn,qn,cn,hn⟩:=qjT hi (qlB E.fl)
 obtain⟨hR,hV⟩:=v.ask h (q:=0) (t':=s.2.2) (by unfold Gh.prt;rw [k];decide) (by rw [k];rfl) (by rw [k];intro q;cases q)
 obtain⟨hR1,hV1⟩:=v.ask h (q:=1) (t':=s.2.2) (by unfold Gh.prt;rw [k];decide) (by rw [k];rfl) (by rw [k];intro q;cases q)
 have hg:gF p s=(p.sem (frO p.es s.1 s.2.1,0,s.2.2)).bind fun F=>(p.sem (frO p.es s.1 s.2.1,1,s.2.2)).map fun G=>pairF (ndA p.ns (frO p.es s.1 s.2.1)).2.2.1 (ndA p.ns (frO p.es s.1 s.2.1)).2.2.2.1 (ndA p.ns (frO p.es s.1 s.2.1)).2.2.2.2 F G:=by
  unfold gF bodyG
  simp only [k,qru hR,qru hR1]
  rfl
 have N:=nodeAt (I:=fun w=>Inv s0 ba bt p nv ev fv w/\Tm s0 s.2.2 vt w) (fun w q=>q.1) (fun w w' q b=>⟨q.1.grow b,q.2.fb (bt:=bt) (Fb.of b)⟩) hn E.fl h.gr.n12
 rw [k] at N
 refine (qCo s0 ba bt bn qn _ _ cn _ _ _ _ vt w _ (BG s0 bt 20000 (gF p s)) (gF p s=none) N ⟨hi,ht⟩ (BG s0 bt 128 (p.sem (frO p.es s.1 s.2.1,0,s.2.2))) (BG s0 bt 128 (p.sem (frO p.es s.1 s.2.1,1,s.2.2))) (fun v w w' q f=>q.fb f) (fun v w w' q f=>q.fb f) (fun w q=>?_) (fun w q=>?_) (fun w v v1 q hv hv1=>?_)).mono (fun e w' q=>qgu (fun w q=>q.1) q)
 ·exact qnj (IH _ hR hV) (fun w=>Iff.rfl) (fun w w' q f=>q.fb f) (fun e=>by rw [hg,e];rfl) q q.2
 ·exact qnj (IH _ hR1 hV1) (fun w=>Iff.rfl) (fun w w' q f=>q.fb f) (fun e=>by rw [hg,e];cases p.sem (frO p.es s.1 s.2.1,0,s.2.2) <;> rfl) q q.2
 ·obtain⟨F,c,d,h1,rfl,h3,h4,h5,h6,h7⟩:=hv
  obtain⟨F2,c2,d2,h12,rfl,h32,h42,h52,h62,h72⟩:=hv1
  refine (qzB _ _ _ (h.two _ (qwe E.fl) k) q.1.gw h5 h6 h7 h52 h62 h72).mono ?_
  rintro e w' ⟨hb,c',d',rfl,g1,g2,g3,g4⟩
  exact⟨Fb.of hb,⟨q.1.grow hb,q.2.fb (bt:=bt) (Fb.of hb)⟩,_,rfl,qBe q.1 (by rw [hg,h1,h12];rfl) g1 g2 g3 g4⟩
theorem qDg{t:List Int}{b q m cap:Nat}{w:World}(h:Tm s0 t (.slice (some ⟨b,q,none⟩) (m+1) cap) w)(hl:t.length=m+1):Tm s0 t.dropLast (.slice (some ⟨b,q,none⟩) m cap) w:=by
 unfold Tm at h ⊢
 simp only [RC] at h ⊢
 obtain⟨a,cp,h1,h2,h3,h4⟩:=h
 simp only [zz,Value.slice.injEq,and_true] at h1
 obtain⟨rfl,-,rfl⟩:=h1
 have hd:t.dropLast.length=m:=by rw [zBR];omega
 refine⟨_,cap,by rw [hd],by omega,h3,fun hne=>?_⟩
 obtain⟨b',q',k1,k2,k3,k4⟩:=h4 (fun e=>by rw [e] at hl;simp at hl)
 refine⟨b',q',k1,k2,k3,fun i x hi=>k4 i x ?_⟩
 rw [List.getElem?_dropLast] at hi
 split at hi
 ·exact hi
 ·cases hi
theorem go4(h:POk p)(v:Val p s)(IH:∀ s',R3 p.ns p.es p.rd s' s->Val p s'->CC s0 ba bt p nv ev fv s')(k:(ndA p.ns (frO p.es s.1 s.2.1)).1=4):GG s0 ba bt p nv ev fv s:=by
 intro w vt hi ht
 have E:=v.ed h
 have hlen:=v.len
 have hd2:=h.nd v.lt
 obtain⟨bn,qn,cn,hn⟩:=qjT hi (qlB E.fl)
 obtain⟨hR,hV⟩:=v.ask h (q:=0) (t':=s.2.2.dropLast) (by unfold Gh.prt;rw [k];decide) (by rw [k];rfl) (by rw [k];intro q;cases q)
 have hg:gF p s=p.sem (frO p.es s.1 s.2.1,0,s.2.2.dropLast):=by
  unfold gF bodyG
  simp only [k,qru hR]
  rfl
 obtain⟨m,hm⟩:∃ m,s.2.2.length=m+1:=⟨s.2.2.length - 1,by omega⟩
 obtain⟨tb,tq,tc,rfl,t2,t3,t4⟩:=ht.slice (fun e=>by rw [e] at hm;simp at hm)
 rw [hm] at ht t2 ⊢
 have N:=nodeAt (I:=fun w=>Inv s0 ba bt p nv ev fv w/\Tm s0 s.2.2 (.slice (some ⟨tb,tq,none⟩) (m+1) tc) w) (fun w q=>q.1) (fun w w' q b=>⟨q.1.grow b,q.2.fb (bt:=bt) (Fb.of b)⟩) hn E.fl h.gr.n12
 rw [k] at N
 refine (qyG s0 ba bt bn qn _ _ cn _ _ _ _ w _ (BG s0 bt 20000 (gF p s)) (gF p s=none) tb tq m tc t2 (by omega) t3 N ⟨hi,ht⟩ (fun w q=>?_)).mono (fun e w' q=>qgu (fun w q=>q.1) q)
 refine (qnj (I:=fun w=>Inv s0 ba bt p nv ev fv w/\Tm s0 s.2.2 (.slice (some ⟨tb,tq,none⟩) (m+1) tc) w) (Bad:=gF p s=none) (IH _ hR hV) (fun w=>Iff.rfl) (fun w w' q f=>q.fb f) (fun e=>by rw [hg,e]) q (qDg q.2 hm)).mono ?_
 rintro e w' ⟨hf,⟨x,h1,h2,h3⟩ | h4⟩
 ·exact⟨hf,.inl ⟨x,h1,by rw [hg];exact bg_le h2 (by omega),h3⟩⟩
 ·exact⟨hf,.inr h4⟩
theorem qAW(t:List Int)(hne:t ≠ [])(hl:t.length<=4)(N:Nat):qaQ N (t,())=some t:=by
 cases t with
 | nil=>exact absurd rfl hne
 | cons a r=>
  simp only [qaQ,qej,List.isEmpty_cons,cond_false]
  rw [qY (show (([]:List Int).length+(a :: r).length)*8<=140737488355328 by simp at hl ⊢;omega)]
  rfl
theorem qEu{t:List Int}{m:Nat}(hm:t.length=m+1)(hl:m<=3)(h0:1<=m)(x:Int)(N:Nat):qiK N (t,x,())=some (t.dropLast ++ [x]):=by
 have e1:IntKind.i64.wrap ((t.length:Int) - 1)=(m:Int):=by rw [hm,w64 (by omega) (by omega)];omega
 have e2:(t.take m).drop 0=t.dropLast:=by rw [List.drop_zero,List.dropLast_eq_take,hm];rfl
 have e3:(t.dropLast).length=m:=by rw [zBR];omega
 simp only [qiK,qpv,e1,Int.toNat_natCast,Int.toNat_zero,e2]
 rw [qAW t.dropLast (fun e=>by rw [e] at e3;simp at e3;omega) (by omega),qY (show (0:Int)<=0 by omega),qY (show (0:Int)<=(m:Int) by omega),qY (show (m:Int)<=(t.length:Int) by omega)]
 simp only [Bool.and_self,cond_true,Option.bind_some]
 rw [qY (show (t.dropLast.length + [x].length)*8<=140737488355328 by simp;omega)]
 rfl
end
end Go.Proofs.YtnhjpicdijeagaaDoor

namespace Go.Proofs.YtnhjpicdijeagaaDoor
open Go.Abs Go.Bag Go.RowKit
theorem qEw{t:TypeId}{n k:Nat}(h:(match Tryd.prog.info? t with | some i=>(match i.zero with | some z=>decide (z.cells.size=i.size/\i.size=n/\i.bytes=k) | none=>false) | none=>false)=true) :
  ∃ (i:TypeInfo) (z:Value),Tryd.prog.info? t=some i/\i.zero=some z/\z.cells.size=i.size/\i.size=n/\i.bytes=k:=by
 split at h
 ·rename_i i hi
  split at h
  ·rename_i z hz
   exact⟨i,z,hi,hz,zV h⟩
  ·cases h
 ·cases h
theorem app_t{w:World}{l:Abs.Loc}{t:List Int}{cs:List Value}{M:Nat->Prop}{b:Nat}{x:Int}(ho:w.ownsRow 0 3 1 (rowV l t.length) t.length cs)(hr:RL w M (.int .i64) t cs)(hl:t.length<=4)(hb:w.cell? ⟨b,0,none⟩=some (.int .i64 x)) :
  ∃ v' w',(Builtin.append_ #[28,28] 28 #[rowV l t.length,.slice (some ⟨b,0,none⟩) 1 1]).run Tryd.prog w=.ok v' w'/\RC w' (fun _=>False) iL (t ++ [x]) [v']/\Fr w (fun k=>l.a=some k) w':=by
 obtain⟨ti,tz,hi,hz',hz2,hz3,hz4⟩:=qEw (t:=3) (n:=1) (k:=8) (by kernel_rfl)
 obtain⟨l',w5,hrun,o5,hcase⟩:=qnp (P:=Tryd.prog) (w:=w) (ty:=28) (e:=3) (i:=ti) (z:=tz) (by kernel_rfl) hi hz' hz2 (by omega) (rt:=28) (l:=l) (m:=t.length) (cs:=cs) (by rw [hz3];exact ho) (ad:=⟨b,0,none⟩) (k:=1) (c:=1) (news:=[.int .i64 x])
  (by rw [hz3];rfl) (fun j u hj=>by
   match j,hj with
   | 0,hj=>cases hj;simpa [Addr.add] using hb) (fun u hu=>by simp at hu;subst hu;rfl) (by omega) (by rw [hz4];omega) (by unfold maxLen;omega)
 rw [hz3] at o5
 have hla:∀ k,l.a=some k->k<w.heap.size:=fun k hk=>qdi ho hk
 have hfr:Fr w (fun k=>l.a=some k) w5:=by
  rcases hcase with⟨rfl,hg,hd⟩ | ⟨h1,hg⟩
  ·exact⟨hg.os,⟨hg.tape,hd⟩,hg.output,hg.size,fun k hk hn=>hg.block k hk fun e=>hn e.symm⟩
  ·exact⟨hg.os,hg.tape,hg.output,hg.size,fun k hk _=>hg.block k hk⟩
 refine⟨_,_,hrun,?_,hfr⟩
 have hlen:(t ++ [x]).length=t.length+1:=by simp
 rw [<- hlen] at o5 ⊢
 have hr2:RL w5 (fun _=>False) (.int .i64) (t ++ [x]) (cs ++ [.int .i64 x]):=by
  have h1:∀ {M M':Nat->Prop} {w w':World} {xs:List Int} {cs:List Value},RL w M (.int .i64) xs cs->RL w' M' (.int .i64) xs cs:=fun {M M' w w' xs}=>by
   induction xs with
   | nil=>exact fun h=>h
   | cons a r ih=>
    rintro cs ⟨c,d,e,h2,h3⟩
    exact⟨c,d,e,h2,ih h3⟩
  have h2:∀ {xs:List Int} {cs:List Value},RL w5 (fun _=>False) (.int .i64) xs cs->RL w5 (fun _=>False) (.int .i64) (xs ++ [x]) (cs ++ [.int .i64 x]):=fun {xs}=>by
   induction xs with
   | nil=>
    intro cs h
    have h:cs = []:=h
    subst h
    exact⟨[.int .i64 x],[],rfl,rfl,rfl⟩
   | cons a r ih=>
    rintro cs ⟨c,d,rfl,h2,h3⟩
    exact⟨c,d ++ [.int .i64 x],by simp,h2,ih h3⟩
  exact h2 (h1 hr)
 exact qje (w:=w5) (e:=3) (s:=.int .i64) (l:=l') (M:=fun _=>False) o5 hr2 (fun _ h=>h) fun _ _ h=>h
section
variable {s0 ba bt : Nat} {p : Pl} {nv ev fv : Value} {s : S3}
def CLp(s0 bt:Nat)(I:World->Prop)(W:World)(t:List Int)(v:Value)(w:World):Prop:=
 ∃ wc l cs,I wc/\Fb s0 bt W wc/\Go.Abs.Below wc.heap.size wc w/\v=rowV l t.length/\w.ownsRow 0 3 1 (rowV l t.length) t.length cs/\RL w (fun b=>l.a=some b) (.int .i64) t cs/\∀ b,l.a=some b->wc.heap.size<=b
theorem go5(h:POk p)(v:Val p s)(IH:∀ s',R3 p.ns p.es p.rd s' s->Val p s'->CC s0 ba bt p nv ev fv s')(k:(ndA p.ns (frO p.es s.1 s.2.1)).1=5):GG s0 ba bt p nv ev fv s:=by
 intro w vt hi ht
 have E:=v.ed h
 have hlen:=v.len
 have hd2:=h.nd v.lt
 have hne:s.2.2 ≠ []:=fun e=>by rw [e] at hlen;simp at hlen;omega
 obtain⟨bn,qn,cn,hn⟩:=qjT hi (qlB E.fl)
 obtain⟨hR,hV⟩:=v.ask h (q:=0) (t':=s.2.2 ++ [p.rd]) (by unfold Gh.prt;rw [k];decide) (by rw [k];rfl) (by rw [k];intro q;cases q)
 have hg:gF p s=p.sem (frO p.es s.1 s.2.1,0,s.2.2 ++ [p.rd]):=by
  unfold gF bodyG
  simp only [k,qru hR]
  rfl
 have N:=nodeAt (I:=fun w=>Inv s0 ba bt p nv ev fv w/\Tm s0 s.2.2 vt w) (fun w q=>q.1) (fun w w' q b=>⟨q.1.grow b,q.2.fb (bt:=bt) (Fb.of b)⟩) hn E.fl h.gr.n12
 rw [k] at N
 refine (qyD s0 ba bt bn qn _ _ cn _ _ _ _ p.rd vt w _ (BG s0 bt 20000 (gF p s)) (gF p s=none) (CLp s0 bt (fun w=>Inv s0 ba bt p nv ev fv w/\Tm s0 s.2.2 vt w) w s.2.2) (Tm s0 (s.2.2 ++ [p.rd])) N ⟨hi,ht⟩ (fun w q=>q.1.cells.2.2.1) ?_ (fun w' q f=>?_) (fun w' va b q f hc hb=>?_) (fun w' v' q hv=>?_)).mono (fun e w' q=>qgu (fun w q=>q.1) q)
 ·rintro v' w1 w2 ⟨wc,l,cs,h1,h2,h3,h4,h5,h6,h7⟩ hb
  have hl:∀ b,l.a=some b->b<w1.heap.size:=fun b hb=>qdi h5 hb
  exact⟨wc,l,cs,h1,h2,h3.trans (hb.mono h3.size),h4,qfB h5 fun b hb'=>hb.block b (hl b (qsz hb')),RL.keeps ⟨hb.size,fun b hb' _=>hb.block b hb',fun b _ hm=>hm⟩ h6,h7⟩
 ·refine (qdX 1000 (fun _=>False) w' (s.2.2,()) s.2.2 [vt] (fun b hb=>hb.elim) q.1.gw ⟨_,_,rfl,?_,rfl⟩ (qAW _ hne (by omega) _)).mono ?_
  ·show RC _ _ _ _ _
   exact RC.keeps (qbW fun b hb=>hb.elim) q.2
  ·rintro e w2 ⟨l,cs,rfl,hb,ho,hr,hl⟩
   exact⟨hb,_,rfl,w',l,cs,q,f,hb,rfl,ho,RL.keeps (qbW fun b hb=>.inr hb) hr,hl⟩
 ·obtain⟨wc,l,cs,h1,h2,h3,rfl,h5,h6,h7⟩:=hc
  obtain⟨v',w2,g1,g2,g3⟩:=app_t h5 h6 (by omega) hb
  have hB:Go.Abs.Below wc.heap.size wc w2:=⟨g3.os.trans h3.os,TDr.trans g3.tape h3.tape,g3.output.trans h3.output,zn h3.size g3.size,fun k hk=>(g3.block k (zM hk h3.size) (fun e=>by have:=h7 k e;omega)).trans (h3.block k hk)⟩
  exact⟨v',w2,g1,qzh g2,⟨h1.1.grow hB,h1.2.fb (bt:=bt) (Fb.of hB)⟩,h2.trans (Fb.of hB)⟩
 ·refine (qnj (I:=fun w=>Inv s0 ba bt p nv ev fv w/\Tm s0 s.2.2 vt w) (Bad:=gF p s=none) (IH _ hR hV) (fun w=>Iff.rfl) (fun w w' q f=>q.fb f) (fun e=>by rw [hg,e]) q hv).mono ?_
  rintro e w2 ⟨hf,⟨x,h1,h2,h3⟩ | h4⟩
  ·exact⟨hf,.inl ⟨x,h1,by rw [hg];exact bg_le h2 (by omega),h3⟩⟩
  ·exact⟨hf,.inr h4⟩
theorem qBf(w:World):BagAt (w.alloc (.map #[] 0)) w.heap.size ((0:Int),[]):=⟨w.heap.size,#[],0,rfl,heap_alloc_new _ _,rfl,rfl,(fun x hx=>by simp at hx),by simp⟩
theorem go6(h:POk p)(v:Val p s)(IH:∀ s',R3 p.ns p.es p.rd s' s->Val p s'->CC s0 ba bt p nv ev fv s')(k:(ndA p.ns (frO p.es s.1 s.2.1)).1=6):GG s0 ba bt p nv ev fv s:=by
 intro w vt hi ht
 have E:=v.ed h
 have hlen:=v.len
 have hd:=h.nd E.fl
 have hd2:=h.nd v.lt
 have hout:=E.out
 unfold Gh.outOf at hout
 rw [zL (by rw [k];decide),zL (by rw [k];decide)] at hout
 have h2:=hd.2.2.2.2.2.2 (by rw [k];decide)
 obtain⟨bn,qn,cn,hn⟩:=qjT hi (qlB E.fl)
 obtain⟨m,hm⟩:∃ m,s.2.2.length=m+1:=⟨s.2.2.length - 1,by omega⟩
 have hne:s.2.2 ≠ []:=fun e=>by rw [e] at hm;simp at hm
 obtain⟨tb,tq,tc,rfl,t2,t3,t4⟩:=ht.slice hne
 have hx:s.2.2[m]? = some (s.2.2.getLastD 0):=by
  rw [qiz _ hne,zK,hm,zBJ,zW (by omega)];rfl
 have hmem:s.2.2.getLastD 0∈s.2.2:=zh hx
 have hb:=v.nn _ hmem
 have hcell:∀ w,Tm s0 s.2.2 (.slice (some ⟨tb,tq,none⟩) (m+1) tc) w->w.cell? ⟨tb,tq+m,none⟩=some (.int .i64 (s.2.2.getLastD 0)):=fun w q=>by
  obtain⟨b',q',c',e,-,-,h5⟩:=q.slice hne
  simp only [Value.slice.injEq,zD,Addr.mk.injEq,and_true] at e
  obtain⟨⟨rfl,rfl⟩,-,rfl⟩:=e
  exact h5 m _ hx
 rw [hm] at ht t2 ⊢
 have N:=nodeAt (I:=fun w=>Inv s0 ba bt p nv ev fv w/\Tm s0 s.2.2 (.slice (some ⟨tb,tq,none⟩) (m+1) tc) w) (fun w q=>q.1) (fun w w' q b=>⟨q.1.grow b,q.2.fb (bt:=bt) (Fb.of b)⟩) hn E.fl h.gr.n12
 rw [k] at N
 by_cases hpos:0<s.2.2.getLastD 0
 ·obtain⟨hR,hV⟩:=v.ask h (q:=0) (t':=s.2.2.dropLast ++ [s.2.2.getLastD 0 - 1]) (by unfold Gh.prt;rw [k];decide) (by rw [k];rfl) (fun _=>hpos)
  have hg:gF p s=p.sem (frO p.es s.1 s.2.1,0,s.2.2.dropLast ++ [s.2.2.getLastD 0 - 1]):=by
   unfold gF bodyG
   simp only [k,qru hR]
   rw [zL (by decide),zL (by decide),zL (by decide),zL (by decide),zL (by decide),zJ hpos]
  refine (qAr s0 ba bt bn qn _ _ cn _ _ _ _ w _ (BG s0 bt 20000 (gF p s)) (gF p s=none) tb tq m tc (s.2.2.getLastD 0) (Tm s0 (s.2.2.dropLast ++ [s.2.2.getLastD 0 - 1])) (by omega) 6 rfl rfl rfl rfl rfl hpos (by omega) N ⟨hi,ht⟩ (fun w q=>hcell w q.2) (fun w' q=>?_) (fun w' v' q hv=>?_)).mono (fun e w' q=>qgu (fun w q=>q.1) q)
  ·refine ((qro (qtW 1000)) (fun _=>False) w' (s.2.2,s.2.2.getLastD 0 - 1,()) (s.2.2.dropLast ++ [s.2.2.getLastD 0 - 1],()) [.slice (some ⟨tb,tq,none⟩) (m+1) tc,.int .i64 (s.2.2.getLastD 0 - 1)] (fun b hb=>hb.elim) q.1.gw ⟨_,_,rfl,?_,_,_,rfl,rfl,rfl⟩ ?_).mono ?_
   ·show RC _ _ _ _ _
    exact RC.keeps (qbW fun b hb=>hb.elim) q.2
   ·show Option.map _ (qiK 1000 (s.2.2,s.2.2.getLastD 0 - 1,()))=_
    rw [qEu hm (by omega) (by omega)];rfl
   ·rintro e w2 ⟨x,rfl,hb2,hx2⟩
    exact⟨hb2,x,rfl,qzh (M:=fun _=>False) hx2⟩
  ·refine (qnj (I:=fun w=>Inv s0 ba bt p nv ev fv w/\Tm s0 s.2.2 (.slice (some ⟨tb,tq,none⟩) (m+1) tc) w) (Bad:=gF p s=none) (IH _ hR hV) (fun w=>Iff.rfl) (fun w w' q f=>q.fb f) (fun e=>by rw [hg,e]) q hv).mono ?_
   rintro e w2 ⟨hf,⟨x,h1,h2,h3⟩ | h4⟩
   ·exact⟨hf,.inl ⟨x,h1,by rw [hg];exact bg_le h2 (by omega),h3⟩⟩
   ·exact⟨hf,.inr h4⟩
 ·have hz:s.2.2.getLastD 0=0:=by omega
  have hg:gF p s=some fun _=>0:=by
   unfold gF bodyG
   simp only [k]
   rw [zL (by decide),zL (by decide),zL (by decide),zL (by decide),zL (by decide),zL hpos]
  refine (qyF s0 ba bt bn qn _ _ cn _ _ _ _ w _ (BG s0 bt 20000 (gF p s)) (gF p s=none) tb tq m tc (by omega) 6 rfl rfl rfl rfl rfl N ⟨hi,ht⟩ (fun w q=>by rw [<- hz];exact hcell w q.2) (fun w q=>?_)).mono (fun e w' q=>qgu (fun w q=>q.1) q)
  exact⟨qBe q.1 hg (Nat.le_refl _) (qBf w) BOk.empty (by simp),q.1.grow (qaZ _ _),q.2.fb (bt:=bt) (Fb.of (qaZ _ _))⟩
end
end Go.Proofs.YtnhjpicdijeagaaDoor

namespace Go.Proofs.YtnhjpicdijeagaaDoor
open Go.Abs Go.Bag Go.RowKit
theorem qix(a b:List Fd)(n:Nat)(e:Int)(z:Key):inpF (a++b) n e z=inpF a n e z+inpF b n e z:=by
 induction a with
 | nil=>simp [inpF]
 | cons f r ih=>simp only [List.cons_append,inpF,ih];omega
theorem quG{fs:List Fd}{k:Nat}(hk:k<fs.length)(n:Nat)(e:Int)(z:Key):inpF (fs.take (k+1)) n e z=inpF (fs.take k) n e z+(if (nth zF fs k).1=(n:Int)/\(nth zF fs k).2.1<=e then amt (nth zF fs k).2.2 z else 0):=by
 rw [qeS (z:=zF) hk,qix]
 simp [inpF]
section
variable {s0 ba bt : Nat} {p : Pl} {nv ev fv : Value} {s : S3}
def JF(s0 ba bt:Nat)(p:Pl)(nv ev fv:Value)(s:S3)(vt:Value)(W:World)(bb k:Nat)(w:World):Prop:=
 ∃ w0,(Inv s0 ba bt p nv ev fv w0/\Tm s0 s.2.2 vt w0/\Fb s0 bt W w0)/\Go.Abs.Below w0.heap.size w0 w/\w0.heap.size<=bb/\∃ d,BagAt w bb d/\BOk (inpF (p.fs.take k) (frO p.es s.1 s.2.1) (s.2.2.headD 0)) d/\d.2.length<=128*k
theorem go1(h:POk p)(v:Val p s)(k:(ndA p.ns (frO p.es s.1 s.2.1)).1=1):GG s0 ba bt p nv ev fv s:=by
 intro w vt hi ht
 have E:=v.ed h
 have hlen:=v.len
 have hd:=h.nd E.fl
 have hout:=E.out
 unfold Gh.outOf at hout
 rw [zL (by rw [k];decide),zL (by rw [k];decide)] at hout
 have h1:=hd.2.2.2.2.1 k
 obtain⟨bn,qn,cn,hn⟩:=qjT hi (qlB E.fl)
 obtain⟨x0,hx0⟩:∃ x,s.2.2 = [x]:=by
  match hq:s.2.2,(show s.2.2.length=1 by omega) with
  | [x],_=>exact⟨x,rfl⟩
 have hne:s.2.2 ≠ []:=by rw [hx0];simp
 obtain⟨tb,tq,tc,rfl,t2,t3,t4⟩:=ht.slice hne
 have hl1:s.2.2.length=0+1:=by rw [hx0];rfl
 have hcell:∀ w,Tm s0 s.2.2 (.slice (some ⟨tb,tq,none⟩) (0+1) tc) w->w.cell? ⟨tb,tq,none⟩=some (.int .i64 (s.2.2.headD 0)):=fun w q=>by
  obtain⟨b',q',c',e,-,-,h5⟩:=q.slice hne
  simp only [Value.slice.injEq,zD,Addr.mk.injEq,and_true] at e
  obtain⟨⟨rfl,rfl⟩,-,rfl⟩:=e
  exact h5 0 _ (by rw [hx0];rfl)
 rw [hl1] at ht t2 ⊢
 obtain⟨af,cf,hfv,-,hfa⟩:=row_of hi.fds
 obtain⟨bf,qf,haf⟩:∃ bf qf,0<p.fs.length->af=some ⟨bf,qf,none⟩:=by
  by_cases hf0:0<p.fs.length
  ·obtain⟨bf,qf,e,-⟩:=hfa (zAk.1 hf0)
   exact⟨bf,qf,fun _=>e⟩
  ·exact⟨0,0,fun q=>absurd q hf0⟩
 have hrow:∀ w,Inv s0 ba bt p nv ev fv w->∀ i,i<p.fs.length->∃ v,w.cell? ⟨bf,qf+i*3+2,none⟩=some v/\w.cell? ⟨bf,qf+i*3,none⟩=some (.int .i64 (nth zF p.fs i).1)/\w.cell? ⟨bf,qf+i*3+1,none⟩=some (.int .i64 (nth zF p.fs i).2.1)/\RC w (DM s0 w) rlS (nth zF p.fs i).2.2 [v]:=fun w q i hil=>by
  have e:=q.fds
  rw [hfv,haf (by omega)] at e
  obtain⟨g1,g2,v,g3,g4⟩:=qCv (quk e (qlB hil)) hil
  exact⟨v,g3,g1,g2,g4⟩
 have hg:gF p s=some (inpF p.fs (frO p.es s.1 s.2.1) (s.2.2.headD 0)):=by
  unfold gF bodyG
  simp only [k,if_true]
 have N:=nodeAt (I:=fun w'=>Inv s0 ba bt p nv ev fv w'/\Tm s0 s.2.2 (.slice (some ⟨tb,tq,none⟩) (0+1) tc) w'/\Fb s0 bt w w') (fun w q=>q.1) (fun w w' q b=>⟨q.1.grow b,q.2.1.fb (bt:=bt) (Fb.of b),q.2.2.trans (Fb.of b)⟩) hn E.fl h.gr.n12
 rw [k] at N
 have hsame:∀ w0,Fb s0 bt w w0->∀ i,i<p.fs.length->∀ v,w0.cell? ⟨bf,qf+i*3+2,none⟩=some v->(w.cell? ⟨bf,qf+i*3+2,none⟩).getD undef=v:=fun w0 f i hil v hv=>by
  obtain⟨v0,g1,-⟩:=hrow w hi i hil
  have:=f.cell g1
  rw [hv] at this
  cases this
  rw [g1];rfl
 have F:FeedsAt af ba bf qf p.fs.length cf tb tq (frO p.es s.1 s.2.1) (s.2.2.headD 0) (fun i=>(nth zF p.fs i).1) (fun i=>(nth zF p.fs i).2.1) (fun i=>(w.cell? ⟨bf,qf+i*3+2,none⟩).getD undef)
   (fun w'=>Inv s0 ba bt p nv ev fv w'/\Tm s0 s.2.2 (.slice (some ⟨tb,tq,none⟩) (0+1) tc) w'/\Fb s0 bt w w') (JF s0 ba bt p nv ev fv s (.slice (some ⟨tb,tq,none⟩) (0+1) tc) w):=by
  refine⟨fun w q=>by rw [<- hfv];exact q.1.cells.2.2.2.1,haf,?_,fun i hil=>?_,?_,?_,?_,?_,?_,by have:=h.fl;omega⟩
  ·rintro w' bb i ⟨w0,⟨q1,q2,q3⟩,hb,hbb,-⟩ hil
   obtain⟨v,g1,g2,g3,-⟩:=hrow w0 q1 i hil
   exact⟨hb.keepsC g2,hb.keepsC g3,by rw [hsame w0 q3 i hil v g1];exact hb.keepsC g1⟩
  ·obtain⟨v,g1,g2,g3,g4⟩:=hrow w hi i hil
   obtain⟨a,c,e,-⟩:=row_of g4
   exact⟨a,_,c,by rw [g1];exact e⟩
  ·rintro w' bb i ⟨w0,⟨q1,q2,q3⟩,hb,hbb,-⟩
   exact hb.keepsC (hcell w0 q2)
  ·rintro w' w2 bb i ⟨w0,q,hb,hbb,d,d1,d2,d3⟩ hB
   refine⟨w0,q,hb.trans (hB.mono hb.size),hbb,d,qtw d1 ?_,d2,d3⟩
   obtain⟨_,_,e⟩:=qnn d1
   exact hB.block bb (zI.1 e).1
  ·rintro w' bb i ⟨w0,q,hb,hbb,d,d1,d2,d3⟩ hil hno
   refine⟨w0,q,hb,hbb,d,d1,d2.cg fun z=>.of_eq ?_,by omega⟩
   rw [quG hil,zL hno];omega
  ·rintro w' bb i ⟨w0,⟨q1,q2,q3⟩,hb,hbb,d,d1,d2,d3⟩ hil e1 e2
   obtain⟨v,g1,g2,g3,g4⟩:=hrow w0 q1 i hil
   rw [hsame w0 q3 i hil v g1]
   have hs:=q1.sb
   have hlt:=q1.lt
   have hl128:=h.fr _ (qdP (z:=zF) hil)
   refine (qzz (GW.below q1.gw hb) (fun g hg' e=>by have:=q1.gl g hg';omega) d1 d2 (RC.keeps ⟨hb.size,fun b hb' _=>hb.block b hb',fun b hb' _ e=>by omega⟩ g4) hl128).mono ?_
   rintro e w2 ⟨rfl,f,d',b1,b2,b3⟩
   refine⟨rfl,w0,⟨q1,q2,q3⟩,⟨f.os.trans hb.os,TDr.trans f.tape hb.tape,f.output.trans hb.output,zn hb.size f.size,fun x hx=>(f.block x (zM hx hb.size) (by omega)).trans (hb.block x hx)⟩,hbb,d',b1,b2.cg fun z=>.of_eq ?_,by omega⟩
   rw [quG hil,zJ ⟨e1,e2⟩]
  ·rintro w' q
   exact⟨w',q,qaZ _ _,Nat.le_refl _,((0:Int),[]),qBf w',BOk.empty,by simp⟩
 refine (qyE s0 ba bt bn qn _ _ cn _ _ _ _ w _ (BG s0 bt 20000 (gF p s)) (gF p s=none) tb tq 0 tc af bf qf p.fs.length cf _ _ _ _ _ N ⟨hi,ht,Fb.refl _ _ _⟩ F ?_).mono (fun e w' q=>qgu (fun w q=>q.1) q)
 rintro w' bb ⟨w0,⟨q1,q2,q3⟩,hb,hbb,d,d1,d2,d3⟩
 rw [zAR] at d2
 have:=h.fl
 have f0:Fb s0 bt w w':=q3.trans (Fb.of hb)
 have:=q1.lt
 have:=q1.sb
 exact⟨f0,⟨_,bb,d,hg,rfl,by omega,by omega,d1,d2,by omega⟩,q1.grow hb,q2.fb (bt:=bt) (Fb.of hb),f0⟩
theorem qEz(h:POk p)(v:Val p s)(IH:∀ s',R3 p.ns p.es p.rd s' s->Val p s'->CC s0 ba bt p nv ev fv s'):GG s0 ba bt p nv ev fv s:=by
 have E:=v.ed h
 have hd:=h.nd E.fl
 rcases (by omega:(ndA p.ns (frO p.es s.1 s.2.1)).1=1\/(ndA p.ns (frO p.es s.1 s.2.1)).1=2\/(ndA p.ns (frO p.es s.1 s.2.1)).1=3\/(ndA p.ns (frO p.es s.1 s.2.1)).1=4\/(ndA p.ns (frO p.es s.1 s.2.1)).1=5\/(ndA p.ns (frO p.es s.1 s.2.1)).1=6) with k | k | k | k | k | k
 ·exact go1 h v k
 ·exact go2 h v IH k
 ·exact go3 h v IH k
 ·exact go4 h v IH k
 ·exact go5 h v IH k
 ·exact go6 h v IH k
theorem qED(h:POk p)(hbb:ba≠bt):∀ s,Val p s->CC s0 ba bt p nv ev fv s:=by
 intro s
 induction s using (r3_wf h.gr p.rd).induction with
 | _ s IH=>
  intro v w vt hi ht
  have G:=qEz h v IH
  have E:=v.ed h
  have hlen:=v.len
  have hd2:=h.nd v.lt
  have h4:s.2.2.length<=4:=by omega
  have hs0:∀ w,Inv s0 ba bt p nv ev fv w->s0<=w.heap.size:=fun w q=>by have:=q.sb;have:=q.lt;omega
  obtain⟨ae,ce,hev,hce,hea⟩:=row_of hi.eds
  obtain⟨be,qe,rfl,-⟩:=hea (qlB E.lt)
  subst hev
  refine (qCz s0 ba bt p.es.length ce be qe (edI p.es s.1 s.2.1) (frO p.es s.1 s.2.1:Int) (s.1:Int) s.2.1 (tkey s.2.2).1 (tkey s.2.2).2.1 (tkey s.2.2).2.2.1 (tkey s.2.2).2.2.2.1 (tkey s.2.2).2.2.2.2 vt w (fun w=>Inv s0 ba bt p nv (.slice (some ⟨be,qe,none⟩) p.es.length ce) fv w/\Tm s0 s.2.2 vt w) (BG s0 bt 128 (p.sem s)) (p.sem s=none)
   (fun w q=>⟨q.1.cells.2.1,q.1.cells.2.2.2.2,q.1.lt,by rw [<- E.fr];exact qDO (quk q.1.eds (qlB E.lt)) E.lt⟩) (fun w w' q b=>⟨q.1.grow b,q.2.fb (bt:=bt) (Fb.of b)⟩) (fun v w w' q b=>q.fb (Fb.of b)) ⟨hi,ht⟩ E.lt (by have:=h.gr.e20;omega)
   (fun w q=>qCi q.1.gw q.2 (hs0 w q.1)) (fun w q=>?_) (fun W0 w b5 b6 q hB g5 g56 q5 q6=>qyy h E q.1 (hs0 W0 q.1) hB g5 g56 q5 q6) (fun w q=>?_) (fun w v q hv=>?_)).mono ?_
  ·rcases q.1.told.lookup (s.1:Int) s.2.1 (tkey s.2.2).1 (tkey s.2.2).2.1 (tkey s.2.2).2.2.1 (tkey s.2.2).2.2.2.1 (tkey s.2.2).2.2.2.2 with⟨x,h1,h2⟩ | h2
   ·exact .inl ⟨x,h1 s.1 s.2.1 s.2.2 h4 rfl,h2⟩
   ·exact .inr h2
  ·refine (G w vt q.1 q.2).mono ?_
   rintro e w' ⟨hf,⟨x,rfl,⟨F,c,d,g1,rfl,g3,g4,g5,g6,g7⟩,h3⟩ | ⟨rfl,hb⟩⟩
   ·obtain⟨out,-,o1,o2⟩:=qhp (N:=100000) g6 (by omega) (by omega)
    have hs:p.sem s=if 128<d.2.length then none else some F:=by
     rw [sem_g h,g1,Option.bind_some,qfA o1,o2]
    refine⟨hf,.inl ⟨some c,(d.2.length:Int),rfl,⟨h3,q.2.fb hf⟩,qDz g5,fun hm=>?_,fun hm=>?_⟩⟩
    ·rw [zL (by omega)] at hs
     exact⟨F,c,d,hs,rfl,g3,g4,g5,g6,by omega⟩
    ·rw [hs,zJ (by omega)]
   ·exact⟨hf,.inr ⟨rfl,by rw [sem_g h,hb];rfl⟩⟩
  ·obtain⟨w2,g1,g2,g3,g4⟩:=q.1.put s.1 s.2.1 s.2.2 h4 hv hbb (fun t' ht' e=>qBy h4 ht' e)
   exact⟨w2,g1,⟨g2,q.2.fb g4⟩,g3,g4⟩
  ·rintro e w' ⟨hf,⟨x,h1,h2,h3⟩ | h4⟩
   ·exact⟨hf,.inl ⟨x,h1,h2,h3.1⟩⟩
   ·exact⟨hf,.inr h4⟩
end
end Go.Proofs.YtnhjpicdijeagaaDoor
