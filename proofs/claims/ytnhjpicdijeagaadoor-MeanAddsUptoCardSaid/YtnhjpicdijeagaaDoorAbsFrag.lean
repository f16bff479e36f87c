import Derived.Test.YtnhjpicdijeagaaDoorAbsEnt
namespace Go.Abs
structure IEnt where
 g:Nat
 run:List V->List O->Option ItPkg
def findI:List IEnt->Nat->List V->List O->Option ItPkg
 | [],_,_,_=>none
 | en :: r,g,caps,h=>bif Nat.beq en.g g then en.run caps h else findI r g caps h
def mkI(g:Nat)(ks:List Kd)(s:Sh)(xs:Dens ks->List s.den):IEnt:=
 { g:=g,run:=fun caps _=>match decL true [] ks caps with | none=>none | some x=>some { α:=s.den,xs:=xs x,v:=fun y=>encL s y } }
def SpecI(P:Program)(gs:List (Nat×List Value))(g:Nat)(ks:List Kd)(s:Sh)(xs:Dens ks->List s.den):Prop:=
 ∀ (M:Nat->Prop) (w:World) (x:Dens ks) (vs:List Value),GW gs w->(∀ p∈gs,¬ M p.1)->RVs w M [] σ0 (kvals ks x) vs->∀ r n,
  qqB (WF r) n P g vs.toArray ((xs x).map fun y=>((encL s y).map svOf).toArray) (fun X Y=>∀ b,b<w.heap.size->¬ M b->Y.heap[b]? = X.heap[b]?) w
structure IEntOk (P:Program) (gs:List (Nat×List Value)) (en:IEnt):Prop where
 fn : ∀ caps h p, en.run caps h = some p → ∃ f c, P.funcs[tgtF en.g]? = some f ∧ (f.name == "runtime.NumGoroutine") = false ∧ f.body = some c
 it:∀ caps h p,en.run caps h=some p->p.ok=true->∀ w0 A M0 w σ,Gl gs w0 A->Rep w0 A M0 w h σ->∀ vs,RVs w (mutb M0 h σ) h σ caps vs->∀ r n,
  qtC (WF r) n P en.g vs.toArray p.xs p.v (own h σ) (mutb M0 h σ) w
theorem qxO{es:List IEnt}{g:Nat}{caps:List V}{h:List O}{p:ItPkg}(hf:findI es g caps h=some p):∃ en∈es,en.g=g/\en.run caps h=some p:=by
 induction es with
 | nil=>cases hf
 | cons en r ih=>
  simp only [findI] at hf
  cases hb:Nat.beq en.g g with
  | true=>rw [hb] at hf;exact⟨en,by simp,zB hb,hf⟩
  | false=>
   rw [hb] at hf
   obtain⟨en',h1,h2⟩:=ih hf
   exact⟨en',by simp [h1],h2⟩
theorem qan{P:Program}{gs:List (Nat×List Value)}{C:Ctx}{es:List IEnt}(hgs:C.gs=gs)(hG:C.I=findI es)(he:∀ en∈es,IEntOk P gs en):IOk P C where
 fn:=fun g caps h p hp=>by rw [hG] at hp;obtain⟨en,h1,rfl,h3⟩:=qxO hp;exact (he en h1).fn caps h p h3
 it:=fun g caps h p hp=>by rw [hgs];rw [hG] at hp;obtain⟨en,h1,rfl,h3⟩:=qxO hp;exact (he en h1).it caps h p h3
theorem qww:(s:Sh)->s.flat=true->(x:s.den)->(encL s x).all isSv=true
 | .int _,_,_=>rfl
 | .bool,_,_=>rfl
 | .unit,_,_=>rfl
 | .sl _,hs,_=>by cases hs
 | .pair a b,hs,x=>by
  simp only [Sh.flat,zA] at hs
  simp only [encL,List.all_append,qww a hs.1,qww b hs.2,Bool.and_self]
theorem qqB.mono{F:Fence}{n:Nat}{P:Program}{g:Nat}{lb:Array Value}{xs:List (Array Value)}{Kp Kp':World->World->Prop}{w:World}(h:qqB F n P g lb xs Kp w)(hk:∀ X Y,Kp' X Y->Kp X Y):qqB F n P g lb xs Kp' w:=
 fun l J Jx W hb h1 h2 h3 h4=>h l J Jx W hb h1 h2 (fun i args W1 hx hJ=>by
  obtain⟨o,tmps,c,w2,hr,hq⟩:=h3 i args W1 hx hJ
  refine⟨o,tmps,c,w2,hr,?_⟩
  refine hq.mono ?_
  rintro e W' (⟨h5,h6,h7⟩ | h5)
  ·exact .inl ⟨h5,h6,hk _ _ h7⟩
  ·exact .inr h5) h4
theorem qzl{w:World}{M:Nat->Prop}{h:List O}{σ:Nat->Loc}:(vs:List V)->vs.all isSv=true->RVs w M h σ vs (vs.map svOf)
 | [],_=>by simp only [List.map_nil,RVs]
 | v :: vs,hv=>by
  simp only [List.all_cons,zA] at hv
  simp only [List.map_cons,RVs]
  exact⟨_,_,rfl,sv_rv hv.1,qzl vs hv.2⟩
theorem qtB.to{F:Fence}{n:Nat}{P:Program}{g:Nat}{lb:Array Value}{α:Type}{ys:List α}{vv:α->List V}{M M':Nat->Prop}{w:World}(hsv:∀ y,(vv y).all isSv=true)
  (h:qtB F n P g lb (ys.map fun y=>((vv y).map svOf).toArray) M w):qtC F n P g lb ys vv M M' w:=by
 intro l J Jx W h1 h2 h3 h4 h5 h6 h7 h8
 have:=h l J Jx W h1 h2 h3 h4 h5 h6 h7 (fun B i args X hx hJ=>by
  rw [zAb] at hx
  obtain⟨y,hy,rfl⟩:=zw.1 hx
  exact h8 B i y _ X X hy hJ (Below.refl _ _) (qzl _ (hsv y)))
 rwa [zAS] at this
theorem entI{P:Program}{gs:List (Nat×List Value)}{g:Nat}{ks:List Kd}{s:Sh}{xs:Dens ks->List s.den}(hb:qeO P (tgtF g))(hs:s.flat=true)(hS:SpecI P gs g ks s xs):IEntOk P gs (mkI g ks s xs) where
 fn:=fun _ _ _ _=>hb
 it:=fun caps h p hp _ w0 A M0 w σ hgl R vs hv r n=>by
  simp only [mkI] at hp
  split at hp
  ·cases hp
  ·rename_i x hx
   cases hp
   have hv':=qdZ (h':=[]) (σ':=σ0) (hm:=[]) R (fun o=>.inl (by simp [getO])) (Mt:=own h σ) (fun b hb=>.inr hb) (fun hh=>by cases hh) ks hv (fun _ _ _ _=>qfX) hx
   refine qtB.to (fun y=>qww s hs y) (qqB.toO (hS (own h σ) w x vs (hgl.now R) (fun p hp ho=>?_) hv' r n))
   rcases R.inA p.1 ho with h' | h'
   ·exact hgl.out p hp h'
   ·have:=(hgl.at_ p hp).1;omega
def mkIp(g:Nat)(sc s:Sh)(xs:sc.den->List s.den):IEnt:=
 { g:=g,run:=fun caps h=>match caps with
  | [v]=>(match qdk h v with
   | some p=>(match qea [] sc ((p.1.drop p.2).take sc.n) with
    | some x=>some { α:=s.den,xs:=xs x,v:=fun y=>[enc s y] }
    | none=>none)
   | none=>none)
  | _=>none }
def qDc(P:Program)(g:Nat)(sc s:Sh)(xs:sc.den->List s.den):Prop:=
 ∀ (M M':Nat->Prop) (w:World) (x:sc.den) (b q:Nat) (cs:List Value),(∀ b,M b->M' b)->(∀ b,M' b->b<w.heap.size)->qay w b q cs->RC w M' sc x cs->∀ r n,
  qtC (WF r) n P g #[.pointer (some ⟨b,q,none⟩)] (xs x) (fun y=>[enc s y]) M M' w
theorem entIp{P:Program}{gs:List (Nat×List Value)}{g:Nat}{sc s:Sh}{xs:sc.den->List s.den}(hb:qeO P (tgtF g))(hS:qDc P g sc s xs):IEntOk P gs (mkIp g sc s xs) where
 fn:=fun _ _ _ _=>hb
 it:=fun caps h p hp _ w0 A M0 w σ hgl R vs hv r n=>by
  simp only [mkIp] at hp
  split at hp
  ·rename_i v
   split at hp
   ·rename_i p' hd
    split at hp
    ·rename_i x hx
     cases hp
     obtain⟨vs',off⟩:=p'
     simp only [RVs] at hv
     obtain⟨x0,_,rfl,hv1,rfl⟩:=hv
     obtain⟨b,q,cs,rfl,hc,hr,-⟩:=qiF R (Sub.refl h) hv1 hd
     have hrc:=qcf (hm:=[]) R (fun o=>.inl (by simp [getO])) (Mt:=mutb M0 h σ) (fun b hb=>hb) ((hr.drop off).take sc.n) (fun _ _=>qfX) hx
     refine hS (own h σ) (mutb M0 h σ) w x b (q+off) _ (fun b hb=>.inr hb) (fun b hb=>R.mlt hb) (fun j u hj=>?_) hrc r n
     rw [zt] at hj
     split at hj
     ·rw [zAB] at hj
      rw [zAF]
      exact hc _ u hj
     ·cases hj
    ·cases hp
   ·cases hp
  ·cases hp
end Go.Abs
namespace Go.Abs
open Go.RowKit
theorem RC.encL{w:World}{M:Nat->Prop}{h:List O}{σ:Nat->Loc}:(s:Sh) -> {x:s.den} -> {cs:List Value}->RC w M s x cs->RVs w M h σ (encL s x) cs
 | .int _,_,_,hc=>by simp only [RC] at hc;subst hc;simp only [Abs.encL,RVs,RV];exact⟨_,_,rfl,rfl,rfl⟩
 | .bool,_,_,hc=>by simp only [RC] at hc;subst hc;simp only [Abs.encL,RVs,RV];exact⟨_,_,rfl,rfl,rfl⟩
 | .unit,_,_,hc=>by simp only [RC] at hc;subst hc;simp only [Abs.encL,RVs]
 | .sl s,x,_,hc=>by
  have hc':=hc
  simp only [RC] at hc
  obtain⟨a,cap,rfl,_⟩:=hc
  simp only [Abs.encL,RVs,RV]
  exact⟨_,_,rfl,hc',rfl⟩
 | .pair a b,x,_,hc=>by
  simp only [RC] at hc
  obtain⟨c,d,rfl,h1,h2⟩:=hc
  simp only [Abs.encL]
  exact (RC.encL a h1).append (RC.encL b h2)
def SpecB(P:Program)(gs:List (Nat×List Value))(f:Nat)(ks:List Kd)(g:Nat)(s:Sh)(D:Dens ks->Option s.den):Prop:=
 ∀ (M:Nat->Prop) (w:World) (x:Dens ks) (y:s.den) (vs:List Value),(∀ b,M b->b<w.heap.size)->GW gs w->RVs w M [] σ0 (kvals ks x) vs->D x=some y ->
  Calls P f vs.toArray w fun e w'=>∃ v,e=.returned v/\Below w.heap.size w w'/\RV w' M [] σ0 (.clo g [.fptr s y]) v
def finB(g:Nat)(s:Sh)(v:V)(h:List O):Option s.den:=
 match v with
 | .clo g' [.ptr 0 0]=>bif Nat.beq g g' then (match cvH [] 1 h with | [.cells vs]=>qea [] s vs | _=>none) else none
 | _=>none
section
variable {P : Program} {w w' : World} {M : Nat -> Prop} {h : List O} {σ : Nat -> Loc}
theorem qBD{gs:List (Nat×List Value)}{f:Nat}{fn:Func}{c:Code}{ks:List Kd}{g:Nat}{s:Sh}{D:Dens ks->Option s.den}(hf:P.funcs[f]? = some fn)(hb:fn.body=some c)(hm:P.follows .mixedOrders=true)(hlen:ks.length<=fn.ntmps)
  (hex:∀ x y,D x=some y->∃ C ann,CtxOk P gs fn C/\exec C c ann (argS 0 (kvals ks x)) [] (finK C fn.results.toList (finB g s))=some y):SpecB P gs f ks g s D:=by
 intro M w x y vs hM hgw hv hD
 obtain⟨C,ann,hC,hx⟩:=hex x y hD
 refine (qnl hf hb hC.types hC.calls hC.its (hC.gs▸hgw.gl) hm hC.n hx (by rw [qgZ];exact hlen) (qvV w hM) (RVs.less (fun b hb=>qsL hb) hv)).mono ?_
 rintro e' w' ⟨v,u,h',σ',rfl,hfin,R,hr⟩
 unfold finB at hfin
 split at hfin
 ·rename_i g'
  obtain⟨hg,hfin2⟩:=qc hfin
  clear hfin
  have:=zB hg
  subst this
  split at hfin2
  ·rename_i us eh
   have R0:=qqm (fx:=[]) (base:=1) R
   have hr0:=cv_rv (fx:=[]) (base:=1) R hr
   have ev:cvV [] 1 h' (.clo g [.ptr 0 0])=.clo g [.ptr 0 0]:=rfl
   rw [eh] at R0 hr0
   rw [ev] at hr0
   simp only [RV,RVs] at hr0
   obtain⟨ws,rfl,z,zs,hz,⟨b',ha,hpt⟩,rfl⟩:=hr0
   obtain⟨rfl,-⟩:=hpt.low rfl
   have ro:=R0.obj 0
   have hg1:getO [O.cells us] 0=.cells us:=rfl
   rw [hg1] at ro
   obtain⟨b,ty,cs,hb,hcs,hrs,_⟩:=ro
   rw [hb] at ha
   have hbb:=zAj ha
   subst hbb
   have hown:own [O.cells us] σ' b:=⟨0,by rw [hg1];trivial,hb⟩
   refine⟨_,rfl,R.fr.below,?_⟩
   simp only [RV,RVs]
   refine⟨ws,rfl,_,_,hz,⟨b,0,cs.toList,rfl,(zI.1 hcs).1,fun hm=>?_,fun j v hj=>?_,?_⟩,rfl⟩
   ·have:=hM b hm
    have:=(R0.inA b hown).resolve_left id
    omega
   ·rw [Nat.zero_add]
    rw [zp] at hj
    exact⟨by simp [World.cell?,hcs,hj],by simp [World.frozen?,hcs]⟩
   ·exact qcf R0 (hm:=[]) (fun o=>.inl (by simp [getO])) (fun b' hb'=>.inl hb') hrs (fun u _ o ver _ ver' e s xs hg=>by simp [getO] at hg) hfin2
  ·cases hfin2
 ·cases hfin
theorem mkSpB{gs:List (Nat×List Value)}{f:Nat}{fn:Func}{c:Code}{ks:List Kd}{g:Nat}{s:Sh}{D:Dens ks->Option s.den}{C:Ctx}{a:Ann}(hf:P.funcs[f]? = some fn)(hb:fn.body=some c)(hm:P.follows .mixedOrders=true)(hlen:Nat.ble ks.length fn.ntmps=true)
  (hC:CtxOk P gs fn C) (hE:∀ x,exec C c a (argS 0 (kvals ks x)) [] (finK C fn.results.toList (finB g s))=D x):SpecB P gs f ks g s D:=
 qBD hf hb hm (zH hlen) fun x _ h=>⟨C,a,hC,(hE x).trans h⟩
def mkB(f:Nat)(ks:List Kd)(g:Nat)(s:Sh)(D:Dens ks->Option s.den):Ent:=
 { f:=f,run:=fun args h=>match decL true (qai (frzL h (cellsOf args)) h) ks args with
  | none=>none
  | some x=>some { α:=s.den,r:=D x,v:=fun y=>.clo g [.fptr s y],h:=some fun _ h=>qai (frzL h (cellsOf args)) h } }
theorem qDX{h':List O}{σ':Nat->Loc}{g:Nat}{s:Sh}{y:s.den}{v:Value}(hv:RV w M h σ (.clo g [.fptr s y]) v):RV w M h' σ' (.clo g [.fptr s y]) v:=by
 simp only [RV,RVs] at hv ⊢
 exact hv
theorem entB{gs:List (Nat×List Value)}{f:Nat}{ks:List Kd}{g:Nat}{s:Sh}{D:Dens ks->Option s.den}(hb:qeO P f)(hS:SpecB P gs f ks g s D):EntOk P gs (mkB f ks g s D) where
 fn:=fun _ _ _ _=>hb
 rd:=fun args h hm p y hsub hp hh=>by
  simp only [mkB] at hp
  split at hp
  ·cases hp
  ·cases hp;cases hh
 wr:=fun args h p u y hp hu hr w0 A M0 w σ hgl R vs hv=>by
  simp only [mkB] at hp
  split at hp
  ·cases hp
  ·rename_i x hx
   cases hp
   cases hu
   obtain⟨nf,hv'⟩:=qxK R hv hx
   refine (hS _ w x y vs (fun b hb=>nf.rep.mlt hb) (hgl.now R) hv' hr).mono ?_
   rintro e' w' ⟨v,rfl,gb,hrv⟩
   have nx:=Next.grow nf.rep gb
   exact⟨v,σ,rfl,nf.trans nx R,qDX hrv⟩
end
end Go.Abs
