import Derived.Test.YtnhjpicdijeagaaDoorAbsFun
namespace Go.Abs
open Go.RowKit
def SpecD(P:Program)(gs:List (Nat×List Value))(f:Nat)(ks rs:List Kd)(D:Dens ks->Option (Dens rs)):Prop:=
 ∀ (M:Nat->Prop) (w:World) (x:Dens ks) (y:Dens rs) (vs:List Value),(∀ b,M b->b<w.heap.size)->GW gs w->RVs w M [] σ0 (kvals ks x) vs->D x=some y ->
  Calls P f vs.toArray w fun e w'=>∃ v,e=.returned v/\Below w.heap.size w w'/\RV w' M [] σ0 (retV (kvals rs y)) v
def SpecF(P:Program)(gs:List (Nat×List Value))(f:Nat)(ks:List Kd)(e:TypeId)(s:Sh)(D:Dens ks->Option (List s.den)):Prop:=
 ∀ (M:Nat->Prop) (w:World) (x:Dens ks) (y:List s.den) (vs:List Value),(∀ b,M b->b<w.heap.size)->GW gs w->RVs w M [] σ0 (kvals ks x) vs->D x=some y ->
  Calls P f vs.toArray w fun e' w'=>∃ l cs,e'=.returned (rowV l y.length)/\Below w.heap.size w w'/\w'.ownsRow 0 e s.n (rowV l y.length) y.length cs/\RL w' (fun b=>M b\/l.a=some b) s y cs/\(∀ b,l.a=some b->w.heap.size<=b)
structure CtxOk (P:Program) (gs:List (Nat×List Value)) (fn:Func) (C:Ctx):Prop where
 gs:C.gs=gs
 types:TOk P C.T
 calls:GOk P C
 its:IOk P C
 n:(C.n,C.X)=(fn.ntmps,fun _ _ _=>none)
def finD(rs:List Kd)(v:V)(h:List O):Option (Dens rs):=
 match rs with
 | [k]=>
  match decK true [] k (cvV [] 0 h v) with
  | some x=>some (x,())
  | none=>none
 | rs=>
  match cvV [] 0 h v with
  | .tup vs=>decL true [] rs vs
  | _=>none
def finF(e:TypeId)(s:Sh)(v:V)(h:List O):Option (List s.den):=
 match v with
 | .nil=>some []
 | .slc o ver=>
  match getO h o with
  | .row fz ver' e' s' xs=>bif Nat.beq ver ver' && !fz&&Nat.beq e e' then qbn (s:=.sl s') (s':=.sl s) xs else none
  | _=>none
 | _=>none
section
variable {P : Program} {w w' : World} {M : Nat -> Prop} {h : List O} {σ : Nat -> Loc}
theorem RVs.less{M':Nat->Prop}(hs:∀ b,M' b->M b){vs:List V}{xs:List Value}(hv:RVs w M h σ vs xs):RVs w M' h σ vs xs:=RVs.keeps (qbW hs) (OStep.refl h σ) hv
theorem qzC{b:Nat}:¬ own [] σ b:=fun ⟨o,hl,_⟩=>by simp [getO,live] at hl
theorem qsL{b:Nat}(hb:mutb M [] σ b):M b:=hb.resolve_right qzC
theorem qvV(w:World)(hM:∀ b,M b->b<w.heap.size):Rep w (fun _=>False) M w [] σ0:=
 ⟨⟨rfl,TDr.rfl,rfl,Nat.le_refl _,fun _ _ _=>rfl⟩,fun b hb=>⟨hM b hb,id⟩,fun b hb=>(qzC hb).elim,fun o o' b hl=>by simp [getO,live] at hl,fun o=>by simp [getO,RO]⟩
theorem Fr.below(f:Fr w (fun _=>False) w'):Below w.heap.size w w':=⟨f.os,f.tape,f.output,f.size,fun b hb=>f.block b hb id⟩
theorem qfX{Mt:Nat->Prop}{v:V}:RefOk [] σ Mt v:=fun o ver _ ver' e s xs hg=>by simp [getO] at hg
theorem qyH{A:Nat->Prop}(R:Rep w A M w' h σ){rs:List Kd}{v:V}{x:Value}(hv:RV w' (mutb M h σ) h σ v x){y:Dens rs}(hf:finD rs v h=some y):RV w' M [] σ0 (retV (kvals rs y)) x:=by
 have R0:=qqm (fx:=[]) (base:=0) R
 have hv0:=cv_rv (fx:=[]) (base:=0) R hv
 have e0:cvH [] 0 h = []:=rfl
 rw [e0] at R0 hv0
 have tupc:∀ {us vs:List V},cvV [] 0 h v=.tup vs->(∀ cs,RVs w' (mutb M [] σ) [] σ vs cs->RVs w' M [] σ0 us cs)->RV w' M [] σ0 (.tup us) x:=fun e hu=>by
  rw [e] at hv0
  simp only [RV] at hv0 ⊢
  obtain⟨cs,h1,h2⟩:=hv0
  exact⟨cs,h1,hu _ h2⟩
 match rs,y,hf with
 | [],y,hf=>
  simp only [finD] at hf
  split at hf
  ·rename_i vs e
   exact tupc e fun cs hcs=>qdZ R0 (Sub.refl _) (fun b hb=>.inl hb) (fun hh=>by cases hh) [] hcs (fun _ _ _ _=>qfX) hf
  ·cases hf
 | [k],y,hf=>
  simp only [finD] at hf
  split at hf
  ·rename_i z hz
   cases hf
   exact qrV R0 (Sub.refl _) (fun b hb=>.inl hb) (fun hh=>by cases hh) hv0 (fun _ _=>qfX) hz
  ·cases hf
 | k :: k' :: ks,y,hf=>
  simp only [finD] at hf
  split at hf
  ·rename_i vs e
   exact tupc e fun cs hcs=>qdZ R0 (Sub.refl _) (fun b hb=>.inl hb) (fun hh=>by cases hh) (k :: k' :: ks) hcs (fun _ _ _ _=>qfX) hf
  ·cases hf
theorem qgZ:(ks:List Kd)->(x:Dens ks)->(kvals ks x).length=ks.length
 | [],_=>rfl
 | k :: ks,x=>by simp [kvals,qgZ ks]
theorem qBC{gs:List (Nat×List Value)}{f:Nat}{fn:Func}{c:Code}{ks rs:List Kd}{D:Dens ks->Option (Dens rs)}(hf:P.funcs[f]? = some fn)(hb:fn.body=some c)(hm:P.follows .mixedOrders=true)(hlen:ks.length<=fn.ntmps)
  (hex:∀ x y,D x=some y->∃ C ann,CtxOk P gs fn C/\exec C c ann (argS 0 (kvals ks x)) [] (finK C fn.results.toList (finD rs))=some y):SpecD P gs f ks rs D:=by
 intro M w x y vs hM hgw hv hD
 obtain⟨C,ann,hC,hx⟩:=hex x y hD
 refine (qnl hf hb hC.types hC.calls hC.its (hC.gs▸hgw.gl) hm hC.n hx (by rw [qgZ];exact hlen) (qvV w hM) (RVs.less (fun b hb=>qsL hb) hv)).mono ?_
 rintro e w' ⟨v,u,h',σ',rfl,hfin,R,hr⟩
 exact⟨v,rfl,R.fr.below,qyH R hr hfin⟩
theorem qBB{gs:List (Nat×List Value)}{f:Nat}{fn:Func}{c:Code}{ks:List Kd}{e:TypeId}{s:Sh}{D:Dens ks->Option (List s.den)}(hf:P.funcs[f]? = some fn)(hb:fn.body=some c)(hm:P.follows .mixedOrders=true)(hlen:ks.length<=fn.ntmps)
  (hex:∀ x y,D x=some y->∃ C ann,CtxOk P gs fn C/\exec C c ann (argS 0 (kvals ks x)) [] (finK C fn.results.toList (finF e s))=some y):SpecF P gs f ks e s D:=by
 intro M w x y vs hM hgw hv hD
 obtain⟨C,ann,hC,hx⟩:=hex x y hD
 refine (qnl hf hb hC.types hC.calls hC.its (hC.gs▸hgw.gl) hm hC.n hx (by rw [qgZ];exact hlen) (qvV w hM) (RVs.less (fun b hb=>qsL hb) hv)).mono ?_
 rintro e' w' ⟨v,u,h',σ',rfl,hfin,R,hr⟩
 unfold finF at hfin
 split at hfin
 ·cases hfin
  simp only [RV] at hr
  subst hr
  exact⟨⟨none,0,[]⟩,[],rfl,R.fr.below,⟨by simp,.inl ⟨rfl,rfl⟩⟩,rfl,fun b hb=>by cases hb⟩
 ·rename_i o ver
  split at hfin
  ·rename_i fz ver' e'' s' xs eo
   obtain⟨hc,hcast⟩:=qc hfin
   rw [zA,zA] at hc
   obtain⟨⟨h1,h2⟩,h3⟩:=hc
   have h1:=zB h1
   have h3:=zB h3
   have h2:fz=false:=by simpa using h2
   subst h1;subst h2;subst h3
   obtain⟨es,rfl⟩:=qau hcast
   cases es
   simp only [RV] at hr
   obtain⟨fz',ver'',e3,s3,xs3,eo',_,_,hx⟩:=hr
   rw [eo] at eo'
   cases eo'
   have hx:=hx rfl
   subst hx
   have ro:=R.obj o
   rw [eo] at ro
   obtain⟨hs1,cs,hown,hrl⟩:=ro
   have hlive:live (getO h' o):=by rw [eo];rfl
   refine⟨σ' o,cs,rfl,R.fr.below,hown,RL.keeps (qbW fun b hb=>?_) hrl,fun b ha=>?_⟩
   ·rcases hb with hb | hb
    ·exact .inl hb
    ·exact .inr ⟨o,hlive,.of hb⟩
   ·rcases R.inA b ⟨o,hlive,.of ha⟩ with h | h
    ·exact h.elim
    ·exact h
  ·cases hfin
 ·cases hfin
theorem mkSpD{gs:List (Nat×List Value)}{f:Nat}{fn:Func}{c:Code}{ks rs:List Kd}{D:Dens ks->Option (Dens rs)}{C:Ctx}{a:Ann}(hf:P.funcs[f]? = some fn)(hb:fn.body=some c)(hm:P.follows .mixedOrders=true)(hlen:Nat.ble ks.length fn.ntmps=true)
  (hC:CtxOk P gs fn C) (hE:∀ x,exec C c a (argS 0 (kvals ks x)) [] (finK C fn.results.toList (finD rs))=D x):SpecD P gs f ks rs D:=
 qBC hf hb hm (zH hlen) fun x _ h=>⟨C,a,hC,(hE x).trans h⟩
theorem mkSpF{gs:List (Nat×List Value)}{f:Nat}{fn:Func}{c:Code}{ks:List Kd}{e:TypeId}{s:Sh}{D:Dens ks->Option (List s.den)}{C:Ctx}{a:Ann}(hf:P.funcs[f]? = some fn)(hb:fn.body=some c)(hm:P.follows .mixedOrders=true)(hlen:Nat.ble ks.length fn.ntmps=true)
  (hC:CtxOk P gs fn C) (hE:∀ x,exec C c a (argS 0 (kvals ks x)) [] (finK C fn.results.toList (finF e s))=D x):SpecF P gs f ks e s D:=
 qBB hf hb hm (zH hlen) fun x _ h=>⟨C,a,hC,(hE x).trans h⟩
structure Ent where
 f:Nat
 run:List V->List O->Option Pkg
structure EntOk (P:Program) (gs:List (Nat×List Value)) (en:Ent):Prop where
 fn : ∀ args h p, en.run args h = some p → ∃ f c, P.funcs[en.f]? = some f ∧ (f.name == "runtime.NumGoroutine") = false ∧ f.body = some c
 rd:∀ args h hm p y,Sub hm h->en.run args hm=some p->p.h=none->p.r=some y->∀ w0 A M0 w σ,Gl gs w0 A->Rep w0 A M0 w h σ->∀ vs,RVs w (mutb M0 h σ) h σ args vs ->
  Calls P en.f vs.toArray w fun e w'=>∃ x,e=.returned x/\Below w.heap.size w w'/\RV w' (mutb M0 h σ) h σ (p.v y) x
 wr:∀ args h p u y,en.run args h=some p->p.h=some u->p.r=some y->∀ w0 A M0 w σ,Gl gs w0 A->Rep w0 A M0 w h σ->∀ vs,RVs w (mutb M0 h σ) h σ args vs ->
  Calls P en.f vs.toArray w fun e w'=>∃ x σ',e=.returned x/\Next w0 A M0 w h σ w' (u y h) σ'/\RV w' (mutb M0 (u y h) σ') (u y h) σ' (p.v y) x
def findE:List Ent->Nat->List V->List O->Option Pkg
 | [],_,_,_=>none
 | en :: r,g,args,h=>
  bif Nat.beq en.f g then (match en.run args h with | some p=>some p | none=>findE r g args h)
  else findE r g args h
theorem qth{es:List Ent}{g:Nat}{args:List V}{h:List O}{p:Pkg}(hf:findE es g args h=some p):∃ en∈es,en.f=g/\en.run args h=some p:=by
 induction es with
 | nil=>cases hf
 | cons en r ih=>
  simp only [findE] at hf
  cases hb:Nat.beq en.f g with
  | true=>
   rw [hb] at hf
   simp only [cond_true] at hf
   split at hf
   ·rename_i q hq
    cases hf
    exact⟨en,by simp,zB hb,hq⟩
   ·obtain⟨en',h1,h2⟩:=ih hf
    exact⟨en',by simp [h1],h2⟩
  | false=>
   rw [hb] at hf
   obtain⟨en',h1,h2⟩:=ih hf
   exact⟨en',by simp [h1],h2⟩
theorem qao{gs:List (Nat×List Value)}{C:Ctx}{es:List Ent}(hgs:C.gs=gs)(hG:C.G=findE es)(he:∀ en∈es,EntOk P gs en):GOk P C where
 fn:=fun g args h p hp=>by rw [hG] at hp;obtain⟨en,h1,rfl,h3⟩:=qth hp;exact (he en h1).fn args h p h3
 rd:=fun g args h hm p y hs hp=>by rw [hgs];rw [hG] at hp;obtain⟨en,h1,rfl,h3⟩:=qth hp;exact (he en h1).rd args h hm p y hs h3
 wr:=fun g args h p u y hp=>by rw [hgs];rw [hG] at hp;obtain⟨en,h1,rfl,h3⟩:=qth hp;exact (he en h1).wr args h p u y h3
def cellsOf:List V->List V
 | []=>[]
 | v :: r=>v.cells++cellsOf r
theorem qpu{vs:List V}{v u:V}(hv:v∈vs)(hu:u∈v.cells):u∈cellsOf vs:=by
 induction vs with
 | nil=>cases hv
 | cons x r ih=>
  rcases zi.1 hv with rfl | hv
  ·exact zo _ hu
  ·exact zf _ (ih hv)
theorem qxK{w0:World}{A M0:Nat->Prop}(R:Rep w0 A M0 w h σ){args:List V}{vs:List Value}(hv:RVs w (mutb M0 h σ) h σ args vs){ks:List Kd}{x:Dens ks}(hd:decL true (qai (frzL h (cellsOf args)) h) ks args=some x) :
  Next w0 A M0 w h σ w (qai (frzL h (cellsOf args)) h) σ/\RVs w (mutb M0 (qai (frzL h (cellsOf args)) h) σ) [] σ0 (kvals ks x) vs:=by
 have nf:=qjW (Sub.refl h).f R (cellsOf args)
 have hv2:=RVs.keeps nf.keeps nf.step hv
 refine⟨nf,qdZ nf.rep (Sub.refl _) (fun b hb=>hb) (fun hh=>by cases hh) ks hv2 (fun v hv u hu o ver e' ver' ty' s' ys hg hvv b hb hmt=>?_) hd⟩
 subst e'
 rcases qfM (frzL h (cellsOf args)) (h:=h) o with h' | ⟨ob,h3,h4⟩
 ·exact qtg (hx:=h) (fun i hi=>qae hi) (qpu hv hu) hg ⟨_,_,_,_,_,by rw [<- h'];exact hg,hvv⟩
 ·obtain⟨_,_,_,_,_,_,h6⟩:=qiA h3
  rw [h4,h6] at hg;cases hg
def mkP(f:Nat)(ks rs:List Kd)(D:Dens ks->Option (Dens rs)):Ent:=
 { f:=f,run:=fun args h=>match decL false h ks args with | none=>none | some x=>some { α:=Dens rs,r:=D x,v:=fun y=>retV (kvals rs y),h:=none } }
def mkD(f:Nat)(ks rs:List Kd)(D:Dens ks->Option (Dens rs)):Ent:=
 { f:=f,run:=fun args h=>match decL true (qai (frzL h (cellsOf args)) h) ks args with | none=>none | some x=>some { α:=Dens rs,r:=D x,v:=fun y=>retV (kvals rs y),h:=some fun _ h=>qai (frzL h (cellsOf args)) h } }
def mkF(f:Nat)(ks:List Kd)(e:TypeId)(s:Sh)(D:Dens ks->Option (List s.den)):Ent:=
 { f:=f,run:=fun args h=>match decL false h ks args with | none=>none | some x=>some { α:=List s.den,r:=D x,v:=fun _=>.slc h.length 0,h:=some fun y h=>h ++ [.row false 0 e s y] } }
def qeO (P : Program) (f : Nat) : Prop := ∃ fn c, P.funcs[f]? = some fn ∧ (fn.name == "runtime.NumGoroutine") = false ∧ fn.body = some c
theorem entP{gs:List (Nat×List Value)}{f:Nat}{ks rs:List Kd}{D:Dens ks->Option (Dens rs)}(hb:qeO P f)(hs:rs.all Kd.scal=true)(hS:SpecD P gs f ks rs D):EntOk P gs (mkP f ks rs D) where
 fn:=fun _ _ _ _=>hb
 rd:=fun args h hm p y hsub hp _ hr w0 A M0 w σ hgl R vs hv=>by
  simp only [mkP] at hp
  split at hp
  ·cases hp
  ·rename_i x hx
   cases hp
   have hv':=qdZ (h':=[]) (σ':=σ0) R hsub (Mt:=fun _=>False) (fun b hb=>hb.elim) (fun _ _ h=>h) ks hv (fun _ _ _ _ _ _ _ _ _ _ _ _ _ _ _ h=>h) hx
   refine (hS _ w x y vs (fun b hb=>hb.elim) (hgl.now R) hv' hr).mono ?_
   rintro e w' ⟨v,rfl,h1,h2⟩
   exact⟨v,rfl,h1,qzt hs h2⟩
 wr:=fun args h p u y hp hu=>by
  simp only [mkP] at hp
  split at hp
  ·cases hp
  ·cases hp;cases hu
theorem entD{gs:List (Nat×List Value)}{f:Nat}{ks rs:List Kd}{D:Dens ks->Option (Dens rs)}(hb:qeO P f)(hS:SpecD P gs f ks rs D):EntOk P gs (mkD f ks rs D) where
 fn:=fun _ _ _ _=>hb
 rd:=fun args h hm p y hsub hp hh=>by
  simp only [mkD] at hp
  split at hp
  ·cases hp
  ·cases hp;cases hh
 wr:=fun args h p u y hp hu hr w0 A M0 w σ hgl R vs hv=>by
  simp only [mkD] at hp
  split at hp
  ·cases hp
  ·rename_i x hx
   cases hp
   cases hu
   obtain⟨nf,hv'⟩:=qxK R hv hx
   refine (hS _ w x y vs (fun b hb=>nf.rep.mlt hb) (hgl.now R) hv' hr).mono ?_
   rintro e w' ⟨v,rfl,h1,h2⟩
   exact⟨v,σ,rfl,nf.trans (Next.grow nf.rep h1) R,qxj h2⟩
theorem qro{gs:List (Nat×List Value)}{f:Nat}{ks:List Kd}{e:TypeId}{s:Sh}{D:Dens ks->Option (List s.den)}(hS:SpecF P gs f ks e s D):SpecD P gs f ks [.dat (.sl s)] (fun x=>(D x).map fun y=>(y,())):=by
 intro M w x y vs hM hg hv hD
 obtain⟨y0,h0,rfl⟩:=zw.1 hD
 refine (hS M w x y0 vs hM hg hv h0).mono ?_
 rintro e w' ⟨l,cs,rfl,hb,hown,hrl,hl⟩
 refine⟨_,rfl,hb,?_⟩
 simp only [kvals,retV,Kd.val,enc,RV]
 exact qje hown hrl (fun b hb=>.inl hb) fun b ha hm=>by have:=hl b ha;have:=hM b hm;omega
def mkQ(f:Nat)(ks rs:List Kd)(D:Dens ks->Option (Dens rs)):Ent:=
 { f:=f,run:=fun args _=>match decL true [] ks args with | none=>none | some x=>some { α:=Dens rs,r:=D x,v:=fun y=>retV (kvals rs y),h:=none } }
theorem entQ{gs:List (Nat×List Value)}{f:Nat}{ks rs:List Kd}{D:Dens ks->Option (Dens rs)}(hb:qeO P f)(hS:SpecD P gs f ks rs D):EntOk P gs (mkQ f ks rs D) where
 fn:=fun _ _ _ _=>hb
 rd:=fun args h hm p y hsub hp _ hr w0 A M0 w σ hgl R vs hv=>by
  simp only [mkQ] at hp
  split at hp
  ·cases hp
  ·rename_i x hx
   cases hp
   have hv':=qdZ (h':=[]) (σ':=σ0) (hm:=[]) R (fun o=>.inl (by simp [getO])) (Mt:=mutb M0 h σ) (fun b hb=>hb) (fun hh=>by cases hh) ks hv (fun _ _ _ _=>qfX) hx
   refine (hS _ w x y vs (fun b hb=>R.mlt hb) (hgl.now R) hv' hr).mono ?_
   rintro e w' ⟨v,rfl,h1,h2⟩
   exact⟨v,rfl,h1,qxj h2⟩
 wr:=fun args h p u y hp hu=>by
  simp only [mkQ] at hp
  split at hp
  ·cases hp
  ·cases hp;cases hu
theorem qBK{w0:World}{A M0:Nat->Prop}(R:Rep w0 A M0 w h σ){e:TypeId}{s:Sh}(h1:1<=s.n){y:List s.den}{l:Loc}{cs:List Value}(g:Below w.heap.size w w')(hown:w'.ownsRow 0 e s.n (rowV l y.length) y.length cs)
  (hrl:RL w' (fun b=>mutb M0 h σ b\/l.a=some b) s y cs) (hl:∀ b,l.a=some b->w.heap.size<=b) :
  Next w0 A M0 w h σ w' (h ++ [.row false 0 e s y]) (updL σ h.length l)/\RV w' (mutb M0 (h ++ [.row false 0 e s y]) (updL σ h.length l)) (h ++ [.row false 0 e s y]) (updL σ h.length l) (.slc h.length 0) (rowV l y.length):=by
 have hH:getO (h ++ [O.row false 0 e s y]) h.length=.row false 0 e s y:=by rw [qbA,zJ rfl]
 refine⟨qhB R (qlO h) hH (fun o ho=>by rw [qbA,zL ho]) g l hl (fun k st=>⟨h1,cs,hown,RL.keeps (qbW fun b hb=>?_) hrl⟩),?_⟩
 ·rcases hb with hb | ⟨o,hlo,ha⟩
  ·exact .inl (.inl hb)
  ·by_cases eo:o=h.length
   ·subst eo;rw [qZ,hH] at ha;exact .inr ha
   ·rw [qaE σ l eo] at ha
    rw [qbA,zL eo] at hlo ha
    exact .inl (.inr ⟨o,hlo,ha⟩)
 ·simp only [RV]
  exact⟨false,0,e,s,y,hH,Nat.le_refl _,rfl,fun _=>by rw [qZ];rfl⟩
theorem entF{gs:List (Nat×List Value)}{f:Nat}{ks:List Kd}{e:TypeId}{s:Sh}{D:Dens ks->Option (List s.den)}(hb:qeO P f)(hs:s.flat=true)(h1:1<=s.n)(hS:SpecF P gs f ks e s D):EntOk P gs (mkF f ks e s D) where
 fn:=fun _ _ _ _=>hb
 rd:=fun args h hm p y hsub hp hh=>by
  simp only [mkF] at hp
  split at hp
  ·cases hp
  ·cases hp;cases hh
 wr:=fun args h p u y hp hu hr w0 A M0 w σ hgl R vs hv=>by
  simp only [mkF] at hp
  split at hp
  ·cases hp
  ·rename_i x hx
   cases hp
   cases hu
   have hv':=qdZ (h':=[]) (σ':=σ0) R (Sub.refl _) (Mt:=fun _=>False) (fun b hb=>hb.elim) (fun _ _ h=>h) ks hv (fun _ _ _ _ _ _ _ _ _ _ _ _ _ _ _ h=>h) hx
   refine (hS _ w x y vs (fun b hb=>hb.elim) (hgl.now R) hv' hr).mono ?_
   rintro e' w' ⟨l,cs,rfl,g,hown,hrl,hl⟩
   obtain⟨nx,hrv⟩:=qBK R h1 g hown (RL.flat hs hrl) hl
   exact⟨_,_,rfl,nx,hrv⟩
end
end Go.Abs
