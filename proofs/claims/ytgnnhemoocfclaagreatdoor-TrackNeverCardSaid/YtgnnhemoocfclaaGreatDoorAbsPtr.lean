import Derived.Test.YtgnnhemoocfclaaGreatDoorAbsFrag
namespace Go.Abs
def qzC(P:Program)(gs:List (Nat×List Value))(f:Nat)(ks:List Kd)(g:Nat)(s1 s2 s3:Sh)(D:Dens ks->Option (s1.den×s2.den×s3.den)):Prop:=
 ∀ (M:Nat->Prop) (w:World) (x:Dens ks) (y:s1.den×s2.den×s3.den) (vs:List Value),(∀ b,M b->b<w.heap.size)->GW gs w->RVs w M [] σ0 (kvals ks x) vs->D x=some y ->
  Calls P f vs.toArray w fun e w'=>∃ v,e=.returned v/\Below w.heap.size w w'/\RV w' M [] σ0 (.clo g [.pptr s1 y.1,.fptr s2 y.2.1,.fptr s3 y.2.2]) v
def finB3(g:Nat)(s1 s2 s3:Sh)(v:V)(h:List O):Option (s1.den×s2.den×s3.den):=
 match v with
 | .clo g' [.ptr 0 0,.ptr 1 0,.ptr 2 0]=>bif Nat.beq g g' then (match cvH [] 3 h with
  | [.cells [.fptr t x],.cells v2,.cells v3]=>(match qbu (s:=t) (s':=s1) x,qfr [] s2 v2,qfr [] s3 v3 with
   | some a,some b,some c=>some (a,b,c)
   | _,_,_=>none)
  | _=>none) else none
 | _=>none
section
variable {P : Program} {w w' : World} {M : Nat -> Prop} {h : List O} {σ : Nat -> Loc}
theorem qCu{w0:World}{A M0:Nat->Prop}(R:Rep w0 A M0 w h σ){o:Nat}{us:List V}(ho:getO h o=.cells us){z:Value}{M':Nat->Prop}(hv:RV w M' h σ (.ptr o 0) z) :
  ∃ (b:Nat) (cs:List Value),z=.pointer (some ⟨b,0,none⟩)/\b<w.heap.size/\own h σ b/\qaN w b 0 cs/\RVs w (mutb M0 h σ) h σ us cs:=by
 simp only [RV] at hv
 obtain⟨b',ha,hpt⟩:=hv
 obtain⟨rfl,-⟩:=hpt.low rfl
 have ro:=R.obj o
 rw [ho] at ro
 obtain⟨b,ty,cs,hb,hcs,hrs,_⟩:=ro
 rw [hb] at ha
 have hbb:=zBF ha
 subst hbb
 refine⟨b,cs.toList,rfl,(zI.1 hcs).1,⟨o,by rw [ho];trivial,by rw [ho];exact hb⟩,fun j v hj=>?_,hrs⟩
 rw [Nat.zero_add]
 rw [zu] at hj
 simp [World.cell?,hcs,hj]
theorem qAK{gs:List (Nat×List Value)}{f:Nat}{fn:Func}{c:Code}{ks:List Kd}{g:Nat}{s1 s2 s3:Sh}{D:Dens ks->Option (s1.den×s2.den×s3.den)}(hf:P.funcs[f]? = some fn)(hb:fn.body=some c)(hm:P.follows .mixedOrders=true)(hlen:ks.length<=fn.ntmps)
  (hex:∀ x y,D x=some y->∃ C ann,CtxOk P gs fn C/\exec C c ann (argS 0 (kvals ks x)) [] (finK C fn.results.toList (finB3 g s1 s2 s3))=some y):qzC P gs f ks g s1 s2 s3 D:=by
 intro M w x y vs hM hgw hv hD
 obtain⟨C,ann,hC,hx⟩:=hex x y hD
 refine (qlS hf hb hC.types hC.calls hC.its (hC.gs▸hgw.gl) hm hC.n hx (by rw [qgJ];exact hlen) (qqF w hM) (RVs.less (fun b hb=>qqf hb) hv)).mono ?_
 rintro e' w' ⟨v,u,h',σ',rfl,hfin,R,hr⟩
 unfold finB3 at hfin
 split at hfin
 ·rename_i g'
  obtain⟨hg,hfin2⟩:=qc hfin
  clear hfin
  have:=zB hg
  subst this
  split at hfin2
  ·rename_i t a0 u2 u3 eh
   split at hfin2
   ·rename_i a b c ha hbd hcd
    cases hfin2
    have R0:=qpx (fx:=[]) (base:=3) R
    have hr0:=cv_rv (fx:=[]) (base:=3) R hr
    have ev:cvV [] 3 h' (.clo g [.ptr 0 0,.ptr 1 0,.ptr 2 0])=.clo g [.ptr 0 0,.ptr 1 0,.ptr 2 0]:=rfl
    rw [eh] at R0 hr0
    rw [ev] at hr0
    simp only [RV,RVs] at hr0
    obtain⟨ws,rfl,z0,zs0,hz,h0,z1,zs1,rfl,h1,z2,zs2,rfl,h2,rfl⟩:=hr0
    obtain⟨b0,c0,rfl,l0,o0,k0,r0⟩:=qCu (us:=[.fptr t a0]) R0 rfl (z:=z0) (M':=fun _=>False) (by simp only [RV];exact h0)
    obtain⟨b1,c1,rfl,l1,o1,k1,r1⟩:=qCu (us:=u2) R0 rfl (z:=z1) (M':=fun _=>False) (by simp only [RV];exact h1)
    obtain⟨b2,c2,rfl,l2,o2,k2,r2⟩:=qCu (us:=u3) R0 rfl (z:=z2) (M':=fun _=>False) (by simp only [RV];exact h2)
    have out:∀ b',own [O.cells [.fptr t a0],O.cells u2,O.cells u3] σ' b'->¬ M b':=fun b' ho hm'=>by
     have:=hM b' hm'
     have:=(R0.inA b' ho).resolve_left id
     omega
    refine⟨_,rfl,R.fr.below,?_⟩
    simp only [RV,RVs]
    have hd2:=qce R0 (hm:=[]) (fun o=>.inl (by simp [getO])) (Mt:=M) (fun b' hb'=>.inl hb') r1 (fun u _ o ver _ ver' e s xs hg=>by simp [getO] at hg) hbd
    have hd3:=qce R0 (hm:=[]) (fun o=>.inl (by simp [getO])) (Mt:=M) (fun b' hb'=>.inl hb') r2 (fun u _ o ver _ ver' e s xs hg=>by simp [getO] at hg) hcd
    simp only [RVs,RV] at r0
    obtain⟨p0,ps0,rfl,⟨b',q',cs',rfl,hb',hm',hc',hrc'⟩,rfl⟩:=r0
    obtain⟨e,rfl⟩:=qaq ha
    subst e
    exact⟨ws,rfl,_,_,hz,⟨b0,0,b',q',cs',rfl,l0,out b0 o0,k0,hb',fun hm2=>hm' (.inl hm2),hc',RC.sub (fun b hb=>.inl hb) hrc'⟩,
     _,_,rfl,⟨b1,0,c1,rfl,l1,out b1 o1,k1,hd2⟩,_,_,rfl,⟨b2,0,c2,rfl,l2,out b2 o2,k2,hd3⟩,rfl⟩
   ·cases hfin2
  ·cases hfin2
 ·cases hfin
theorem qFv{gs:List (Nat×List Value)}{f:Nat}{fn:Func}{c:Code}{ks:List Kd}{g:Nat}{s1 s2 s3:Sh}{D:Dens ks->Option (s1.den×s2.den×s3.den)}{C:Ctx}{a:Ann}(hf:P.funcs[f]? = some fn)(hb:fn.body=some c)(hm:P.follows .mixedOrders=true)(hlen:Nat.ble ks.length fn.ntmps=true)
  (hC:CtxOk P gs fn C) (hE:∀ x,exec C c a (argS 0 (kvals ks x)) [] (finK C fn.results.toList (finB3 g s1 s2 s3))=D x):qzC P gs f ks g s1 s2 s3 D:=
 qAK hf hb hm (zG hlen) fun x _ h=>⟨C,a,hC,(hE x).trans h⟩
def mkB3(f:Nat)(ks:List Kd)(g:Nat)(s1 s2 s3:Sh)(D:Dens ks->Option (s1.den×s2.den×s3.den)):Ent:=
 { f:=f,run:=fun args h=>match decL true (qac (frzL h (cellsOf args)) h) ks args with
  | none=>none
  | some x=>some { α:=s1.den×s2.den×s3.den,r:=D x,v:=fun y=>.clo g [.pptr s1 y.1,.fptr s2 y.2.1,.fptr s3 y.2.2],h:=some fun _ h=>qac (frzL h (cellsOf args)) h } }
theorem qDF{h':List O}{σ':Nat->Loc}{g:Nat}{s1 s2 s3:Sh}{y1:s1.den}{y2:s2.den}{y3:s3.den}{v:Value}(hv:RV w M h σ (.clo g [.pptr s1 y1,.fptr s2 y2,.fptr s3 y3]) v):RV w M h' σ' (.clo g [.pptr s1 y1,.fptr s2 y2,.fptr s3 y3]) v:=by
 simp only [RV,RVs] at hv ⊢
 exact hv
theorem entB3{gs:List (Nat×List Value)}{f:Nat}{ks:List Kd}{g:Nat}{s1 s2 s3:Sh}{D:Dens ks->Option (s1.den×s2.den×s3.den)}(hb:qcN P f)(hS:qzC P gs f ks g s1 s2 s3 D):EntOk P gs (mkB3 f ks g s1 s2 s3 D) where
 fn:=fun _ _ _ _=>hb
 rd:=fun args h hm p y hsub hp hh=>by
  simp only [mkB3] at hp
  split at hp
  ·cases hp
  ·cases hp;cases hh
 wr:=fun args h p u y hp hu hr w0 A M0 w σ hgl R vs hv=>by
  simp only [mkB3] at hp
  split at hp
  ·cases hp
  ·rename_i x hx
   cases hp
   cases hu
   obtain⟨nf,hv'⟩:=qqi R hv hx
   refine (hS _ w x y vs (fun b hb=>nf.rep.mlt hb) (hgl.now R) hv' hr).mono ?_
   rintro e' w' ⟨v,rfl,gb,hrv⟩
   have nx:=Next.grow nf.rep gb
   exact⟨v,σ,rfl,nf.trans nx R,qDF hrv⟩
end
def mkI3(g:Nat)(s1 s2 s3 s:Sh)(ok:s1.den->s2.den->s3.den->Bool)(xs:s1.den->s2.den->s3.den->List s.den):IEnt:=
 { g:=g,run:=fun caps _=>match caps with
  | [.pptr t1 x1,.fptr t2 x2,.fptr t3 x3]=>(match qbu (s:=t1) (s':=s1) x1,qbu (s:=t2) (s':=s2) x2,qbu (s:=t3) (s':=s3) x3 with
   | some a,some b,some c=>some { α:=s.den,xs:=xs a b c,v:=fun y=>[enc s y],ok:=ok a b c }
   | _,_,_=>none)
  | _=>none }
def qEm(P:Program)(gs:List (Nat×List Value))(g:Nat)(s1 s2 s3 s:Sh)(ok:s1.den->s2.den->s3.den->Bool)(xs:s1.den->s2.den->s3.den->List s.den):Prop:=
 ∀ (M M':Nat->Prop) (w:World) (a:s1.den) (b:s2.den) (c:s3.den) (vs:List Value),ok a b c=true->(∀ b,M b->M' b)->(∀ b,M' b->b<w.heap.size)->GW gs w->(∀ p∈gs,¬ M p.1)->RVs w M' [] σ0 [.pptr s1 a,.fptr s2 b,.fptr s3 c] vs->∀ r n,
  qvh (WF r) n P g vs.toArray (xs a b c) (fun y=>[enc s y]) M M' w
theorem entI3{P:Program}{gs:List (Nat×List Value)}{g:Nat}{s1 s2 s3 s:Sh}{ok:s1.den->s2.den->s3.den->Bool}{xs:s1.den->s2.den->s3.den->List s.den}(hb:qcN P (tgtF g))(hS:qEm P gs g s1 s2 s3 s ok xs):IEntOk P gs (mkI3 g s1 s2 s3 s ok xs) where
 fn:=fun _ _ _ _=>hb
 it:=fun caps h p hp hok w0 A M0 w σ hgl R vs hv r n=>by
  simp only [mkI3] at hp
  split at hp
  ·rename_i t1 x1 t2 x2 t3 x3
   split at hp
   ·rename_i a b c ha hb' hc
    cases hp
    obtain⟨e,rfl⟩:=qaq ha
    subst e
    obtain⟨e,rfl⟩:=qaq hb'
    subst e
    obtain⟨e,rfl⟩:=qaq hc
    subst e
    refine hS (own h σ) (mutb M0 h σ) w x1 x2 x3 vs hok (fun b hb=>.inr hb) (fun b hb=>R.mlt hb) (hgl.now R) (fun p hp ho=>?_) (by simp only [RVs,RV] at hv ⊢;exact hv) r n
    rcases R.inA p.1 ho with h' | h'
    ·exact hgl.out p hp h'
    ·have:=(hgl.at_ p hp).1;omega
   ·cases hp
  ·cases hp
end Go.Abs
namespace Go.Abs
section
variable {ρ : Type} {P : Program} {C : Ctx}
end
theorem RC.far{w w':World}{M M':Nat->Prop}(k:∀ b,b<w.heap.size->¬ M b->b<w'.heap.size/\¬ M' b/\w'.heap[b]? = w.heap[b]?):{s:Sh} -> {x:s.den} -> {cs:List Value}->RC w M s x cs->RC w' M' s x cs
 | .int _,_,_,h=>by simp only [RC] at h ⊢;exact h
 | .bool,_,_,h=>by simp only [RC] at h ⊢;exact h
 | .unit,_,_,h=>by simp only [RC] at h ⊢;exact h
 | .pair _ _,_,_,h=>by
  simp only [RC] at h ⊢
  obtain⟨c,d,rfl,h1,h2⟩:=h
  exact⟨c,d,rfl,RC.far k h1,RC.far k h2⟩
 | .sl s,xs,_,h=>by
  simp only [RC] at h ⊢
  obtain⟨a,cap,rfl,hl,hc,h⟩:=h
  refine⟨a,cap,rfl,hl,hc,fun hne=>?_⟩
  obtain⟨b,q,ha,hb,hm,hr⟩:=h hne
  obtain⟨k1,k2,k3⟩:=k b hb hm
  refine⟨b,q,ha,k1,k2,fun i x hx=>?_⟩
  obtain⟨cs,hcs,hR⟩:=hr i x hx
  exact⟨cs,fun j v hj=>(World.cell?_of_block (w:=w) k3).trans (hcs j v hj),RC.far k hR⟩
def qEa:V->Bool
 | .int _ _=>true
 | .sl _ _=>true
 | .fptr _ _=>true
 | .pptr _ _=>true
 | .yld _=>true
 | .bad=>true
 | _=>false
theorem RV.far{w w':World}{M M':Nat->Prop}{h h':List O}{σ σ':Nat->Loc}(k:∀ b,b<w.heap.size->¬ M b->b<w'.heap.size/\¬ M' b/\w'.heap[b]? = w.heap[b]?){v:V}(hp:qEa v=true){x:Value}(hv:RV w M h σ v x):RV w' M' h' σ' v x:=by
 cases v with
 | bad=>simp only [RV]
 | int _ _=>simp only [RV] at hv ⊢;exact hv
 | sl _ _=>simp only [RV] at hv ⊢;exact RC.far k hv
 | yld _=>simp only [RV] at hv ⊢;exact hv
 | fptr _ _=>
  simp only [RV] at hv ⊢
  obtain⟨b,q,cs,rfl,hb,hm,hc,hr⟩:=hv
  obtain⟨k1,k2,k3⟩:=k b hb hm
  exact⟨b,q,cs,rfl,k1,k2,fun j v hj=>(World.cell?_of_block (w:=w) k3).trans (hc j v hj),RC.far k hr⟩
 | pptr _ _=>
  simp only [RV] at hv ⊢
  obtain⟨b,q,b',q',cs,rfl,hb,hm,hc,hb2,hm2,hc2,hr⟩:=hv
  obtain⟨k1,k2,k3⟩:=k b hb hm
  obtain⟨k4,k5,k6⟩:=k b' hb2 hm2
  exact⟨b,q,b',q',cs,rfl,k1,k2,fun j v hj=>(World.cell?_of_block (w:=w) k3).trans (hc j v hj),k4,k5,fun j v hj=>(World.cell?_of_block (w:=w) k6).trans (hc2 j v hj),RC.far k hr⟩
 | _=>simp [qEa] at hp
def mkNm(f:Nat)(s:Sh):Ent:=
 { f:=f,run:=fun args _=>match args with
  | [.nl .map]=>some { α:=Unit,r:=some (),v:=fun _=>.sl s [],h:=none }
  | _=>none }
theorem entNm{P:Program}{gs:List (Nat×List Value)}{f:Nat}{s:Sh}(hb:qcN P f)(hS:∀ w,GW gs w->Calls P f #[.map none] w fun e w'=>e=.returned (.slice none 0 0)/\Below w.heap.size w w'):EntOk P gs (mkNm f s) where
 fn:=fun _ _ _ _=>hb
 rd:=fun args h hm p y hsub hp hh hr w0 A M0 w σ hgl R vs hv=>by
  simp only [mkNm] at hp
  split at hp
  ·cases hp
   simp only [RVs,RV] at hv
   obtain⟨v,_,rfl,rfl,rfl⟩:=hv
   refine (hS w (hgl.now R)).mono ?_
   rintro e w' ⟨rfl,hB⟩
   refine⟨_,rfl,hB,?_⟩
   simp only [RV,RC]
   exact⟨none,0,rfl,Nat.le_refl _,zw _,fun h=>absurd rfl h⟩
  ·cases hp
 wr:=fun args h p u y hp hu=>by
  simp only [mkNm] at hp
  split at hp
  ·cases hp;cases hu
  ·cases hp
end Go.Abs
