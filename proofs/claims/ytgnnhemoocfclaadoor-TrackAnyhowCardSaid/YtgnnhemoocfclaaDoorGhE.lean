import Derived.Test.YtgnnhemoocfclaaDoorGhK
noncomputable section
namespace Go.Proofs.YtgnnhemoocfclaaDoor.Gh
open Go.Abs Go.Gr
theorem qjo{R S:Type}{g:S->(S->Option R)->Option R}(Q:Option R->Prop)(n:Nat)(I:Nat->S->Prop)(h2:∀ i s,i<n->I i s->∀ kn,(∀ s',I (i+1) s'->Q (kn s'))->Q (g s kn))
  (h3:∀ s,I n s->∀ kn,Q (g s kn)) {N:Nat} (hN:n<N) {s:S} (h0:I 0 s):Q (loopD g N s):=by
 have key:∀ j i s M,i+j=n->I i s->j<M->Q (loopD g M s):=by
  intro j
  induction j with
  | zero=>
   rintro i s (_ | M) hi hI hM
   ·omega
   ·rw [loopD_s];exact h3 s (by rw [<- hi];exact hI) _
  | succ j ih=>
   rintro i s (_ | M) hi hI hM
   ·omega
   ·rw [loopD_s]
    exact h2 i s (by omega) hI _ fun s' hs'=>ih (i+1) s' M (by omega) hs' (by omega)
 exact key n 0 s N (by omega) h0 hN
def PortX(ns:List Nd)(es:List Ed)(i:Nat)(x:Ed):Prop:=
 (0<=x.1/\x.1<ns.length/\0<=x.2.1/\x.2.1<ns.length/\0<=x.2.2/\x.2.2<prt (nth z5 ns x.2.1.toNat)) /\
 ∀ j,j<i->¬ ((nth z3 es j).2.1=x.2.1/\(nth z3 es j).2.2=x.2.2)
open Classical in
def edgeY(ns:List Nd)(es:List Ed)(i:Nat)(x:Ed):Int:=
 if PortX ns es i x then (if outOf (nth z5 ns x.1.toNat)=(nth z5 ns x.2.1.toNat).2.1 then 0 else 7) else 8
abbrev edgeC(ns:List Nd)(es:List Ed)(i:Nat):Int:=edgeY ns es i (nth z3 es i)
theorem qla{ns:List Nd}{es:List Ed}{i:Nat}:edgeC ns es i=0↔quL ns es i:=by
 unfold edgeC edgeY
 constructor
 ·intro h
  split at h
  ·rename_i hp
   split at h
   ·rename_i hd
    obtain⟨⟨a,b,c,d,e,f⟩,g⟩:=hp
    exact⟨a,b,c,d,e,f,g,hd⟩
   ·cases h
  ·cases h
 ·intro h
  rw [zH ⟨⟨h.f0,h.fn,h.t0,h.tn,h.p0,h.pn⟩,h.own⟩,zH h.deep]
def qic(f:Nat->Int):Nat->Int
 | 0=>0
 | n+1=>if qic f n=0 then f n else qic f n
theorem qhl{f:Nat->Int}{n:Nat}:qic f n=0↔∀ i,i<n->f i=0:=by
 induction n with
 | zero=>simp [qic]
 | succ n ih=>
  simp only [qic]
  constructor
  ·intro h
   split at h
   ·rename_i h0
    intro i hi
    rcases zAS.1 hi with h' | rfl
    ·exact ih.1 h0 i h'
    ·exact h
   ·rename_i h0;exact absurd h h0
  ·intro h
   rw [zH (ih.2 fun i hi=>h i (by omega))]
   exact h n (by omega)
theorem qwU{f:Nat->Int}{n i:Nat}(hi:i<n)(h0:∀ j,j<i->f j=0)(h:f i≠0):qic f n=f i:=by
 induction n with
 | zero=>omega
 | succ n ih=>
  simp only [qic]
  rcases zAS.1 hi with h' | rfl
  ·rw [ih h',zK h]
  ·rw [zH (qhl.2 h0)]
def Missing(ns:List Nd)(es:List Ed):Prop:=∃ i p:Nat,i<ns.length/\(p:Int)<prt (nth z5 ns i)/\∀ e∈es,¬ (e.2.1=(i:Int)/\e.2.2=(p:Int))
open Classical in
def codeE(ns:List Nd)(es:List Ed):Int:=if qic (edgeC ns es) es.length=0 then (if Missing ns es then 5 else 0) else qic (edgeC ns es) es.length
structure TtOk (n:Nat) (E:Nat->Nat->Prop) (to:List Int):Prop where
 len:to.length=n
 w:∀ a,W32 (nth 0 to a)
 bit:∀ a b,bt (nth 0 to a) b=true↔a<n/\b<n/\E a b
def EdT(es:List Ed)(m a b:Nat):Prop:=∃ j,j<m/\(nth z3 es j).1=(a:Int)/\(nth z3 es j).2.1=(b:Int)
theorem qwg{n a:Nat}:nth (0:Int) (List.replicate n 0) a=0:=by
 unfold nth;simp only [zJ,zBN];split <;> rfl
section
variable {N : Nat} {ns : List Nd} {es : List Ed}
theorem qrW(N:Nat)(x:Nd):qbY N (x,())=some (prt x,()):=by
 simp only [qbY,qke,prt]
 by_cases h:x.1=1
 ·rw [zH h,show (x.1==1)=true from beq_iff_eq.2 h];rfl
 ·rw [zK h,show (x.1==1)=false from zW h]
  by_cases h3:x.1=3
  ·rw [zH h3,show (x.1==3)=true from beq_iff_eq.2 h3];rfl
  ·rw [zK h3,show (x.1==3)=false from zW h3];rfl
theorem qzu(N:Nat){x:Nd}(h:qaP x=true):qed N (x,())=some (outOf x,()):=by
 have:=qdp.1 h
 simp only [qed,qnl,outOf]
 by_cases h4:x.1=4
 ·rw [zH h4,show (x.1==4)=true from beq_iff_eq.2 h4,w64 (n:=x.2.1+1) (by omega) (by omega)];rfl
 ·rw [zK h4,show (x.1==4)=false from zW h4]
  by_cases h5:x.1=5
  ·rw [zH h5,show (x.1==5)=true from beq_iff_eq.2 h5,w64 (n:=x.2.1 - 1) (by omega) (by omega)];rfl
  ·rw [zK h5,show (x.1==5)=false from zW h5];rfl
abbrev kP:Sh:=.pair (.int .i64) (.int .i64)
abbrev vP:Sh:=.int .i64
theorem qAd(hn:ns.length<=12)(he:es.length<=20)(hok:∀ x∈ns,qaP x=true)(k:_->Option ql){i:Nat}(hi:i<es.length)(to:List Int)(hl:to.length=ns.length)(mp:Int×List (Int×(Int×Int)×Int))
  (hm:∀ a b:Int,mpHas kP vP mp (a,b)=true↔∃ j,j<i/\(nth z3 es j).2.1=a/\(nth z3 es j).2.2=b) (kn:_->Option ql) {x:Ed} (hx:nth ((0:Int),(0:Int),(0:Int)) es i=x) :
  qbT N k es (es.length:Int) ns es 0 0 (i:Int) to mp kn=if edgeY ns es i x=0 then kn ((es,(es.length:Int),ns,es,0,0),((i:Int)+1,to.set x.1.toNat (ior .u32 (nth 0 to x.1.toNat) (one x.2.1.toNat)),mpPut kP vP mp (x.2.1,x.2.2) (i:Int)))
   else some ((edgeY ns es i x,(i:Int)),ns,es,to):=by
 simp only [qbT,lt_d hi,ge0_d,Bool.and_self,cond_true,Int.toNat_natCast,joinD,nd_eta,qfC,qas,qhj,Option.bind_some,hx]
 have hcdef:edgeY ns es i x=edgeY ns es i x:=rfl
 conv at hcdef=>rhs;unfold edgeY
 generalize edgeY ns es i x=c at *
 obtain⟨f,t,p⟩:=x
 simp only at *
 by_cases h1:(if t<f then t else f)<0
 ·rw [qA h1,cond_true]
  rw [zK (fun hp=>by have:=hp.1;simp only at this;split at h1 <;> omega)] at hcdef
  rw [hcdef,zK (by decide)]
 rw [qK h1,cond_false]
 by_cases h2:(if t>f then t else f)>=(ns.length:Int)
 ·rw [qA h2,cond_true]
  rw [zK (fun hp=>by have:=hp.1;simp only at this;split at h2 <;> omega)] at hcdef
  rw [hcdef,zK (by decide)]
 rw [qK h2,cond_false]
 have r1:0<=t/\0<=f:=by split at h1 <;> omega
 have r2:t<ns.length/\f<ns.length:=by split at h2 <;> omega
 by_cases h3:p<0
 ·rw [qA h3,cond_true]
  rw [zK (fun hp=>by have:=hp.1;simp only at this;omega)] at hcdef
  rw [hcdef,zK (by decide)]
 rw [qK h3,cond_false,qA r1.1,qA r2.1,Bool.and_self,cond_true]
 simp only [qrW N (nth ((0:Int),(0:Int),(0:Int),(0:Int),(0:Int)) ns t.toNat),Option.bind_some]
 by_cases h4:p>=prt (nth ((0:Int),(0:Int),(0:Int),(0:Int),(0:Int)) ns t.toNat)
 ·rw [qA h4,cond_true]
  rw [zK (fun hp=>by have:=hp.1;simp only at this;have:=this.2.2.2.2.2;have h4:p>=prt (nth z5 ns t.toNat):=h4;omega)] at hcdef
  rw [hcdef,zK (by decide)]
 rw [qK h4,cond_false]
 cases q:mpHas kP vP mp (t,p) with
 | true=>
  rw [cond_true]
  obtain⟨j,hj,e1,e2⟩:=(hm t p).1 q
  rw [zK (fun hp=>hp.2 j hj ⟨e1,e2⟩)] at hcdef
  rw [hcdef,zK (by decide)]
 | false=>
  have hp:PortX ns es i (f,t,p):=⟨⟨r1.2,r2.2,r1.1,r2.1,show (0:Int)<=p by omega,show p<prt (nth z5 ns t.toNat) from Int.not_le.1 h4⟩,fun j hj e=>by
   have:=(hm t p).2 ⟨j,hj,e.1,e.2⟩
   rw [q] at this;cases this⟩
  rw [zH hp] at hcdef
  have hf:qaP (nth z5 ns f.toNat)=true:=hok _ (qbI (by omega))
  rw [cond_false,qA r1.2,qA r2.2,Bool.and_self,cond_true]
  simp only [qzu N hf,Option.bind_some,qA r1.1,qA r2.1,Bool.and_self,cond_true]
  by_cases h5:outOf (nth z5 ns f.toNat)=(nth z5 ns t.toNat).2.1
  ·rw [zH h5] at hcdef
   rw [hcdef,zH rfl,h5,bne_self_eq_false,cond_false,hl,qA r2.2,Bool.and_self,cond_true]
   have ho:qbv N (t,())=some (one t.toNat,()):=by
    have:=qxH N t.toNat
    rwa [show ((t.toNat:Nat):Int)=t by omega] at this
   simp only [ho,Option.bind_some]
   rw [ix1 hi (by omega)];rfl
  ·rw [zK h5] at hcdef
   rw [hcdef,zK (by decide),show (outOf (nth z5 ns f.toNat) != (nth z5 ns t.toNat).2.1)=true from bne_iff_ne.2 h5,cond_true]
abbrev QE(ns:List Nd)(es:List Ed)(r:Option ql):Prop:=∃ (p:Int) (to:List Int),r=some ((codeE ns es,p),ns,es,to)/\(codeE ns es=0->TtOk ns.length (EdT es es.length) to)
theorem qyB(hN:1000<=N)(hn:ns.length<=12)(he:es.length<=20)(hok:∀ x∈ns,qaP x=true) :
  ∃ (p:Int) (to:List Int),qaT N (ns,es,List.replicate ns.length 0)=some ((codeE ns es,p),ns,es,to)/\(codeE ns es=0->TtOk ns.length (EdT es es.length) to):=by
 simp only [qaT,qfB,joinD,loopE]
 refine qjo (QE ns es) es.length
  (fun i s=>s.1=(i:Int)/\(∀ j,j<i->edgeC ns es j=0)/\TtOk ns.length (EdT es i) s.2.1/\MpOk kP vP s.2.2/\∀ a b:Int,mpHas kP vP s.2.2 (a,b)=true↔∃ j,j<i/\(nth z3 es j).2.1=a/\(nth z3 es j).2.2=b) ?_ ?_ (by omega) ?_
 ·rintro i ⟨_,to,mp⟩ hi ⟨rfl,h0,ht,hm,hh⟩ kn hk
  simp only
  rw [qAd hn he hok _ hi to ht.len mp hh _ (x:=nth z3 es i) rfl]
  by_cases q:edgeC ns es i=0
  ·rw [zH q,qU]
   refine hk _ ⟨by simp,fun j hj=>?_,?_,hm.put rfl _ _,fun a b=>?_⟩
   ·rcases zAS.1 hj with h | rfl
    ·exact h0 j h
    ·exact q
   ·have hed:=qla.1 q
    have f0:0<=(nth z3 es i).1:=hed.f0
    have fn:(nth z3 es i).1<ns.length:=hed.fn
    have t0:0<=(nth z3 es i).2.1:=hed.t0
    have tn:(nth z3 es i).2.1<ns.length:=hed.tn
    refine⟨by simp [ht.len],fun a=>?_,fun a b=>?_⟩
    ·simp only [qvR];split
     ·exact W32.ior
     ·exact ht.w a
    ·simp only [qvR]
     have hx:(EdT es (i+1) a b↔EdT es i a b\/((nth z3 es i).1=(a:Int)/\(nth z3 es i).2.1=(b:Int))):=by
      constructor
      ·rintro⟨j,hj,e⟩
       rcases zAS.1 hj with h | rfl
       ·exact .inl ⟨j,h,e⟩
       ·exact .inr e
      ·rintro (⟨j,hj,e⟩ | e)
       ·exact⟨j,by omega,e⟩
       ·exact⟨i,by omega,e⟩
     rw [hx]
     have hb:=ht.bit a b
     by_cases q:(nth z3 es i).1.toNat=a
     ·subst q
      rw [zH ⟨rfl,by rw [ht.len];omega⟩,qsz (ht.w _) (W32.one _),zw,hb,qxt (by omega)]
      simp only [zP]
      constructor
      ·rintro (⟨h1,h2,h3⟩ | rfl)
       ·exact⟨h1,h2,.inl h3⟩
       ·exact⟨by omega,by omega,.inr ⟨by omega,by omega⟩⟩
      ·rintro⟨h1,h2,h3 | h3⟩
       ·exact .inl ⟨h1,h2,h3⟩
       ·exact .inr (by omega)
     ·rw [zK (fun h=>q h.1),hb]
      constructor
      ·rintro⟨h1,h2,h3⟩;exact⟨h1,h2,.inl h3⟩
      ·rintro⟨h1,h2,h3 | h3⟩
       ·exact⟨h1,h2,h3⟩
       ·exact absurd h3.1 (by omega)
   ·simp only
    by_cases q':((a,b):Int×Int)=((nth z3 es i).2.1,(nth z3 es i).2.2)
    ·have e1:a=(nth z3 es i).2.1:=congrArg Prod.fst q'
     have e2:b=(nth z3 es i).2.2:=congrArg Prod.snd q'
     rw [q']
     rw [qya (k:=kP) (v:=vP) rfl mp _ _]
     exact⟨fun _=>⟨i,by omega,e1.symm,e2.symm⟩,fun _=>rfl⟩
    ·rw [qmI (k:=kP) (v:=vP) rfl mp q',hh a b]
     constructor
     ·rintro⟨j,hj,e⟩;exact⟨j,by omega,e⟩
     ·rintro⟨j,hj,e⟩
      rcases zAS.1 hj with h | rfl
      ·exact⟨j,h,e⟩
      ·exact absurd (by rw [e.1,e.2]) q'
  ·rw [zK q]
   have hce:codeE ns es=edgeC ns es i:=by
    unfold codeE
    have:=qwU hi h0 q
    rw [this,zK q]
   exact⟨_,_,by rw [hce],fun h=>absurd (hce▸h) q⟩
 ·rintro⟨_,to,mp⟩ ⟨rfl,h0,ht,hm,hh⟩ kn
  have hfz:qic (edgeC ns es) es.length=0:=qhl.2 h0
  simp only [qbT,qbr,cond_false,qfD,joinD,loopE]
  have hce:codeE ns es=open Classical in if Missing ns es then 5 else 0:=by
   unfold codeE;rw [zH hfz]
  refine qjo (QE ns es) ns.length (fun i s=>s=(i:Int)/\∀ a p:Nat,a<i->(p:Int)<prt (nth z5 ns a)->∃ e∈es,e.2.1=(a:Int)/\e.2.2=(p:Int)) ?_ ?_ (by omega) ⟨rfl,fun a p h=>absurd h (zAc _)⟩
  ·rintro i _ hi ⟨rfl,hI⟩ kn hk
   simp only [qdi,lt_d hi,ge0_d,Bool.and_self,cond_true,Int.toNat_natCast,joinD,nd_eta,qrW N (nth ((0:Int),(0:Int),(0:Int),(0:Int),(0:Int)) ns i),Option.bind_some,loopE]
   have hpp:0<=prt (nth z5 ns i)/\prt (nth z5 ns i)<=2:=by unfold prt;split <;> (try split) <;> omega
   refine qjo (QE ns es) (prt (nth z5 ns i)).toNat (fun p s=>s=(p:Int)/\∀ p':Nat,p'<p->∃ e∈es,e.2.1=(i:Int)/\e.2.2=(p':Int)) ?_ ?_ (show (prt (nth z5 ns i)).toNat<N by omega) ⟨rfl,fun p' h=>absurd h (zAc _)⟩
   ·rintro p _ hp ⟨rfl,hP⟩ kn' hk'
    have hlt:(p:Int)<prt (nth ((0:Int),(0:Int),(0:Int),(0:Int),(0:Int)) ns i):=by
     have:(p:Int)<prt (nth z5 ns i):=by omega
     exact this
    simp only [qdj,qA hlt,cond_true]
    cases q:mpHas kP vP mp ((i:Int),(p:Int)) with
    | true=>
     rw [Bool.not_true,cond_false,qU,w64 (by omega) (by omega)]
     refine hk' _ ⟨by simp,fun p' hp'=>?_⟩
     rcases zAS.1 hp' with h | rfl
     ·exact hP p' h
     ·obtain⟨j,hj,e⟩:=(hh _ _).1 q
      exact⟨_,qbI hj,e⟩
    | false=>
     have hmis:Missing ns es:=⟨i,p,hi,hlt,fun e hem hee=>by
      obtain⟨j,hj,rfl⟩:=mem_nth (z:=z3) hem
      have:=(hh (i:Int) (p:Int)).2 ⟨j,hj,hee⟩
      rw [q] at this;cases this⟩
     rw [zH hmis] at hce
     simp only [Bool.not_false,cond_true,qas,qhj,Option.bind_some]
     exact⟨_,_,by rw [hce],fun h=>by rw [hce] at h;cases h⟩
   ·rintro _ ⟨rfl,hP⟩ kn'
    have hge:¬ (((prt (nth z5 ns i)).toNat:Nat):Int)<prt (nth ((0:Int),(0:Int),(0:Int),(0:Int),(0:Int)) ns i):=by
     have:¬ (((prt (nth z5 ns i)).toNat:Nat):Int)<prt (nth z5 ns i):=by omega
     exact this
    simp only [qdj,qK hge,cond_false,qfE,qU,ix1 hi (by omega)]
    refine hk _ ⟨by simp,fun a p ha hp=>?_⟩
    rcases zAS.1 ha with h | rfl
    ·exact hI a p h hp
    ·exact hP p (by omega)
  ·rintro _ ⟨rfl,hI⟩ kn
   simp only [qdi,qbr,cond_false,qfF]
   have hmis:¬ Missing ns es:=by
    rintro⟨a,p,ha,hp,hno⟩
    obtain⟨e,hem,hee⟩:=hI a p ha hp
    exact hno e hem hee
   rw [zK hmis] at hce
   exact⟨_,_,by rw [hce],fun _=>ht⟩
 ·refine⟨rfl,fun j h=>absurd h (zAc _),⟨by simp,fun a=>?_,fun a b=>?_⟩,MpOk.empty,fun a b=>⟨(fun h=>by cases h),fun ⟨j,hj,_⟩=>absurd hj (zAc _)⟩⟩
  ·rw [qwg];exact W32.zero
  ·rw [qwg,qfJ]
   exact⟨(fun h=>by cases h),fun ⟨_,_,j,hj,_⟩=>absurd hj (zAc _)⟩
end
end Go.Proofs.YtgnnhemoocfclaaDoor.Gh
end
