import Derived.Test.YtgnnhemoocfclaaDoorReaP
namespace Go.Proofs.YtgnnhemoocfclaaDoor.Rea
open Go.Abs
open Go.Smy (Sm qw qy qaH leqP qaJ thenS qhi qib)
open Go.Proofs.YtgnnhemoocfclaaDoor.Gh (Nd Ed nsum qaP GrOk qbJ)
section
variable {ns : List Nd} {es : List Ed}
abbrev cov(l:List Tr)(s:Tr):Prop:=∃ r∈l,leqS r s=true
abbrev rw_(n:Nat)(P:List (List Tr))(a b:Int):List Tr:=nth [] P (a.toNat*n+b.toNat)
theorem quh{n i:Nat}:nth ([]:List Tr) (List.replicate n []) i = []:=by
 unfold nth;simp only [zJ,zBN];split <;> rfl
theorem ix_lt{n a b:Nat}(ha:a<n)(hb:b<n):a*n+b<n*n:=by
 have:(a+1)*n<=n*n:=zi n ha
 rw [zAH] at this;omega
theorem qAb{n a b c d:Nat}(hb:b<n)(hd:d<n)(h:a*n+b=c*n+d):a=c/\b=d:=by
 have h1:(a*n+b) / n=(c*n+d) / n:=by rw [h]
 have hn:0<n:=by omega
 rw [Nat.mul_comm a,Nat.mul_comm c,Nat.mul_add_div hn,Nat.mul_add_div hn,zBp hb,zBp hd] at h1
 have:a=c:=by omega
 subst this
 exact⟨rfl,by omega⟩
structure JobF (ns:List Nd) (es:List Ed) (I:List Item) (x:Item):Prop where
 a0:0<=x.1
 an:x.1<ns.length
 fit:Fit ns x.1 x.2.1 x.2.2
 pred:Pred I x.1 x.2.2
 way:Small x.2.2->WayB ns es x.1 x.2.1 x.2.2
structure Inv (ns:List Nd) (es:List Ed) (P:List (List Tr)) (J I:List Item):Prop where
 pn:P.length=ns.length*ns.length
 hist:Hist ns.length I
 way:∀ x∈I,WayB ns es x.1 x.2.1 x.2.2
 rows:∀ a b:Int,0<=a->a<ns.length->0<=b->b<ns.length->∀ r∈rw_ ns.length P a b,(a,b,r)∈I
 len:∀ k,(nth [] P k).length<=I.length
 cv:∀ x∈I,cov (rw_ ns.length P x.1 x.2.1) x.2.2
 jobs:∀ x∈J,JobF ns es I x
 next:∀ x∈I,∀ e∈es,e.1=x.2.1->(x.1,e.2.1,T x.2.2 (qn ns x.2.1))∈J\/cov (rw_ ns.length P x.1 e.2.1) (T x.2.2 (qn ns x.2.1))
 ini:∀ a:Int,0<=a->a<ns.length->(a,a,idT ns a)∈J\/cov (rw_ ns.length P a a) (idT ns a)
theorem Inv.skip(h:GrOk ns es){P:List (List Tr)}{J I:List Item}{x:Item}(v:Inv ns es P (x :: J) I)(hk:cov (rw_ ns.length P x.1 x.2.1) x.2.2):Inv ns es P J I where
 pn:=v.pn
 hist:=v.hist
 way:=v.way
 rows:=v.rows
 len:=v.len
 cv:=v.cv
 jobs:=fun y hy=>v.jobs y (zZ _ hy)
 next:=fun y hy e he hey=>by
  rcases v.next y hy e he hey with hm | hc
  ·rcases zf.1 hm with e1 | hm
   ·subst e1;exact .inr hk
   ·exact .inl hm
  ·exact .inr hc
 ini:=fun a h0 hn=>by
  rcases v.ini a h0 hn with hm | hc
  ·rcases zf.1 hm with e1 | hm
   ·subst e1;exact .inr hk
   ·exact .inl hm
  ·exact .inr hc
theorem Inv.fitI(h:GrOk ns es){P:List (List Tr)}{J I:List Item}(v:Inv ns es P J I){x:Item}(hx:x∈I):Fit ns x.1 x.2.1 x.2.2:=by
 have hi:=v.hist.item x hx
 exact ((v.way x hx).way h hi.1 hi.2.1).fit h hi.1 hi.2.1
theorem Inv.sl(h:GrOk ns es){P:List (List Tr)}{J I:List Item}(v:Inv ns es P J I){x:Item}(f:JobF ns es I x):SL (rw_ ns.length P x.1 x.2.1 ++ [x.2.2]):=by
 have hb:=f.fit
 have hout:∀ s∈rw_ ns.length P x.1 x.2.1 ++ [x.2.2],outT s=dp ns x.2.1:=fun s hs=>by
  rcases zL.1 hs with hs | hs
  ·exact (v.fitI h (v.rows _ _ f.a0 f.an hb.b0 hb.bn s hs)).out
  ·rw [zO] at hs;subst hs;exact hb.out
 refine⟨?_,fun s hs=>?_,fun s hs=>(hout s hs).trans (hout _ (qbI (by simp))).symm⟩
 ·have h1:(rw_ ns.length P x.1 x.2.1).length<=I.length:=v.len (x.1.toNat*ns.length+x.2.1.toNat)
  have h2:=v.hist.len h.n12
  rw [zS,zg];omega
 ·rcases zL.1 hs with hs | hs
  ·exact (v.fitI h (v.rows _ _ f.a0 f.an hb.b0 hb.bn s hs)).chk
  ·rw [zO] at hs;subst hs;exact hb.chk
abbrev outs(ns:List Nd)(es:List Ed)(x:Item):List Item:=(es.filter fun e=>e.1==x.2.1).map fun e=>(x.1,e.2.1,T x.2.2 (qn ns x.2.1))
theorem Inv.add(h:GrOk ns es){P:List (List Tr)}{J I:List Item}{x:Item}(v:Inv ns es P (x :: J) I)(hk:¬ cov (rw_ ns.length P x.1 x.2.1) x.2.2)
  {f:List Tr} (hf:∀ s,s∈f↔minS (rw_ ns.length P x.1 x.2.1 ++ [x.2.2]) s) (hfl:f.length<=(rw_ ns.length P x.1 x.2.1 ++ [x.2.2]).length) :
  Inv ns es (P.set (x.1.toNat*ns.length+x.2.1.toNat) f) (J++outs ns es x) (I ++ [x]):=by
 obtain⟨a,b,s⟩:=x
 have jf:=v.jobs _ (zAO ..)
 have sl:=v.sl h jf
 obtain⟨a0,an,fit,pred,hw⟩:=jf
 dsimp only at *
 have b0:=fit.b0
 have bn:=fit.bn
 have hix:a.toNat*ns.length+b.toNat<P.length:=by rw [v.pn];exact ix_lt (by omega) (by omega)
 have hsm:Small s:=v.hist.small h.n12 pred
 have hI':∀ y∈I,y∈I ++ [(a,b,s)]:=fun y hy=>za _ hy
 have hx':(a,b,s)∈I ++ [(a,b,s)]:=zV _ (zO.2 rfl)
 have hrow:∀ c d:Int,0<=c->c<ns.length->0<=d->d<ns.length->rw_ ns.length (P.set (a.toNat*ns.length+b.toNat) f) c d=if c=a/\d=b then f else rw_ ns.length P c d:=fun c d c0 cn d0 dn=>by
  unfold rw_
  rw [nth_set hix]
  by_cases e:c=a/\d=b
  ·rw [zH (by rw [e.1,e.2]),zH e]
  ·rw [zK fun e2=>e (by have:=qAb (by omega) (by omega) e2;omega),zK e]
 have hcov:∀ c d:Int,0<=c->c<ns.length->0<=d->d<ns.length->∀ r,cov (rw_ ns.length P c d) r->cov (rw_ ns.length (P.set (a.toNat*ns.length+b.toNat) f) c d) r:=fun c d c0 cn d0 dn r ⟨t,t1,t2⟩=>by
  rw [hrow c d c0 cn d0 dn]
  by_cases e:c=a/\d=b
  ·rw [zH e]
   obtain⟨m,m1,m2⟩:=qrF sl (s:=t) (by rw [<- e.1,<- e.2];exact za _ t1)
   exact⟨m,(hf m).2 m1,qgH m2 t2⟩
  ·rw [zK e];exact⟨t,t1,t2⟩
 have hcx:cov (rw_ ns.length (P.set (a.toNat*ns.length+b.toNat) f) a b) s:=by
  rw [hrow a b a0 an b0 bn,zH ⟨rfl,rfl⟩]
  obtain⟨m,m1,m2⟩:=qrF sl (s:=s) (zV _ (zO.2 rfl))
  exact⟨m,(hf m).2 m1,m2⟩
 have hmem:∀ (y:Item),y∈(a,b,s) :: J->y∈J++outs ns es (a,b,s)\/y=(a,b,s):=fun y hy=>by
  rcases zf.1 hy with e | hy
  ·exact .inr e
  ·exact .inl (za _ hy)
 refine⟨by rw [zAl];exact v.pn,?_,?_,?_,?_,?_,?_,?_,?_⟩
 ·refine .snoc v.hist pred (fun r hr=>?_) a0 an b0 bn fit.chk
  cases hl:leqS r s with
  | false=>rfl
  | true=>
   obtain⟨t,t1,t2⟩:=v.cv _ hr
   exact absurd ⟨t,t1,qgH t2 hl⟩ hk
 ·intro y hy
  rcases zL.1 hy with hy | hy
  ·exact v.way y hy
  ·rw [zO] at hy;subst hy;exact hw hsm
 ·intro c d c0 cn d0 dn r hr
  rw [hrow c d c0 cn d0 dn] at hr
  by_cases e:c=a/\d=b
  ·obtain⟨rfl,rfl⟩:=e
   rw [zH ⟨rfl,rfl⟩] at hr
   rcases zL.1 ((hf r).1 hr).1 with h1 | h1
   ·exact hI' _ (v.rows _ _ c0 cn d0 dn r h1)
   ·rw [zO] at h1;subst h1;exact hx'
  ·rw [zK e] at hr;exact hI' _ (v.rows _ _ c0 cn d0 dn r hr)
 ·intro k
  rw [nth_set hix,zS,zg]
  have h1:(rw_ ns.length P a b).length<=I.length:=v.len (a.toNat*ns.length+b.toNat)
  have h2:=v.len k
  rw [zS,zg] at hfl
  split <;> omega
 ·intro y hy
  rcases zL.1 hy with hy | hy
  ·have hi:=v.hist.item y hy
   exact hcov _ _ hi.1 hi.2.1 hi.2.2.1 hi.2.2.2.1 _ (v.cv y hy)
  ·rw [zO] at hy;subst hy;exact hcx
 ·intro y hy
  rcases zL.1 hy with hy | hy
  ·have jf:=v.jobs y (zZ _ hy)
   exact⟨jf.a0,jf.an,jf.fit,jf.pred.mono hI',jf.way⟩
  ·obtain⟨e,he,rfl⟩:=zt.1 hy
   rw [zAA] at he
   obtain⟨he,heb⟩:=he
   have heb:e.1=b:=by simpa using heb
   subst heb
   exact⟨a0,an,qux h fit he (qkj h fit hsm),Pred.step (qlo h b0 bn) fit.out fit.k1 (pred.mono hI') hx',fun hs=>.step (hw hsm) he rfl hs⟩
 ·intro y hy e he hey
  rcases zL.1 hy with hy | hy
  ·have hi:=v.hist.item y hy
   have x:=edgeF h he
   rcases v.next y hy e he hey with hm | hc
   ·rcases hmem _ hm with hm | hm
    ·exact .inl hm
    ·simp only [zN] at hm
     obtain⟨e1,e2,e3⟩:=hm
     rw [e1,e2,e3]
     exact .inr hcx
   ·exact .inr (hcov _ _ hi.1 hi.2.1 x.t0 x.tn _ hc)
  ·rw [zO] at hy;subst hy
   exact .inl (zV _ (zt.2 ⟨e,zAA.2 ⟨he,by simpa using hey⟩,rfl⟩))
 ·intro c c0 cn
  rcases v.ini c c0 cn with hm | hc
  ·rcases hmem _ hm with hm | hm
   ·exact .inl hm
   ·simp only [zN] at hm
    obtain⟨e1,e2,e3⟩:=hm
    have es_:idT ns c=s:=e3
    rw [es_,e1]
    have:a=b:=by omega
    rw [this] at hcx ⊢
    exact .inr hcx
  ·exact .inr (hcov _ _ c0 cn c0 cn _ hc)
structure ReachOk (ns:List Nd) (es:List Ed) (P:List (List Tr)):Prop where
 pn:P.length=ns.length*ns.length
 sound:∀ a b:Int,0<=a->a<ns.length->0<=b->b<ns.length->∀ r∈rw_ ns.length P a b,WayB ns es a b r
 len:∀ k,(nth [] P k).length<=22277520
 full:∀ a b:Int,0<=a->a<ns.length->∀ s,Way ns es a b s->cov (rw_ ns.length P a b) s
theorem Inv.done(h:GrOk ns es){P:List (List Tr)}{I:List Item}(v:Inv ns es P [] I):ReachOk ns es P where
 pn:=v.pn
 sound:=fun a b a0 an b0 bn r hr=>v.way _ (v.rows a b a0 an b0 bn r hr)
 len:=fun k=>zr (v.len k) (v.hist.len h.n12)
 full:=fun a b a0 an s w=>by
  induction w with
  | nil=>
   rcases v.ini a a0 an with hm | hc
   ·cases hm
   ·exact hc
  | @step y s e w he hy hx ih=>
   obtain⟨r,r1,r2⟩:=ih
   have fit:=w.fit h a0 an
   have hrI:=v.rows a y a0 an fit.b0 fit.bn r r1
   have hfr:=v.fitI h hrI
   rcases v.next _ hrI e he hy with hm | ⟨t,t1,t2⟩
   ·cases hm
   ·refine⟨t,t1,qgH t2 (qjZ ?_)⟩
    exact qhi (qiu.1 r2) (qkj (s:=r) h hfr (v.way _ hrI).small) hx
theorem Inv.start(h:GrOk ns es):Inv ns es (List.replicate (ns.length*ns.length) []) ((List.range ns.length).map fun a:Nat=>((a:Int),(a:Int),idT ns a)) [] where
 pn:=by simp
 hist:=.nil
 way:=fun x hx=>by cases hx
 rows:=fun a b a0 an b0 bn r hr=>by
  have:rw_ ns.length (List.replicate (ns.length*ns.length) ([]:List Tr)) a b = []:=by unfold rw_;rw [quh]
  rw [this] at hr;cases hr
 len:=fun k=>by rw [quh];exact Nat.le_refl _
 cv:=fun x hx=>by cases hx
 jobs:=fun x hx=>by
  obtain⟨a,ha,rfl⟩:=zt.1 hx
  rw [zk] at ha
  exact⟨by dsimp only;omega,by dsimp only;omega,qyW h (by omega) (by omega),.id _ _ _,fun _=>.nil⟩
 next:=fun x hx=>by cases hx
 ini:=fun a a0 an=>.inl (zt.2 ⟨a.toNat,zk.2 (by omega),by rw [show ((a.toNat:Nat):Int)=a by omega]⟩)
end
end Go.Proofs.YtgnnhemoocfclaaDoor.Rea
