import Derived.Test.YtgnnhemoocfclaaGreatDoorRThen
import Derived.Test.YtgnnhemoocfclaaGreatDoorGhG
namespace Go.Proofs.YtgnnhemoocfclaaGreatDoor.Rea
open Go.Abs
open Go.Smy (Sm qC qeh qaR qbl qw qbp leqP qbs qdW thenS lastOf qba placeN_last qaV qhp qci qfv qhq qjY qlj qla)
open Go.Proofs.YtgnnhemoocfclaaGreatDoor.Gh (Nd Ed nsum qby qfo outOf GrOk qcR)
def T(s r:Tr):Tr:=tr (thenS (sm s) (sm r))
abbrev outT(s:Tr):Int:=s.1+s.2.2.length
abbrev pl(s:Tr)(i:Int):Int:=qbp (sm s) i
theorem qmr(s r:Tr):(T s r).1=if s.1<r.1 then s.1 else r.1:=qci (sm s) (sm r)
theorem T_out{s r:Tr}(h:r.1<=outT s):outT (T s r)=outT r:=qfv (s:=sm s) (r:=sm r) h
theorem T_pl{s r:Tr}(h:r.1<=outT s)(i:Nat):pl (T s r) i=pl r i+(if (i:Int)<r.1 then pl s i else 0):=qhp (s:=sm s) (r:=sm r) h i
theorem qEc{s:Tr}{i:Int}(h:i<s.1 - 1):pl s i=0:=qaV h
theorem qAE{s r:Tr}(h1:1<=s.1)(hk:s.1=r.1)(ho:outT s=outT r)(hp:∀ i:Nat,(i:Int)<outT s->s.1 - 1<=i->pl s i=pl r i):s=r:=by
 obtain⟨k,a,p⟩:=s
 obtain⟨k',a',p'⟩:=r
 simp only [outT] at hk ho hp h1
 subst hk
 have ha:a=a':=by
  have h:=hp (k - 1).toNat (by omega) (by omega)
  rw [show (((k - 1).toNat:Nat):Int)=k - 1 by omega] at h
  have e1:qbp (sm (k,a,p)) (k - 1)=a:=placeN_last rfl
  have e2:qbp (sm (k,a',p')) (k - 1)=a':=placeN_last rfl
  rwa [pl,pl,e1,e2] at h
 have hl:p.length=p'.length:=by omega
 have hpp:p=p':=by
  refine Go.Smy.nth_ext hl fun i hi=>?_
  have h:=hp (k+i).toNat (by omega) (by omega)
  rw [show (((k+i).toNat:Nat):Int)=k+i by omega] at h
  rw [pl,pl,qba (s:=sm (k,a,p)) (show k<=k+(i:Int) by omega),qba (s:=sm (k,a',p')) (show k<=k+(i:Int) by omega)] at h
  have e:((k+(i:Int)) - k).toNat=i:=by omega
  simpa only [sm,e] using h
 rw [ha,hpp]
theorem qyn{a b c:Tr}(ha:1<=a.1)(hb1:1<=b.1)(hc1:1<=c.1)(hb:b.1<=outT a)(hc:c.1<=outT b):T (T a b) c=T a (T b c):=by
 have h1:c.1<=outT (T a b):=by rw [T_out hb];exact hc
 have kb:=qmr b c
 have h2:(T b c).1<=outT a:=by rw [kb];split <;> omega
 have ka:=qmr a b
 have k1:=qmr (T a b) c
 have k2:=qmr a (T b c)
 have hk:(T (T a b) c).1=(T a (T b c)).1:=by
  rw [k1,k2,ka,kb]
  repeat' split
  all_goals omega
 refine qAE ?_ hk ?_ fun i _ _=>?_
 ·rw [k1,ka];split <;> (try split) <;> omega
 ·rw [T_out h1,T_out h2,T_out hc]
 ·rw [T_pl h1,T_pl h2,T_pl hc,T_pl hb,kb]
  by_cases c1:(i:Int)<c.1
  ·rw [zH c1,zH c1]
   by_cases c2:(i:Int)<b.1
   ·rw [zH c2,zH (show (i:Int)<if b.1<c.1 then b.1 else c.1 by split <;> omega)];omega
   ·rw [zJ c2,zJ (show ¬ (i:Int)<if b.1<c.1 then b.1 else c.1 by split <;> omega)];omega
  ·rw [zJ c1,zJ c1,zJ (show ¬ (i:Int)<if b.1<c.1 then b.1 else c.1 by split <;> omega)];omega
theorem T_idl{s:Tr}{d:Int}(h1:1<=s.1)(hs:s.1<=d):T (d,0,[]) s=s:=by
 have hk:=qmr (d,0,[]) s
 have hd:s.1<=outT (d,0,[]):=by simp only [outT,List.length_nil];omega
 have hk':(T (d,0,[]) s).1=s.1:=by rw [hk];dsimp only;split <;> omega
 refine qAE (by omega) hk' (T_out hd) fun i _ hi=>?_
 rw [T_pl hd]
 by_cases c:(i:Int)<s.1
 ·rw [zH c]
  have:pl (d,0,[]) i=0:=by
   by_cases e:(i:Int)=d - 1
   ·exact placeN_last e
   ·exact qaV (show (i:Int)<d - 1 by omega)
  omega
 ·rw [zJ c];omega
theorem T_idr{s:Tr}{d:Int}(h1:1<=s.1)(hd:outT s=d):T s (d,0,[])=s:=by
 have hd':s.1+(s.2.2.length:Int)=d:=hd
 have hk:=qmr s (d,0,[])
 dsimp only at hk
 have hk':(T s (d,0,[])).1=s.1:=by rw [hk];split <;> omega
 have ho:outT (T s (d,0,[]))=outT s:=by rw [T_out (show d<=outT s by omega),hd];simp [outT]
 refine qAE (by omega) hk' ho fun i hi _=>?_
 rw [ho] at hi
 rw [T_pl (show d<=outT s by omega),zH (show (i:Int)<d by omega)]
 have:pl (d,0,[]) i=0:=by
  by_cases e:(i:Int)=d - 1
  ·exact placeN_last e
  ·exact qaV (show (i:Int)<d - 1 by omega)
 omega
structure NodeQ (q:Tr) (d:Int):Prop where
 k1:1<=q.1
 kd:q.1<=d
 chk:qC (sm q) d=0
 a01:0<=q.2.1/\q.2.1<=1
 pl0:∀ i:Nat,(i:Int)<outT q->pl q i=0\/((i:Int)=d - 1/\q.1=d/\outT q=d/\pl q i=1)
theorem nodeQ{x:Nd}(h:qby x=true):NodeQ (nsum x) x.2.1:=by
 have:=qfo.1 h
 have hid:∀ d:Int,∀ i:Nat,(i:Int)<d->pl (d,0,[]) i=0:=fun d i hi=>by
  by_cases e:(i:Int)=d - 1
  ·exact placeN_last e
  ·exact qaV (show (i:Int)<d - 1 by omega)
 have e0:outT (x.2.1,0,[])=x.2.1:=by simp [outT]
 unfold nsum
 by_cases h4:x.1=4
 ·rw [zH h4]
  refine⟨by dsimp only;omega,zAO _,qw.2 ⟨by omega,by omega,by simp only [sm];omega,zAO _,by simp only [sm,zg];omega,by simp only [sm];omega,fun i hi=>?_⟩,(show (0:Int)<=0/\(0:Int)<=1 by decide),fun i hi=>.inl ?_⟩
  ·simp only [sm,zg] at hi ⊢
   obtain rfl:i=0:=by omega
   exact⟨zAO _,show (0:Int)<=1048576 by decide⟩
  ·by_cases c:x.2.1<=(i:Int)
   ·simp only [outT,zg] at hi
    have e:((i:Int) - x.2.1).toNat=0:=by omega
    rw [pl,qba (s:=sm (x.2.1,0,[0])) c]
    simp only [sm,e];rfl
   ·by_cases e:(i:Int)=x.2.1 - 1
    ·exact placeN_last e
    ·exact qaV (show (i:Int)<x.2.1 - 1 by omega)
 rw [zJ h4]
 have plain:∀ d:Int,1<=d->d<=x.2.1->qC (sm (d,0,[])) x.2.1=0:=fun d h1 h2=>qw.2 ⟨by omega,by omega,h1,h2,by simp only [sm,List.length_nil];omega,by simp only [sm];omega,fun i hi=>by simp only [sm,List.length_nil] at hi;omega⟩
 by_cases h5:x.1=5
 ·rw [zH h5]
  exact⟨by dsimp only;omega,by dsimp only;omega,plain _ (by omega) (by omega),(show (0:Int)<=0/\(0:Int)<=1 by decide),fun i hi=>.inl (hid _ i (by simpa [outT] using hi))⟩
 rw [zJ h5]
 by_cases h6:x.1=6
 ·rw [zH h6]
  refine⟨by dsimp only;omega,zAO _,qw.2 ⟨by omega,by omega,by simp only [sm];omega,zAO _,by simp only [sm,List.length_nil];omega,by simp only [sm];omega,fun i hi=>by simp only [sm,List.length_nil] at hi;omega⟩,(show (0:Int)<=1/\(1:Int)<=1 by decide),fun i hi=>?_⟩
  by_cases e:(i:Int)=x.2.1 - 1
  ·exact .inr ⟨e,rfl,by simp [outT],placeN_last e⟩
  ·simp only [outT,List.length_nil] at hi
   exact .inl (qaV (show (i:Int)<x.2.1 - 1 by omega))
 ·rw [zJ h6]
  exact⟨by dsimp only;omega,zAO _,plain _ (by omega) (by omega),(show (0:Int)<=0/\(0:Int)<=1 by decide),fun i hi=>.inl (hid _ i (by simpa [outT] using hi))⟩
def Small(s:Tr):Prop:=∀ i:Nat,(i:Int)<outT s->pl s i<=12
theorem qom{s q:Tr}(c:Int)(hc:c<=1000)(hs:qC (sm s) 4=0)(hsm:∀ i:Nat,(i:Int)<outT s->pl s i<=c)(hq:qC (sm q) (outT s)=0)(ha:q.2.1<=1000):qbs (sm s) (sm q)=0:=by
 obtain⟨-,-,s1,s2,s3,s4,s5⟩:=qw.1 hs
 obtain⟨-,-,q1,q2,q3,q4,q5⟩:=qw.1 hq
 refine qdW.2 ⟨hs,hq,qbl.2 ?_⟩
 simp only [sm] at s1 s2 s3 s4 s5 q1 q2 q3 q4 q5
 have hlo:lastOf (sm s) (sm q)=(if q.1=s.1 then q.2.1+s.2.1 else if s.1<q.1 then Go.Smy.nth s.2.2 (q.1 - s.1 - 1).toNat+q.2.1 else q.2.1):=rfl
 rw [hlo]
 have hl:(0:Int)<=s.2.2.length:=by omega
 by_cases e1:q.1=s.1
 ·rw [zH e1]
  have h:=hsm (s.1 - 1).toNat (by simp only [outT];omega)
  have e2:qbp (sm s) (s.1 - 1)=s.2.1:=placeN_last rfl
  rw [show (((s.1 - 1).toNat:Nat):Int)=s.1 - 1 by omega,pl,e2] at h
  omega
 ·rw [zJ e1]
  by_cases e2:s.1<q.1
  ·rw [zH e2]
   have h:=hsm (q.1 - 1).toNat (by omega)
   rw [show (((q.1 - 1).toNat:Nat):Int)=q.1 - 1 by omega,pl,qba (s:=sm s) (show s.1<=q.1 - 1 by omega)] at h
   simp only [sm] at h
   rw [show q.1 - 1 - s.1=q.1 - s.1 - 1 by omega] at h
   have h5:=s5 (q.1 - s.1 - 1).toNat (by simp only [outT] at q2;omega)
   omega
  ·rw [zJ e2];omega
theorem qxs{α:Type} [DecidableEq α]:∀ {a b:List α},a.Nodup->(∀ x∈a,x∈b)->a.length<=b.length
 | [],_,_,_=>zw _
 | x :: a,b,hn,hs=>by
  rw [zc] at hn
  have hx:=hs x (zAR ..)
  have h:=qxs (a:=a) (b:=b.erase x) hn.2 fun y hy=>by
   have hne:y≠x:=fun e=>hn.1 (e▸hy)
   exact (List.mem_erase_of_ne hne).2 (hs y (zZ _ hy))
  rw [List.length_erase_of_mem hx] at h
  have:0<b.length:=zAr hx
  simp only [List.length_cons];omega
section
variable {ns : List Nd} {es : List Ed}
abbrev dp(ns:List Nd)(b:Int):Int:=qcR ns b.toNat
abbrev qn(ns:List Nd)(b:Int):Tr:=nsum (nth Gh.z5 ns b.toNat)
abbrev idT(ns:List Nd)(a:Int):Tr:=(dp ns a,0,[])
structure EdgeF (ns:List Nd) (e:Ed):Prop where
 f0:0<=e.1
 fn:e.1<ns.length
 t0:0<=e.2.1
 tn:e.2.1<ns.length
 out:outT (qn ns e.1)=dp ns e.2.1
theorem qup(h:GrOk ns es){b:Int}(h0:0<=b)(hn:b<ns.length):qby (nth Gh.z5 ns b.toNat)=true:=h.nodes _ (qbJ (by omega))
theorem edgeF(h:GrOk ns es){e:Ed}(he:e∈es):EdgeF ns e:=by
 obtain⟨i,hi,rfl⟩:=mem_nth (z:=((0,0,0):Ed)) he
 have x:=h.edges i hi
 exact⟨x.f0,x.fn,x.t0,x.tn,(Gh.nsum_out (qup h x.f0 x.fn)).2.trans x.deep⟩
theorem qpi(h:GrOk ns es){b:Int}(h0:0<=b)(hn:b<ns.length):NodeQ (qn ns b) (dp ns b):=nodeQ (qup h h0 hn)
theorem qrL(h:GrOk ns es){b:Int}(h0:0<=b)(hn:b<ns.length):1<=dp ns b/\dp ns b<=4:=h.deep (by omega)
inductive Way (ns:List Nd) (es:List Ed) (a:Int):Int->Tr->Prop
 | nil:Way ns es a a (idT ns a)
 | step {y:Int} {s:Tr} {e:Ed}:Way ns es a y s->e∈es->e.1=y->qbs (sm s) (sm (qn ns y))=0->Way ns es a e.2.1 (T s (qn ns y))
inductive WayB (ns:List Nd) (es:List Ed) (a:Int):Int->Tr->Prop
 | nil:WayB ns es a a (idT ns a)
 | step {y:Int} {s:Tr} {e:Ed}:WayB ns es a y s->e∈es->e.1=y->Small (T s (qn ns y))->WayB ns es a e.2.1 (T s (qn ns y))
structure Fit (ns:List Nd) (a b:Int) (s:Tr):Prop where
 b0:0<=b
 bn:b<ns.length
 chk:qC (sm s) 4=0
 out:outT s=dp ns b
 keep:s.1<=dp ns a
theorem Fit.k1{a b:Int}{s:Tr}(f:Fit ns a b s):1<=s.1:=(qw.1 f.chk).2.2.1
theorem pl_id(d:Int)(i:Int)(hi:i<d):pl (d,0,[]) i=0:=by
 by_cases e:i=d - 1
 ·exact placeN_last e
 ·exact qaV (show i<d - 1 by omega)
theorem qCR(d:Int):Small (d,0,[]):=fun i hi=>by rw [pl_id d i (by simpa [outT] using hi)];decide
theorem qEi(h:GrOk ns es){a:Int}(h0:0<=a)(hn:a<ns.length):Fit ns a a (idT ns a):=by
 have:=qrL h h0 hn
 exact⟨h0,hn,qw.2 ⟨by omega,by omega,this.1,this.2,by simp only [sm,List.length_nil];omega,by simp only [sm];omega,fun i hi=>by simp only [sm,List.length_nil] at hi;omega⟩,by simp [outT],zAO _⟩
theorem qzk(h:GrOk ns es){a:Int}{s:Tr}{e:Ed}(f:Fit ns a e.1 s)(he:e∈es)(h0:qbs (sm s) (sm (qn ns e.1))=0):Fit ns a e.2.1 (T s (qn ns e.1)):=by
 have x:=edgeF h he
 have q:=qpi h x.f0 x.fn
 have hk:=qmr s (qn ns e.1)
 have:=f.keep
 have:=f.out
 refine⟨x.t0,x.tn,qhq h0,?_,?_⟩
 ·rw [T_out (by rw [f.out];exact q.kd)];exact x.out
 ·rw [hk];split <;> omega
theorem qnS(h:GrOk ns es){a b:Int}{s:Tr}(f:Fit ns a b s)(hs:Small s):qbs (sm s) (sm (qn ns b))=0:=by
 have q:=qpi h f.b0 f.bn
 exact qom 12 (by decide) f.chk hs (by rw [f.out];exact q.chk) (by have:=q.a01;omega)
theorem Way.fit(h:GrOk ns es){a:Int}(h0:0<=a)(hn:a<ns.length){b:Int}{s:Tr}(w:Way ns es a b s):Fit ns a b s:=by
 induction w with
 | nil=>exact qEi h h0 hn
 | step w he hy hx ih=>subst hy;exact qzk h ih he hx
theorem WayB.small{a b:Int}{s:Tr}(w:WayB ns es a b s):Small s:=by
 cases w with
 | nil=>exact qCR _
 | step w he hy hs=>exact hs
theorem WayB.way(h:GrOk ns es){a:Int}(h0:0<=a)(hn:a<ns.length){b:Int}{s:Tr}(w:WayB ns es a b s):Way ns es a b s:=by
 induction w with
 | nil=>exact .nil
 | step w he hy hs ih=>exact .step ih he hy (qnS h (ih.fit h h0 hn) w.small)
abbrev Item:Type:=Int×Int×Tr
def Pred(I:List Item)(a:Int)(s:Tr):Prop:=∀ p:Nat,(p:Int)<outT s->0<pl s p->∃ y r,(a,y,r)∈I/\r.1=s.1/\outT r=(p:Int)+1/\(∀ i:Nat,i<p->pl r i=pl s i)/\pl r p=pl s p - 1
theorem Pred.id(I:List Item)(a d:Int):Pred I a (d,0,[]):=fun p hp h=>by rw [pl_id d p (by simpa [outT] using hp)] at h;omega
theorem Pred.mono{I J:List Item}{a:Int}{s:Tr}(hm:∀ x∈I,x∈J)(h:Pred I a s):Pred J a s:=fun p hp h0=>by
 obtain⟨y,r,h1,h2⟩:=h p hp h0;exact⟨y,r,hm _ h1,h2⟩
theorem Pred.step{I:List Item}{a y:Int}{s q:Tr}{d:Int}(hq:NodeQ q d)(hd:outT s=d)(h1:1<=s.1)(hp:Pred I a s)(hm:(a,y,s)∈I):Pred I a (T s q):=by
 have hqd:q.1<=outT s:=by rw [hd];exact hq.kd
 have hsd:s.1<=d:=by
  have:(0:Int)<=s.2.2.length:=by omega
  have:s.1+(s.2.2.length:Int)=d:=hd
  omega
 have hkd:=hq.kd
 intro p hpo hpos
 rw [T_out hqd] at hpo
 rw [T_pl hqd] at hpos
 have hk:=qmr s q
 by_cases c:q.1<s.1
 ·have e1:pl q p=0:=by rcases hq.pl0 p hpo with e | ⟨-,e,-⟩ <;> omega
  by_cases c2:(p:Int)<q.1
  ·rw [zH c2,e1,qEc (s:=s) (by omega)] at hpos;omega
  ·rw [zJ c2,e1] at hpos;omega
 have hk:(T s q).1=s.1:=by rw [hk];split <;> omega
 by_cases c2:(p:Int)<q.1
 ·have hlow:∀ i:Nat,i<p->pl (T s q) i=pl s i:=fun i hi=>by
   rw [T_pl hqd,zH (by omega)]
   rcases hq.pl0 i (by omega) with e | ⟨e,-⟩
   ·omega
   ·omega
  rw [zH c2] at hpos
  rcases hq.pl0 p hpo with e | ⟨e1,e2,e3,e4⟩
  ·obtain⟨y',r,r1,r2,r3,r4,r5⟩:=hp p (by omega) (by omega)
   refine⟨y',r,r1,by rw [hk,r2],r3,fun i hi=>by rw [hlow i hi,r4 i hi],?_⟩
   rw [T_pl hqd,zH c2,r5];omega
  ·refine⟨y,s,hm,hk.symm,by omega,fun i hi=>(hlow i hi).symm,?_⟩
   rw [T_pl hqd,zH c2];omega
 ·rw [zJ c2] at hpos
  rcases hq.pl0 p hpo with e | ⟨e1,e2,-⟩ <;> omega
inductive Hist (n:Nat):List Item->Prop
 | nil:Hist n []
 | snoc {I:List Item} {a b:Int} {s:Tr}:Hist n I->Pred I a s->(∀ r,(a,b,r)∈I->leqS r s=false)->0<=a->a<n->0<=b->b<n->qC (sm s) 4=0->Hist n (I ++ [(a,b,s)])
theorem Hist.item{n:Nat}{I:List Item}(h:Hist n I):∀ x∈I,0<=x.1/\x.1<n/\0<=x.2.1/\x.2.1<n/\qC (sm x.2.2) 4=0:=by
 induction h with
 | nil=>intro x hx;cases hx
 | snoc h hp hl a0 an b0 bn hc ih=>
  intro x hx
  rcases zL.1 hx with hx | hx
  ·exact ih x hx
  ·rw [zM] at hx;subst hx;exact⟨a0,an,b0,bn,hc⟩
theorem qDj{r s:Tr}{p:Nat}(hr:qC (sm r) 4=0)(hs:qC (sm s) 4=0)(hk:r.1=s.1)(h1:outT r=(p:Int)+1)(h2:outT s=(p:Int)+1)(hl:∀ i:Nat,i<p->pl r i=pl s i)(hp:pl r p<=pl s p):leqS r s=true:=by
 refine qnI ⟨hr,hs,show outT r=outT s by omega,fun k hk'=>⟨?_,fun h=>?_⟩⟩
 ·have hk2:(k:Int)<outT r:=hk'
  rcases zAM k p with h | h
  ·exact Int.le_of_eq (hl k h)
  ·obtain rfl:k=p:=by omega
   exact hp
 ·have h':(k:Int)<r.1:=h
  show (k:Int)<s.1
  omega
theorem Hist.chain{n:Nat}{I:List Item}(h:Hist n I):∀ {a b:Int} {s:Tr},(a,b,s)∈I->∀ {p:Nat},outT s=(p:Int)+1 ->
  ∃ L:List Int,L.Nodup/\(L.length:Int)=pl s p+1/\∀ y∈L,0<=y/\y<n/\∃ r,(a,y,r)∈I/\r.1=s.1/\outT r=(p:Int)+1/\(∀ i:Nat,i<p->pl r i=pl s i)/\pl r p<=pl s p:=by
 induction h with
 | nil=>intro a b s hm;cases hm
 | @snoc I a' b' s' h hp hl a0 an b0 bn hc ih=>
  intro a b s hm p ho
  rcases zL.1 hm with hm | hm
  ·obtain⟨L,l1,l2,l3⟩:=ih hm ho
   refine⟨L,l1,l2,fun y hy=>?_⟩
   obtain⟨y0,yn,r,r1,r2⟩:=l3 y hy
   exact⟨y0,yn,r,za _ r1,r2⟩
  ·rw [zM,zO,zO] at hm
   obtain⟨rfl,rfl,rfl⟩:=hm
   have hpos:=(qla hc p (show (p:Int)<outT s by omega)).1
   by_cases hz:pl s p=0
   ·refine⟨[b],by simp,by rw [hz];rfl,fun y hy=>?_⟩
    rw [zM] at hy;subst hy
    exact⟨b0,bn,s,zV _ (zM.2 rfl),rfl,ho,fun _ _=>rfl,zAO _⟩
   ·have hpos':0<pl s p:=by have:0<=pl s p:=hpos;omega
    obtain⟨y,r,r1,r2,r3,r4,r5⟩:=hp p (by omega) hpos'
    obtain⟨L,l1,l2,l3⟩:=ih r1 r3
    refine⟨b :: L,zc.2 ⟨fun hb=>?_,l1⟩,by rw [List.length_cons];omega,fun z hz=>?_⟩
    ·obtain⟨-,-,t,t1,t2,t3,t4,t5⟩:=l3 b hb
     have:=qDj (r:=t) (s:=s) (h.item _ t1).2.2.2.2 hc (by omega) t3 ho (fun i hi=>by rw [t4 i hi,r4 i hi]) (by omega)
     rw [hl t t1] at this;cases this
    ·rcases zk.1 hz with e | hz
     ·subst e
      exact⟨b0,bn,s,zV _ (zM.2 rfl),rfl,ho,fun _ _=>rfl,zAO _⟩
     ·obtain⟨z0,zn,t,t1,t2,t3,t4,t5⟩:=l3 z hz
      exact⟨z0,zn,t,za _ t1,by omega,t3,fun i hi=>by rw [t4 i hi,r4 i hi],by omega⟩
theorem qBy{n:Nat}{L:List Int}(h:L.Nodup)(hm:∀ y∈L,0<=y/\y<n):L.length<=n:=by
 have:=qxs (b:=(List.range n).map fun i:Nat=>(i:Int)) h fun y hy=>by
  have:=hm y hy
  exact zo.2 ⟨y.toNat,zl.2 (by omega),by omega⟩
 simpa using this
theorem Hist.small{n:Nat}{I:List Item}(h:Hist n I)(hn:n<=12){a:Int}{s:Tr}(hp:Pred I a s):Small s:=by
 intro p hpo
 rcases Int.lt_or_le 0 (pl s p) with hpos | hle
 ·obtain⟨y,r,r1,r2,r3,r4,r5⟩:=hp p hpo hpos
  obtain⟨L,l1,l2,l3⟩:=h.chain r1 r3
  have:=qBy l1 fun y hy=>⟨(l3 y hy).1,(l3 y hy).2.1⟩
  omega
 ·omega
theorem Hist.smalls{n:Nat}{I:List Item}(h:Hist n I)(hn:n<=12):∀ x∈I,Small x.2.2:=by
 induction h with
 | nil=>intro x hx;cases hx
 | snoc h hp hl a0 an b0 bn hc ih=>
  intro x hx
  rcases zL.1 hx with hx | hx
  ·exact ih x hx
  ·rw [zM] at hx;subst hx;exact h.small hn hp
theorem Hist.nodup{n:Nat}{I:List Item}(h:Hist n I):I.Nodup:=by
 induction h with
 | nil=>exact zBm
 | @snoc I a b s h hp hl a0 an b0 bn hc ih=>
  rw [zY]
  refine⟨ih,by simp,fun x hx y hy e=>?_⟩
  rw [zM] at hy;subst hy;subst e
  have:=hl s hx
  rw [qnJ hc] at this;cases this
def vec:Nat->List (List Int)
 | 0=>[[]]
 | k+1=>[] :: (List.range 13).flatMap fun v:Nat=>(vec k).map fun l=>(v:Int) :: l
theorem qBo:∀ (k:Nat) (l:List Int),l.length<=k->(∀ x∈l,0<=x/\x<=12)->l∈vec k
 | 0,l,hl,_=>by have:l = []:=zf (by omega);subst this;simp [vec]
 | k+1,[],_,_=>zAR ..
 | k+1,x :: l,hl,hx=>by
  have h0:=hx x (zAR ..)
  refine zZ _ (zBL.2 ⟨x.toNat,zl.2 (by omega),zo.2 ⟨l,qBo k l (by simpa using hl) fun y hy=>hx y (zZ _ hy),?_⟩⟩)
  rw [show ((x.toNat:Nat):Int)=x by omega]
theorem qnK{α β:Type}(f:α->List β)(c:Nat):∀ l:List α,(∀ x∈l,(f x).length=c)->(l.flatMap f).length=l.length*c
 | [],_=>by simp
 | x :: l,h=>by
  rw [List.flatMap_cons,zQ,h x (zAR ..),qnK f c l fun y hy=>h y (zZ _ hy),List.length_cons,zAJ];omega
theorem quD(k:Nat):(vec (k+1)).length=1+13*(vec k).length:=by
 rw [vec,List.length_cons,qnK _ (vec k).length _ fun v _=>by simp,zAa];omega
theorem qDk:(vec 4).length=30941:=by
 have h0:(vec 0).length=1:=rfl
 have h1:(vec 1).length=1+13*(vec 0).length:=quD 0
 have h2:(vec 2).length=1+13*(vec 1).length:=quD 1
 have h3:(vec 3).length=1+13*(vec 2).length:=quD 2
 have h4:(vec 4).length=1+13*(vec 3).length:=quD 3
 omega
def allI:List Item:=(List.range 12).flatMap fun a:Nat=>(List.range 12).flatMap fun b:Nat=>(List.range 5).flatMap fun k:Nat=>(vec 4).map fun l=>((a:Int),(b:Int),(k:Int),l.headD 0,l.tail)
theorem qDl:allI.length=22277520:=by
 unfold allI
 rw [qnK _ (12*(5*30941)) _ fun a _=>by
  rw [qnK _ (5*30941) _ fun b _=>by
   rw [qnK _ 30941 _ fun k _=>by rw [zh,qDk],zAa],zAa],zAa]
theorem qDd{x:Item}(h1:0<=x.1/\x.1<12)(h2:0<=x.2.1/\x.2.1<12)(hc:qC (sm x.2.2) 4=0)(hs:Small x.2.2):x∈allI:=by
 obtain⟨a,b,k,c,p⟩:=x
 dsimp only at h1 h2 hc hs
 obtain⟨-,-,s1,s2,s3,s4,s5⟩:=qw.1 hc
 simp only [sm] at s1 s2 s3 s4 s5
 unfold allI
 refine zBL.2 ⟨a.toNat,zl.2 (by omega),zBL.2 ⟨b.toNat,zl.2 (by omega),zBL.2 ⟨k.toNat,zl.2 (by omega),zo.2 ⟨c :: p,qBo 4 _ ?_ fun x hx=>?_,?_⟩⟩⟩⟩
 ·rw [List.length_cons];omega
 ·rcases zk.1 hx with e | hx
  ·subst e
   have h:=hs (k - 1).toNat (by simp only [outT];omega)
   have e2:qbp (sm (k,x,p)) (k - 1)=x:=placeN_last rfl
   rw [show (((k - 1).toNat:Nat):Int)=k - 1 by omega,pl,e2] at h
   omega
  ·obtain⟨i,hi,rfl⟩:=Go.Smy.mem_nth hx
   have h:=hs (k+i).toNat (by simp only [outT];omega)
   have e2:qbp (sm (k,c,p)) (k+i)=Go.Smy.nth p (k+i - k).toNat:=qba (s:=sm (k,c,p)) (show k<=k+(i:Int) by omega)
   rw [show (((k+i).toNat:Nat):Int)=k+i by omega,pl,e2,show (k+(i:Int) - k).toNat=i by omega] at h
   have:=s5 i hi
   omega
 ·rw [show ((a.toNat:Nat):Int)=a by omega,show ((b.toNat:Nat):Int)=b by omega,show ((k.toNat:Nat):Int)=k by omega];rfl
theorem Hist.len{n:Nat}{I:List Item}(h:Hist n I)(hn:n<=12):I.length<=22277520:=by
 rw [<- qDl]
 refine qxs h.nodup fun x hx=>?_
 have:=h.item x hx
 exact qDd (by omega) (by omega) this.2.2.2.2 (h.smalls hn x hx)
end
end Go.Proofs.YtgnnhemoocfclaaGreatDoor.Rea
