import Derived.Test.YtgnnhemoocfclaaDoorReaQ
import Derived.Test.YtgnnhemoocfclaaDoorRTimS
namespace Go.Proofs.YtgnnhemoocfclaaDoor.Rea
open Go.Abs
open Go.Smy (Sm qw qy qaH leqP qaJ thenS qhi qib qhS)
open Go.Proofs.YtgnnhemoocfclaaDoor.Gh (Nd Ed nsum qaP GrOk qbJ)
section
variable {ns : List Nd} {es : List Ed}
theorem WayB.fit(h:GrOk ns es){a b:Int}{s:Tr}(a0:0<=a)(an:a<ns.length)(w:WayB ns es a b s):Fit ns a b s:=(w.way h a0 an).fit h a0 an
theorem qyQ{s r:Tr}(hr:r.1<=outT s){c d:Int}(hc:0<=c)(hs:∀ i:Nat,(i:Int)<outT s->pl s i<=c)(h:∀ i:Nat,(i:Int)<outT r->pl r i<=d):∀ i:Nat,(i:Int)<outT (T s r)->pl (T s r) i<=c+d:=fun i hi=>by
 rw [T_out hr] at hi
 rw [T_pl hr]
 have h1:=h i hi
 by_cases e:(i:Int)<r.1
 ·rw [zH e];have:=hs i (by omega);omega
 ·rw [zK e];omega
theorem Way.two(h:GrOk ns es){a b:Int}{s:Tr}(a0:0<=a)(an:a<ns.length)(w:Way ns es a b s)(hs:∀ i:Nat,(i:Int)<outT s->pl s i<=80){c:Int}{r:Tr}(v:WayB ns es b c r):Way ns es a c (T s r):=by
 have fs:=w.fit h a0 an
 induction v with
 | nil=>rw [T_idr fs.k1 fs.out];exact w
 | @step y r e v he hy hsm ih=>
  have fr:=v.fit h fs.b0 fs.bn
  have q:=qlo h fr.b0 fr.bn
  have hrs:r.1<=outT s:=by rw [fs.out];exact fr.keep
  have hqr:(qn ns y).1<=outT r:=by rw [fr.out];exact q.kd
  rw [<- qtF fs.k1 fr.k1 q.k1 hrs hqr]
  refine .step ih he hy ?_
  have f2:=ih.fit h a0 an
  have hb:=qyQ hrs (by decide) hs v.small
  exact qkB (80+12) (by decide) f2.chk hb (by rw [f2.out];exact q.chk) (by have:=q.a01;omega)
theorem WayB.head(h:GrOk ns es){a b:Int}{s:Tr}(a0:0<=a)(an:a<ns.length)(w:WayB ns es a b s):(a=b/\s=idT ns a)\/∃ e∈es,e.1=a/\∃ r,WayB ns es e.2.1 b r/\T (qn ns a) r=s:=by
 induction w with
 | nil=>exact .inl ⟨rfl,rfl⟩
 | @step y s e w he hy hsm ih=>
  right
  rcases ih with⟨rfl,rfl⟩ | ⟨e1,he1,rfl,r,v,hv⟩
  ·have q:=qlo h a0 an
   refine⟨e,he,hy,idT ns e.2.1,.nil,?_⟩
   have x:=edgeF h he
   rw [T_idl q.k1 q.kd,T_idr q.k1 (by have:=x.out;rwa [hy] at this)]
  ·have x:=edgeF h he1
   have q1:=qlo h x.f0 x.fn
   have fr:=v.fit h x.t0 x.tn
   have q:=qlo h fr.b0 fr.bn
   have hr1:r.1<=outT (qn ns e1.1):=by rw [x.out];exact fr.keep
   have hqr:(qn ns y).1<=outT r:=by rw [fr.out];exact q.kd
   have ha:=qtF q1.k1 fr.k1 q.k1 hr1 hqr
   rw [hv] at ha
   refine⟨e1,he1,rfl,T r (qn ns y),.step v he hy ?_,ha.symm⟩
   intro i hi
   have k2:(T r (qn ns y)).1<=outT (qn ns e1.1):=by
    have hk:=qkv r (qn ns y)
    rw [hk];split <;> omega
   have ho:outT (T s (qn ns y))=outT (T r (qn ns y)):=by rw [ha,T_out k2]
   have h1:=hsm i (by rw [ho];exact hi)
   rw [ha,T_pl k2] at h1
   by_cases c:(i:Int)<(T r (qn ns y)).1
   ·rw [zH c] at h1
    rcases q1.pl0 i (by omega) with h0 | ⟨-,-,-,h0⟩ <;> rw [h0] at h1 <;> omega
   ·rw [zK c] at h1;omega
end
end Go.Proofs.YtgnnhemoocfclaaDoor.Rea
namespace Go.Proofs.YtgnnhemoocfclaaDoor.Rea
open Go.Abs
open Go.Smy (Sm qw qy qaH leqP qaJ thenS qaI qV qar qhS)
def apl(s:Tr)(t:List Int):List Int:=(t.take s.1.toNat).set (s.1.toNat - 1) (nth 0 t (s.1.toNat - 1)+s.2.1)++s.2.2
structure Fits (s:Tr) (t:List Int):Prop where
 k1:1<=s.1
 kn:s.1<=t.length
 out:outT s<=4
end Go.Proofs.YtgnnhemoocfclaaDoor.Rea
namespace Go.Proofs.YtgnnhemoocfclaaDoor.Rea
open Go.Abs Go.Gr
open Go.Smy (Sm qw qy qaH leqP qaJ thenS qbm qhH)
open Go.Proofs.YtgnnhemoocfclaaDoor.Gh (Nd Ed nsum qaP GrOk qbJ outOf inB EdG nsum_out)
structure Low (f:Int) (s:Tr):Prop where
 keep:f<=s.1
 add:0<=s.2.1
theorem Low.step{f:Int}{s:Tr}{x:Nd}(hd:f<=x.2.1)(ho:f<=outOf x)(h:Low f s):Low f (T s (nsum x))/\(s.1=f->1<=s.2.1->(T s (nsum x)).1=f/\1<=(T s (nsum x)).2.1):=by
 have hk:f<=(nsum x).1/\0<=(nsum x).2.1:=by
  unfold nsum outOf at *
  by_cases h4:x.1=4
  ·rw [zH h4];exact⟨hd,zAR _⟩
  rw [zK h4] at ho ⊢
  by_cases h5:x.1=5
  ·rw [zH h5] at ho ⊢;exact⟨ho,zAR _⟩
  rw [zK h5] at ho ⊢
  by_cases h6:x.1=6
  ·rw [zH h6];exact⟨hd,by simp⟩
  ·rw [zK h6];exact⟨hd,zAR _⟩
 have:=h.keep
 have:=h.add
 have e1:=qbm (sm s) (sm (nsum x))
 have e2:=qhH (sm s) (sm (nsum x))
 have k1:(sm s).keep=s.1:=rfl
 have k2:(sm (nsum x)).keep=(nsum x).1:=rfl
 have k3:(sm s).add=s.2.1:=rfl
 have k4:(sm (nsum x)).add=(nsum x).2.1:=rfl
 rw [k1,k2] at e1
 rw [k1,k2,k3,k4] at e2
 have t1:(T s (nsum x)).1=(thenS (sm s) (sm (nsum x))).keep:=rfl
 have t2:(T s (nsum x)).2.1=(thenS (sm s) (sm (nsum x))).add:=rfl
 refine⟨⟨by rw [t1,e1];split <;> omega,?_⟩,fun hs ha=>?_⟩
 ·rw [t2,e2]
  by_cases q:(nsum x).1=s.1
  ·rw [zH q];omega
  ·rw [zK q];split <;> omega
 rw [t1,t2,e1,e2]
 refine⟨by split <;> omega,?_⟩
 by_cases q:(nsum x).1=s.1
 ·rw [zH q];omega
 ·rw [zK q,zH (by omega)];omega
theorem Low.feed{f:Int}{s:Tr}{x:Nd}(hk:x.1=6)(hd:x.2.1=f)(h:Low f s)(ho:outT s=f):(T s (nsum x)).1=f/\1<=(T s (nsum x)).2.1:=by
 have:=h.keep
 have:=h.add
 have ho':s.1+(s.2.2.length:Int)=f:=ho
 have hn:nsum x=(x.2.1,1,[]):=by unfold nsum;rw [zK (by omega),zK (by omega),zH hk]
 have e1:=qbm (sm s) (sm (nsum x))
 have e2:=qhH (sm s) (sm (nsum x))
 have k1:(sm s).keep=s.1:=rfl
 have k2:(sm (nsum x)).keep=x.2.1:=by rw [hn];rfl
 have k3:(sm s).add=s.2.1:=rfl
 have k4:(sm (nsum x)).add=1:=by rw [hn];rfl
 rw [k1,k2] at e1
 rw [k1,k2,k3,k4] at e2
 refine⟨?_,?_⟩
 ·rw [show (T s (nsum x)).1=(thenS (sm s) (sm (nsum x))).keep from rfl,e1];split <;> omega
 ·rw [show (T s (nsum x)).2.1=(thenS (sm s) (sm (nsum x))).add from rfl,e2,zH (by omega)];omega
inductive WayL (ns:List Nd) (es:List Ed) (a:Int):List Ed->Int->Tr->Prop
 | nil:WayL ns es a [] a (idT ns a)
 | step {l:List Ed} {y:Int} {s:Tr} {e:Ed}:WayL ns es a l y s->e∈es->e.1=y->qaJ (sm s) (sm (qn ns y))=0->WayL ns es a (l ++ [e]) e.2.1 (T s (qn ns y))
section
variable {ns : List Nd} {es : List Ed}
theorem WayL.way{a b:Int}{l:List Ed}{s:Tr}(w:WayL ns es a l b s):Way ns es a b s:=by
 induction w with
 | nil=>exact .nil
 | step w he hy hx ih=>exact .step ih he hy hx
theorem WayL.mem{a b:Int}{l:List Ed}{s:Tr}(w:WayL ns es a l b s):∀ e∈l,e∈es:=by
 induction w with
 | nil=>intro e he;cases he
 | step w he hy hx ih=>
  intro e h
  rcases zL.1 h with h | h
  ·exact ih e h
  ·rw [zO.1 h];exact he
theorem WayL.low(h:GrOk ns es){a:Int}(a0:0<=a)(an:a<ns.length){f:Int}{l:List Ed}{b:Int}{s:Tr}(w:WayL ns es a l b s):(∀ e∈l,f<=dp ns e.1)->f<=dp ns b->Low f s/\((∃ e∈l,dp ns e.1=f/\(nth Gh.z5 ns e.1.toNat).1=6)->s.1=f/\1<=s.2.1):=by
 induction w with
 | nil=>exact fun _ hb=>⟨⟨hb,zAR _⟩,fun ⟨e,he,_⟩=>by cases he⟩
 | @step l y s e w he hy hx ih=>
  intro hl hb
  have hey:f<=dp ns y:=by rw [<- hy];exact hl e (by simp)
  obtain⟨i1,i2⟩:=ih (fun e he=>hl e (zL.2 (.inl he))) hey
  have x:=edgeF h he
  have fit:=w.way.fit h a0 an
  have ho:outOf (nth Gh.z5 ns y.toNat)=dp ns e.2.1:=by
   have h1:=(nsum_out (qqa h fit.b0 fit.bn)).2
   have h2:=x.out
   rw [hy] at h2
   exact h1.symm.trans h2
  obtain⟨l1,l2⟩:=Low.step (x:=nth Gh.z5 ns y.toNat) hey (by rw [ho];exact hb) i1
  refine⟨l1,?_⟩
  rintro⟨e',he',d1,d2⟩
  rcases zL.1 he' with h' | h'
  ·obtain⟨j1,j2⟩:=i2 ⟨e',h',d1,d2⟩
   exact l2 j1 j2
  ·rw [zO.1 h',hy] at d1 d2
   exact Low.feed d2 d1 i1 (by rw [fit.out];exact d1)
theorem WayL.pk(h:GrOk ns es){a:Int}(a0:0<=a)(an:a<ns.length){f:Int}{l:List Ed}{b:Int}{s:Tr}(w:WayL ns es a l b s):(∀ e∈l,inB f (nth Gh.z5 ns e.1.toNat)=true)->inB f (nth Gh.z5 ns b.toNat)=true ->
  ((l = []/\a=b)\/Pk (EdG ns es f) ns.length a.toNat b.toNat)/\∀ e∈l,Pk (EdG ns es f) ns.length e.1.toNat b.toNat/\(a=e.1\/Pk (EdG ns es f) ns.length a.toNat e.1.toNat):=by
 induction w with
 | nil=>exact fun _ _=>⟨.inl ⟨rfl,rfl⟩,fun e he=>by cases he⟩
 | @step l y s e w he hy hx ih=>
  intro hl hb
  have hey:inB f (nth Gh.z5 ns y.toNat)=true:=by rw [<- hy];exact hl e (by simp)
  obtain⟨i1,i2⟩:=ih (fun e he=>hl e (zL.2 (.inl he))) hey
  have x:=edgeF h he
  have fit:=w.way.fit h a0 an
  have y0:=fit.b0
  have yn:=fit.bn
  have t0:=x.t0
  have hE:Pk (EdG ns es f) ns.length y.toNat e.2.1.toNat:=.one ⟨e,he,by omega,by omega,hey,hb⟩
  refine⟨.inr ?_,fun e' he'=>?_⟩
  ·rcases i1 with⟨-,rfl⟩ | i1
   ·exact hE
   ·exact i1.trans (by omega) hE
  ·rcases zL.1 he' with h' | h'
   ·obtain⟨j1,j2⟩:=i2 e' h'
    exact⟨j1.trans (by omega) hE,j2⟩
   ·rw [zO.1 h',hy]
    refine⟨hE,?_⟩
    rcases i1 with⟨-,rfl⟩ | i1
    ·exact .inl rfl
    ·exact .inr i1
theorem WayL.none{a b:Int}{l:List Ed}{s:Tr}(w:WayL ns es a l b s)(hl:l = []):a=b/\s=idT ns a:=by
 cases w with
 | nil=>exact⟨rfl,rfl⟩
 | step w he hy hx=>simp at hl
theorem quq(g:Ed->Int):∀ l:List Ed,l ≠ []->∃ m∈l,∀ e∈l,g m<=g e
 | [],h=>absurd rfl h
 | x :: l,_=>by
  by_cases hl:l = []
  ·subst hl;exact⟨x,by simp,fun e he=>by rw [zO.1 he];exact zAR _⟩
  ·obtain⟨m,hm,h⟩:=quq g l hl
   by_cases q:g x<=g m
   ·exact⟨x,by simp,fun e he=>by rcases zf.1 he with rfl | he;exact zAR _;exact Int.le_trans q (h e he)⟩
   ·exact⟨m,by simp [hm],fun e he=>by rcases zf.1 he with rfl | he;omega;exact h e he⟩
theorem WayL.first{a b:Int}{l:List Ed}{s:Tr}(w:WayL ns es a l b s):l ≠ []->∃ e∈l,e.1=a:=by
 induction w with
 | nil=>exact fun h=>absurd rfl h
 | @step l y s e w he hy hx ih=>
  intro _
  by_cases hl:l = []
  ·exact⟨e,by simp,hy.trans (w.none hl).1.symm⟩
  ·obtain⟨e',h1,h2⟩:=ih hl
   exact⟨e',zL.2 (.inl h1),h2⟩
theorem WayL.ring(h:GrOk ns es){a:Int}(a0:0<=a)(an:a<ns.length){l:List Ed}{s:Tr}(w:WayL ns es a l a s)(hne:l ≠ []):1<=s.2.1:=by
 obtain⟨m,hm,hle⟩:=quq (fun e=>dp ns e.1) l hne
 obtain⟨ea,hea,hea2⟩:=w.first hne
 have hda:dp ns m.1<=dp ns a:=by rw [<- hea2];exact hle ea hea
 have xm:=edgeF h (w.mem m hm)
 have m0:=xm.f0
 have mn:=xm.fn
 have hfeed:∃ v∈l,dp ns v.1=dp ns m.1/\(nth Gh.z5 ns v.1.toNat).1=6:=by
  refine Classical.byContradiction fun hno=>?_
  have hin:∀ v∈l,inB (dp ns m.1) (nth Gh.z5 ns v.1.toNat)=true:=fun v hv=>by
   have h1:dp ns m.1<=(nth Gh.z5 ns v.1.toNat).2.1:=hle v hv
   unfold inB
   by_cases q:(nth Gh.z5 ns v.1.toNat).2.1>dp ns m.1
   ·rw [zH q]
   ·have e:(nth Gh.z5 ns v.1.toNat).2.1=dp ns m.1:=by omega
    rw [zK q,zH e,zAs]
    exact fun h6=>hno ⟨v,hv,e,h6⟩
  obtain⟨-,p2⟩:=w.pk h a0 an hin (by rw [<- hea2];exact hin ea hea)
  obtain⟨p3,p4⟩:=p2 m hm
  have p5:Pk (EdG ns es (dp ns m.1)) ns.length m.1.toNat m.1.toNat:=by
   rcases p4 with p4 | p4
   ·rwa [p4] at p3
   ·exact p3.trans (by omega) p4
  exact h.rings m.1.toNat m.1.toNat (by omega) (by omega) ⟨p5,p5⟩
 exact ((w.low h a0 an hle hda).2 hfeed).2
theorem WayL.two(h:GrOk ns es){a b:Int}{l:List Ed}{s:Tr}(a0:0<=a)(an:a<ns.length)(w:WayL ns es a l b s)(hs:∀ i:Nat,(i:Int)<outT s->pl s i<=80){c:Int}{r:Tr}(v:WayB ns es b c r):∃ l',WayL ns es a (l++l') c (T s r)/\(l' = []->b=c/\r=idT ns b):=by
 have fs:=w.way.fit h a0 an
 induction v with
 | nil=>exact⟨[],by rw [T_idr fs.k1 fs.out,List.append_nil];exact w,fun _=>⟨rfl,rfl⟩⟩
 | @step y r e v he hy hsm ih=>
  obtain⟨l',hl,-⟩:=ih
  have fr:=v.fit h fs.b0 fs.bn
  have q:=qlo h fr.b0 fr.bn
  have hrs:r.1<=outT s:=by rw [fs.out];exact fr.keep
  have hqr:(qn ns y).1<=outT r:=by rw [fr.out];exact q.kd
  rw [<- qtF fs.k1 fr.k1 q.k1 hrs hqr]
  refine⟨l' ++ [e],?_,fun e=>by simp at e⟩
  rw [<- zU]
  refine .step hl he hy ?_
  have f2:=hl.way.fit h a0 an
  have hb:=qyQ hrs (by decide) hs v.small
  exact qkB (80+12) (by decide) f2.chk hb (by rw [f2.out];exact q.chk) (by have:=q.a01;omega)
end
end Go.Proofs.YtgnnhemoocfclaaDoor.Rea
