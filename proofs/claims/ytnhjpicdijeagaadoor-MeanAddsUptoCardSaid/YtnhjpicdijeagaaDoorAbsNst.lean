import Derived.Test.YtnhjpicdijeagaaDoorAbsOpsM
namespace Go.Abs
open Go.RowKit
open Go.ChangeMaps (setBlock)
theorem KidAt.val{w:World}{M:Nat->Prop}:{kd:Kid} -> {kq:Oth}->kdMap kd=some kq -> {x:kd.sh.den} -> {c:Nat} -> {v:Value}->KidAt w M kd x c v->v=.map (some c)
 | .map _,_,_,_,_,_,h=>h.1
 | .row _ _,_,hk,_,_,_,_=>by cases hk
structure NE (w:World) (M:Nat->Prop) (k:Sh) (kd:Kid) (x:Int×(k.den×kd.sh.den)) (e:MapEntry) (c:Nat):Prop where
 born:(e.born:Int)=x.1
 key:RV w M [] σ0 (enc k x.2.1) e.key
 kid:KidAt w M kd x.2.2 c e.val
section
variable {P : Program} {t : TypeId} {k : Sh} {w : World} {M : Nat -> Prop} {kd : Kid}
theorem NE.kD{x:Int×(k.den×kd.sh.den)}{e:MapEntry}{c:Nat}(h:NE w M k kd x e c):Dat w M k x.2.1 e.key:=qxc h.key
theorem NE.one{x:Int×(k.den×kd.sh.den)}{e:MapEntry}{c:Nat}(h:NE w M k kd x e c):NEs w M k kd [x] [e] [c]:=⟨e,[],c,[],rfl,rfl,h.born,h.key,h.kid,rfl,rfl⟩
theorem NEs.length{xs:Ents k kd.sh}{es:List MapEntry}{bs:List Nat}(h:NEs w M k kd xs es bs):xs.length=es.length/\bs.length=xs.length:=by
 induction xs generalizing es bs with
 | nil=>obtain⟨rfl,rfl⟩:=h;exact⟨rfl,rfl⟩
 | cons x xs ih=>
  obtain⟨e,r,c,cs,rfl,rfl,-,-,-,h2⟩:=h
  simp [ih h2]
theorem NEs.get{xs:Ents k kd.sh}{es:List MapEntry}{bs:List Nat}(h:NEs w M k kd xs es bs){j:Nat}{x:Int×(k.den×kd.sh.den)}(hj:xs[j]? = some x):∃ e c,es[j]? = some e/\bs[j]? = some c/\NE w M k kd x e c:=by
 induction xs generalizing es bs j with
 | nil=>simp at hj
 | cons y xs ih=>
  obtain⟨e,r,c,cs,rfl,rfl,h1,h2,h3,h4⟩:=h
  cases j with
  | zero=>simp at hj;subst hj;exact⟨e,c,rfl,rfl,h1,h2,h3⟩
  | succ j=>simp at hj;simpa using ih h4 hj
theorem NEs.get'{xs:Ents k kd.sh}{es:List MapEntry}{bs:List Nat}(h:NEs w M k kd xs es bs){j:Nat}{e:MapEntry}(hj:es[j]? = some e):∃ x c,xs[j]? = some x/\bs[j]? = some c/\NE w M k kd x e c:=by
 induction xs generalizing es bs j with
 | nil=>obtain⟨rfl,rfl⟩:=h;simp at hj
 | cons y xs ih=>
  obtain⟨e',r,c,cs,rfl,rfl,h1,h2,h3,h4⟩:=h
  cases j with
  | zero=>simp at hj;subst hj;exact⟨y,c,rfl,rfl,h1,h2,h3⟩
  | succ j=>simp at hj;simpa using ih h4 hj
theorem NEs.append{xs ys:Ents k kd.sh}{es fs:List MapEntry}{bs cs:List Nat}(h:NEs w M k kd xs es bs)(h':NEs w M k kd ys fs cs):NEs w M k kd (xs++ys) (es++fs) (bs++cs):=by
 induction xs generalizing es bs with
 | nil=>obtain⟨rfl,rfl⟩:=h;exact h'
 | cons x xs ih=>
  obtain⟨e,r,c,ds,rfl,rfl,h1,h2,h3,h4⟩:=h
  exact⟨e,r++fs,c,ds++cs,rfl,rfl,h1,h2,h3,ih h4⟩
theorem NEs.erase{xs:Ents k kd.sh}{es:List MapEntry}{bs:List Nat}(h:NEs w M k kd xs es bs)(j:Nat):NEs w M k kd (xs.eraseIdx j) (es.eraseIdx j) (bs.eraseIdx j):=by
 induction xs generalizing es bs j with
 | nil=>obtain⟨rfl,rfl⟩:=h;exact⟨rfl,rfl⟩
 | cons y xs ih=>
  obtain⟨e',r,c,cs,rfl,rfl,h1,h2,h3,h4⟩:=h
  cases j with
  | zero=>exact h4
  | succ j=>exact⟨e',r.eraseIdx j,c,cs.eraseIdx j,rfl,rfl,h1,h2,h3,ih h4 j⟩
theorem NEs.put{w':World}{M':Nat->Prop}(kp:Keeps w M w' M'){xs:Ents k kd.sh}{es:List MapEntry}{bs:List Nat}(h:NEs w M k kd xs es bs)(hnd:bs.Nodup){i:Nat}{c:Nat}(hc:bs[i]? = some c)
  (hl:∀ b,b∈bs->b≠c->b<w.heap.size->w'.heap[b]? = w.heap[b]?) {y:kd.sh.den} (hk:∀ v,KidAt w M kd (kidL k kd.sh xs i) c v->KidAt w' M' kd y c v):NEs w' M' k kd (putL k kd.sh xs i y) es bs:=by
 induction xs generalizing es bs i with
 | nil=>obtain⟨rfl,rfl⟩:=h;simp at hc
 | cons x xs ih=>
  obtain⟨e,r,d,ds,rfl,rfl,h1,h2,h3,h4⟩:=h
  cases i with
  | zero=>
   simp only [List.length_cons,List.getElem?_cons_zero,zD] at hc
   subst hc
   refine⟨e,r,d,ds,rfl,rfl,h1,RV.keeps kp (OStep.refl [] σ0) h2,hk _ (by simpa [kidL] using h3),h4.keeps kp fun b hb hlt=>hl b (zb _ hb) (fun e=>?_) hlt⟩
   rw [<- e] at hnd
   exact (zZ.1 hnd).1 hb
  | succ i=>
   simp only [List.getElem?_cons_succ] at hc
   have hne:d≠c:=fun e=>(zZ.1 hnd).1 (e▸zh hc)
   exact⟨e,r,d,ds,rfl,rfl,h1,RV.keeps kp (OStep.refl [] σ0) h2,h3.keeps kp (fun hlt=>hl d (zAH ..) hne hlt),
    ih h4 (zZ.1 hnd).2 hc (fun b hb=>hl b (zb _ hb)) (fun v hv=>hk v (by simpa [kidL] using hv))⟩
theorem At1.ix{v:Sh}{x:k.den}{xs:Ents k v}{j:Nat}{y:Int×(k.den×v.den)}(h:At1 k v x xs j y):ixL k v x xs=j:=by
 induction xs generalizing j with
 | nil=>have:=h.here;simp at this
 | cons z xs ih=>
  simp only [ixL]
  cases j with
  | zero=>have:=h.here;simp at this;subst this;rw [h.eq];rfl
  | succ j=>
   rw [h.ahead 0 z (by omega) rfl,cond_false]
   congr 1
   exact ih ⟨by simpa using h.here,h.eq,fun i z' hi hz=>h.ahead (i+1) z' (by omega) (by simpa using hz)⟩
theorem qnR{w' w1:World}{M':Nat->Prop}(hk:keyOk P t k=true){x:k.den}{a:Value}(ha:Dat w1 M' k x a):(xs:Ents k kd.sh)->(es:List MapEntry)->(bs:List Nat)->(i:Nat)->NEs w M k kd xs es bs ->
  ((Instr.findAsking t a es i).run P w'=.ok none w'/\entOf k kd.sh x xs=none)\/∃ j e y c,(Instr.findAsking t a es i).run P w'=.ok (some (i+j,e.val)) w'/\es[j]? = some e/\bs[j]? = some c/\NE w M k kd y e c/\At1 k kd.sh x xs j y
 | [],es,bs,i,h=>by obtain⟨rfl,rfl⟩:=h;exact .inl ⟨by simp [Instr.findAsking],rfl⟩
 | y :: xs,es,bs,i,h=>by
  obtain⟨e,r,c,cs,rfl,rfl,g1,g2,g3,h2⟩:=h
  have h1:NE w M k kd y e c:=⟨g1,g2,g3⟩
  have he:=qpI (w:=w') hk ha h1.kD
  cases q:eqD k x y.2.1 with
  | true=>
   rw [q] at he
   exact .inr ⟨0,e,y,c,by simp [Instr.findAsking,he],rfl,rfl,h1,⟨rfl,q,fun i z hi _=>by omega⟩⟩
  | false=>
   rw [q] at he
   rcases qnR (w':=w') hk ha xs r cs (i+1) h2 with⟨r1,r2⟩ | ⟨j,e',y',c',r1,r2,r5,r3,r4⟩
   ·exact .inl ⟨by simp [Instr.findAsking,he,r1],by simp only [entOf,q,cond_false];exact r2⟩
   ·refine .inr ⟨j+1,e',y',c',by simp [Instr.findAsking,he,r1,zAF,zBO 1 j],by simpa using r2,by simpa using r5,r3,⟨by simpa using r4.here,r4.eq,fun i' z hi hz=>?_⟩⟩
    cases i' with
    | zero=>simp at hz;subst hz;exact q
    | succ i'=>exact r4.ahead i' z (by omega) (by simpa using hz)
theorem quN{w1:World}{M':Nat->Prop}{d:TypeDesc}(hsame:∀ (y:k.den) (b:Value),Dat w M k y b->∀ (x:k.den) (a:Value),Dat w1 M' k x a->Instr.sameNow d a b=some (eqD k x y)){x:k.den}{a:Value}(ha:Dat w1 M' k x a) :
  (xs:Ents k kd.sh)->(es:List MapEntry)->(bs:List Nat)->(i:Nat)->NEs w M k kd xs es bs ->
  (Instr.findNow d a es i=some none/\entOf k kd.sh x xs=none)\/∃ j e y c,Instr.findNow d a es i=some (some (i+j,e.val))/\es[j]? = some e/\bs[j]? = some c/\NE w M k kd y e c/\At1 k kd.sh x xs j y
 | [],es,bs,i,h=>by obtain⟨rfl,rfl⟩:=h;exact .inl ⟨by simp [Instr.findNow],rfl⟩
 | y :: xs,es,bs,i,h=>by
  obtain⟨e,r,c,cs,rfl,rfl,g1,g2,g3,h2⟩:=h
  have h1:NE w M k kd y e c:=⟨g1,g2,g3⟩
  have he:=hsame y.2.1 e.key h1.kD x a ha
  cases q:eqD k x y.2.1 with
  | true=>
   rw [q] at he
   exact .inr ⟨0,e,y,c,by simp [Instr.findNow,he],rfl,rfl,h1,⟨rfl,q,fun i z hi _=>by omega⟩⟩
  | false=>
   rw [q] at he
   rcases quN hsame ha xs r cs (i+1) h2 with⟨r1,r2⟩ | ⟨j,e',y',c',r1,r2,r5,r3,r4⟩
   ·exact .inl ⟨by simp [Instr.findNow,he,r1],by simp only [entOf,q,cond_false];exact r2⟩
   ·refine .inr ⟨j+1,e',y',c',by simp [Instr.findNow,he,r1,zAF,zBO 1 j],by simpa using r2,by simpa using r5,r3,⟨by simpa using r4.here,r4.eq,fun i' z hi hz=>?_⟩⟩
    cases i' with
    | zero=>simp at hz;subst hz;exact q
    | succ i'=>exact r4.ahead i' z (by omega) (by simpa using hz)
theorem qAz{w' w1:World}{M':Nat->Prop}(hk:keyOk P t k=true){x:k.den}{a:Value}(ha:Dat w1 M' k x a){xs:Ents k kd.sh}{es:List MapEntry}{bs:List Nat}(h:NEs w M k kd xs es bs) :
  ((Instr.findKey t a es).run P w'=.ok none w'/\entOf k kd.sh x xs=none)\/∃ j e y c,(Instr.findKey t a es).run P w'=.ok (some (j,e.val)) w'/\es[j]? = some e/\bs[j]? = some c/\NE w M k kd y e c/\At1 k kd.sh x xs j y:=by
 rcases qsX (w:=w) (M:=M) (w1:=w1) (M':=M') hk with⟨fs,hu⟩ | ⟨d,hd,hsame⟩
 ·rw [run_findKey_eq w' (by rw [hu])]
  simpa using qnR (w':=w') hk ha xs es bs 0 h
 ·rcases quN hsame ha xs es bs 0 h with⟨r1,r2⟩ | ⟨j,e,y,c,r1,r2,r5,r3,r4⟩
  ·exact .inl ⟨MapKept.run_findKey hd r1,r2⟩
  ·refine .inr ⟨j,e,y,c,?_,r2,r5,r3,r4⟩
   have:=MapKept.run_findKey (P:=P) (w:=w') hd r1
   simpa using this
structure NB (w:World) (M:Nat->Prop) (k:Sh) (kd:Kid) (d:Mp k kd.sh) (es:Array MapEntry) (clock b:Nat) (bs:List Nat):Prop where
 clk:(clock:Int)=d.1
 ents:NEs w M k kd d.2 es.toList bs
 lt:∀ x∈es.toList,x.born<clock
 nd:(es.toList.map (·.born)).Nodup
 sep:(b :: bs).Nodup
theorem NB.push{d:Mp k kd.sh}{es:Array MapEntry}{clock b:Nat}{bs:List Nat}(B:NB w M k kd d es clock b bs){x:k.den}{y:kd.sh.den}{a v:Value}{c:Nat}(ha:Dat w M k x a)(hc:KidAt w M kd y c v)(hb:c≠b)(hn:c ∉ bs) :
  NB w M k kd (d.1+1,d.2 ++ [(d.1,(x,y))]) (es.push ⟨a,v,clock⟩) (clock+1) b (bs ++ [c]):=by
 refine⟨by simp only;rw [<- B.clk];simp,?_,fun z hz=>?_,?_,?_⟩
 ·rw [zAT]
  exact B.ents.append ⟨_,[],c,[],rfl,rfl,B.clk,qeB ha,hc,rfl,rfl⟩
 ·rw [zAT,zU] at hz
  rcases hz with hz | hz
  ·exact zCF (B.lt z hz)
  ·simp at hz;subst hz;exact zBf _
 ·rw [zAT,zAr]
  refine za.2 ⟨B.nd,by simp,fun p hp q hq e=>?_⟩
  obtain⟨z,hz,rfl⟩:=zr.1 hp
  simp at hq
  have:=B.lt z hz
  omega
 ·rw [<- List.cons_append]
  refine za.2 ⟨B.sep,by simp,fun p hp q hq e=>?_⟩
  simp at hq
  subst hq;subst e
  rcases zi.1 hp with h | h
  ·exact hb h
  ·exact hn h
theorem RN.ents{l:Loc}{q:Nst}{d:q.sh.den}(r:RN w M l q d):∃ es,NEs w M q.k q.kd d.2 es l.ex:=by
 unfold RN at r
 split at r
 ·obtain⟨b,es,clock,ha,hb,hc,h1,h2⟩:=r
  exact⟨_,h1⟩
 ·obtain⟨b,bm,since,last,seen,es,clock,ha,hb,hm,hM,hbm,h1,h2,h3,h5,cs,h4,h6⟩:=r
  rcases h6 with⟨hd,e⟩ | ⟨e',s0,x,r,c,hd,q2,q3,q4,q5,q6,q7⟩
  ·have:restE (k:=q.k) (v:=q.kd.sh) d=d.2:=by unfold restE;rw [show (d.1==1)=false from zO hd];rfl
   rw [this] at h4
   exact⟨_,by rw [e];exact h4⟩
  ·have:restE (k:=q.k) (v:=q.kd.sh) d=r:=by unfold restE;rw [show (d.1==1)=true from by rw [hd];rfl,q5];rfl
   rw [this] at h4
   exact⟨_,by rw [q5,q7];exact q6.append h4⟩
theorem RN.put{w':World}{M':Nat->Prop}(kp:Keeps w M w' M'){l:Loc}{q:Nst}{d:q.sh.den}(r:RN w M l q d){i c:Nat}(hc:l.ex[i]? = some c)
  (hl:∀ b,l.a=some b\/b∈l.ex->b≠c->b<w.heap.size->w'.heap[b]? = w.heap[b]?) {y:q.kd.sh.den} (hk:∀ v,KidAt w M q.kd (kidL q.k q.kd.sh d.2 i) c v->KidAt w' M' q.kd y c v):RN w' M' l q (d.1,putL q.k q.kd.sh d.2 i y):=by
 have hcm:c∈l.ex:=zh hc
 unfold RN at r ⊢
 split at r
 ·rename_i hit
  obtain⟨b,es,clock,ha,hb,hcl,h1,h2,h3,h4⟩:=r
  have hbc:b≠c:=fun e=>(zZ.1 h4).1 (e▸hcm)
  exact⟨b,es,clock,ha,by rw [hl b (.inl ha) hbc (zI.1 hb).1];exact hb,hcl,h1.put kp (zZ.1 h4).2 hc (fun b hb=>hl b (.inr hb)) hk,h2,h3,h4⟩
 ·rename_i hit
  obtain⟨b,bm,since,last,seen,es,clock,ha,hb,hm,hM,hbm,h1,h2,h3,h5,cs,h4,h6⟩:=r
  have hbc:b≠c:=fun e=>(zZ.1 h5).1 (e▸hcm)
  refine⟨b,bm,since,last,seen,es,clock,ha,by rw [hl b (.inl ha) hbc (zI.1 hb).1];exact hb,zM hm kp.size,kp.out bm hm hM,by rw [kp.block bm hm hM];exact hbm,h1,h2,h3,h5,cs,?_⟩
  rcases h6 with⟨hd,e⟩ | ⟨e',s0,x,r,c',hd,q2,q3,q4,q5,q6,q7⟩
  ·have hr:∀ ys:Ents q.k q.kd.sh,restE (k:=q.k) (v:=q.kd.sh) (d.1,ys)=ys:=fun ys=>by unfold restE;rw [show (d.1==1)=false from zO hd];rfl
   have h4:NEs w M q.k q.kd d.2 (leftL es seen) cs:=by have:=hr d.2;rw [<- this];exact h4
   rw [hr]
   refine⟨?_,.inl ⟨hd,e⟩⟩
   exact h4.put kp (e▸(zZ.1 h5).2) (by rw [<- e];exact hc) (fun b hb=>hl b (.inr (by rw [e];exact hb))) hk
  ·have hr:∀ z (ys:Ents q.k q.kd.sh),restE (k:=q.k) (v:=q.kd.sh) (d.1,z :: ys)=ys:=fun z ys=>by unfold restE;rw [show (d.1==1)=true from by rw [hd];rfl];rfl
   have h4:NEs w M q.k q.kd r (leftL es seen) cs:=by have:=hr x r;rw [<- this,<- q5];exact h4
   have hnd:=(zZ.1 h5).2
   rw [q7] at hnd hc
   rw [q5] at hk ⊢
   cases i with
   | zero=>
    simp only [List.length_cons,List.getElem?_cons_zero,zD] at hc
    subst hc
    simp only [putL,hr]
    refine⟨h4.keeps kp fun b hb=>hl b (.inr (by rw [q7];exact zb _ hb)) (fun e=>(zZ.1 hnd).1 (e▸hb)),.inr ⟨e',s0,_,r,c',hd,q2,q3,q4,rfl,?_,q7⟩⟩
    exact q6.put kp (by simp) (i:=0) rfl (fun b hb hne=>by simp at hb;exact absurd hb hne) (fun v hv=>hk v (by simpa [kidL] using hv))
   | succ i=>
    simp only [List.getElem?_cons_succ] at hc
    have hne:c'≠c:=fun e=>(zZ.1 hnd).1 (e▸zh hc)
    simp only [putL,hr]
    refine⟨h4.put kp (zZ.1 hnd).2 hc (fun b hb=>hl b (.inr (by rw [q7];exact zb _ hb))) (fun v hv=>hk v (by simpa [kidL] using hv)),.inr ⟨e',s0,x,_,c',hd,q2,q3,q4,rfl,q6.keeps kp fun b hb=>hl b (.inr (by simp at hb;rw [hb,q7];simp)) (by simp at hb;rw [hb];exact hne),q7⟩⟩
theorem RN.sep{l:Loc}{q:Nst}{d:q.sh.den}(r:RN w M l q d):∃ b,l.a=some b/\(b :: l.ex).Nodup:=by
 unfold RN at r
 split at r
 ·obtain⟨b,es,clock,ha,hb,hc,h1,h2,h3,h4⟩:=r
  exact⟨b,ha,h4⟩
 ·obtain⟨b,bm,since,last,seen,es,clock,ha,hb,hm,hM,hbm,h1,h2,h3,h5,_⟩:=r
  exact⟨b,ha,h5⟩
theorem KidAt.ro{h:List O}{σ:Nat->Loc}:{kd:Kid} -> {kq:Oth}->kdMap kd=some kq -> {x:kd.sh.den} -> {c:Nat} -> {v:Value}->KidAt w M kd x c v->RO w M h σ ⟨some c,0,[]⟩ (kidO kd x)/\live (kidO kd x)/\(∀ off,PtrTo (kidO kd x) c off (.map (some c))↔off=1000000)/\(∀ l b,Oat (kidO kd x) l b↔l.a=some b)
 | .map _,_,_,_,_,_,h=>⟨⟨h.2.2.u,fun hf=>by cases hf⟩,rfl,fun off=>by simp only [kidO,PtrTo];rw [h.2.1];simp,fun l b=>Iff.rfl⟩
 | .row _ _,_,hk,_,_,_,_=>by cases hk
variable {ty kt et : TypeId} {b clock : Nat} {d : Mp k kd.sh} {es : Array MapEntry} {bs : List Nat}
theorem qoW(hu:P.underlying ty=some (.map kt et))(hk:keyOk P kt k=true){z:Value}(hz:∀ w:World,(zeroValue et).run P w=.ok z w)(hb:w.heap[b]? = some (.map es clock))(B:NB w M k kd d es clock b bs){x:k.den}{a:Value}(ha:Dat w M k x a) :
  (mpHas k kd.sh d x=false/\(Instr.lookup ty (.map (some b)) a false).run P w=.ok z w)\/∃ j e y c,mpHas k kd.sh d x=true/\ixL k kd.sh x d.2=j/\(Instr.lookup ty (.map (some b)) a false).run P w=.ok e.val w/\d.2[j]? = some y/\bs[j]? = some c/\NE w M k kd y e c:=by
 rcases qAz (w':=w) hk ha B.ents with⟨h1,h2⟩ | ⟨j,e,y,c,h1,h2,h5,h3,h4⟩
 ·exact .inl ⟨by unfold mpHas;rw [h2];rfl,by simp [Instr.lookup,run_underlying hu,MapKept.run_getObj_map hb,qbg hk ha,h1,hz,Result.andThen]⟩
 ·refine .inr ⟨j,e,y,c,by unfold mpHas;rw [h4.ent];rfl,h4.ix,?_,h4.here,h5,h3⟩
  simp [Instr.lookup,run_underlying hu,MapKept.run_getObj_map hb,qbg hk ha,h1,Result.andThen]
end
end Go.Abs
