import Derived.Test.YtnhjpicdijeagaaDoorAbsLp
import Derived.Test.YtnhjpicdijeagaaDoorAbsOpsM
namespace Go.Abs
section
variable {k v : Sh}
theorem qAI(hk:noSl k=true){x y:k.den}:eqD k x y=true↔x=y:=⟨qfx,fun h=>h▸qhe hk x⟩
theorem qAH(hk:noSl k=true){x y:k.den}(h:x≠y):eqD k x y=false:=zAJ.2 fun e=>h ((qAI hk).1 e)
structure MpOk (k v:Sh) (d:Mp k v):Prop where
 keys:(d.2.map fun e=>e.2.1).Nodup
 born:(d.2.map fun e=>e.1).Nodup
 lt:∀ e∈d.2,e.1<d.1
theorem MpOk.empty:MpOk k v ((0:Int),[]):=⟨zBX,zBX,fun e h=>by cases h⟩
theorem qhV{x:k.den}:{es:Ents k v} -> {e:Int×(k.den×v.den)}->entOf k v x es=some e->e∈es/\e.2.1=x
 | [],_,h=>by cases h
 | f :: r,e,h=>by
  simp only [entOf] at h
  cases q:eqD k x f.2.1 with
  | true=>rw [q] at h;cases h;exact⟨by simp,(qfx q).symm⟩
  | false=>
   rw [q] at h
   obtain⟨h1,h2⟩:=qhV (es:=r) h
   exact⟨by simp [h1],h2⟩
theorem quY(hk:noSl k=true):{es:Ents k v}->(es.map fun e=>e.2.1).Nodup -> {e:Int×(k.den×v.den)}->e∈es->entOf k v e.2.1 es=some e
 | [],_,_,h=>by cases h
 | f :: r,hn,e,h=>by
  simp only [List.map_cons,zZ] at hn
  simp only [entOf]
  rcases zi.1 h with rfl | h
  ·rw [qhe hk];rfl
  ·rw [qAH hk fun e1=>hn.1 (zr.2 ⟨e,h,e1⟩),cond_false]
   exact quY hk hn.2 h
theorem qxS(hk:noSl k=true){x:k.den}:{es:Ents k v}->entOf k v x es=none->∀ e∈es,e.2.1≠x
 | [],_,_,h=>by cases h
 | f :: r,hn,e,h=>by
  simp only [entOf] at hn
  cases q:eqD k x f.2.1 with
  | true=>rw [q] at hn;cases hn
  | false=>
   rw [q] at hn
   rcases zi.1 h with rfl | h
   ·intro e1;subst e1;rw [qhe hk] at q;cases q
   ·exact qxS hk hn e h
theorem qmY(hk:noSl k=true){x:k.den}(f:v.den->v.den):(es:Ents k v)->entOf k v x (turnL k v x f es)=(entOf k v x es).map fun e=>(e.1,(e.2.1,f e.2.2))
 | []=>rfl
 | g :: r=>by
  simp only [turnL,entOf]
  cases q:eqD k x g.2.1 with
  | true=>simp only [cond_true,entOf,q,Option.map_some]
  | false=>simp only [cond_false,entOf,q];exact qmY hk f r
theorem qlS{x z:k.den}(hne:z≠x)(f:v.den->v.den):(es:Ents k v)->entOf k v z (turnL k v x f es)=entOf k v z es
 | []=>rfl
 | g :: r=>by
  simp only [turnL]
  cases q:eqD k x g.2.1 with
  | true=>
   have e1:=qfx q
   simp only [cond_true,entOf]
   cases q':eqD k z g.2.1 with
   | true=>exact absurd ((qfx q').trans e1.symm) hne
   | false=>rfl
  | false=>simp only [cond_false,entOf,qlS hne f r]
theorem qoM{x:k.den}(f:v.den->v.den):(es:Ents k v)->(turnL k v x f es).map (fun e=>e.2.1)=es.map (fun e=>e.2.1)/\(turnL k v x f es).map (fun e=>e.1)=es.map (fun e=>e.1)
 | []=>⟨rfl,rfl⟩
 | g :: r=>by
  simp only [turnL]
  cases q:eqD k x g.2.1 with
  | true=>exact⟨rfl,rfl⟩
  | false=>
   obtain⟨h1,h2⟩:=qoM (x:=x) f r
   simp only [cond_false,List.map_cons,h1,h2,and_self]
theorem qka{x:k.den}:(es:Ents k v)->(dropL k v x es).Sublist es
 | []=>.refl _
 | g :: r=>by
  simp only [dropL]
  cases eqD k x g.2.1 with
  | true=>exact List.sublist_cons_self _ _
  | false=>exact (qka r).cons_cons _
theorem qmZ(hk:noSl k=true){x:k.den}:(es:Ents k v)->(es.map fun e=>e.2.1).Nodup->entOf k v x (dropL k v x es)=none
 | [],_=>rfl
 | g :: r,hn=>by
  simp only [List.map_cons,zZ] at hn
  simp only [dropL]
  cases q:eqD k x g.2.1 with
  | true=>
   simp only [cond_true]
   have e1:=qfx q
   cases q2:entOf k v x r with
   | none=>rfl
   | some e=>
    obtain⟨h1,h2⟩:=qhV q2
    exact absurd (zr.2 ⟨e,h1,by rw [h2,e1]⟩) hn.1
  | false=>simp only [cond_false,entOf,q];exact qmZ hk r hn.2
theorem qlT{x z:k.den}(hne:z≠x):(es:Ents k v)->entOf k v z (dropL k v x es)=entOf k v z es
 | []=>rfl
 | g :: r=>by
  simp only [dropL]
  cases q:eqD k x g.2.1 with
  | true=>
   simp only [cond_true,entOf]
   cases q':eqD k z g.2.1 with
   | true=>exact absurd ((qfx q').trans (qfx q).symm) hne
   | false=>rfl
  | false=>simp only [cond_false,entOf,qlT hne r]
theorem qBh{x:k.den}{y:v.den}:{es:Ents k v} -> {e:Int×(k.den×v.den)}->(es.map fun e=>e.1).Nodup->entOf k v x es=some e->atL k v e.1 y es=turnL k v x (fun _=>y) es
 | [],_,_,h=>by cases h
 | g :: r,e,hn,h=>by
  simp only [List.map_cons,zZ] at hn
  simp only [entOf] at h
  simp only [atL,turnL]
  cases q:eqD k x g.2.1 with
  | true=>rw [q] at h;cases h;simp only [zAZ,cond_true]
  | false=>
   rw [q] at h
   have hm:=(qhV h).1
   rw [show (g.1==e.1)=false from zO fun e1=>hn.1 (zr.2 ⟨e,hm,e1.symm⟩)]
   simp only [cond_false,qBh hn.2 h]
theorem qBi{n:Int}{z y:v.den}{x:k.den}:(es:Ents k v)->(∀ e∈es,e.1<n)->atL k v n y (es ++ [(n,(x,z))])=es ++ [(n,(x,y))]
 | [],_=>by simp [atL]
 | g :: r,hl=>by
  have:=hl g (by simp)
  simp only [List.cons_append,atL]
  rw [show (g.1==n)=false from zO (by omega),cond_false,qBi r fun e he=>hl e (by simp [he])]
theorem qBX{d:Mp k v}(h:MpOk k v d)(x:k.den)(y:v.den):mpAt k v (mpEnt k v d x) (qfk k v d x) y=mpPut k v d x y:=by
 unfold mpAt mpEnt qfk mpPut mpHas
 cases q:entOf k v x d.2 with
 | some e=>simp only [Option.isSome_some,cond_true,qBh h.born q]
 | none=>simp only [Option.isSome_none,cond_false,qBi d.2 h.lt]
theorem quw(d:Mp k v)(x:k.den):qiu k v (mpEnt k v d x) (qfk k v d x)=true:=by
 unfold qiu mpEnt qfk mpHas
 cases q:entOf k v x d.2 with
 | some e=>simp only [Option.isSome_some,cond_true,zBi];exact⟨e,(qhV q).1,by simp⟩
 | none=>simp
theorem MpOk.put(hk:noSl k=true){d:Mp k v}(h:MpOk k v d)(x:k.den)(y:v.den):MpOk k v (mpPut k v d x y):=by
 unfold mpPut mpHas
 cases q:entOf k v x d.2 with
 | some e=>
  obtain⟨h1,h2⟩:=qoM (x:=x) (fun _=>y) d.2
  refine⟨by simp only [Option.isSome_some,cond_true,h1];exact h.keys,by simp only [Option.isSome_some,cond_true,h2];exact h.born,fun e he=>?_⟩
  simp only [Option.isSome_some,cond_true] at he ⊢
  have:e.1∈(turnL k v x (fun _=>y) d.2).map (fun e=>e.1):=zr.2 ⟨e,he,rfl⟩
  rw [h2] at this
  obtain⟨f,hf,e1⟩:=zr.1 this
  rw [<- e1];exact h.lt f hf
 | none=>
  simp only [Option.isSome_none,cond_false]
  refine⟨?_,?_,fun e he=>?_⟩
  ·simp only [zAr,List.map_cons,List.map_nil]
   refine za.2 ⟨h.keys,by simp,fun a ha b hb e=>?_⟩
   obtain⟨f,hf,rfl⟩:=zr.1 ha
   simp only [zAG] at hb
   exact qxS hk q f hf (e.trans hb)
  ·simp only [zAr,List.map_cons,List.map_nil]
   refine za.2 ⟨h.born,by simp,fun a ha b hb e=>?_⟩
   obtain⟨f,hf,rfl⟩:=zr.1 ha
   simp only [zAG] at hb
   have:=h.lt f hf
   omega
  ·simp only [zU,zAG] at he
   rcases he with he | rfl
   ·have:=h.lt e he;simp only;omega
   ·simp only;omega
theorem qxz(hk:noSl k=true)(d:Mp k v)(x:k.den)(y:v.den):mpGet k v (mpPut k v d x y) x=y:=by
 unfold mpPut mpHas mpGet
 cases q:entOf k v x d.2 with
 | some e=>simp only [Option.isSome_some,cond_true,qmY hk,q,Option.map_some]
 | none=>simp only [Option.isSome_none,cond_false,qjY,q,qhe hk,cond_true]
theorem qBW(hk:noSl k=true)(d:Mp k v)(x:k.den)(y:v.den):mpHas k v (mpPut k v d x y) x=true:=by
 unfold mpPut mpHas
 cases q:entOf k v x d.2 with
 | some e=>simp only [Option.isSome_some,cond_true,qmY hk,q,Option.map_some]
 | none=>simp only [Option.isSome_none,cond_false,qjY,q,qhe hk,cond_true,Option.isSome_some]
theorem qrx(hk:noSl k=true)(d:Mp k v){x z:k.den}(hne:z≠x)(y:v.den):entOf k v z (mpPut k v d x y).2=entOf k v z d.2:=by
 unfold mpPut mpHas
 cases q:entOf k v x d.2 with
 | some e=>simp only [Option.isSome_some,cond_true,qlS hne]
 | none=>
  simp only [Option.isSome_none,cond_false,qjY,qAH hk hne]
  cases entOf k v z d.2 <;> rfl
theorem qkR(hk:noSl k=true)(d:Mp k v){x z:k.den}(hne:z≠x)(y:v.den):mpGet k v (mpPut k v d x y) z=mpGet k v d z:=by
 unfold mpGet;rw [qrx hk d hne]
theorem qpq(hk:noSl k=true)(d:Mp k v){x z:k.den}(hne:z≠x)(y:v.den):mpHas k v (mpPut k v d x y) z=mpHas k v d z:=by
 unfold mpHas;rw [qrx hk d hne]
theorem MpOk.del{d:Mp k v}(h:MpOk k v d)(x:k.den):MpOk k v (mpDel k v d x):=
 ⟨h.keys.sublist ((qka d.2).map _),h.born.sublist ((qka d.2).map _),fun e he=>h.lt e ((qka d.2).subset he)⟩
theorem qDS(hk:noSl k=true){d:Mp k v}(h:MpOk k v d)(x:k.den):mpGet k v (mpDel k v d x) x=v.zero:=by
 unfold mpGet mpDel;rw [qmZ hk _ h.keys]
theorem qDR(hk:noSl k=true){d:Mp k v}(h:MpOk k v d)(x:k.den):mpHas k v (mpDel k v d x) x=false:=by
 unfold mpHas mpDel;rw [qmZ hk _ h.keys];rfl
theorem qyL(d:Mp k v){x z:k.den}(hne:z≠x):mpGet k v (mpDel k v d x) z=mpGet k v d z:=by
 unfold mpGet mpDel;rw [qlT hne]
theorem qDr(d:Mp k v)(x:k.den)(y:v.den):(mpPut k v d x y).2.length<=d.2.length+1:=by
 unfold mpPut
 cases mpHas k v d x with
 | true=>
  have:=congrArg List.length (qoM (x:=x) (fun _=>y) d.2).1
  simp only [zAS] at this
  simp only [cond_true];omega
 | false=>simp
theorem qDQ(d:Mp k v)(x:k.den):(mpDel k v d x).2.length<=d.2.length:=(qka d.2).length_le
theorem qsO(hk:noSl k=true){d:Mp k v}(h:MpOk k v d){e:Int×(k.den×v.den)}(he:e∈d.2):mpHas k v d e.2.1=true/\mpGet k v d e.2.1=e.2.2:=by
 have:=quY hk h.keys he
 unfold mpHas mpGet
 rw [this];exact⟨rfl,rfl⟩
theorem qAo{d:Mp k v}{x:k.den}(h:mpHas k v d x=true):∃ e∈d.2,e.2.1=x/\e.2.2=mpGet k v d x:=by
 unfold mpHas at h
 unfold mpGet
 cases q:entOf k v x d.2 with
 | none=>rw [q] at h;cases h
 | some e=>
  obtain⟨h1,h2⟩:=qhV q
  exact⟨e,h1,h2,rfl⟩
theorem qCr{d:Mp k v}{x:k.den}(h:mpHas k v d x=false):mpGet k v d x=v.zero:=by
 unfold mpHas at h
 unfold mpGet
 cases q:entOf k v x d.2 with
 | none=>rfl
 | some e=>rw [q] at h;cases h
end
section
variable {R S : Type} {k v : Sh}
theorem qzN{d:Mp k v}{k0:Option R}{k1:Int×(k.den×v.den)->Ents k v->Option R}{r:R}(h0:restE d = []->k0=some r)(h1:∀ i x,(restE d)[i]? = some x->k1 x ((restE d).eraseIdx i)=some r):nextE d k0 k1=some r:=by
 classical
 unfold nextE
 cases q:restE d with
 | nil=>exact h0 q
 | cons a l=>
  rw [q] at h1
  simp only [List.isEmpty_cons,cond_false]
  unfold anyE
  have hx:∃ r,(a :: l) ≠ []/\∀ i x,(a :: l)[i]? = some x->k1 x ((a :: l).eraseIdx i)=some r:=⟨r,by simp,h1⟩
  rw [dif_pos hx]
  have h2:=hx.choose_spec.2 0 a rfl
  rw [h1 0 a rfl] at h2
  exact h2.symm
theorem qrv{g:Mp k v×S->(Mp k v×S->Option R)->Option R}(r:R)(I:Ents k v->S->Prop)
  (h:∀ d s kn,I (restE d) s->(∀ (e:Int×(k.den×v.den)) (rest:Ents k v) s',I rest s'->rest.length<(restE d).length->kn (((1:Int),e :: rest),s')=some r)->g (d,s) kn=some r) :
  ∀ N d s,I (restE d) s->(restE d).length<N->loopD g N (d,s)=some r
 | 0,_,_,_,hl=>absurd hl (zAd _)
 | N+1,d,s,hi,hl=>h d s _ hi fun e rest s' hi' hlt=>qrv r I h N ((1:Int),e :: rest) s' hi' (by show rest.length<N;omega)
theorem qyJ{α β:Type}(f:α->β){l:List α}{i:Nat}{x:α}(hx:l[i]? = some x):(f x :: (l.eraseIdx i).map f).Perm (l.map f):=by
 induction l generalizing i with
 | nil=>simp at hx
 | cons a l ih=>
  cases i with
  | zero=>simp at hx;subst hx;exact .refl _
  | succ i=>
   simp only [List.getElem?_cons_succ] at hx
   simp only [zBe,List.map_cons]
   exact (List.Perm.swap _ _ _).trans ((ih hx).cons _)
theorem qAG{α:Type}{l:List α}{i:Nat}{x:α}(hx:l[i]? = some x):(l.eraseIdx i).length<l.length:=by
 have h:=(zS.1 hx).1
 rw [List.length_eraseIdx,zJ h]
 omega
end
end Go.Abs
