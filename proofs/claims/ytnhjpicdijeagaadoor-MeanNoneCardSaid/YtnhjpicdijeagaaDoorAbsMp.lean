import Derived.Test.YtnhjpicdijeagaaDoorAbsLp
import Derived.Test.YtnhjpicdijeagaaDoorAbsOpsM
namespace Go.Abs
section
variable {k v : Sh}
theorem eqD_iff(hk:noSl k=true){x y:k.den}:eqD k x y=true↔x=y:=⟨eqD_eq,fun h=>h▸eqD_refl hk x⟩
theorem eqD_ne(hk:noSl k=true){x y:k.den}(h:x≠y):eqD k x y=false:=zAH.2 fun e=>h ((eqD_iff hk).1 e)
structure MpOk (k v:Sh) (d:Mp k v):Prop where
 keys:(d.2.map fun e=>e.2.1).Nodup
 born:(d.2.map fun e=>e.1).Nodup
 lt:∀ e∈d.2,e.1<d.1
theorem MpOk.empty:MpOk k v ((0:Int),[]):=⟨zCQ,zCQ,fun e h=>by cases h⟩
theorem entOf_some{x:k.den}:{es:Ents k v} -> {e:Int×(k.den×v.den)}->entOf k v x es=some e->e∈es/\e.2.1=x
 | [],_,h=>by cases h
 | f :: r,e,h=>by
  simp only [entOf] at h
  cases q:eqD k x f.2.1 with
  | true=>rw [q] at h;cases h;exact⟨by simp,(eqD_eq q).symm⟩
  | false=>
   rw [q] at h
   obtain⟨h1,h2⟩:=entOf_some (es:=r) h
   exact⟨by simp [h1],h2⟩
theorem entOf_mem(hk:noSl k=true):{es:Ents k v}->(es.map fun e=>e.2.1).Nodup -> {e:Int×(k.den×v.den)}->e∈es->entOf k v e.2.1 es=some e
 | [],_,_,h=>by cases h
 | f :: r,hn,e,h=>by
  simp only [List.map_cons,zX] at hn
  simp only [entOf]
  rcases zg.1 h with rfl | h
  ·rw [eqD_refl hk];rfl
  ·rw [eqD_ne hk fun e1=>hn.1 (zr.2 ⟨e,h,e1⟩),cond_false]
   exact entOf_mem hk hn.2 h
theorem entOf_no(hk:noSl k=true){x:k.den}:{es:Ents k v}->entOf k v x es=none->∀ e∈es,e.2.1≠x
 | [],_,_,h=>by cases h
 | f :: r,hn,e,h=>by
  simp only [entOf] at hn
  cases q:eqD k x f.2.1 with
  | true=>rw [q] at hn;cases hn
  | false=>
   rw [q] at hn
   rcases zg.1 h with rfl | h
   ·intro e1;subst e1;rw [eqD_refl hk] at q;cases q
   ·exact entOf_no hk hn e h
theorem entOf_turn(hk:noSl k=true){x:k.den}(f:v.den->v.den):(es:Ents k v)->entOf k v x (turnL k v x f es)=(entOf k v x es).map fun e=>(e.1,(e.2.1,f e.2.2))
 | []=>rfl
 | g :: r=>by
  simp only [turnL,entOf]
  cases q:eqD k x g.2.1 with
  | true=>simp only [cond_true,entOf,q,Option.map_some]
  | false=>simp only [cond_false,entOf,q];exact entOf_turn hk f r
theorem entOf_turn_ne{x z:k.den}(hne:z≠x)(f:v.den->v.den):(es:Ents k v)->entOf k v z (turnL k v x f es)=entOf k v z es
 | []=>rfl
 | g :: r=>by
  simp only [turnL]
  cases q:eqD k x g.2.1 with
  | true=>
   have e1:=eqD_eq q
   simp only [cond_true,entOf]
   cases q':eqD k z g.2.1 with
   | true=>exact absurd ((eqD_eq q').trans e1.symm) hne
   | false=>rfl
  | false=>simp only [cond_false,entOf,entOf_turn_ne hne f r]
theorem turn_keys{x:k.den}(f:v.den->v.den):(es:Ents k v)->(turnL k v x f es).map (fun e=>e.2.1)=es.map (fun e=>e.2.1)/\(turnL k v x f es).map (fun e=>e.1)=es.map (fun e=>e.1)
 | []=>⟨rfl,rfl⟩
 | g :: r=>by
  simp only [turnL]
  cases q:eqD k x g.2.1 with
  | true=>exact⟨rfl,rfl⟩
  | false=>
   obtain⟨h1,h2⟩:=turn_keys (x:=x) f r
   simp only [cond_false,List.map_cons,h1,h2,and_self]
theorem drop_sub{x:k.den}:(es:Ents k v)->(dropL k v x es).Sublist es
 | []=>.refl _
 | g :: r=>by
  simp only [dropL]
  cases eqD k x g.2.1 with
  | true=>exact List.sublist_cons_self _ _
  | false=>exact (drop_sub r).cons_cons _
theorem entOf_drop(hk:noSl k=true){x:k.den}:(es:Ents k v)->(es.map fun e=>e.2.1).Nodup->entOf k v x (dropL k v x es)=none
 | [],_=>rfl
 | g :: r,hn=>by
  simp only [List.map_cons,zX] at hn
  simp only [dropL]
  cases q:eqD k x g.2.1 with
  | true=>
   simp only [cond_true]
   have e1:=eqD_eq q
   cases q2:entOf k v x r with
   | none=>rfl
   | some e=>
    obtain⟨h1,h2⟩:=entOf_some q2
    exact absurd (zr.2 ⟨e,h1,by rw [h2,e1]⟩) hn.1
  | false=>simp only [cond_false,entOf,q];exact entOf_drop hk r hn.2
theorem entOf_drop_ne{x z:k.den}(hne:z≠x):(es:Ents k v)->entOf k v z (dropL k v x es)=entOf k v z es
 | []=>rfl
 | g :: r=>by
  simp only [dropL]
  cases q:eqD k x g.2.1 with
  | true=>
   simp only [cond_true,entOf]
   cases q':eqD k z g.2.1 with
   | true=>exact absurd ((eqD_eq q').trans (eqD_eq q).symm) hne
   | false=>rfl
  | false=>simp only [cond_false,entOf,entOf_drop_ne hne r]
theorem at_turn{x:k.den}{y:v.den}:{es:Ents k v} -> {e:Int×(k.den×v.den)}->(es.map fun e=>e.1).Nodup->entOf k v x es=some e->atL k v e.1 y es=turnL k v x (fun _=>y) es
 | [],_,_,h=>by cases h
 | g :: r,e,hn,h=>by
  simp only [List.map_cons,zX] at hn
  simp only [entOf] at h
  simp only [atL,turnL]
  cases q:eqD k x g.2.1 with
  | true=>rw [q] at h;cases h;simp only [zAZ,cond_true]
  | false=>
   rw [q] at h
   have hm:=(entOf_some h).1
   rw [show (g.1==e.1)=false from zS fun e1=>hn.1 (zr.2 ⟨e,hm,e1.symm⟩)]
   simp only [cond_false,at_turn hn.2 h]
theorem at_push{n:Int}{z y:v.den}{x:k.den}:(es:Ents k v)->(∀ e∈es,e.1<n)->atL k v n y (es ++ [(n,(x,z))])=es ++ [(n,(x,y))]
 | [],_=>by simp [atL]
 | g :: r,hl=>by
  have:=hl g (by simp)
  simp only [List.cons_append,atL]
  rw [show (g.1==n)=false from zS (by omega),cond_false,at_push r fun e he=>hl e (by simp [he])]
theorem mpAt_ent{d:Mp k v}(h:MpOk k v d)(x:k.den)(y:v.den):mpAt k v (mpEnt k v d x) (mpWhen k v d x) y=mpPut k v d x y:=by
 unfold mpAt mpEnt mpWhen mpPut mpHas
 cases q:entOf k v x d.2 with
 | some e=>simp only [Option.isSome_some,cond_true,at_turn h.born q]
 | none=>simp only [Option.isSome_none,cond_false,at_push d.2 h.lt]
theorem mpStands_ent(d:Mp k v)(x:k.den):mpStands k v (mpEnt k v d x) (mpWhen k v d x)=true:=by
 unfold mpStands mpEnt mpWhen mpHas
 cases q:entOf k v x d.2 with
 | some e=>simp only [Option.isSome_some,cond_true,zBd];exact⟨e,(entOf_some q).1,by simp⟩
 | none=>simp
theorem MpOk.put(hk:noSl k=true){d:Mp k v}(h:MpOk k v d)(x:k.den)(y:v.den):MpOk k v (mpPut k v d x y):=by
 unfold mpPut mpHas
 cases q:entOf k v x d.2 with
 | some e=>
  obtain⟨h1,h2⟩:=turn_keys (x:=x) (fun _=>y) d.2
  refine⟨by simp only [Option.isSome_some,cond_true,h1];exact h.keys,by simp only [Option.isSome_some,cond_true,h2];exact h.born,fun e he=>?_⟩
  simp only [Option.isSome_some,cond_true] at he ⊢
  have:e.1∈(turnL k v x (fun _=>y) d.2).map (fun e=>e.1):=zr.2 ⟨e,he,rfl⟩
  rw [h2] at this
  obtain⟨f,hf,e1⟩:=zr.1 this
  rw [<- e1];exact h.lt f hf
 | none=>
  simp only [Option.isSome_none,cond_false]
  refine⟨?_,?_,fun e he=>?_⟩
  ·simp only [zAp,List.map_cons,List.map_nil]
   refine zY.2 ⟨h.keys,by simp,fun a ha b hb e=>?_⟩
   obtain⟨f,hf,rfl⟩:=zr.1 ha
   simp only [zz] at hb
   exact entOf_no hk q f hf (e.trans hb)
  ·simp only [zAp,List.map_cons,List.map_nil]
   refine zY.2 ⟨h.born,by simp,fun a ha b hb e=>?_⟩
   obtain⟨f,hf,rfl⟩:=zr.1 ha
   simp only [zz] at hb
   have:=h.lt f hf
   omega
  ·simp only [zV,zz] at he
   rcases he with he | rfl
   ·have:=h.lt e he;simp only;omega
   ·simp only;omega
theorem mput_get(hk:noSl k=true)(d:Mp k v)(x:k.den)(y:v.den):mpGet k v (mpPut k v d x y) x=y:=by
 unfold mpPut mpHas mpGet
 cases q:entOf k v x d.2 with
 | some e=>simp only [Option.isSome_some,cond_true,entOf_turn hk,q,Option.map_some]
 | none=>simp only [Option.isSome_none,cond_false,entOf_push,q,eqD_refl hk,cond_true]
theorem mput_has(hk:noSl k=true)(d:Mp k v)(x:k.den)(y:v.den):mpHas k v (mpPut k v d x y) x=true:=by
 unfold mpPut mpHas
 cases q:entOf k v x d.2 with
 | some e=>simp only [Option.isSome_some,cond_true,entOf_turn hk,q,Option.map_some]
 | none=>simp only [Option.isSome_none,cond_false,entOf_push,q,eqD_refl hk,cond_true,Option.isSome_some]
theorem put_ent_ne(hk:noSl k=true)(d:Mp k v){x z:k.den}(hne:z≠x)(y:v.den):entOf k v z (mpPut k v d x y).2=entOf k v z d.2:=by
 unfold mpPut mpHas
 cases q:entOf k v x d.2 with
 | some e=>simp only [Option.isSome_some,cond_true,entOf_turn_ne hne]
 | none=>
  simp only [Option.isSome_none,cond_false,entOf_push,eqD_ne hk hne]
  cases entOf k v z d.2 <;> rfl
theorem mput_get_ne(hk:noSl k=true)(d:Mp k v){x z:k.den}(hne:z≠x)(y:v.den):mpGet k v (mpPut k v d x y) z=mpGet k v d z:=by
 unfold mpGet;rw [put_ent_ne hk d hne]
theorem mput_has_ne(hk:noSl k=true)(d:Mp k v){x z:k.den}(hne:z≠x)(y:v.den):mpHas k v (mpPut k v d x y) z=mpHas k v d z:=by
 unfold mpHas;rw [put_ent_ne hk d hne]
theorem MpOk.del{d:Mp k v}(h:MpOk k v d)(x:k.den):MpOk k v (mpDel k v d x):=
 ⟨h.keys.sublist ((drop_sub d.2).map _),h.born.sublist ((drop_sub d.2).map _),fun e he=>h.lt e ((drop_sub d.2).subset he)⟩
theorem del_get(hk:noSl k=true){d:Mp k v}(h:MpOk k v d)(x:k.den):mpGet k v (mpDel k v d x) x=v.zero:=by
 unfold mpGet mpDel;rw [entOf_drop hk _ h.keys]
theorem del_has(hk:noSl k=true){d:Mp k v}(h:MpOk k v d)(x:k.den):mpHas k v (mpDel k v d x) x=false:=by
 unfold mpHas mpDel;rw [entOf_drop hk _ h.keys];rfl
theorem del_get_ne(d:Mp k v){x z:k.den}(hne:z≠x):mpGet k v (mpDel k v d x) z=mpGet k v d z:=by
 unfold mpGet mpDel;rw [entOf_drop_ne hne]
theorem put_len(d:Mp k v)(x:k.den)(y:v.den):(mpPut k v d x y).2.length<=d.2.length+1:=by
 unfold mpPut
 cases mpHas k v d x with
 | true=>
  have:=congrArg List.length (turn_keys (x:=x) (fun _=>y) d.2).1
  simp only [zAR] at this
  simp only [cond_true];omega
 | false=>simp
theorem del_len(d:Mp k v)(x:k.den):(mpDel k v d x).2.length<=d.2.length:=(drop_sub d.2).length_le
theorem mem_get(hk:noSl k=true){d:Mp k v}(h:MpOk k v d){e:Int×(k.den×v.den)}(he:e∈d.2):mpHas k v d e.2.1=true/\mpGet k v d e.2.1=e.2.2:=by
 have:=entOf_mem hk h.keys he
 unfold mpHas mpGet
 rw [this];exact⟨rfl,rfl⟩
theorem has_mem{d:Mp k v}{x:k.den}(h:mpHas k v d x=true):∃ e∈d.2,e.2.1=x/\e.2.2=mpGet k v d x:=by
 unfold mpHas at h
 unfold mpGet
 cases q:entOf k v x d.2 with
 | none=>rw [q] at h;cases h
 | some e=>
  obtain⟨h1,h2⟩:=entOf_some q
  exact⟨e,h1,h2,rfl⟩
theorem get_zero{d:Mp k v}{x:k.den}(h:mpHas k v d x=false):mpGet k v d x=v.zero:=by
 unfold mpHas at h
 unfold mpGet
 cases q:entOf k v x d.2 with
 | none=>rfl
 | some e=>rw [q] at h;cases h
end
section
variable {R S : Type} {k v : Sh}
theorem nextE_run{d:Mp k v}{k0:Option R}{k1:Int×(k.den×v.den)->Ents k v->Option R}{r:R}(h0:restE d = []->k0=some r)(h1:∀ i x,(restE d)[i]? = some x->k1 x ((restE d).eraseIdx i)=some r):nextE d k0 k1=some r:=by
 classical
 unfold nextE
 cases q:restE d with
 | nil=>exact h0 q
 | cons a l=>
  rw [q] at h1
  simp only [List.isEmpty_cons,cond_false]
  unfold anyE
  have hx:∃ r,(a :: l) ≠ []/\∀ i x,(a :: l)[i]? = some x->k1 x ((a :: l).eraseIdx i)=some r:=⟨r,by simp,h1⟩
  rw [dif_pos hx]
  have h2:=hx.choose_spec.2 0 a rfl
  rw [h1 0 a rfl] at h2
  exact h2.symm
theorem range_loop{g:Mp k v×S->(Mp k v×S->Option R)->Option R}(r:R)(I:Ents k v->S->Prop)
  (h:∀ d s kn,I (restE d) s->(∀ (e:Int×(k.den×v.den)) (rest:Ents k v) s',I rest s'->rest.length<(restE d).length->kn (((1:Int),e :: rest),s')=some r)->g (d,s) kn=some r) :
  ∀ N d s,I (restE d) s->(restE d).length<N->loopD g N (d,s)=some r
 | 0,_,_,_,hl=>absurd hl (zAc _)
 | N+1,d,s,hi,hl=>h d s _ hi fun e rest s' hi' hlt=>range_loop r I h N ((1:Int),e :: rest) s' hi' (by show rest.length<N;omega)
theorem erase_perm{α β:Type}(f:α->β){l:List α}{i:Nat}{x:α}(hx:l[i]? = some x):(f x :: (l.eraseIdx i).map f).Perm (l.map f):=by
 induction l generalizing i with
 | nil=>simp at hx
 | cons a l ih=>
  cases i with
  | zero=>simp at hx;subst hx;exact .refl _
  | succ i=>
   simp only [List.getElem?_cons_succ] at hx
   simp only [zBY,List.map_cons]
   exact (List.Perm.swap _ _ _).trans ((ih hx).cons _)
theorem erase_len{α:Type}{l:List α}{i:Nat}{x:α}(hx:l[i]? = some x):(l.eraseIdx i).length<l.length:=by
 have h:=(zP.1 hx).1
 rw [List.length_eraseIdx,zK h]
 omega
end
end Go.Abs
