import Derived.Test.YtcjecibocjbdmaaAbsLp
import Derived.Test.YtcjecibocjbdmaaAbsOpsM
namespace Go.Abs
section
variable {k v : Sh}
theorem eqD_iff(hk:noSl k=true){x y:k.den}:eqD k x y=true↔x=y:=⟨eqD_eq,fun h=>h▸eqD_refl hk x⟩
theorem eqD_ne(hk:noSl k=true){x y:k.den}(h:x≠y):eqD k x y=false:=zAS.2 fun e=>h ((eqD_iff hk).1 e)
structure MpOk (k v:Sh) (d:Mp k v):Prop where
 keys:(d.2.map fun e=>e.2.1).Nodup
 born:(d.2.map fun e=>e.1).Nodup
 lt:∀ e∈d.2,e.1<d.1
theorem MpOk.empty:MpOk k v ((0:Int),[]):=⟨zBr,zBr,fun e h=>by cases h⟩
theorem entOf_some{x:k.den}:{es:Ents k v} -> {e:Int×(k.den×v.den)}->entOf k v x es=some e->e∈es/\e.2.1=x
 | [],_,h=>by cases h
 | f :: r,e,h=>by
  simp only [entOf] at h
  cases q:eqD k x f.2.1 with
  | true=>rw [q] at h;cases h;exact⟨by simp,(eqD_eq q).symm⟩
  | false=>
   rw [q] at h
   obtain⟨h1,h2⟩:=entOf_some (es:=r) h
   exact⟨by simp [h1],h2⟩
theorem entOf_mem(hk:noSl k=true):{es:Ents k v}->(es.map fun e=>e.2.1).Nodup -> {e:Int×(k.den×v.den)}->e∈es->entOf k v e.2.1 es=some e
 | [],_,_,h=>by cases h
 | f :: r,hn,e,h=>by
  simp only [List.map_cons,zT] at hn
  simp only [entOf]
  rcases zb.1 h with rfl | h
  ·rw [eqD_refl hk];rfl
  ·rw [eqD_ne hk fun e1=>hn.1 (zt.2 ⟨e,h,e1⟩),cond_false]
   exact entOf_mem hk hn.2 h
theorem entOf_no(hk:noSl k=true){x:k.den}:{es:Ents k v}->entOf k v x es=none->∀ e∈es,e.2.1≠x
 | [],_,_,h=>by cases h
 | f :: r,hn,e,h=>by
  simp only [entOf] at hn
  cases q:eqD k x f.2.1 with
  | true=>rw [q] at hn;cases hn
  | false=>
   rw [q] at hn
   rcases zb.1 h with rfl | h
   ·intro e1;subst e1;rw [eqD_refl hk] at q;cases q
   ·exact entOf_no hk hn e h
theorem entOf_turn(hk:noSl k=true){x:k.den}(f:v.den->v.den):(es:Ents k v)->entOf k v x (turnL k v x f es)=(entOf k v x es).map fun e=>(e.1,(e.2.1,f e.2.2))
 | []=>rfl
 | g :: r=>by
  simp only [turnL,entOf]
  cases q:eqD k x g.2.1 with
  | true=>simp only [cond_true,entOf,q,Option.map_some]
  | false=>simp only [cond_false,entOf,q];exact entOf_turn hk f r
theorem entOf_turn_ne{x z:k.den}(hne:z≠x)(f:v.den->v.den):(es:Ents k v)->entOf k v z (turnL k v x f es)=entOf k v z es
 | []=>rfl
 | g :: r=>by
  simp only [turnL]
  cases q:eqD k x g.2.1 with
  | true=>
   have e1:=eqD_eq q
   simp only [cond_true,entOf]
   cases q':eqD k z g.2.1 with
   | true=>exact absurd ((eqD_eq q').trans e1.symm) hne
   | false=>rfl
  | false=>simp only [cond_false,entOf,entOf_turn_ne hne f r]
theorem turn_keys{x:k.den}(f:v.den->v.den):(es:Ents k v)->(turnL k v x f es).map (fun e=>e.2.1)=es.map (fun e=>e.2.1)/\(turnL k v x f es).map (fun e=>e.1)=es.map (fun e=>e.1)
 | []=>⟨rfl,rfl⟩
 | g :: r=>by
  simp only [turnL]
  cases q:eqD k x g.2.1 with
  | true=>exact⟨rfl,rfl⟩
  | false=>
   obtain⟨h1,h2⟩:=turn_keys (x:=x) f r
   simp only [cond_false,List.map_cons,h1,h2,and_self]
theorem MpOk.put(hk:noSl k=true){d:Mp k v}(h:MpOk k v d)(x:k.den)(y:v.den):MpOk k v (mpPut k v d x y):=by
 unfold mpPut mpHas
 cases q:entOf k v x d.2 with
 | some e=>
  obtain⟨h1,h2⟩:=turn_keys (x:=x) (fun _=>y) d.2
  refine⟨by simp only [Option.isSome_some,cond_true,h1];exact h.keys,by simp only [Option.isSome_some,cond_true,h2];exact h.born,fun e he=>?_⟩
  simp only [Option.isSome_some,cond_true] at he ⊢
  have:e.1∈(turnL k v x (fun _=>y) d.2).map (fun e=>e.1):=zt.2 ⟨e,he,rfl⟩
  rw [h2] at this
  obtain⟨f,hf,e1⟩:=zt.1 this
  rw [<- e1];exact h.lt f hf
 | none=>
  simp only [Option.isSome_none,cond_false]
  refine⟨?_,?_,fun e he=>?_⟩
  ·simp only [zBO,List.map_cons,List.map_nil]
   refine zR.2 ⟨h.keys,by simp,fun a ha b hb e=>?_⟩
   obtain⟨f,hf,rfl⟩:=zt.1 ha
   simp only [zAM] at hb
   exact entOf_no hk q f hf (e.trans hb)
  ·simp only [zBO,List.map_cons,List.map_nil]
   refine zR.2 ⟨h.born,by simp,fun a ha b hb e=>?_⟩
   obtain⟨f,hf,rfl⟩:=zt.1 ha
   simp only [zAM] at hb
   have:=h.lt f hf
   omega
  ·simp only [zU,zAM] at he
   rcases he with he | rfl
   ·have:=h.lt e he;simp only;omega
   ·simp only;omega
theorem mput_get(hk:noSl k=true)(d:Mp k v)(x:k.den)(y:v.den):mpGet k v (mpPut k v d x y) x=y:=by
 unfold mpPut mpHas mpGet
 cases q:entOf k v x d.2 with
 | some e=>simp only [Option.isSome_some,cond_true,entOf_turn hk,q,Option.map_some]
 | none=>simp only [Option.isSome_none,cond_false,entOf_push,q,eqD_refl hk,cond_true]
theorem mput_has(hk:noSl k=true)(d:Mp k v)(x:k.den)(y:v.den):mpHas k v (mpPut k v d x y) x=true:=by
 unfold mpPut mpHas
 cases q:entOf k v x d.2 with
 | some e=>simp only [Option.isSome_some,cond_true,entOf_turn hk,q,Option.map_some]
 | none=>simp only [Option.isSome_none,cond_false,entOf_push,q,eqD_refl hk,cond_true,Option.isSome_some]
theorem put_ent_ne(hk:noSl k=true)(d:Mp k v){x z:k.den}(hne:z≠x)(y:v.den):entOf k v z (mpPut k v d x y).2=entOf k v z d.2:=by
 unfold mpPut mpHas
 cases q:entOf k v x d.2 with
 | some e=>simp only [Option.isSome_some,cond_true,entOf_turn_ne hne]
 | none=>
  simp only [Option.isSome_none,cond_false,entOf_push,eqD_ne hk hne]
  cases entOf k v z d.2 <;> rfl
theorem mput_get_ne(hk:noSl k=true)(d:Mp k v){x z:k.den}(hne:z≠x)(y:v.den):mpGet k v (mpPut k v d x y) z=mpGet k v d z:=by
 unfold mpGet;rw [put_ent_ne hk d hne]
theorem mput_has_ne(hk:noSl k=true)(d:Mp k v){x z:k.den}(hne:z≠x)(y:v.den):mpHas k v (mpPut k v d x y) z=mpHas k v d z:=by
 unfold mpHas;rw [put_ent_ne hk d hne]
theorem mem_get(hk:noSl k=true){d:Mp k v}(h:MpOk k v d){e:Int×(k.den×v.den)}(he:e∈d.2):mpHas k v d e.2.1=true/\mpGet k v d e.2.1=e.2.2:=by
 have:=entOf_mem hk h.keys he
 unfold mpHas mpGet
 rw [this];exact⟨rfl,rfl⟩
theorem has_mem{d:Mp k v}{x:k.den}(h:mpHas k v d x=true):∃ e∈d.2,e.2.1=x/\e.2.2=mpGet k v d x:=by
 unfold mpHas at h
 unfold mpGet
 cases q:entOf k v x d.2 with
 | none=>rw [q] at h;cases h
 | some e=>
  obtain⟨h1,h2⟩:=entOf_some q
  exact⟨e,h1,h2,rfl⟩
end
section
variable {R S : Type} {k v : Sh}
end
end Go.Abs
