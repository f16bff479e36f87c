import Derived.Test.YtgnnhemoocfclaaDoorAbsLp
import Derived.Test.YtgnnhemoocfclaaDoorAbsOpsM
namespace Go.Abs
section
variable {k v : Sh}
theorem qBz(hk:noSl k=true){x y:k.den}:eqD k x y=true↔x=y:=⟨qqH,fun h=>h▸qlS hk x⟩
theorem qCd(hk:noSl k=true){x y:k.den}(h:x≠y):eqD k x y=false:=zAJ.2 fun e=>h ((qBz hk).1 e)
structure MpOk (k v:Sh) (d:Mp k v):Prop where
 keys:(d.2.map fun e=>e.2.1).Nodup
 born:(d.2.map fun e=>e.1).Nodup
 lt:∀ e∈d.2,e.1<d.1
theorem MpOk.empty:MpOk k v ((0:Int),[]):=⟨zBi,zBi,fun e h=>by cases h⟩
theorem qwx(hk:noSl k=true){x:k.den}:{es:Ents k v}->entOf k v x es=none->∀ e∈es,e.2.1≠x
 | [],_,_,h=>by cases h
 | f :: r,hn,e,h=>by
  simp only [entOf] at hn
  cases q:eqD k x f.2.1 with
  | true=>rw [q] at hn;cases hn
  | false=>
   rw [q] at hn
   rcases zi.1 h with rfl | h
   ·intro e1;subst e1;rw [qlS hk] at q;cases q
   ·exact qwx hk hn e h
theorem qqI(hk:noSl k=true){x:k.den}(f:v.den->v.den):(es:Ents k v)->entOf k v x (turnL k v x f es)=(entOf k v x es).map fun e=>(e.1,(e.2.1,f e.2.2))
 | []=>rfl
 | g :: r=>by
  simp only [turnL,entOf]
  cases q:eqD k x g.2.1 with
  | true=>simp only [cond_true,entOf,q,Option.map_some]
  | false=>simp only [cond_false,entOf,q];exact qqI hk f r
theorem qlT{x z:k.den}(hne:z≠x)(f:v.den->v.den):(es:Ents k v)->entOf k v z (turnL k v x f es)=entOf k v z es
 | []=>rfl
 | g :: r=>by
  simp only [turnL]
  cases q:eqD k x g.2.1 with
  | true=>
   have e1:=qqH q
   simp only [cond_true,entOf]
   cases q':eqD k z g.2.1 with
   | true=>exact absurd ((qqH q').trans e1.symm) hne
   | false=>rfl
  | false=>simp only [cond_false,entOf,qlT hne f r]
theorem qsH{x:k.den}(f:v.den->v.den):(es:Ents k v)->(turnL k v x f es).map (fun e=>e.2.1)=es.map (fun e=>e.2.1)/\(turnL k v x f es).map (fun e=>e.1)=es.map (fun e=>e.1)
 | []=>⟨rfl,rfl⟩
 | g :: r=>by
  simp only [turnL]
  cases q:eqD k x g.2.1 with
  | true=>exact⟨rfl,rfl⟩
  | false=>
   obtain⟨h1,h2⟩:=qsH (x:=x) f r
   simp only [cond_false,List.map_cons,h1,h2,and_self]
theorem MpOk.put(hk:noSl k=true){d:Mp k v}(h:MpOk k v d)(x:k.den)(y:v.den):MpOk k v (mpPut k v d x y):=by
 unfold mpPut mpHas
 cases q:entOf k v x d.2 with
 | some e=>
  obtain⟨h1,h2⟩:=qsH (x:=x) (fun _=>y) d.2
  refine⟨by simp only [Option.isSome_some,cond_true,h1];exact h.keys,by simp only [Option.isSome_some,cond_true,h2];exact h.born,fun e he=>?_⟩
  simp only [Option.isSome_some,cond_true] at he ⊢
  have:e.1∈(turnL k v x (fun _=>y) d.2).map (fun e=>e.1):=zAB.2 ⟨e,he,rfl⟩
  rw [h2] at this
  obtain⟨f,hf,e1⟩:=zAB.1 this
  rw [<- e1];exact h.lt f hf
 | none=>
  simp only [Option.isSome_none,cond_false]
  refine⟨?_,?_,fun e he=>?_⟩
  ·simp only [zAm,List.map_cons,List.map_nil]
   refine zX.2 ⟨h.keys,by simp,fun a ha b hb e=>?_⟩
   obtain⟨f,hf,rfl⟩:=zAB.1 ha
   simp only [zN] at hb
   exact qwx hk q f hf (e.trans hb)
  ·simp only [zAm,List.map_cons,List.map_nil]
   refine zX.2 ⟨h.born,by simp,fun a ha b hb e=>?_⟩
   obtain⟨f,hf,rfl⟩:=zAB.1 ha
   simp only [zN] at hb
   have:=h.lt f hf
   omega
  ·simp only [zL,zN] at he
   rcases he with he | rfl
   ·have:=h.lt e he;simp only;omega
   ·simp only;omega
theorem qzU(hk:noSl k=true)(d:Mp k v)(x:k.den)(y:v.den):mpHas k v (mpPut k v d x y) x=true:=by
 unfold mpPut mpHas
 cases q:entOf k v x d.2 with
 | some e=>simp only [Option.isSome_some,cond_true,qqI hk,q,Option.map_some]
 | none=>simp only [Option.isSome_none,cond_false,qqJ,q,qlS hk,cond_true,Option.isSome_some]
theorem qwW(hk:noSl k=true)(d:Mp k v){x z:k.den}(hne:z≠x)(y:v.den):entOf k v z (mpPut k v d x y).2=entOf k v z d.2:=by
 unfold mpPut mpHas
 cases q:entOf k v x d.2 with
 | some e=>simp only [Option.isSome_some,cond_true,qlT hne]
 | none=>
  simp only [Option.isSome_none,cond_false,qqJ,qCd hk hne]
  cases entOf k v z d.2 <;> rfl
theorem quO(hk:noSl k=true)(d:Mp k v){x z:k.den}(hne:z≠x)(y:v.den):mpHas k v (mpPut k v d x y) z=mpHas k v d z:=by
 unfold mpHas;rw [qwW hk d hne]
end
section
variable {R S : Type} {k v : Sh}
end
end Go.Abs
