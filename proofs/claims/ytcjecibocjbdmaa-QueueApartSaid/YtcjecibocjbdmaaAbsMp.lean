import Derived.Test.YtcjecibocjbdmaaAbsLp
import Derived.Test.YtcjecibocjbdmaaAbsOpsM
namespace Go.Abs
section
variable {k v : Sh}
structure MpOk (k v:Sh) (d:Mp k v):Prop where
 keys:(d.2.map fun e=>e.2.1).Nodup
 born:(d.2.map fun e=>e.1).Nodup
 lt:∀ e∈d.2,e.1<d.1
theorem MpOk.empty:MpOk k v ((0:Int),[]):=⟨zBW,zBW,fun e h=>by cases h⟩
theorem qlq(hk:noSl k=true){x:k.den}:{es:Ents k v}->entOf k v x es=none->∀ e∈es,e.2.1≠x
 | [],_,_,h=>by cases h
 | f :: r,hn,e,h=>by
  simp only [entOf] at hn
  cases q:eqD k x f.2.1 with
  | true=>rw [q] at hn;cases hn
  | false=>
   rw [q] at hn
   rcases zAB.1 h with rfl | h
   ·intro e1;subst e1;rw [qig hk] at q;cases q
   ·exact qlq hk hn e h
theorem qir{x:k.den}(f:v.den->v.den):(es:Ents k v)->(turnL k v x f es).map (fun e=>e.2.1)=es.map (fun e=>e.2.1)/\(turnL k v x f es).map (fun e=>e.1)=es.map (fun e=>e.1)
 | []=>⟨rfl,rfl⟩
 | g :: r=>by
  simp only [turnL]
  cases q:eqD k x g.2.1 with
  | true=>exact⟨rfl,rfl⟩
  | false=>
   obtain⟨h1,h2⟩:=qir (x:=x) f r
   simp only [cond_false,List.map_cons,h1,h2,and_self]
theorem MpOk.put(hk:noSl k=true){d:Mp k v}(h:MpOk k v d)(x:k.den)(y:v.den):MpOk k v (mpPut k v d x y):=by
 unfold mpPut mpHas
 cases q:entOf k v x d.2 with
 | some e=>
  obtain⟨h1,h2⟩:=qir (x:=x) (fun _=>y) d.2
  refine⟨by simp only [Option.isSome_some,cond_true,h1];exact h.keys,by simp only [Option.isSome_some,cond_true,h2];exact h.born,fun e he=>?_⟩
  simp only [Option.isSome_some,cond_true] at he ⊢
  have:e.1∈(turnL k v x (fun _=>y) d.2).map (fun e=>e.1):=zAO.2 ⟨e,he,rfl⟩
  rw [h2] at this
  obtain⟨f,hf,e1⟩:=zAO.1 this
  rw [<- e1];exact h.lt f hf
 | none=>
  simp only [Option.isSome_none,cond_false]
  refine⟨?_,?_,fun e he=>?_⟩
  ·simp only [zBB,List.map_cons,List.map_nil]
   refine zK.2 ⟨h.keys,by simp,fun a ha b hb e=>?_⟩
   obtain⟨f,hf,rfl⟩:=zAO.1 ha
   simp only [zAV] at hb
   exact qlq hk q f hf (e.trans hb)
  ·simp only [zBB,List.map_cons,List.map_nil]
   refine zK.2 ⟨h.born,by simp,fun a ha b hb e=>?_⟩
   obtain⟨f,hf,rfl⟩:=zAO.1 ha
   simp only [zAV] at hb
   have:=h.lt f hf
   omega
  ·simp only [zT,zAV] at he
   rcases he with he | rfl
   ·have:=h.lt e he;simp only;omega
   ·simp only;omega
end
section
variable {R S : Type} {k v : Sh}
end
end Go.Abs
