import Derived.Test.YtgnnhemoocfclaaDoorAbsLp
import Derived.Test.YtgnnhemoocfclaaDoorAbsOpsM
namespace Go.Abs
section
variable {k v : Sh}
theorem qAb (hk : noSl k = true) {x y : k.den} : eqD k x y = true ↔ x = y:=⟨qpz,fun h=>h ▸ qkI hk x⟩
theorem qAH (hk : noSl k = true) {x y : k.den} (h : x ≠ y) : eqD k x y = false:=Bool.eq_false_iff.2 fun e=>h ((qAb hk).1 e)
structure MpOk (k v : Sh) (d : Mp k v) : Prop where
 keys : (d.2.map fun e=>e.2.1).Nodup
 born : (d.2.map fun e=>e.1).Nodup
 lt : ∀ e ∈ d.2,e.1 < d.1
theorem MpOk.empty : MpOk k v ((0 : Int),[]):=⟨List.nodup_nil,List.nodup_nil,fun e h=>by cases h⟩
theorem qvc (hk : noSl k = true) {x : k.den} : {es : Ents k v} -> entOf k v x es = none -> ∀ e ∈ es,e.2.1 ≠ x
 | [],_,_,h=>by cases h
 | f :: r,hn,e,h=>by
  simp only [entOf] at hn
  cases q : eqD k x f.2.1 with
  | true=>rw [q] at hn; cases hn
  | false =>
   rw [q] at hn
   rcases List.mem_cons.1 h with rfl | h
   ·intro e1; subst e1; rw [qkI hk] at q; cases q
   ·exact qvc hk hn e h
theorem qpA (hk : noSl k = true) {x : k.den} (f : v.den -> v.den) : (es : Ents k v) -> entOf k v x (turnL k v x f es) = (entOf k v x es).map fun e=>(e.1,(e.2.1,f e.2.2))
 | []=>rfl
 | g :: r=>by
  simp only [turnL,entOf]
  cases q : eqD k x g.2.1 with
  | true=>simp only [cond_true,entOf,q,Option.map_some]
  | false=>simp only [cond_false,entOf,q]; exact qpA hk f r
theorem qkJ {x z : k.den} (hne : z ≠ x) (f : v.den -> v.den) : (es : Ents k v) -> entOf k v z (turnL k v x f es) = entOf k v z es
 | []=>rfl
 | g :: r=>by
  simp only [turnL]
  cases q : eqD k x g.2.1 with
  | true =>
   have e1:=qpz q
   simp only [cond_true,entOf]
   cases q' : eqD k z g.2.1 with
   | true=>exact absurd ((qpz q').trans e1.symm) hne
   | false=>rfl
  | false=>simp only [cond_false,entOf,qkJ hne f r]
theorem qry {x : k.den} (f : v.den -> v.den) : (es : Ents k v) -> (turnL k v x f es).map (fun e=>e.2.1) = es.map (fun e=>e.2.1) /\ (turnL k v x f es).map (fun e=>e.1) = es.map (fun e=>e.1)
 | []=>⟨rfl,rfl⟩
 | g :: r=>by
  simp only [turnL]
  cases q : eqD k x g.2.1 with
  | true=>exact ⟨rfl,rfl⟩
  | false =>
   obtain ⟨h1,h2⟩:=qry (x:=x) f r
   simp only [cond_false,List.map_cons,h1,h2,and_self]
theorem MpOk.put (hk : noSl k = true) {d : Mp k v} (h : MpOk k v d) (x : k.den) (y : v.den) : MpOk k v (mpPut k v d x y):=by
 unfold mpPut mpHas
 cases q : entOf k v x d.2 with
 | some e =>
  obtain ⟨h1,h2⟩:=qry (x:=x) (fun _=>y) d.2
  refine ⟨by simp only [Option.isSome_some,cond_true,h1]; exact h.keys,by simp only [Option.isSome_some,cond_true,h2]; exact h.born,fun e he=>?_⟩
  simp only [Option.isSome_some,cond_true] at he ⊢
  have : e.1 ∈ (turnL k v x (fun _=>y) d.2).map (fun e=>e.1):=List.mem_map.2 ⟨e,he,rfl⟩
  rw [h2] at this
  obtain ⟨f,hf,e1⟩:=List.mem_map.1 this
  rw [<- e1]; exact h.lt f hf
 | none =>
  simp only [Option.isSome_none,cond_false]
  refine ⟨?_,?_,fun e he=>?_⟩
  ·simp only [List.map_append,List.map_cons,List.map_nil]
   refine List.nodup_append.2 ⟨h.keys,by simp,fun a ha b hb e=>?_⟩
   obtain ⟨f,hf,rfl⟩:=List.mem_map.1 ha
   simp only [List.mem_singleton] at hb
   exact qvc hk q f hf (e.trans hb)
  ·simp only [List.map_append,List.map_cons,List.map_nil]
   refine List.nodup_append.2 ⟨h.born,by simp,fun a ha b hb e=>?_⟩
   obtain ⟨f,hf,rfl⟩:=List.mem_map.1 ha
   simp only [List.mem_singleton] at hb
   have:=h.lt f hf
   omega
  ·simp only [List.mem_append,List.mem_singleton] at he
   rcases he with he | rfl
   ·have:=h.lt e he; simp only; omega
   ·simp only; omega
theorem qyu (hk : noSl k = true) (d : Mp k v) (x : k.den) (y : v.den) : mpHas k v (mpPut k v d x y) x = true:=by
 unfold mpPut mpHas
 cases q : entOf k v x d.2 with
 | some e=>simp only [Option.isSome_some,cond_true,qpA hk,q,Option.map_some]
 | none=>simp only [Option.isSome_none,cond_false,qpB,q,qkI hk,cond_true,Option.isSome_some]
theorem qvy (hk : noSl k = true) (d : Mp k v) {x z : k.den} (hne : z ≠ x) (y : v.den) : entOf k v z (mpPut k v d x y).2 = entOf k v z d.2:=by
 unfold mpPut mpHas
 cases q : entOf k v x d.2 with
 | some e=>simp only [Option.isSome_some,cond_true,qkJ hne]
 | none =>
  simp only [Option.isSome_none,cond_false,qpB,qAH hk hne]
  cases entOf k v z d.2 <;> rfl
theorem qtD (hk : noSl k = true) (d : Mp k v) {x z : k.den} (hne : z ≠ x) (y : v.den) : mpHas k v (mpPut k v d x y) z = mpHas k v d z:=by
 unfold mpHas; rw [qvy hk d hne]
end
section
variable {R S : Type} {k v : Sh}
end
end Go.Abs
