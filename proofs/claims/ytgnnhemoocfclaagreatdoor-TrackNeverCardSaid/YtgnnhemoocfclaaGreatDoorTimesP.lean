import Derived.Test.YtgnnhemoocfclaaGreatDoorAbsSort
namespace Go.Abs
def lexc:List Int->List Int->Int
 | [],[]=>0
 | [],_ :: _=>-1
 | _ :: _,[]=>1
 | x :: xs,y :: ys=>if x<y then -1 else if y<x then 1 else lexc xs ys
theorem qnH:∀ a b,lexc b a = - lexc a b
 | [],[]=>rfl
 | [],_ :: _=>rfl
 | _ :: _,[]=>rfl
 | x :: xs,y :: ys=>by
  simp only [lexc]
  by_cases h1:x<y
  ·have h2:¬ y<x:=by omega
   simp [h1,h2]
  ·by_cases h2:y<x
   ·simp [h1,h2]
   ·simp [h1,h2,qnH xs ys]
theorem qiW:∀ {a b},lexc a b=0->a=b
 | [],[],_=>rfl
 | [],_ :: _,h=>by cases h
 | _ :: _,[],h=>by cases h
 | x :: xs,y :: ys,h=>by
  simp only [lexc] at h
  by_cases h1:x<y
  ·rw [zH h1] at h;cases h
  ·by_cases h2:y<x
   ·rw [zJ h1,zH h2] at h;cases h
   ·rw [zJ h1,zJ h2] at h
    rw [qiW h,show x=y by omega]
theorem qhR(a:List Int):lexc a a=0:=by have:=qnH a a;omega
theorem qhv:∀ {a b c},lexc a b<0->lexc b c<0->lexc a c<0
 | [],[],_,h,_=>by cases h
 | [],_ :: _,[],_,h=>by simp only [lexc] at h;omega
 | [],_ :: _,_ :: _,_,_=>by simp [lexc]
 | _ :: _,[],_,h,_=>by simp only [lexc] at h;omega
 | _ :: _,_ :: _,[],_,h=>by simp only [lexc] at h;omega
 | x :: xs,y :: ys,z :: zs,h1,h2=>by
  simp only [lexc] at *
  by_cases a1:x<y
  ·by_cases b1:y<z
   ·rw [zH (by omega)];omega
   ·by_cases b2:z<y
    ·rw [zJ b1,zH b2] at h2;omega
    ·rw [zH (by omega)];omega
  ·by_cases a2:y<x
   ·rw [zJ a1,zH a2] at h1;omega
   ·rw [zJ a1,zJ a2] at h1
    by_cases b1:y<z
    ·rw [zH (by omega)];omega
    ·by_cases b2:z<y
     ·rw [zJ b1,zH b2] at h2;omega
     ·rw [zJ b1,zJ b2] at h2
      rw [zJ (by omega),zJ (by omega)]
      exact qhv h1 h2
theorem quB{a b:List Int}(h1:¬ lexc a b<0)(h2:¬ lexc b a<0):a=b:=qiW (by have:=qnH a b;omega)
def undr:List Int->List Int->Bool
 | [],_=>true
 | x :: xs,y :: ys=>decide (x<=y)&&undr xs ys
 | _ :: _,[]=>false
theorem qhB:∀ a,undr a a=true
 | []=>rfl
 | x :: xs=>by simp [undr,qhB xs]
theorem qjd:∀ {a b c},undr a b=true->undr b c=true->undr a c=true
 | [],_,_,_,_=>rfl
 | _ :: _,[],_,h,_=>by cases h
 | _ :: _,_ :: _,[],_,h=>by cases h
 | x :: xs,y :: ys,z :: zs,h1,h2=>by
  simp only [undr,zA,zN] at *
  exact⟨by omega,qjd h1.2 h2.2⟩
theorem qlC:∀ {a b:List Int},a.length=b.length->undr a b=true->lexc a b<=0
 | [],[],_,_=>zAO _
 | [],_ :: _,h,_=>by cases h
 | _ :: _,[],h,_=>by cases h
 | x :: xs,y :: ys,h,hu=>by
  simp only [undr,zA,zN] at hu
  simp only [lexc]
  by_cases h1:x<y
  ·rw [zH h1];omega
  ·rw [zJ h1,zJ (by omega)]
   exact qlC (by simpa using h) hu.2
abbrev lexD(p q:List Int):Option Int:=some (lexc p q)
theorem qxN(a b:List Int):ltB lexD a b=decide (lexc a b<0):=rfl
theorem qFw(xs:List (List Int))(h:xs.length<4611686018427387904):SortOk lexD xs where
 lt:=h
 tot:=fun a _ b _=>⟨_,rfl⟩
 irrefl:=fun a _=>by rw [qxN,qhR];rfl
 trans:=fun a _ b _ c _ h1 h2=>by
  rw [qxN,zN] at *
  exact qhv h1 h2
 anti:=fun a _ b _ h1 h2=>by
  rw [qxN,decide_eq_false_iff_not] at *
  exact quB h1 h2
def frS(f:List (List Int))(t:List Int):List (List Int):=if f.any (fun u=>undr u t)=true then f else f ++ [t]
def frL(ts:List (List Int)):List (List Int):=ts.foldl frS []
def Rise(f:List (List Int)):Prop:=f.Pairwise fun a b=>lexc a b<0
def isMin(xs:List (List Int))(t:List Int):Prop:=t∈xs/\∀ u∈xs,undr u t=true->u=t
theorem qBL{k:Nat}:∀ (ts f:List (List Int)) (done:List (List Int)),(∀ t∈done++ts,t.length=k)->(∀ t∈done,∀ u∈ts,¬ lexc u t<0)->ts.Pairwise (fun a b=>¬ lexc b a<0)->Rise f->(∀ t,t∈f↔isMin done t) ->
  Rise (ts.foldl frS f)/\∀ t,t∈ts.foldl frS f↔isMin (done++ts) t
 | [],f,done,_,_,_,h4,h5=>⟨h4,by simpa using h5⟩
 | x :: ts,f,done,h1,h2,h3,h4,h5=>by
  obtain⟨p1,p2⟩:=zAX.1 h3
  have hmin:∀ t∈done,∃ u,u∈f/\undr u t=true:=by
   intro t ht
   have key:∀ n,∀ t∈done,(done.filter fun u=>decide (lexc u t<0)).length<=n->∃ u,u∈f/\undr u t=true:=by
    intro n
    induction n with
    | zero=>
     intro t ht hn
     refine⟨t,(h5 t).2 ⟨ht,fun u hu hut=>?_⟩,qhB t⟩
     have hlen:u.length=t.length:=by rw [h1 u (by simp [hu]),h1 t (by simp [ht])]
     refine Classical.byContradiction fun hne=>?_
     have hlt:lexc u t<0:=by
      have:=qlC hlen hut
      rcases zBH this with h | h
      ·exact h
      ·exact absurd (qiW h) hne
     have:u∈done.filter fun u=>decide (lexc u t<0):=zp.2 ⟨hu,by simpa using hlt⟩
     have:=zAr this
     omega
    | succ n ih=>
     intro t ht hn
     by_cases hm:isMin done t
     ·exact⟨t,(h5 t).2 hm,qhB t⟩
     ·obtain⟨u,hu,hut,hne⟩:∃ u,u∈done/\undr u t=true/\u≠t:=Classical.byContradiction fun hno=>hm ⟨ht,fun u hu hut=>Classical.byContradiction fun hne=>hno ⟨u,hu,hut,hne⟩⟩
      have hlen:u.length=t.length:=by rw [h1 u (by simp [hu]),h1 t (by simp [ht])]
      have hlt:lexc u t<0:=by
       have:=qlC hlen hut
       rcases zBH this with h | h
       ·exact h
       ·exact absurd (qiW h) hne
      obtain⟨v,v1,v2⟩:=ih u hu (by
       have hsub:(done.filter fun v=>decide (lexc v u<0)).length<(done.filter fun v=>decide (lexc v t<0)).length:=by
        have e:(done.filter fun v=>decide (lexc v u<0))=(done.filter fun v=>decide (lexc v t<0)).filter fun v=>decide (lexc v u<0):=by
         rw [zBR]
         refine zBV fun v _=>?_
         by_cases q:lexc v u<0
         ·have:=qhv q hlt;simp [q,this]
         ·simp [q]
        rw [e]
        exact zBh.2 ⟨u,zp.2 ⟨hu,by simpa using hlt⟩,by rw [zN,qhR];omega⟩
       omega)
      exact⟨v,v1,qjd v2 hut⟩
   exact key _ t ht (Nat.le_refl _)
  have hold:∀ t∈done,undr x t=true->x=t:=fun t ht hxt=>by
   have hlen:x.length=t.length:=by rw [h1 x (by simp),h1 t (by simp [ht])]
   have:=qlC hlen hxt
   have h6:=h2 t ht x (by simp)
   exact qiW (by omega)
  have step:Rise (frS f x)/\∀ t,t∈frS f x↔isMin (done ++ [x]) t:=by
   unfold frS
   by_cases hany:f.any (fun u=>undr u x)=true
   ·rw [zH hany]
    obtain⟨u,hu,hux⟩:=zAS.1 hany
    have huD:=((h5 u).1 hu).1
    refine⟨h4,fun t=>(h5 t).trans ⟨fun h=>⟨by simp [h.1],fun v hv hvt=>?_⟩,fun h=>?_⟩⟩
    ·rcases zL.1 hv with hv | hv
     ·exact h.2 v hv hvt
     ·rw [zM.1 hv] at hvt ⊢
      exact hold t h.1 hvt
    ·rcases zL.1 h.1 with ht | ht
     ·exact⟨ht,fun v hv=>h.2 v (by simp [hv])⟩
     ·have ex:=zM.1 ht
      subst ex
      have:=h.2 u (by simp [huD]) hux
      subst this
      exact⟨huD,fun v hv=>h.2 v (by simp [hv])⟩
   ·rw [zJ hany]
    have hno:∀ u∈f,¬ undr u x=true:=fun u hu h=>hany (zAS.2 ⟨u,hu,h⟩)
    have hnd:∀ u∈done,¬ undr u x=true:=fun u hu h=>by
     obtain⟨v,v1,v2⟩:=hmin u hu
     exact hno v v1 (qjd v2 h)
    refine⟨zBk.2 ⟨h4,by simp,fun a ha b hb=>?_⟩,fun t=>?_⟩
    ·rw [zM.1 hb]
     have haD:=((h5 a).1 ha).1
     have h6:=h2 a haD x (by simp)
     refine Classical.byContradiction fun hn=>?_
     have e:=quB hn h6
     exact hno a ha (e▸qhB a)
    ·rw [zL,zM,h5]
     constructor
     ·rintro (h | rfl)
      ·refine⟨by simp [h.1],fun v hv hvt=>?_⟩
       rcases zL.1 hv with hv | hv
       ·exact h.2 v hv hvt
       ·rw [zM.1 hv] at hvt ⊢
        exact hold t h.1 hvt
      ·refine⟨by simp,fun v hv hvt=>?_⟩
       rcases zL.1 hv with hv | hv
       ·exact absurd hvt (hnd v hv)
       ·exact zM.1 hv
     ·intro h
      rcases zL.1 h.1 with ht | ht
      ·exact .inl ⟨ht,fun v hv=>h.2 v (by simp [hv])⟩
      ·exact .inr (zM.1 ht)
  have:=qBL ts (frS f x) (done ++ [x]) (by simpa using h1) (fun t ht u hu=>?_) p2 step.1 step.2
  ·simpa using this
  ·rcases zL.1 ht with ht | ht
   ·exact h2 t ht u (by simp [hu])
   ·rw [zM.1 ht];exact p1 u hu
theorem qAd{k:Nat}{xs ys:List (List Int)}(hl:∀ t∈xs,t.length=k)(hs:qio lexD xs ys):Rise (frL ys)/\∀ t,t∈frL ys↔isMin xs t:=by
 obtain⟨h1,h2⟩:=hs
 have hm:∀ t,t∈ys↔t∈xs:=fun t=>h1.mem_iff
 obtain⟨a,b⟩:=qBL (k:=k) ys [] [] (by simpa using fun t ht=>hl t ((hm t).1 ht)) (fun t ht=>by cases ht) (h2.imp fun {a b} h=>by
  have h:decide (lexc b a<0)=false:=h
  exact decide_eq_false_iff_not.1 h) .nil (fun t=>⟨fun h=>(nomatch h),fun h=>(nomatch h.1)⟩)
 refine⟨a,fun t=>(b t).trans ?_⟩
 simp only [List.nil_append,isMin,hm]
theorem qxW{k:Nat}{xs f:List (List Int)}(hl:∀ t∈xs,t.length=k)(hf:∀ t,t∈f↔isMin xs t){t:List Int}(ht:t∈xs):∃ u,u∈f/\undr u t=true:=by
 have key:∀ n,∀ t∈xs,(xs.filter fun u=>decide (lexc u t<0)).length<=n->∃ u,u∈f/\undr u t=true:=by
  intro n
  induction n with
  | zero=>
   intro t ht hn
   refine⟨t,(hf t).2 ⟨ht,fun u hu hut=>?_⟩,qhB t⟩
   refine Classical.byContradiction fun hne=>?_
   have hlt:lexc u t<0:=by
    have:=qlC (by rw [hl u hu,hl t ht]) hut
    rcases zBH this with h | h
    ·exact h
    ·exact absurd (qiW h) hne
   have:=zAr (zp.2 ⟨hu,by simpa using hlt⟩:u∈xs.filter fun u=>decide (lexc u t<0))
   omega
  | succ n ih=>
   intro t ht hn
   by_cases hm:isMin xs t
   ·exact⟨t,(hf t).2 hm,qhB t⟩
   ·obtain⟨u,hu,hut,hne⟩:∃ u,u∈xs/\undr u t=true/\u≠t:=Classical.byContradiction fun hno=>hm ⟨ht,fun u hu hut=>Classical.byContradiction fun hne=>hno ⟨u,hu,hut,hne⟩⟩
    have hlt:lexc u t<0:=by
     have:=qlC (by rw [hl u hu,hl t ht]) hut
     rcases zBH this with h | h
     ·exact h
     ·exact absurd (qiW h) hne
    obtain⟨v,v1,v2⟩:=ih u hu (by
     have hsub:(xs.filter fun v=>decide (lexc v u<0)).length<(xs.filter fun v=>decide (lexc v t<0)).length:=by
      have e:(xs.filter fun v=>decide (lexc v u<0))=(xs.filter fun v=>decide (lexc v t<0)).filter fun v=>decide (lexc v u<0):=by
       rw [zBR]
       refine zBV fun v _=>?_
       by_cases q:lexc v u<0
       ·have:=qhv q hlt;simp [q,this]
       ·simp [q]
      rw [e]
      exact zBh.2 ⟨u,zp.2 ⟨hu,by simpa using hlt⟩,by rw [zN,qhR];omega⟩
     omega)
    exact⟨v,v1,qjd v2 hut⟩
 exact key _ t ht (Nat.le_refl _)
end Go.Abs
