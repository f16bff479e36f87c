import Derived.Test.YtgnnhemoocfclaaGreatDoorTimesP
namespace Go.Smy
def nth{α:Type} [Inhabited α] (xs:List α)(i:Nat):α:=xs.getD i default
section
variable {α : Type} [Inhabited α]
theorem nth_eq(xs:List α)(i:Nat)(h:i<xs.length):nth xs i=xs[i]:=by simp [nth,List.getD,h]
theorem qbt(xs:List α)(i:Nat)(h:i<xs.length):nth xs i∈xs:=by rw [nth_eq xs i h];exact List.getElem_mem h
theorem mem_nth{xs:List α}{x:α}(h:x∈xs):∃ i,i<xs.length/\nth xs i=x:=by
 obtain⟨i,hi,e⟩:=List.getElem_of_mem h
 exact⟨i,hi,by rw [nth_eq xs i hi,e]⟩
theorem nth_ext{xs ys:List α}(hl:xs.length=ys.length)(h:∀ i,i<xs.length->nth xs i=nth ys i):xs=ys:=by
 apply List.ext_getElem hl
 intro i h1 h2
 rw [<- nth_eq xs i h1,<- nth_eq ys i h2]
 exact h i h1
theorem nth_set(xs:List α)(i j:Nat)(y:α):nth (xs.set i y) j=if i=j/\i<xs.length then y else nth xs j:=by
 unfold nth
 simp only [List.getD_eq_getElem?_getD,List.getElem?_set]
 split
 ·rename_i h
  subst h
  by_cases hi:i<xs.length <;> simp [hi]
 ·rename_i h;simp [h]
theorem nth_append_left(xs ys:List α)(i:Nat)(h:i<xs.length):nth (xs++ys) i=nth xs i:=by
 simp [nth,List.getD,List.getElem?_append_left h]
theorem nth_append_right(xs ys:List α)(i:Nat)(h:xs.length<=i):nth (xs++ys) i=nth ys (i - xs.length):=by
 simp [nth,List.getD,List.getElem?_append_right h]
theorem nth_map{β:Type} [Inhabited β] (f:α->β)(xs:List α)(i:Nat)(h:i<xs.length):nth (xs.map f) i=f (nth xs i):=by
 rw [nth_eq _ i (by simpa using h),nth_eq xs i h];simp
theorem nth_take(xs:List α)(n i:Nat)(h:i<n):nth (xs.take n) i=nth xs i:=by
 simp [nth,List.getD,h]
end
def qaP(x:Int):Bool:=decide (x<0)||decide (1048576<x)
structure Sm where
 keep:Int
 add:Int
 push:List Int
def qdW(s:Sm)(n:Int):Prop:=n<1\/4<n\/s.keep<1\/n<s.keep\/4 - s.keep<s.push.length
instance (s:Sm) (n:Int):Decidable (qdW s n):=by unfold qdW;infer_instance
def qG(s:Sm)(n:Int):Int:=if qdW s n then 1 else if (s.add :: s.push).any qaP then 2 else 0
theorem qdm{s:Sm}{n:Int}(h:qdW s n):qG s n=1:=by unfold qG;rw [if_pos h]
theorem qpp{s:Sm}{n:Int}(h:¬ qdW s n)(hb:(s.add :: s.push).any qaP=true):qG s n=2:=by unfold qG;rw [if_neg h,if_pos hb]
theorem qmL{s:Sm}{n:Int}(h:¬ qdW s n)(hb:(s.add :: s.push).any qaP=false):qG s n=0:=by unfold qG;rw [if_neg h,if_neg (by simp [hb])]
theorem qus{s:Sm}{n:Int}(h:qG s n=0):1<=n/\n<=4/\1<=s.keep/\s.keep<=n/\s.keep+s.push.length<=4/\qaP s.add=false/\s.push.any qaP=false:=by
 unfold qG at h
 split at h
 ·omega
 ·rename_i hl
  unfold qdW at hl
  split at h
  ·omega
  ·rename_i hb
   simp only [List.any_cons,Bool.or_eq_true,not_or,Bool.not_eq_true] at hb
   exact⟨by omega,by omega,by omega,by omega,by omega,hb.1,hb.2⟩
theorem qbh{x:Int}:qaP x=false↔0<=x/\x<=1048576:=by
 simp [qaP]
theorem qoo{xs:List Int}:xs.any qaP=false↔∀ i,i<xs.length->0<=nth xs i/\nth xs i<=1048576:=by
 rw [List.any_eq_false]
 constructor
 ·intro h i hi
  exact qbh.1 (by simpa using h _ (qbt xs i hi))
 ·intro h x hx
  obtain⟨i,hi,rfl⟩:=mem_nth hx
  simp [qbh.2 (h i hi)]
theorem qF{s:Sm}{n:Int}:qG s n=0↔(1<=n/\n<=4/\1<=s.keep/\s.keep<=n/\s.keep+s.push.length<=4/\(0<=s.add/\s.add<=1048576)/\∀ i,i<s.push.length->0<=nth s.push i/\nth s.push i<=1048576):=by
 constructor
 ·intro h
  obtain⟨a,b,c,d,e,f,g⟩:=qus h
  exact⟨a,b,c,d,e,qbh.1 f,qoo.1 g⟩
 ·rintro⟨a,b,c,d,e,f,g⟩
  refine qmL (by unfold qdW;omega) ?_
  rw [List.any_cons,qbh.2 f,qoo.2 g];rfl
def qbl(s:Sm)(i:Int):Int:=if s.keep<=i then nth s.push (i - s.keep).toNat else if i=s.keep - 1 then s.add else 0
def leqP(s r:Sm):Prop:=qG s 4=0/\qG r 4=0/\s.keep+s.push.length=r.keep+r.push.length /\
 ∀ k:Nat,(k:Int)<s.keep+s.push.length->qbl s k<=qbl r k/\((k:Int)<s.keep->(k:Int)<r.keep)
def lastOf(s r:Sm):Int:=if r.keep=s.keep then r.add+s.add else if s.keep<r.keep then nth s.push (r.keep - s.keep - 1).toNat+r.add else r.add
def qbo(s r:Sm):Int:=
 if qG s 4≠0 then qG s 4 else if qG r (s.keep+s.push.length)≠0 then qG r (s.keep+s.push.length) else if qaP (lastOf s r) then 6 else 0
def thenS(s r:Sm):Sm:=
 if r.keep=s.keep then ⟨r.keep,r.add+s.add,r.push⟩
 else if s.keep<r.keep then ⟨s.keep,s.add,(s.push.take (r.keep - s.keep).toNat).set ((r.keep - s.keep).toNat - 1) (nth s.push (r.keep - s.keep - 1).toNat+r.add)++r.push⟩
 else r
theorem qdI{s r:Sm}:qbo s r=0↔qG s 4=0/\qG r (s.keep+s.push.length)=0/\qaP (lastOf s r)=false:=by
 unfold qbo
 constructor
 ·intro h
  by_cases h1:qG s 4=0
  ·by_cases h2:qG r (s.keep+s.push.length)=0
   ·rw [if_neg (by simp [h1]),if_neg (by simp [h2])] at h
    refine⟨h1,h2,?_⟩
    cases hb:qaP (lastOf s r)
    ·rfl
    ·rw [hb] at h;simp at h
   ·rw [if_neg (by simp [h1]),if_pos h2] at h;exact absurd h h2
  ·rw [if_pos h1] at h;exact absurd h h1
 ·rintro⟨h1,h2,h3⟩
  simp [h1,h2,h3]
theorem qcb(s r:Sm):(thenS s r).keep=if s.keep<r.keep then s.keep else r.keep:=by
 unfold thenS
 by_cases h:r.keep=s.keep
 ·rw [if_pos h,if_neg (by omega)]
 ·rw [if_neg h]
  by_cases h':s.keep<r.keep
  ·rw [if_pos h',if_pos h']
  ·rw [if_neg h',if_neg h']
theorem qkZ(s r:Sm):(thenS s r).add=if r.keep=s.keep then r.add+s.add else if s.keep<r.keep then s.add else r.add:=by
 unfold thenS
 by_cases h:r.keep=s.keep
 ·rw [if_pos h,if_pos h]
 ·rw [if_neg h,if_neg h]
  by_cases h':s.keep<r.keep
  ·rw [if_pos h',if_pos h']
  ·rw [if_neg h',if_neg h']
theorem qtu(s r:Sm):(thenS s r).push=if s.keep<r.keep then (s.push.take (r.keep - s.keep).toNat).set ((r.keep - s.keep).toNat - 1) (nth s.push (r.keep - s.keep - 1).toNat+r.add)++r.push else r.push:=by
 unfold thenS
 by_cases h:r.keep=s.keep
 ·rw [if_pos h,if_neg (by omega)]
 ·rw [if_neg h]
  by_cases h':s.keep<r.keep
  ·rw [if_pos h',if_pos h']
  ·rw [if_neg h',if_neg h']
theorem qvX{s r:Sm}(h1:r.keep<=s.keep+s.push.length):((thenS s r).push.length:Int)=if s.keep<r.keep then r.keep - s.keep+r.push.length else r.push.length:=by
 rw [qtu]
 split
 ·simp;omega
 ·rfl
theorem qfw{s r:Sm}(h1:r.keep<=s.keep+s.push.length):(thenS s r).keep+(thenS s r).push.length=r.keep+r.push.length:=by
 rw [qvX h1,qcb]
 split <;> omega
theorem qqC{s r:Sm}(h1:r.keep<=s.keep+s.push.length)(i:Nat) :
  nth (thenS s r).push i=if s.keep<r.keep then (if s.keep+i+1=r.keep then nth s.push i+r.add else if s.keep+i<r.keep then nth s.push i else nth r.push (i - (r.keep - s.keep).toNat)) else nth r.push i:=by
 rw [qtu]
 by_cases h:s.keep<r.keep
 ·rw [if_pos h,if_pos h]
  have hl:((s.push.take (r.keep - s.keep).toNat).set ((r.keep - s.keep).toNat - 1) (nth s.push (r.keep - s.keep - 1).toNat+r.add)).length=(r.keep - s.keep).toNat:=by simp;omega
  by_cases c:s.keep+i+1=r.keep
  ·rw [if_pos c,nth_append_left _ _ _ (by omega),nth_set,if_pos ⟨by omega,by simp;omega⟩,show (r.keep - s.keep - 1).toNat=i by omega]
  ·rw [if_neg c]
   by_cases c':s.keep+i<r.keep
   ·rw [if_pos c',nth_append_left _ _ _ (by omega),nth_set,if_neg (by omega),nth_take _ _ _ (by omega)]
   ·rw [if_neg c',nth_append_right _ _ _ (by omega),hl]
 ·rw [if_neg h,if_neg h]
theorem qbm{s:Sm}{i:Int}(h:s.keep<=i):qbl s i=nth s.push (i - s.keep).toNat:=by unfold qbl;rw [if_pos h]
theorem qao{s:Sm}{i:Int}(h:i=s.keep - 1):qbl s i=s.add:=by unfold qbl;rw [if_neg (by omega),if_pos h]
theorem qaT{s:Sm}{i:Int}(h:i<s.keep - 1):qbl s i=0:=by unfold qbl;rw [if_neg (by omega),if_neg (by omega)]
theorem qhv{s r:Sm}(hl:r.keep<=s.keep+s.push.length)(i:Nat) :
  qbl (thenS s r) i=qbl r i+(if (i:Int)<r.keep then qbl s i else 0):=by
 have hk:=qcb s r
 have ha:=qkZ s r
 by_cases c:s.keep<r.keep
 ·rw [if_pos c] at hk
  rw [if_neg (by omega),if_pos c] at ha
  by_cases c1:s.keep<=(i:Int)
  ·rw [qbm (by omega),qqC hl,if_pos c,hk]
   by_cases c2:(i:Int)<r.keep
   ·rw [if_pos c2,qbm (s:=s) c1]
    by_cases c3:(i:Int)=r.keep - 1
    ·rw [if_pos (by omega),qao c3];omega
    ·rw [if_neg (by omega),if_pos (by omega),qaT (by omega)];omega
   ·have e:((i:Int) - s.keep).toNat - (r.keep - s.keep).toNat=((i:Int) - r.keep).toNat:=by omega
    rw [if_neg c2,if_neg (by omega),if_neg (by omega),qbm (s:=r) (by omega),e];omega
  ·rw [if_pos (by omega),qaT (s:=r) (by omega)]
   by_cases c3:(i:Int)=s.keep - 1
   ·rw [qao (s:=s) c3,qao (by omega),ha];omega
   ·rw [qaT (s:=s) (by omega),qaT (by omega)];omega
 ·rw [if_neg c] at hk
  by_cases c1:r.keep<=(i:Int)
  ·rw [if_neg (by omega),qbm (s:=r) c1,qbm (by omega),qqC hl,if_neg c,hk];omega
  ·rw [if_pos (by omega)]
   by_cases c2:r.keep=s.keep
   ·rw [if_pos c2] at ha
    by_cases c3:(i:Int)=r.keep - 1
    ·rw [qao (s:=r) c3,qao (s:=s) (by omega),qao (by omega),ha]
    ·rw [qaT (s:=r) (by omega),qaT (s:=s) (by omega),qaT (by omega)];omega
   ·rw [if_neg c2,if_neg c] at ha
    rw [qaT (s:=s) (by omega)]
    by_cases c3:(i:Int)=r.keep - 1
    ·rw [qao (s:=r) c3,qao (by omega),ha];omega
    ·rw [qaT (s:=r) (by omega),qaT (by omega)];omega
theorem qll{s:Sm}{n:Int}(h:qG s n=0)(i:Nat)(hi:(i:Int)<s.keep+s.push.length):0<=qbl s i/\qbl s i<=1048576:=by
 obtain⟨-,-,-,-,-,h6,h7⟩:=qF.1 h
 unfold qbl
 by_cases c1:s.keep<=(i:Int)
 ·rw [if_pos c1];exact h7 _ (by omega)
 ·rw [if_neg c1]
  by_cases c2:(i:Int)=s.keep - 1
  ·rw [if_pos c2];exact h6
  ·rw [if_neg c2];omega
theorem qhw{s r:Sm}(h:qbo s r=0):qG (thenS s r) 4=0:=by
 obtain⟨h1,h2,h3⟩:=qdI.1 h
 obtain⟨-,-,a3,a4,a5,a6,a7⟩:=qF.1 h1
 obtain⟨-,-,b3,b4,b5,b6,b7⟩:=qF.1 h2
 have h3:=qbh.1 h3
 unfold lastOf at h3
 have ho:=qfw b4
 refine qF.2 ⟨by omega,by omega,?_,?_,by omega,?_,?_⟩
 ·rw [qcb];split <;> omega
 ·rw [qcb];split <;> omega
 ·rw [qkZ]
  by_cases c:r.keep=s.keep
  ·rw [if_pos c] at h3 ⊢;exact h3
  ·rw [if_neg c];split
   ·exact a6
   ·exact b6
 ·intro i hi
  have hi':(i:Int)<(thenS s r).push.length:=by omega
  rw [qvX b4] at hi'
  rw [qqC b4]
  by_cases c:s.keep<r.keep
  ·rw [if_pos c] at hi' ⊢
   rw [if_neg (by omega),if_pos c] at h3
   by_cases c1:s.keep+i+1=r.keep
   ·rw [if_pos c1]
    have e:(r.keep - s.keep - 1).toNat=i:=by omega
    rw [e] at h3;exact h3
   ·rw [if_neg c1]
    by_cases c2:s.keep+i<r.keep
    ·rw [if_pos c2];exact a7 i (by omega)
    ·rw [if_neg c2];exact b7 _ (by omega)
  ·rw [if_neg c] at hi' ⊢
   exact b7 i (by omega)
theorem qkh{s r q:Sm}(h:leqP s r)(h1:qbo s q=0)(h2:qbo r q=0):leqP (thenS s q) (thenS r q):=by
 obtain⟨-,-,hl,hk⟩:=h
 obtain⟨a1,a2,-⟩:=qdI.1 h1
 obtain⟨b1,b2,-⟩:=qdI.1 h2
 obtain⟨-,-,s3,s4,s5,-,-⟩:=qF.1 a1
 obtain⟨-,-,r3,r4,r5,-,-⟩:=qF.1 b1
 obtain⟨-,-,q3,q4,q5,-,-⟩:=qF.1 a2
 have qb:q.keep<=r.keep+r.push.length:=by omega
 refine⟨qhw h1,qhw h2,by rw [qfw q4,qfw qb],fun k hk'=>?_⟩
 rw [qfw q4] at hk'
 rw [qhv q4,qhv qb,qcb,qcb]
 by_cases c:(k:Int)<q.keep
 ·obtain⟨p1,p2⟩:=hk k (by omega)
  rw [if_pos c,if_pos c]
  refine⟨by omega,fun h=>?_⟩
  have:(k:Int)<s.keep:=by split at h <;> omega
  have:=p2 this
  split <;> omega
 ·rw [if_neg c,if_neg c]
  refine⟨by omega,fun h=>?_⟩
  exact absurd (show (k:Int)<q.keep by split at h <;> omega) c
theorem qlu{s r q:Sm}(h:leqP s r)(h1:qbo q s=0)(h2:qbo q r=0):leqP (thenS q s) (thenS q r):=by
 obtain⟨-,-,hl,hk⟩:=h
 obtain⟨a1,a2,-⟩:=qdI.1 h1
 obtain⟨-,b2,-⟩:=qdI.1 h2
 obtain⟨-,-,q3,q4,q5,-,-⟩:=qF.1 a1
 obtain⟨-,-,s3,s4,s5,-,-⟩:=qF.1 a2
 obtain⟨-,-,r3,r4,r5,-,-⟩:=qF.1 b2
 refine⟨qhw h1,qhw h2,by rw [qfw s4,qfw r4];omega,fun k hk'=>?_⟩
 rw [qfw s4] at hk'
 rw [qhv s4,qhv r4,qcb,qcb]
 obtain⟨p1,p2⟩:=hk k hk'
 by_cases c:(k:Int)<s.keep
 ·have c':=p2 c
  rw [if_pos c,if_pos c']
  refine⟨by omega,fun h=>?_⟩
  split at h <;> split <;> omega
 ·rw [if_neg c]
  refine⟨?_,fun h=>absurd (show (k:Int)<s.keep by split at h <;> omega) c⟩
  by_cases c':(k:Int)<r.keep
  ·rw [if_pos c'];have:=qll a1 k (by omega);omega
  ·rw [if_neg c'];omega
end Go.Smy
