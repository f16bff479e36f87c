import Derived.Test.YtgnnhemoocfclaaGreatDoorTimesP
namespace Go.Smy
def nth{α:Type} [Inhabited α] (xs:List α)(i:Nat):α:=xs.getD i default
section
variable {α : Type} [Inhabited α]
theorem nth_eq(xs:List α)(i:Nat)(h:i<xs.length):nth xs i=xs[i]:=by simp [nth,List.getD,h]
theorem qbJ(xs:List α)(i:Nat)(h:i<xs.length):nth xs i∈xs:=by rw [nth_eq xs i h];exact List.getElem_mem h
theorem mem_nth{xs:List α}{x:α}(h:x∈xs):∃ i,i<xs.length/\nth xs i=x:=by
 obtain⟨i,hi,e⟩:=List.getElem_of_mem h
 exact⟨i,hi,by rw [nth_eq xs i hi,e]⟩
theorem nth_ext{xs ys:List α}(hl:xs.length=ys.length)(h:∀ i,i<xs.length->nth xs i=nth ys i):xs=ys:=by
 apply List.ext_getElem hl
 intro i h1 h2
 rw [<- nth_eq xs i h1,<- nth_eq ys i h2]
 exact h i h1
theorem nth_set(xs:List α)(i j:Nat)(y:α):nth (xs.set i y) j=if i=j/\i<xs.length then y else nth xs j:=by
 unfold nth
 simp only [List.getD_eq_getElem?_getD,List.getElem?_set]
 split
 ·rename_i h
  subst h
  by_cases hi:i<xs.length <;> simp [hi]
 ·rename_i h;simp [h]
theorem nth_append_left(xs ys:List α)(i:Nat)(h:i<xs.length):nth (xs++ys) i=nth xs i:=by
 simp [nth,List.getD,List.getElem?_append_left h]
theorem nth_append_right(xs ys:List α)(i:Nat)(h:xs.length<=i):nth (xs++ys) i=nth ys (i - xs.length):=by
 simp [nth,List.getD,List.getElem?_append_right h]
theorem nth_map{β:Type} [Inhabited β] (f:α->β)(xs:List α)(i:Nat)(h:i<xs.length):nth (xs.map f) i=f (nth xs i):=by
 rw [nth_eq _ i (by simpa using h),nth_eq xs i h];simp
theorem nth_take(xs:List α)(n i:Nat)(h:i<n):nth (xs.take n) i=nth xs i:=by
 simp [nth,List.getD,h]
end
def qaR(x:Int):Bool:=decide (x<0)||decide (1048576<x)
structure Sm where
 keep:Int
 add:Int
 push:List Int
def qeh(s:Sm)(n:Int):Prop:=n<1\/4<n\/s.keep<1\/n<s.keep\/4 - s.keep<s.push.length
instance (s:Sm) (n:Int):Decidable (qeh s n):=by unfold qeh;infer_instance
def qC(s:Sm)(n:Int):Int:=if qeh s n then 1 else if (s.add :: s.push).any qaR then 2 else 0
theorem qdA{s:Sm}{n:Int}(h:qeh s n):qC s n=1:=by unfold qC;rw [if_pos h]
theorem qpd{s:Sm}{n:Int}(h:¬ qeh s n)(hb:(s.add :: s.push).any qaR=true):qC s n=2:=by unfold qC;rw [if_neg h,if_pos hb]
theorem qmC{s:Sm}{n:Int}(h:¬ qeh s n)(hb:(s.add :: s.push).any qaR=false):qC s n=0:=by unfold qC;rw [if_neg h,if_neg (by simp [hb])]
theorem qtP{s:Sm}{n:Int}(h:qC s n=0):1<=n/\n<=4/\1<=s.keep/\s.keep<=n/\s.keep+s.push.length<=4/\qaR s.add=false/\s.push.any qaR=false:=by
 unfold qC at h
 split at h
 ·omega
 ·rename_i hl
  unfold qeh at hl
  split at h
  ·omega
  ·rename_i hb
   simp only [List.any_cons,Bool.or_eq_true,not_or,Bool.not_eq_true] at hb
   exact⟨by omega,by omega,by omega,by omega,by omega,hb.1,hb.2⟩
theorem qbl{x:Int}:qaR x=false↔0<=x/\x<=1048576:=by
 simp [qaR]
theorem qod{xs:List Int}:xs.any qaR=false↔∀ i,i<xs.length->0<=nth xs i/\nth xs i<=1048576:=by
 rw [List.any_eq_false]
 constructor
 ·intro h i hi
  exact qbl.1 (by simpa using h _ (qbJ xs i hi))
 ·intro h x hx
  obtain⟨i,hi,rfl⟩:=mem_nth hx
  simp [qbl.2 (h i hi)]
theorem qw{s:Sm}{n:Int}:qC s n=0↔(1<=n/\n<=4/\1<=s.keep/\s.keep<=n/\s.keep+s.push.length<=4/\(0<=s.add/\s.add<=1048576)/\∀ i,i<s.push.length->0<=nth s.push i/\nth s.push i<=1048576):=by
 constructor
 ·intro h
  obtain⟨a,b,c,d,e,f,g⟩:=qtP h
  exact⟨a,b,c,d,e,qbl.1 f,qod.1 g⟩
 ·rintro⟨a,b,c,d,e,f,g⟩
  refine qmC (by unfold qeh;omega) ?_
  rw [List.any_cons,qbl.2 f,qod.2 g];rfl
def qbp(s:Sm)(i:Int):Int:=if s.keep<=i then nth s.push (i - s.keep).toNat else if i=s.keep - 1 then s.add else 0
def leqP(s r:Sm):Prop:=qC s 4=0/\qC r 4=0/\s.keep+s.push.length=r.keep+r.push.length /\
 ∀ k:Nat,(k:Int)<s.keep+s.push.length->qbp s k<=qbp r k/\((k:Int)<s.keep->(k:Int)<r.keep)
def lastOf(s r:Sm):Int:=if r.keep=s.keep then r.add+s.add else if s.keep<r.keep then nth s.push (r.keep - s.keep - 1).toNat+r.add else r.add
def qbs(s r:Sm):Int:=
 if qC s 4≠0 then qC s 4 else if qC r (s.keep+s.push.length)≠0 then qC r (s.keep+s.push.length) else if qaR (lastOf s r) then 6 else 0
def thenS(s r:Sm):Sm:=
 if r.keep=s.keep then ⟨r.keep,r.add+s.add,r.push⟩
 else if s.keep<r.keep then ⟨s.keep,s.add,(s.push.take (r.keep - s.keep).toNat).set ((r.keep - s.keep).toNat - 1) (nth s.push (r.keep - s.keep - 1).toNat+r.add)++r.push⟩
 else r
theorem qdW{s r:Sm}:qbs s r=0↔qC s 4=0/\qC r (s.keep+s.push.length)=0/\qaR (lastOf s r)=false:=by
 unfold qbs
 constructor
 ·intro h
  by_cases h1:qC s 4=0
  ·by_cases h2:qC r (s.keep+s.push.length)=0
   ·rw [if_neg (by simp [h1]),if_neg (by simp [h2])] at h
    refine⟨h1,h2,?_⟩
    cases hb:qaR (lastOf s r)
    ·rfl
    ·rw [hb] at h;simp at h
   ·rw [if_neg (by simp [h1]),if_pos h2] at h;exact absurd h h2
  ·rw [if_pos h1] at h;exact absurd h h1
 ·rintro⟨h1,h2,h3⟩
  simp [h1,h2,h3]
theorem qci(s r:Sm):(thenS s r).keep=if s.keep<r.keep then s.keep else r.keep:=by
 unfold thenS
 by_cases h:r.keep=s.keep
 ·rw [if_pos h,if_neg (by omega)]
 ·rw [if_neg h]
  by_cases h':s.keep<r.keep
  ·rw [if_pos h',if_pos h']
  ·rw [if_neg h',if_neg h']
theorem qkM(s r:Sm):(thenS s r).add=if r.keep=s.keep then r.add+s.add else if s.keep<r.keep then s.add else r.add:=by
 unfold thenS
 by_cases h:r.keep=s.keep
 ·rw [if_pos h,if_pos h]
 ·rw [if_neg h,if_neg h]
  by_cases h':s.keep<r.keep
  ·rw [if_pos h',if_pos h']
  ·rw [if_neg h',if_neg h']
theorem qsU(s r:Sm):(thenS s r).push=if s.keep<r.keep then (s.push.take (r.keep - s.keep).toNat).set ((r.keep - s.keep).toNat - 1) (nth s.push (r.keep - s.keep - 1).toNat+r.add)++r.push else r.push:=by
 unfold thenS
 by_cases h:r.keep=s.keep
 ·rw [if_pos h,if_neg (by omega)]
 ·rw [if_neg h]
  by_cases h':s.keep<r.keep
  ·rw [if_pos h',if_pos h']
  ·rw [if_neg h',if_neg h']
theorem qvv{s r:Sm}(h1:r.keep<=s.keep+s.push.length):((thenS s r).push.length:Int)=if s.keep<r.keep then r.keep - s.keep+r.push.length else r.push.length:=by
 rw [qsU]
 split
 ·simp;omega
 ·rfl
theorem qfv{s r:Sm}(h1:r.keep<=s.keep+s.push.length):(thenS s r).keep+(thenS s r).push.length=r.keep+r.push.length:=by
 rw [qvv h1,qci]
 split <;> omega
theorem qqs{s r:Sm}(h1:r.keep<=s.keep+s.push.length)(i:Nat) :
  nth (thenS s r).push i=if s.keep<r.keep then (if s.keep+i+1=r.keep then nth s.push i+r.add else if s.keep+i<r.keep then nth s.push i else nth r.push (i - (r.keep - s.keep).toNat)) else nth r.push i:=by
 rw [qsU]
 by_cases h:s.keep<r.keep
 ·rw [if_pos h,if_pos h]
  have hl:((s.push.take (r.keep - s.keep).toNat).set ((r.keep - s.keep).toNat - 1) (nth s.push (r.keep - s.keep - 1).toNat+r.add)).length=(r.keep - s.keep).toNat:=by simp;omega
  by_cases c:s.keep+i+1=r.keep
  ·rw [if_pos c,nth_append_left _ _ _ (by omega),nth_set,if_pos ⟨by omega,by simp;omega⟩,show (r.keep - s.keep - 1).toNat=i by omega]
  ·rw [if_neg c]
   by_cases c':s.keep+i<r.keep
   ·rw [if_pos c',nth_append_left _ _ _ (by omega),nth_set,if_neg (by omega),nth_take _ _ _ (by omega)]
   ·rw [if_neg c',nth_append_right _ _ _ (by omega),hl]
 ·rw [if_neg h,if_neg h]
theorem qba{s:Sm}{i:Int}(h:s.keep<=i):qbp s i=nth s.push (i - s.keep).toNat:=by unfold qbp;rw [if_pos h]
theorem placeN_last{s:Sm}{i:Int}(h:i=s.keep - 1):qbp s i=s.add:=by unfold qbp;rw [if_neg (by omega),if_pos h]
theorem qaV{s:Sm}{i:Int}(h:i<s.keep - 1):qbp s i=0:=by unfold qbp;rw [if_neg (by omega),if_neg (by omega)]
theorem qhp{s r:Sm}(hl:r.keep<=s.keep+s.push.length)(i:Nat) :
  qbp (thenS s r) i=qbp r i+(if (i:Int)<r.keep then qbp s i else 0):=by
 have hk:=qci s r
 have ha:=qkM s r
 by_cases c:s.keep<r.keep
 ·rw [if_pos c] at hk
  rw [if_neg (by omega),if_pos c] at ha
  by_cases c1:s.keep<=(i:Int)
  ·rw [qba (by omega),qqs hl,if_pos c,hk]
   by_cases c2:(i:Int)<r.keep
   ·rw [if_pos c2,qba (s:=s) c1]
    by_cases c3:(i:Int)=r.keep - 1
    ·rw [if_pos (by omega),placeN_last c3];omega
    ·rw [if_neg (by omega),if_pos (by omega),qaV (by omega)];omega
   ·have e:((i:Int) - s.keep).toNat - (r.keep - s.keep).toNat=((i:Int) - r.keep).toNat:=by omega
    rw [if_neg c2,if_neg (by omega),if_neg (by omega),qba (s:=r) (by omega),e];omega
  ·rw [if_pos (by omega),qaV (s:=r) (by omega)]
   by_cases c3:(i:Int)=s.keep - 1
   ·rw [placeN_last (s:=s) c3,placeN_last (by omega),ha];omega
   ·rw [qaV (s:=s) (by omega),qaV (by omega)];omega
 ·rw [if_neg c] at hk
  by_cases c1:r.keep<=(i:Int)
  ·rw [if_neg (by omega),qba (s:=r) c1,qba (by omega),qqs hl,if_neg c,hk];omega
  ·rw [if_pos (by omega)]
   by_cases c2:r.keep=s.keep
   ·rw [if_pos c2] at ha
    by_cases c3:(i:Int)=r.keep - 1
    ·rw [placeN_last (s:=r) c3,placeN_last (s:=s) (by omega),placeN_last (by omega),ha]
    ·rw [qaV (s:=r) (by omega),qaV (s:=s) (by omega),qaV (by omega)];omega
   ·rw [if_neg c2,if_neg c] at ha
    rw [qaV (s:=s) (by omega)]
    by_cases c3:(i:Int)=r.keep - 1
    ·rw [placeN_last (s:=r) c3,placeN_last (by omega),ha];omega
    ·rw [qaV (s:=r) (by omega),qaV (by omega)];omega
theorem qla{s:Sm}{n:Int}(h:qC s n=0)(i:Nat)(hi:(i:Int)<s.keep+s.push.length):0<=qbp s i/\qbp s i<=1048576:=by
 obtain⟨-,-,-,-,-,h6,h7⟩:=qw.1 h
 unfold qbp
 by_cases c1:s.keep<=(i:Int)
 ·rw [if_pos c1];exact h7 _ (by omega)
 ·rw [if_neg c1]
  by_cases c2:(i:Int)=s.keep - 1
  ·rw [if_pos c2];exact h6
  ·rw [if_neg c2];omega
theorem qhq{s r:Sm}(h:qbs s r=0):qC (thenS s r) 4=0:=by
 obtain⟨h1,h2,h3⟩:=qdW.1 h
 obtain⟨-,-,a3,a4,a5,a6,a7⟩:=qw.1 h1
 obtain⟨-,-,b3,b4,b5,b6,b7⟩:=qw.1 h2
 have h3:=qbl.1 h3
 unfold lastOf at h3
 have ho:=qfv b4
 refine qw.2 ⟨by omega,by omega,?_,?_,by omega,?_,?_⟩
 ·rw [qci];split <;> omega
 ·rw [qci];split <;> omega
 ·rw [qkM]
  by_cases c:r.keep=s.keep
  ·rw [if_pos c] at h3 ⊢;exact h3
  ·rw [if_neg c];split
   ·exact a6
   ·exact b6
 ·intro i hi
  have hi':(i:Int)<(thenS s r).push.length:=by omega
  rw [qvv b4] at hi'
  rw [qqs b4]
  by_cases c:s.keep<r.keep
  ·rw [if_pos c] at hi' ⊢
   rw [if_neg (by omega),if_pos c] at h3
   by_cases c1:s.keep+i+1=r.keep
   ·rw [if_pos c1]
    have e:(r.keep - s.keep - 1).toNat=i:=by omega
    rw [e] at h3;exact h3
   ·rw [if_neg c1]
    by_cases c2:s.keep+i<r.keep
    ·rw [if_pos c2];exact a7 i (by omega)
    ·rw [if_neg c2];exact b7 _ (by omega)
  ·rw [if_neg c] at hi' ⊢
   exact b7 i (by omega)
theorem qjY{s r q:Sm}(h:leqP s r)(h1:qbs s q=0)(h2:qbs r q=0):leqP (thenS s q) (thenS r q):=by
 obtain⟨-,-,hl,hk⟩:=h
 obtain⟨a1,a2,-⟩:=qdW.1 h1
 obtain⟨b1,b2,-⟩:=qdW.1 h2
 obtain⟨-,-,s3,s4,s5,-,-⟩:=qw.1 a1
 obtain⟨-,-,r3,r4,r5,-,-⟩:=qw.1 b1
 obtain⟨-,-,q3,q4,q5,-,-⟩:=qw.1 a2
 have qb:q.keep<=r.keep+r.push.length:=by omega
 refine⟨qhq h1,qhq h2,by rw [qfv q4,qfv qb],fun k hk'=>?_⟩
 rw [qfv q4] at hk'
 rw [qhp q4,qhp qb,qci,qci]
 by_cases c:(k:Int)<q.keep
 ·obtain⟨p1,p2⟩:=hk k (by omega)
  rw [if_pos c,if_pos c]
  refine⟨by omega,fun h=>?_⟩
  have:(k:Int)<s.keep:=by split at h <;> omega
  have:=p2 this
  split <;> omega
 ·rw [if_neg c,if_neg c]
  refine⟨by omega,fun h=>?_⟩
  exact absurd (show (k:Int)<q.keep by split at h <;> omega) c
theorem qlj{s r q:Sm}(h:leqP s r)(h1:qbs q s=0)(h2:qbs q r=0):leqP (thenS q s) (thenS q r):=by
 obtain⟨-,-,hl,hk⟩:=h
 obtain⟨a1,a2,-⟩:=qdW.1 h1
 obtain⟨-,b2,-⟩:=qdW.1 h2
 obtain⟨-,-,q3,q4,q5,-,-⟩:=qw.1 a1
 obtain⟨-,-,s3,s4,s5,-,-⟩:=qw.1 a2
 obtain⟨-,-,r3,r4,r5,-,-⟩:=qw.1 b2
 refine⟨qhq h1,qhq h2,by rw [qfv s4,qfv r4];omega,fun k hk'=>?_⟩
 rw [qfv s4] at hk'
 rw [qhp s4,qhp r4,qci,qci]
 obtain⟨p1,p2⟩:=hk k hk'
 by_cases c:(k:Int)<s.keep
 ·have c':=p2 c
  rw [if_pos c,if_pos c']
  refine⟨by omega,fun h=>?_⟩
  split at h <;> split <;> omega
 ·rw [if_neg c]
  refine⟨?_,fun h=>absurd (show (k:Int)<s.keep by split at h <;> omega) c⟩
  by_cases c':(k:Int)<r.keep
  ·rw [if_pos c'];have:=qla a1 k (by omega);omega
  ·rw [if_neg c'];omega
end Go.Smy
