import Derived.Test.YtgnnhemoocfclaaGreatDoorAbsFrag
namespace Go.Abs
section
variable {R S : Type}
theorem qwj{g:S->(S->Option R)->Option R}(I:S->Prop)(m:S->Nat)(out:S->Option R)
  (hs:∀ s,I s->∀ kn:S->Option R,(∀ s',I s'->m s'<m s->kn s'=out s')->g s kn=out s):∀ N s,I s->m s<N->loopD g N s=out s
 | 0,_,_,h=>by omega
 | N+1,s,hi,hm=>hs s hi _ fun s' hi' hm'=>qwj I m out hs N s' hi' (by omega)
theorem qlk{α:Type}{f:α->S->(S->Option R)->Option R}{k:S->Option R}{x:α}{xs:List α}{s:S}:forD f k (x :: xs) s=f x s (forD f k xs):=rfl
theorem qlK{g:S->(S->Option R)->Option R}(I:S->Prop)(m:S->Nat)(Post:Option R->Prop)
  (hs:∀ s,I s->∀ kn:S->Option R,(∀ s',I s'->m s'<m s->Post (kn s'))->Post (g s kn)):∀ N s,I s->m s<N->Post (loopD g N s)
 | 0,_,_,h=>by omega
 | N+1,s,hi,hm=>hs s hi _ fun s' hi' hm'=>qlK I m Post hs N s' hi' (by omega)
theorem qzi{α:Type}{f:α->Unit->(Unit->Option R)->Option R}{k:Unit->Option R}{r:Option R}(bad:α->Prop):(xs:List α)->(∀ x∈xs,bad x->∀ kn,f x () kn=r)->(∀ x∈xs,¬ bad x->∀ kn,f x () kn=kn ())->(∃ x∈xs,bad x)->forD f k xs ()=r
 | [],_,_,h=>by obtain⟨x,hx,_⟩:=h;cases hx
 | x :: xs,h1,h2,h=>by
  by_cases hb:bad x
  ·exact h1 x (by simp) hb _
  ·rw [qlk,h2 x (by simp) hb]
   refine qzi bad xs (fun y hy=>h1 y (by simp [hy])) (fun y hy=>h2 y (by simp [hy])) ?_
   obtain⟨y,hy,hyb⟩:=h
   rcases zk.1 hy with rfl | hy
   ·exact absurd hyb hb
   ·exact⟨y,hy,hyb⟩
theorem qwy{α:Type}{f:α->Unit->(Unit->Option R)->Option R}{k:Unit->Option R}:(xs:List α)->(∀ x∈xs,∀ kn,f x () kn=kn ())->forD f k xs ()=k ()
 | [],_=>rfl
 | x :: xs,h=>by rw [qlk,h x (by simp)];exact qwy xs fun y hy=>h y (by simp [hy])
end
end Go.Abs
namespace Go.Abs
def bt(w:Int)(i:Nat):Bool:=w.toNat.testBit i
abbrev W32(w:Int):Prop:=0<=w/\w<=4294967295
theorem wrap_u32(n:Int):IntKind.u32.wrap n=n % 4294967296:=by
 rw [IntKind.wrap_u32]
theorem W32.wrap(n:Int):W32 (IntKind.u32.wrap n):=by rw [wrap_u32];unfold W32;omega
theorem W32.iand{a b:Int}:W32 (iand .u32 a b):=W32.wrap _
theorem W32.ior{a b:Int}:W32 (ior .u32 a b):=W32.wrap _
theorem W32.ixor{a b:Int}:W32 (ixor .u32 a b):=W32.wrap _
theorem W32.iandNot{a b:Int}:W32 (iandNot .u32 a b):=W32.wrap _
theorem W32.ishl{a b:Int}:W32 (ishl .u32 a b):=W32.wrap _
theorem bt_bv(x:BitVec 32)(i:Nat):bt (IntKind.u32.wrap (x.toNat:Int)) i=x.getLsbD i:=by
 have:IntKind.u32.wrap (x.toNat:Int)=(x.toNat:Int):=by rw [wrap_u32];have:=x.isLt;omega
 rw [this];rfl
theorem qjp{a:Int}(ha:W32 a)(i:Nat):(BitVec.ofInt 32 a).getLsbD i=bt a i:=by
 have e:a=(a.toNat:Int):=by have:=ha.1;omega
 have h2:a.toNat<2 ^ 32:=by have:=ha.1;have:=ha.2;omega
 unfold bt
 rw [e,BitVec.ofInt_natCast,BitVec.getLsbD_ofNat]
 simp only [Int.toNat_natCast]
 by_cases hi:i<32
 ·simp [hi]
 ·rw [zBb (zP h2 (zBj (by omega) (by omega)))];simp
theorem qva{a b:Int}(ha:W32 a)(hb:W32 b)(i:Nat):bt (iand .u32 a b) i=(bt a i&&bt b i):=by
 show bt (IntKind.u32.wrap ((BitVec.ofInt 32 a &&& BitVec.ofInt 32 b).toNat:Int)) i=_
 rw [bt_bv,BitVec.getLsbD_and,qjp ha,qjp hb]
theorem qxa{a b:Int}(ha:W32 a)(hb:W32 b)(i:Nat):bt (ior .u32 a b) i=(bt a i||bt b i):=by
 show bt (IntKind.u32.wrap ((BitVec.ofInt 32 a ||| BitVec.ofInt 32 b).toNat:Int)) i=_
 rw [bt_bv,BitVec.getLsbD_or,qjp ha,qjp hb]
theorem bt_lt{a:Int}(ha:W32 a){i:Nat}(h:bt a i=true):i<32:=by
 rcases zAM i 32 with hl | hg
 ·exact hl
 ·have h2:a.toNat<2 ^ 32:=by have:=ha.1;have:=ha.2;omega
  unfold bt at h
  rw [zBb (zP h2 (zBj (by omega) hg))] at h
  cases h
theorem qAq{a b:Int}(ha:W32 a)(hb:W32 b)(i:Nat):bt (iandNot .u32 a b) i=(bt a i && !bt b i):=by
 show bt (IntKind.u32.wrap ((BitVec.ofInt 32 a &&& ~~~ BitVec.ofInt 32 b).toNat:Int)) i=_
 rw [bt_bv,BitVec.getLsbD_and,BitVec.getLsbD_not,qjp ha,qjp hb]
 cases h:bt a i with
 | false=>simp
 | true=>simp [bt_lt ha h]
theorem qik(i:Nat):bt 0 i=false:=by simp [bt]
theorem qCt{a b:Int}(ha:W32 a)(hb:W32 b)(h:∀ i,i<32->bt a i=bt b i):a=b:=by
 have:a.toNat=b.toNat:=Nat.eq_of_testBit_eq fun i=>by
  by_cases hi:i<32
  ·exact h i hi
  ·have h1:bt a i=false:=zAL.2 fun e=>hi (bt_lt ha e)
   have h2:bt b i=false:=zAL.2 fun e=>hi (bt_lt hb e)
   exact h1.trans h2.symm
 have:=ha.1;have:=hb.1;omega
theorem W32.zero:W32 0:=by unfold W32;omega
theorem qFb{i:Int}(_hi:0<=i)(j:Nat):bt (ishl .u32 1 i) j=(decide (j=i.toNat)&&decide (j<32)):=by
 unfold ishl
 rw [Int.one_mul,wrap_u32]
 have hb:IntKind.u32.bits=32:=rfl
 rw [hb]
 by_cases h:i.toNat<32
 ·rw [zBf (by omega)]
  have e:((2:Int) ^ i.toNat) % 4294967296=((2 ^ i.toNat:Nat):Int):=by
   have h1:(2:Nat) ^ i.toNat<2 ^ 32:=Nat.pow_lt_pow_right (by omega) h
   have h2:((2:Int) ^ i.toNat)=((2 ^ i.toNat:Nat):Int):=by simp
   have h3:(2:Nat) ^ 32=4294967296:=by decide
   rw [h2,Int.emod_eq_of_lt (Int.natCast_nonneg _) (by omega)]
  rw [e]
  unfold bt
  rw [Int.toNat_natCast,zBo]
  by_cases hj:i.toNat=j
  ·subst hj;simp [h]
  ·simp [hj,Ne.symm hj]
 ·rw [zBz (by omega)]
  have:((2:Int) ^ 32) % 4294967296=0:=by decide
  rw [this,qik]
  by_cases hj:j=i.toNat
  ·subst hj;simp [h]
  ·simp [hj]
theorem W32.ishr{a i:Int}(ha:W32 a):W32 (Abs.ishr .u32 a i):=by
 unfold Abs.ishr
 have h1:(0:Int)<2 ^ (min i.toNat IntKind.u32.bits):=Int.pow_pos (by omega)
 rw [zCH _ (by omega)]
 refine⟨Int.ediv_nonneg ha.1 (by omega),?_⟩
 exact zBS (Int.ediv_le_self _ ha.1) ha.2
theorem qCs{a i:Int}(ha:W32 a)(j:Nat):bt (ishr .u32 a i) j=bt a (i.toNat+j):=by
 unfold ishr
 have hb:IntKind.u32.bits=32:=rfl
 rw [hb]
 have h1:(0:Int)<2 ^ (min i.toNat 32):=Int.pow_pos (by omega)
 rw [zCH _ (by omega)]
 have e:(a / 2 ^ (min i.toNat 32)).toNat=a.toNat >>> (min i.toNat 32):=by
  obtain⟨n,rfl⟩:∃ n:Nat,a=(n:Int):=⟨a.toNat,by have:=ha.1;omega⟩
  have h3:((2:Int) ^ min i.toNat 32)=((2 ^ min i.toNat 32:Nat):Int):=by simp
  rw [Nat.shiftRight_eq_div_pow,Int.toNat_natCast,h3]
  exact Int.toNat_natCast _
 unfold bt
 rw [e,Nat.testBit_shiftRight]
 by_cases h:i.toNat<=32
 ·rw [zBf h]
 ·rw [zBz (by omega)]
  have h1:bt a (32+j)=false:=zAL.2 fun e=>by have:=bt_lt ha e;omega
  have h2:bt a (i.toNat+j)=false:=zAL.2 fun e=>by have:=bt_lt ha e;omega
  exact h1.trans h2.symm
theorem qEK{a i:Int}(ha:W32 a):(iand .u32 (ishr .u32 a i) 1==1)=bt a i.toNat:=by
 have h1:W32 (1:Int):=by unfold W32;omega
 have hb:∀ j,bt (1:Int) j=decide (j=0):=fun j=>by
  unfold bt
  rw [show (1:Int).toNat=2 ^ 0 from rfl,zBo]
  by_cases h:0=j
  ·subst h;rfl
  ·simp [h,Ne.symm h]
 have hs:=W32.ishr (i:=i) ha
 cases h:bt a i.toNat with
 | true=>
  have:iand .u32 (ishr .u32 a i) 1=1:=qCt W32.iand h1 fun j _=>by
   rw [qva hs h1,qCs ha,hb]
   cases j with
   | zero=>simpa using h
   | succ j=>simp
  simp [this]
 | false=>
  have:iand .u32 (ishr .u32 a i) 1=0:=qCt W32.iand W32.zero fun j _=>by
   rw [qva hs h1,qCs ha,hb,qik]
   cases j with
   | zero=>simpa using h
   | succ j=>simp
  simp [this]
def els(w:Int):List Nat:=(List.range 32).filter (bt w)
theorem quw{w:Int}(hw:W32 w){i:Nat}:i∈els w↔bt w i=true:=by
 unfold els
 rw [zp,zl]
 exact⟨fun h=>h.2,fun h=>⟨bt_lt hw h,h⟩⟩
theorem qyZ{w:Int}{i:Nat}:i∈els w↔i<32/\bt w i=true:=by
 unfold els
 rw [zp,zl]
end Go.Abs
namespace Go.Abs
abbrev WL(xs:List Int):Prop:=∀ x∈xs,W32 x
theorem qcv{α:Type}{z:α}{xs:List α}{i:Nat}(h:i<xs.length):nth z xs i=xs[i]:=by
 unfold nth;rw [zK,zX h];rfl
theorem qbJ{α:Type}{z:α}{xs:List α}{i:Nat}(h:i<xs.length):nth z xs i∈xs:=by
 rw [qcv h];exact zAq h
theorem WL.nth{xs:List Int}(h:WL xs)(i:Nat):W32 (nth 0 xs i):=by
 by_cases hi:i<xs.length
 ·exact h _ (qbJ hi)
 ·unfold Abs.nth;rw [zK,zR (by omega)];exact W32.zero
theorem nth_set{α:Type}{z:α}{xs:List α}{i:Nat}{v:α}(h:i<xs.length)(j:Nat):nth z (xs.set i v) j=if i=j then v else nth z xs j:=by
 unfold nth
 rw [zK,zK,zAg]
 by_cases hij:i=j
 ·subst hij;simp [h]
 ·simp [hij]
def one(i:Nat):Int:=ishl .u32 1 (i:Int)
theorem W32.one(i:Nat):W32 (one i):=W32.ishl
theorem qCr{i:Nat}(hi:i<32)(j:Nat):bt (one i) j=decide (j=i):=by
 unfold one
 rw [qFb (by omega)]
 by_cases h:j=i
 ·subst h;simp [hi]
 ·simp [h]
theorem w64{n:Int}(h1:-9223372036854775808<=n)(h2:n<=9223372036854775807):IntKind.i64.wrap n=n:=by rw [IntKind.wrap_i64];omega
theorem qfe{R S:Type}{g:S->(S->Option R)->Option R}(I:S->Prop)(m:S->Nat)(r:Option R)
  (hs:∀ s,I s->∀ kn:S->Option R,(∀ s',I s'->m s'<m s->kn s'=r)->g s kn=r) (N:Nat) (s:S) (hi:I s) (hm:m s<N):loopD g N s=r:=
 qwj I m (fun _=>r) hs N s hi hm
end Go.Abs
