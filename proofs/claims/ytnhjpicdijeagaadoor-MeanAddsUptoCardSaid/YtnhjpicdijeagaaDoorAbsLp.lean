import Derived.Test.YtnhjpicdijeagaaDoorAbsFrag
namespace Go.Abs
section
variable {R S : Type}
theorem quC{g:S->(S->Option R)->Option R}(I:S->Prop)(m:S->Nat)(out:S->Option R)
  (hs:∀ s,I s->∀ kn:S->Option R,(∀ s',I s'->m s'<m s->kn s'=out s')->g s kn=out s):∀ N s,I s->m s<N->loopD g N s=out s
 | 0,_,_,h=>by omega
 | N+1,s,hi,hm=>hs s hi _ fun s' hi' hm'=>quC I m out hs N s' hi' (by omega)
theorem quM{α:Type}{f:α->S->(S->Option R)->Option R}{k:S->Option R}{x:α}{xs:List α}{s:S}:forD f k (x :: xs) s=f x s (forD f k xs):=rfl
end
end Go.Abs
namespace Go.Abs
def bt(w:Int)(i:Nat):Bool:=w.toNat.testBit i
abbrev W32(w:Int):Prop:=0<=w/\w<=4294967295
theorem wrap_u32(n:Int):IntKind.u32.wrap n=n % 4294967296:=by
 rw [IntKind.wrap_u32]
theorem W32.wrap(n:Int):W32 (IntKind.u32.wrap n):=by rw [wrap_u32];unfold W32;omega
theorem W32.iand{a b:Int}:W32 (iand .u32 a b):=W32.wrap _
theorem W32.ior{a b:Int}:W32 (ior .u32 a b):=W32.wrap _
theorem W32.ixor{a b:Int}:W32 (ixor .u32 a b):=W32.wrap _
theorem W32.iandNot{a b:Int}:W32 (iandNot .u32 a b):=W32.wrap _
theorem W32.ishl{a b:Int}:W32 (ishl .u32 a b):=W32.wrap _
theorem bt_bv(x:BitVec 32)(i:Nat):bt (IntKind.u32.wrap (x.toNat:Int)) i=x.getLsbD i:=by
 have:IntKind.u32.wrap (x.toNat:Int)=(x.toNat:Int):=by rw [wrap_u32];have:=x.isLt;omega
 rw [this];rfl
theorem qhS{a:Int}(ha:W32 a)(i:Nat):(BitVec.ofInt 32 a).getLsbD i=bt a i:=by
 have e:a=(a.toNat:Int):=by have:=ha.1;omega
 have h2:a.toNat<2 ^ 32:=by have:=ha.1;have:=ha.2;omega
 unfold bt
 rw [e,BitVec.ofInt_natCast,BitVec.getLsbD_ofNat]
 simp only [Int.toNat_natCast]
 by_cases hi:i<32
 ·simp [hi]
 ·rw [zBj (zM h2 (zBn (by omega) (by omega)))];simp
theorem qtu{a b:Int}(ha:W32 a)(hb:W32 b)(i:Nat):bt (iand .u32 a b) i=(bt a i&&bt b i):=by
 show bt (IntKind.u32.wrap ((BitVec.ofInt 32 a &&& BitVec.ofInt 32 b).toNat:Int)) i=_
 rw [bt_bv,BitVec.getLsbD_and,qhS ha,qhS hb]
theorem qvq{a b:Int}(ha:W32 a)(hb:W32 b)(i:Nat):bt (ior .u32 a b) i=(bt a i||bt b i):=by
 show bt (IntKind.u32.wrap ((BitVec.ofInt 32 a ||| BitVec.ofInt 32 b).toNat:Int)) i=_
 rw [bt_bv,BitVec.getLsbD_or,qhS ha,qhS hb]
theorem bt_lt{a:Int}(ha:W32 a){i:Nat}(h:bt a i=true):i<32:=by
 rcases zAO i 32 with hl | hg
 ·exact hl
 ·have h2:a.toNat<2 ^ 32:=by have:=ha.1;have:=ha.2;omega
  unfold bt at h
  rw [zBj (zM h2 (zBn (by omega) hg))] at h
  cases h
theorem qyT{a b:Int}(ha:W32 a)(hb:W32 b)(i:Nat):bt (iandNot .u32 a b) i=(bt a i && !bt b i):=by
 show bt (IntKind.u32.wrap ((BitVec.ofInt 32 a &&& ~~~ BitVec.ofInt 32 b).toNat:Int)) i=_
 rw [bt_bv,BitVec.getLsbD_and,BitVec.getLsbD_not,qhS ha,qhS hb]
 cases h:bt a i with
 | false=>simp
 | true=>simp [bt_lt ha h]
theorem qgA(i:Nat):bt 0 i=false:=by simp [bt]
theorem qBc{a b:Int}(ha:W32 a)(hb:W32 b)(h:∀ i,i<32->bt a i=bt b i):a=b:=by
 have:a.toNat=b.toNat:=Nat.eq_of_testBit_eq fun i=>by
  by_cases hi:i<32
  ·exact h i hi
  ·have h1:bt a i=false:=zAJ.2 fun e=>hi (bt_lt ha e)
   have h2:bt b i=false:=zAJ.2 fun e=>hi (bt_lt hb e)
   exact h1.trans h2.symm
 have:=ha.1;have:=hb.1;omega
theorem W32.zero:W32 0:=by unfold W32;omega
theorem qDZ{i:Int}(_hi:0<=i)(j:Nat):bt (ishl .u32 1 i) j=(decide (j=i.toNat)&&decide (j<32)):=by
 unfold ishl
 rw [zCS,wrap_u32]
 have hb:IntKind.u32.bits=32:=rfl
 rw [hb]
 by_cases h:i.toNat<32
 ·rw [zBH (by omega)]
  have e:((2:Int) ^ i.toNat) % 4294967296=((2 ^ i.toNat:Nat):Int):=by
   have h1:(2:Nat) ^ i.toNat<2 ^ 32:=Nat.pow_lt_pow_right (by omega) h
   have h2:((2:Int) ^ i.toNat)=((2 ^ i.toNat:Nat):Int):=by simp
   have h3:(2:Nat) ^ 32=4294967296:=by decide
   rw [h2,Int.emod_eq_of_lt (Int.natCast_nonneg _) (by omega)]
  rw [e]
  unfold bt
  rw [Int.toNat_natCast,zBt]
  by_cases hj:i.toNat=j
  ·subst hj;simp [h]
  ·simp [hj,Ne.symm hj]
 ·rw [zCJ (by omega)]
  have:((2:Int) ^ 32) % 4294967296=0:=by decide
  rw [this,qgA]
  by_cases hj:j=i.toNat
  ·subst hj;simp [h]
  ·simp [hj]
theorem W32.ishr{a i:Int}(ha:W32 a):W32 (Abs.ishr .u32 a i):=by
 unfold Abs.ishr
 have h1:(0:Int)<2 ^ (min i.toNat IntKind.u32.bits):=Int.pow_pos (by omega)
 rw [zCT _ (by omega)]
 refine⟨Int.ediv_nonneg ha.1 (by omega),?_⟩
 exact Int.le_trans (Int.ediv_le_self _ ha.1) ha.2
theorem qBb{a i:Int}(ha:W32 a)(j:Nat):bt (ishr .u32 a i) j=bt a (i.toNat+j):=by
 unfold ishr
 have hb:IntKind.u32.bits=32:=rfl
 rw [hb]
 have h1:(0:Int)<2 ^ (min i.toNat 32):=Int.pow_pos (by omega)
 rw [zCT _ (by omega)]
 have e:(a / 2 ^ (min i.toNat 32)).toNat=a.toNat >>> (min i.toNat 32):=by
  obtain⟨n,rfl⟩:∃ n:Nat,a=(n:Int):=⟨a.toNat,by have:=ha.1;omega⟩
  have h3:((2:Int) ^ min i.toNat 32)=((2 ^ min i.toNat 32:Nat):Int):=by simp
  rw [Nat.shiftRight_eq_div_pow,Int.toNat_natCast,h3]
  exact Int.toNat_natCast _
 unfold bt
 rw [e,Nat.testBit_shiftRight]
 by_cases h:i.toNat<=32
 ·rw [zBH h]
 ·rw [zCJ (by omega)]
  have h1:bt a (32+j)=false:=zAJ.2 fun e=>by have:=bt_lt ha e;omega
  have h2:bt a (i.toNat+j)=false:=zAJ.2 fun e=>by have:=bt_lt ha e;omega
  exact h1.trans h2.symm
theorem qDI{a i:Int}(ha:W32 a):(iand .u32 (ishr .u32 a i) 1==1)=bt a i.toNat:=by
 have h1:W32 (1:Int):=by unfold W32;omega
 have hb:∀ j,bt (1:Int) j=decide (j=0):=fun j=>by
  unfold bt
  rw [show (1:Int).toNat=2 ^ 0 from rfl,zBt]
  by_cases h:0=j
  ·subst h;rfl
  ·simp [h,Ne.symm h]
 have hs:=W32.ishr (i:=i) ha
 cases h:bt a i.toNat with
 | true=>
  have:iand .u32 (ishr .u32 a i) 1=1:=qBc W32.iand h1 fun j _=>by
   rw [qtu hs h1,qBb ha,hb]
   cases j with
   | zero=>simpa using h
   | succ j=>simp
  simp [this]
 | false=>
  have:iand .u32 (ishr .u32 a i) 1=0:=qBc W32.iand W32.zero fun j _=>by
   rw [qtu hs h1,qBb ha,hb,qgA]
   cases j with
   | zero=>simpa using h
   | succ j=>simp
  simp [this]
def els(w:Int):List Nat:=(List.range 32).filter (bt w)
theorem qsP{w:Int}(hw:W32 w){i:Nat}:i∈els w↔bt w i=true:=by
 unfold els
 rw [zc,zg]
 exact⟨fun h=>h.2,fun h=>⟨bt_lt hw h,h⟩⟩
theorem qxB{w:Int}{i:Nat}:i∈els w↔i<32/\bt w i=true:=by
 unfold els
 rw [zc,zg]
end Go.Abs
namespace Go.Abs
abbrev WL(xs:List Int):Prop:=∀ x∈xs,W32 x
theorem qfj{α:Type}{z:α}{xs:List α}{i:Nat}(h:i<xs.length):nth z xs i=xs[i]:=by
 unfold nth;rw [zK,zW h];rfl
theorem qdP{α:Type}{z:α}{xs:List α}{i:Nat}(h:i<xs.length):nth z xs i∈xs:=by
 rw [qfj h];exact zAu h
theorem WL.nth{xs:List Int}(h:WL xs)(i:Nat):W32 (nth 0 xs i):=by
 by_cases hi:i<xs.length
 ·exact h _ (qdP hi)
 ·unfold Abs.nth;rw [zK,zX (by omega)];exact W32.zero
def one(i:Nat):Int:=ishl .u32 1 (i:Int)
theorem W32.one(i:Nat):W32 (one i):=W32.ishl
theorem qBa{i:Nat}(hi:i<32)(j:Nat):bt (one i) j=decide (j=i):=by
 unfold one
 rw [qDZ (by omega)]
 by_cases h:j=i
 ·subst h;simp [hi]
 ·simp [h]
theorem w64{n:Int}(h1:-9223372036854775808<=n)(h2:n<=9223372036854775807):IntKind.i64.wrap n=n:=by rw [IntKind.wrap_i64];omega
theorem qpD{R S:Type}{g:S->(S->Option R)->Option R}(I:S->Prop)(m:S->Nat)(r:Option R)
  (hs:∀ s,I s->∀ kn:S->Option R,(∀ s',I s'->m s'<m s->kn s'=r)->g s kn=r) (N:Nat) (s:S) (hi:I s) (hm:m s<N):loopD g N s=r:=
 quC I m (fun _=>r) hs N s hi hm
end Go.Abs
