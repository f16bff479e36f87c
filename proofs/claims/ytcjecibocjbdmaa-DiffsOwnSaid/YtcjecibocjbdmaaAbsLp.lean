import Derived.Test.YtcjecibocjbdmaaAbsFrag
namespace Go.Abs
section
variable {R S : Type}
theorem loopD_run{g:S->(S->Option R)->Option R}(I:S->Prop)(m:S->Nat)(out:S->Option R)
  (hs:∀ s,I s->∀ kn:S->Option R,(∀ s',I s'->m s'<m s->kn s'=out s')->g s kn=out s):∀ N s,I s->m s<N->loopD g N s=out s
 | 0,_,_,h=>by omega
 | N+1,s,hi,hm=>hs s hi _ fun s' hi' hm'=>loopD_run I m out hs N s' hi' (by omega)
end
end Go.Abs
namespace Go.Abs
def bt(w:Int)(i:Nat):Bool:=w.toNat.testBit i
abbrev W32(w:Int):Prop:=0<=w/\w<=4294967295
theorem wrap_u32(n:Int):IntKind.u32.wrap n=n % 4294967296:=by
 rw [IntKind.wrap_u32]
theorem W32.wrap(n:Int):W32 (IntKind.u32.wrap n):=by rw [wrap_u32];unfold W32;omega
theorem W32.iand{a b:Int}:W32 (iand .u32 a b):=W32.wrap _
theorem W32.ior{a b:Int}:W32 (ior .u32 a b):=W32.wrap _
theorem W32.ixor{a b:Int}:W32 (ixor .u32 a b):=W32.wrap _
theorem W32.iandNot{a b:Int}:W32 (iandNot .u32 a b):=W32.wrap _
theorem W32.ishl{a b:Int}:W32 (ishl .u32 a b):=W32.wrap _
theorem W32.zero:W32 0:=by unfold W32;omega
theorem W32.ishr{a i:Int}(ha:W32 a):W32 (Abs.ishr .u32 a i):=by
 unfold Abs.ishr
 have h1:(0:Int)<2 ^ (min i.toNat IntKind.u32.bits):=Int.pow_pos (by omega)
 rw [Int.fdiv_eq_ediv_of_nonneg _ (by omega)]
 refine⟨Int.ediv_nonneg ha.1 (by omega),?_⟩
 exact Int.le_trans (Int.ediv_le_self _ ha.1) ha.2
end Go.Abs
namespace Go.Abs
abbrev WL(xs:List Int):Prop:=∀ x∈xs,W32 x
theorem nth_lt{α:Type}{z:α}{xs:List α}{i:Nat}(h:i<xs.length):nth z xs i=xs[i]:=by
 unfold nth;rw [zI,zP h];rfl
theorem nth_mem{α:Type}{z:α}{xs:List α}{i:Nat}(h:i<xs.length):nth z xs i∈xs:=by
 rw [nth_lt h];exact zAX h
theorem WL.nth{xs:List Int}(h:WL xs)(i:Nat):W32 (nth 0 xs i):=by
 by_cases hi:i<xs.length
 ·exact h _ (nth_mem hi)
 ·unfold Abs.nth;rw [zI,zM (by omega)];exact W32.zero
def one(i:Nat):Int:=ishl .u32 1 (i:Int)
theorem W32.one(i:Nat):W32 (one i):=W32.ishl
theorem w64{n:Int}(h1:-9223372036854775808<=n)(h2:n<=9223372036854775807):IntKind.i64.wrap n=n:=by rw [IntKind.wrap_i64];omega
theorem loopD_const{R S:Type}{g:S->(S->Option R)->Option R}(I:S->Prop)(m:S->Nat)(r:Option R)
  (hs:∀ s,I s->∀ kn:S->Option R,(∀ s',I s'->m s'<m s->kn s'=r)->g s kn=r) (N:Nat) (s:S) (hi:I s) (hm:m s<N):loopD g N s=r:=
 loopD_run I m (fun _=>r) hs N s hi hm
end Go.Abs
