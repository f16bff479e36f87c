import Derived.Test.YtcjecibocjbdmaaAbsOrd
import Derived.Test.YtcjecibocjbdmaaAbsLp
namespace Go.Wir
open Go.Abs
def Byt(x:Int):Prop:=0<=x/\x<=255
theorem byt_wrap(n:Int):Byt (IntKind.u8.wrap n):=by
 have h:IntKind.u8.wrap n=n % 256:=by
  unfold IntKind.wrap
  simp [IntKind.signed,IntKind.bits]
 unfold Byt
 rw [h];omega
theorem wrap_byt{n:Int}(h1:0<=n)(h2:n<=255):IntKind.u8.wrap n=n:=by
 have h:IntKind.u8.wrap n=n % 256:=by
  unfold IntKind.wrap
  simp [IntKind.signed,IntKind.bits]
 rw [h];omega
theorem wrap_mod(n:Int):IntKind.u8.wrap n=n % 256:=by
 unfold IntKind.wrap
 simp [IntKind.signed,IntKind.bits]
theorem byt_ior(a b:Int):Byt (ior .u8 a b):=byt_wrap _
theorem ior_two{a c:Int}(ha:Byt a)(hc:Byt c):ior .i64 a (ishl .i64 c 8)=a+256*c:=by
 have h1:ishl .i64 c 8=c*256:=by
  unfold ishl
  have:(2:Int) ^ (min (8:Int).toNat IntKind.i64.bits)=256:=by decide
  rw [this,w64 (by have:=hc.1;omega) (by have:=hc.2;omega)]
 rw [h1]
 unfold ior
 obtain⟨x,rfl⟩:=zAo ha.1
 obtain⟨y,rfl⟩:=zAo hc.1
 have hx:x<=255:=by have:=ha.2;omega
 have hy:y<=255:=by have:=hc.2;omega
 have e1:BitVec.ofInt IntKind.i64.bits ((x:Nat):Int)=BitVec.ofNat 64 x:=by simp [IntKind.bits]
 have e2:BitVec.ofInt IntKind.i64.bits (((y:Nat):Int)*256)=BitVec.ofNat 64 (y*256):=by
  show BitVec.ofInt 64 (((y:Nat):Int)*256)=_
  rw [show ((y:Nat):Int)*256=((y*256:Nat):Int) by omega,BitVec.ofInt_natCast]
 rw [e1,e2]
 have e3:(BitVec.ofNat 64 x ||| BitVec.ofNat 64 (y*256)).toNat=y*256+x:=by
  rw [BitVec.toNat_or,BitVec.toNat_ofNat,BitVec.toNat_ofNat,zAg (by omega),zAg (by omega),Nat.or_comm]
  have:=zBz (a:=y) (b:=x) (i:=8) (by omega)
  rw [Nat.shiftLeft_eq] at this
  exact this.symm
 have e4:((BitVec.ofNat 64 x ||| BitVec.ofNat 64 (y*256)).toNat:Int)=(y:Int)*256+x:=by rw [e3];omega
 show IntKind.i64.wrap ((BitVec.ofNat 64 x ||| BitVec.ofNat 64 (y*256)).toNat:Int)=_
 rw [e4,w64 (by omega) (by omega)]
 omega
def smS:List Int->Int
 | []=>0
 | x :: r=>(smS r+x) % 65521
def smA:List Int->Int
 | []=>0
 | x :: r=>(smA r+(smS r+x) % 65521) % 65521
def sS:List Int->Int
 | []=>0
 | x :: r=>sS r+x
def sT:List Int->Int
 | []=>0
 | x :: r=>sT r+sS r+x
theorem smS_eq:∀ b,smS b=sS b % 65521
 | []=>rfl
 | x :: r=>by rw [smS,sS,smS_eq r];omega
theorem smA_eq:∀ b,smA b=sT b % 65521
 | []=>rfl
 | x :: r=>by rw [smA,sT,smA_eq r,smS_eq r];omega
theorem smA_lt(b:List Int):0<=smA b/\smA b<65521:=by rw [smA_eq];omega
theorem smS_lt(b:List Int):0<=smS b/\smS b<65521:=by rw [smS_eq];omega
end Go.Wir
