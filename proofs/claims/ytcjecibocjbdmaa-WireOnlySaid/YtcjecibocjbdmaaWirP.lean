import Derived.Test.YtcjecibocjbdmaaAbsOrd
import Derived.Test.YtcjecibocjbdmaaAbsLp
namespace Go.Wir
open Go.Abs
def Byt(x:Int):Prop:=0<=x/\x<=255
theorem byt_wrap(n:Int):Byt (IntKind.u8.wrap n):=by
 have h:IntKind.u8.wrap n=n % 256:=by
  unfold IntKind.wrap
  simp [IntKind.signed,IntKind.bits]
 unfold Byt
 rw [h];omega
theorem byt_ior(a b:Int):Byt (ior .u8 a b):=byt_wrap _
def smS:List Int->Int
 | []=>0
 | x :: r=>(smS r+x) % 65521
def smA:List Int->Int
 | []=>0
 | x :: r=>(smA r+(smS r+x) % 65521) % 65521
def sS:List Int->Int
 | []=>0
 | x :: r=>sS r+x
def sT:List Int->Int
 | []=>0
 | x :: r=>sT r+sS r+x
theorem smS_eq:∀ b,smS b=sS b % 65521
 | []=>rfl
 | x :: r=>by rw [smS,sS,smS_eq r];omega
theorem smA_eq:∀ b,smA b=sT b % 65521
 | []=>rfl
 | x :: r=>by rw [smA,sT,smA_eq r,smS_eq r];omega
theorem smA_lt(b:List Int):0<=smA b/\smA b<65521:=by rw [smA_eq];omega
theorem smS_lt(b:List Int):0<=smS b/\smS b<65521:=by rw [smS_eq];omega
end Go.Wir
