import Derived.Test.YtcjecibocjbdmaaBg9
import Derived.Test.YtcjecibocjbdmaaBagP
import Derived.Test.YtcjecibocjbdmaaAbsMp
namespace Go.Proofs.Ytcjecibocjbdmaa
open Go.Abs Go.Bag
theorem lt_d{i m:Nat}(h:i<m):decide ((i:Int)<(m:Int))=true:=d_true (by omega)
theorem lt_self(m:Nat):decide ((m:Int)<(m:Int))=false:=d_false (by omega)
theorem ge0_d(i:Nat):decide ((0:Int)<=(i:Int))=true:=d_true (by omega)
theorem mem_nth{α:Type}{z a:α}{xs:List α}(h:a∈xs):∃ t,t<xs.length/\nth z xs t=a:=by
 obtain⟨t,ht,e⟩:=zAm h
 exact⟨t,ht,by rw [nth_lt ht,e]⟩
theorem ix1{n i:Nat}(h:i<n)(hn:n<=4611686018427387904):IntKind.i64.wrap ((i:Int)+1)=(i:Int)+1:=w64 (by omega) (by omega)
abbrev kS:Sh:=.pair (.int .i64) (.int .i64)
abbrev vS:Sh:=.int .i64
abbrev Bg:Type:=Int×List (Int×(Int×Int)×Int)
structure BOk (f:Key->Int) (d:Bg):Prop where
 ok:MpOk kS vS d
 nz:∀ e∈d.2,e.2.2≠0
 val:∀ e:Int×Int,mpGet kS vS d e=w (f e)
theorem BOk.empty:BOk (fun _=>0) ((0:Int),[]):=⟨MpOk.empty,(fun e h=>by cases h),fun e=>by rw [w_zero];rfl⟩
theorem BOk.cg{f g:Key->Int}{d:Bg}(h:BOk f d)(hg:∀ e,Cg (f e) (g e)):BOk g d:=⟨h.ok,h.nz,fun e=>(h.val e).trans (hg e)⟩
end Go.Proofs.Ytcjecibocjbdmaa
