import Derived.Test.YtgnnhemoocfclaaDoorReaA
import Derived.Test.YtgnnhemoocfclaaDoorReaM
namespace Go.Proofs.YtgnnhemoocfclaaDoor
open Go.Abs
end Go.Proofs.YtgnnhemoocfclaaDoor
namespace Go.Proofs.YtgnnhemoocfclaaDoor.Rea
open Go.Abs
open Go.Smy (Sm qw qy qay qaX qaH leqP qaJ thenS)
open Go.Proofs.YtgnnhemoocfclaaDoor.Gh (Nd Ed nsum qaP GrOk qbJ)
structure AplOk (x:Tr) (t:List Int):Prop where
 tk:tok t=true
 chk:qw (sm x) t.length=0
 big:nth 0 t (x.1.toNat - 1)+x.2.1<=1048576
section
variable {ns : List Nd} {es : List Ed}
structure Sok (ns:List Nd) (s:Int×List Int):Prop where
 a0:0<=s.1
 an:s.1<ns.length
 tk:tok s.2=true
 len:(s.2.length:Int)=dp ns s.1
theorem qvw{N:Nat}(hN:200000000<=N)(s:Int×List Int):∃ e,qcI N ((ns,es),s,())=some (e,())/\(e=0↔Sok ns s):=by
 simp only [qcI,qjO]
 by_cases h0:s.1<0
 ·exact⟨2,by rw [qA h0,cond_true],⟨fun e=>(by cases e),fun h=>(by have:=h.a0;omega)⟩⟩
 by_cases hn:s.1>=ns.length
 ·exact⟨2,by rw [qK h0,qA hn,cond_true,cond_false],⟨fun e=>(by cases e),fun h=>(by have:=h.an;omega)⟩⟩
 rw [qK h0,qK hn,cond_false,cond_false]
 obtain⟨c,hc,hc0⟩:=Check_eq hN s.2
 simp only [hc,Option.bind_some]
 by_cases h1:c=0
 case neg=>exact⟨c,by rw [bne_iff_ne.2 h1,cond_true],fun e=>absurd e h1,fun h=>absurd (hc0.2 h.tk) h1⟩
 subst h1
 rw [bne_self_eq_false,cond_false,qA (show 0<=s.1 by omega),qA (show s.1<(ns.length:Int) by omega),Bool.and_self,cond_true]
 by_cases h2:(s.2.length:Int)=dp ns s.1
 ·refine⟨0,?_,fun _=>⟨by omega,by omega,hc0.1 rfl,h2⟩,fun _=>rfl⟩
  rw [show ((s.2.length:Int) != ((nth ((0:Int),((0:Int),((0:Int),((0:Int),(0:Int))))) ns s.1.toNat).2).1)=false from bne_eq_false_iff_eq.2 h2,cond_false]
 ·refine⟨7,?_,⟨fun e=>(by cases e),fun h=>absurd h.len h2⟩⟩
  rw [show ((s.2.length:Int) != ((nth ((0:Int),((0:Int),((0:Int),((0:Int),(0:Int))))) ns s.1.toNat).2).1)=true from bne_iff_ne.2 h2,cond_true]
def could(ns:List Nd)(P:List (List Tr))(a b:Int×List Int):Prop:=∃ r∈rw_ ns.length P a.1 b.1,AplOk r a.2/\undr (apl r a.2) b.2=true
theorem lD2{R S:Type}(f:S->(S->Option R)->Option R)(n:Nat)(s:S):loopD f (n+1) s=f s (loopD f n):=rfl
end
end Go.Proofs.YtgnnhemoocfclaaDoor.Rea
namespace Go.Proofs.YtgnnhemoocfclaaDoor.Rea
open Go.Abs
open Go.Smy (Sm qw qy qay qaX qaH leqP qaJ thenS)
open Go.Proofs.YtgnnhemoocfclaaDoor.Gh (Nd Ed nsum qaP GrOk qbJ)
section
variable {ns : List Nd} {es : List Ed} {P : List (List Tr)}
end
end Go.Proofs.YtgnnhemoocfclaaDoor.Rea
namespace Go.Proofs.YtgnnhemoocfclaaDoor.Rea
open Go.Abs
open Go.Proofs.YtgnnhemoocfclaaDoor.Gh (Nd Ed nsum qaP GrOk qbJ)
section
variable {ns : List Nd} {es : List Ed} {P : List (List Tr)}
end
end Go.Proofs.YtgnnhemoocfclaaDoor.Rea
namespace Go.Proofs.YtgnnhemoocfclaaDoor
open Go.Abs
namespace Rea
open Go.Proofs.YtgnnhemoocfclaaDoor.Gh (Nd Ed nsum qaP GrOk qbJ)
end Rea
end Go.Proofs.YtgnnhemoocfclaaDoor
