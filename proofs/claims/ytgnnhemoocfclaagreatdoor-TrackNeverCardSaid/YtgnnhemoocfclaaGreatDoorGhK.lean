import Derived.Test.YtgnnhemoocfclaaGreatDoorGhC
namespace Go.Proofs.YtgnnhemoocfclaaGreatDoor.Gh
open Go.Abs Go.Gr
def cnt(es:List Ed)(i:Nat):Nat:=es.countP fun e=>decide (e.2.1=(i:Int))
def qcR(ns:List Nd)(j:Nat):Int:=(nth z5 ns j).2.1
structure GrOk (ns:List Nd) (es:List Ed):Prop where
 n12:ns.length<=12
 e20:es.length<=20
 nodes:∀ x∈ns,qby x=true
 edges:∀ i,i<es.length->qzD ns es i
 ports:∀ i,i<ns.length->prt (nth z5 ns i)<=cnt es i
 rings:∀ i j,i<ns.length->j<ns.length->¬ (Pk (EdG ns es (qcR ns j)) ns.length i j/\Pk (EdG ns es (qcR ns j)) ns.length j i)
theorem GrOk.deep{ns:List Nd}{es:List Ed}(h:GrOk ns es){j:Nat}(hj:j<ns.length):1<=qcR ns j/\qcR ns j<=4:=by
 have:=qfo.1 (h.nodes _ (qbJ (z:=z5) hj))
 exact⟨this.1,this.2.1⟩
section
variable {N : Nat} {ns : List Nd} {es : List Ed}
theorem w3{x:Int}(h1:1<=x)(h4:x<=4):IntKind.i64.wrap (x - 1)=((x.toNat - 1:Nat):Int):=by rw [w64 (by omega) (by omega)];omega
end
end Go.Proofs.YtgnnhemoocfclaaGreatDoor.Gh
