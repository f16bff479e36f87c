import Derived.Test.YtgnnhemoocfclaaDoorGhD
import Derived.Test.YtgnnhemoocfclaaDoorGrP
namespace Go.Proofs.YtgnnhemoocfclaaDoor.Gh
open Go.Abs Go.Gr
theorem lt_d{i m:Nat}(h:i<m):decide ((i:Int)<(m:Int))=true:=qA (by omega)
theorem qbr(m:Nat):decide ((m:Int)<(m:Int))=false:=qK (by omega)
theorem ge0_d(i:Nat):decide ((0:Int)<=(i:Int))=true:=qA (by omega)
theorem mem_nth{α:Type}{z a:α}{xs:List α}(h:a∈xs):∃ t,t<xs.length/\nth z xs t=a:=by
 obtain⟨t,ht,e⟩:=zAY h
 exact⟨t,ht,by rw [qcU ht,e]⟩
theorem ix1{n i:Nat}(h:i<n)(hn:n<=100000):IntKind.i64.wrap ((i:Int)+1)=(i:Int)+1:=w64 (by omega) (by omega)
theorem loopD_s{R S:Type}(f:S->(S->Option R)->Option R)(n:Nat)(s:S):loopD f (n+1) s=f s (loopD f n):=rfl
abbrev Tr:=Int×Int×List Int
structure SOk (s:Tr):Prop where
 k1:1<=s.1
 k4:s.1+s.2.2.length<=4
abbrev Nd:=Int×Int×Int×Int×Int
abbrev Ed:=Int×Int×Int
theorem nd_eta(x:Nd):(x.1,x.2.1,x.2.2.1,x.2.2.2.1,x.2.2.2.2)=x:=rfl
def qaP(x:Nd):Bool:=decide (1<=x.2.1/\x.2.1<=4/\1<=x.1/\x.1<=6/\(x.1=1->x.2.1=1)/\(x.1=4->x.2.1≠4)/\(5<=x.1->2<=x.2.1))
theorem qdp{x:Nd}:qaP x=true↔(1<=x.2.1/\x.2.1<=4/\1<=x.1/\x.1<=6/\(x.1=1->x.2.1=1)/\(x.1=4->x.2.1≠4)/\(5<=x.1->2<=x.2.1)):=decide_eq_true_iff
def nsum(x:Nd):Tr:=if x.1=4 then (x.2.1,0,[0]) else if x.1=5 then (x.2.1 - 1,0,[]) else if x.1=6 then (x.2.1,1,[]) else (x.2.1,0,[])
def outOf(x:Nd):Int:=if x.1=4 then x.2.1+1 else if x.1=5 then x.2.1 - 1 else x.2.1
def prt(x:Nd):Int:=if x.1=1 then 0 else if x.1=3 then 2 else 1
theorem may_eq(N:Nat)(x:Nd):qbX N (x,())=some (qaP x,()):=by
 obtain⟨k,d,r⟩:=x
 simp only [qbX,qnj]
 rw [show IntKind.i64.wrap ((4:Int) - 1)=3 from rfl,show IntKind.i64.wrap ((1:Int)+1)=2 from rfl]
 by_cases h1:1<=k/\k<=6
 ·have hk:k=1\/k=2\/k=3\/k=4\/k=5\/k=6:=by omega
  by_cases h2:1<=d/\d<=4
  ·have hd:d=1\/d=2\/d=3\/d=4:=by omega
   rcases hk with rfl | rfl | rfl | rfl | rfl | rfl <;> rcases hd with rfl | rfl | rfl | rfl <;> rfl
  ·rw [show qaP (k,d,r)=false from qK (by simp only;omega)]
   by_cases h3:d<1
   ·have e1:decide (d>=1)=false:=qK (by omega)
    have e2:decide (d>=2)=false:=qK (by omega)
    rcases hk with rfl | rfl | rfl | rfl | rfl | rfl <;> simp [e1,e2]
   ·have e1:decide (d<=1)=false:=qK (by omega)
    have e2:decide (d<=3)=false:=qK (by omega)
    have e3:decide (d<=4)=false:=qK (by omega)
    have e4:decide (d>=1)=true:=qA (by omega)
    have e5:decide (d>=2)=true:=qA (by omega)
    rcases hk with rfl | rfl | rfl | rfl | rfl | rfl <;> simp [e1,e2,e3,e4,e5] <;> omega
 ·rw [show qaP (k,d,r)=false from qK (by simp only;omega),show (k==1)=false from zW (by omega),show (k==2)=false from zW (by omega),show (k==3)=false from zW (by omega),
   show (k==4)=false from zW (by omega),show (k==5)=false from zW (by omega),show (k==6)=false from zW (by omega)];rfl
theorem nsum_out{x:Nd}(h:qaP x=true):SOk (nsum x)/\(nsum x).1+(nsum x).2.2.length=outOf x:=by
 have:=qdp.1 h
 unfold nsum outOf
 by_cases h4:x.1=4
 ·rw [zH h4,zH h4];exact⟨⟨by simp;omega,by simp;omega⟩,rfl⟩
 rw [zK h4,zK h4]
 by_cases h5:x.1=5
 ·rw [zH h5,zH h5];exact⟨⟨by simp;omega,by simp;omega⟩,by simp⟩
 rw [zK h5,zK h5]
 by_cases h6:x.1=6
 ·rw [zH h6];exact⟨⟨by simp;omega,by simp;omega⟩,by simp⟩
 ·rw [zK h6];exact⟨⟨by simp;omega,by simp;omega⟩,by simp⟩
structure EdgeX (ns:List Nd) (es:List Ed) (i:Nat) (x:Ed):Prop where
 f0:0<=x.1
 fn:x.1<ns.length
 t0:0<=x.2.1
 tn:x.2.1<ns.length
 p0:0<=x.2.2
 pn:x.2.2<prt (nth (0,0,0,0,0) ns x.2.1.toNat)
 own:∀ j,j<i->¬ ((nth (0,0,0) es j).2.1=x.2.1/\(nth (0,0,0) es j).2.2=x.2.2)
 deep:outOf (nth (0,0,0,0,0) ns x.1.toNat)=(nth (0,0,0,0,0) ns x.2.1.toNat).2.1
abbrev quL(ns:List Nd)(es:List Ed)(i:Nat):Prop:=EdgeX ns es i (nth (0,0,0) es i)
end Go.Proofs.YtgnnhemoocfclaaDoor.Gh
