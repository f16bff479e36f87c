import Derived.Test.YtcjecibocjbdmaaQue
import Derived.Test.YtcjecibocjbdmaaAbsLat
namespace Go.Proofs.Ytcjecibocjbdmaa
open Go.Abs
abbrev BR:Type:=Bool×Rng
abbrev zc:Cl16:=(0,0,0,0,0,0,0,0,0,0,0,0,0,0,0,0)
abbrev zb:BR:=(false,zc,0,0,0)
theorem lt_d{i m:Nat}(h:i<m):decide ((i:Int)<(m:Int))=true:=qag (by omega)
theorem qfI(m:Nat):decide ((m:Int)<(m:Int))=false:=qW (by omega)
theorem ge0_d(i:Nat):decide ((0:Int)<=(i:Int))=true:=qag (by omega)
theorem qkc{α:Type}{z:α}{xs ys:List α}{i:Nat}(h:i<xs.length):nth z (xs++ys) i=nth z xs i:=by
 rw [qcf h,qcf (show i<(xs++ys).length by rw [zR];omega),List.getElem_append_left h]
theorem qkb{α:Type}{z x:α}{xs:List α}:nth z (xs ++ [x]) xs.length=x:=by
 rw [qcf (by simp),List.getElem_append_right (Nat.le_refl _)];simp
def set16(c:Cl16)(k:Nat)(x:Int):Cl16:=
 (if k=0 then x else c.1,if k=1 then x else c.2.1,if k=2 then x else c.2.2.1,if k=3 then x else c.2.2.2.1,if k=4 then x else c.2.2.2.2.1,if k=5 then x else c.2.2.2.2.2.1,if k=6 then x else c.2.2.2.2.2.2.1,if k=7 then x else c.2.2.2.2.2.2.2.1,if k=8 then x else c.2.2.2.2.2.2.2.2.1,if k=9 then x else c.2.2.2.2.2.2.2.2.2.1,if k=10 then x else c.2.2.2.2.2.2.2.2.2.2.1,if k=11 then x else c.2.2.2.2.2.2.2.2.2.2.2.1,if k=12 then x else c.2.2.2.2.2.2.2.2.2.2.2.2.1,if k=13 then x else c.2.2.2.2.2.2.2.2.2.2.2.2.2.1,if k=14 then x else c.2.2.2.2.2.2.2.2.2.2.2.2.2.2.1,if k=15 then x else c.2.2.2.2.2.2.2.2.2.2.2.2.2.2.2)
theorem k16{k:Nat}(h:k<16):k=0\/k=1\/k=2\/k=3\/k=4\/k=5\/k=6\/k=7\/k=8\/k=9\/k=10\/k=11\/k=12\/k=13\/k=14\/k=15:=by omega
theorem qoe(c:Cl16){k:Nat}(h:k<16)(x:Int):cl16 (set16 c k x)=(cl16 c).set k x:=by
 rcases k16 h with rfl | rfl | rfl | rfl | rfl | rfl | rfl | rfl | rfl | rfl | rfl | rfl | rfl | rfl | rfl | rfl <;> rfl
theorem qof(c:Cl16):(cl16 c).length=16:=rfl
theorem qoi(N:Nat)(x:Int)(r:Rng)(h:r.2.2.1=r.2.2.2):qo N (x,r.1.1,r.1.2.1,r.1.2.2.1,r.1.2.2.2.1,r.1.2.2.2.2.1,r.1.2.2.2.2.2.1,r.1.2.2.2.2.2.2.1,r.1.2.2.2.2.2.2.2.1,r.1.2.2.2.2.2.2.2.2.1,r.1.2.2.2.2.2.2.2.2.2.1,r.1.2.2.2.2.2.2.2.2.2.2.1,r.1.2.2.2.2.2.2.2.2.2.2.2.1,r.1.2.2.2.2.2.2.2.2.2.2.2.2.1,r.1.2.2.2.2.2.2.2.2.2.2.2.2.2.1,r.1.2.2.2.2.2.2.2.2.2.2.2.2.2.2.1,r.1.2.2.2.2.2.2.2.2.2.2.2.2.2.2.2,r.2.1,r.2.2.1,r.2.2.2)=some (false,r.1.1,r.1.2.1,r.1.2.2.1,r.1.2.2.2.1,r.1.2.2.2.2.1,r.1.2.2.2.2.2.1,r.1.2.2.2.2.2.2.1,r.1.2.2.2.2.2.2.2.1,r.1.2.2.2.2.2.2.2.2.1,r.1.2.2.2.2.2.2.2.2.2.1,r.1.2.2.2.2.2.2.2.2.2.2.1,r.1.2.2.2.2.2.2.2.2.2.2.2.1,r.1.2.2.2.2.2.2.2.2.2.2.2.2.1,r.1.2.2.2.2.2.2.2.2.2.2.2.2.2.1,r.1.2.2.2.2.2.2.2.2.2.2.2.2.2.2.1,r.1.2.2.2.2.2.2.2.2.2.2.2.2.2.2.2,r.2.1,r.2.2.1,r.2.2.2):=by
 simp only [qo,qab,beq_iff_eq.2 h,cond_true]
theorem qph(N:Nat)(x:Int)(r:Rng)(f n:Nat)(hf:r.2.1=(f:Int))(hf16:f<16)(hn:r.2.2.1=(n:Int))(hn16:n<=16)(hne:r.2.2.1≠r.2.2.2) :
  ∃ y,qo N (x,r.1.1,r.1.2.1,r.1.2.2.1,r.1.2.2.2.1,r.1.2.2.2.2.1,r.1.2.2.2.2.2.1,r.1.2.2.2.2.2.2.1,r.1.2.2.2.2.2.2.2.1,r.1.2.2.2.2.2.2.2.2.1,r.1.2.2.2.2.2.2.2.2.2.1,r.1.2.2.2.2.2.2.2.2.2.2.1,r.1.2.2.2.2.2.2.2.2.2.2.2.1,r.1.2.2.2.2.2.2.2.2.2.2.2.2.1,r.1.2.2.2.2.2.2.2.2.2.2.2.2.2.1,r.1.2.2.2.2.2.2.2.2.2.2.2.2.2.2.1,r.1.2.2.2.2.2.2.2.2.2.2.2.2.2.2.2,r.2.1,r.2.2.1,r.2.2.2)=some (true,y)/\((y.1,y.2.1,y.2.2.1,y.2.2.2.1,y.2.2.2.2.1,y.2.2.2.2.2.1,y.2.2.2.2.2.2.1,y.2.2.2.2.2.2.2.1,y.2.2.2.2.2.2.2.2.1,y.2.2.2.2.2.2.2.2.2.1,y.2.2.2.2.2.2.2.2.2.2.1,y.2.2.2.2.2.2.2.2.2.2.2.1,y.2.2.2.2.2.2.2.2.2.2.2.2.1,y.2.2.2.2.2.2.2.2.2.2.2.2.2.1,y.2.2.2.2.2.2.2.2.2.2.2.2.2.2.1,y.2.2.2.2.2.2.2.2.2.2.2.2.2.2.2.1),y.2.2.2.2.2.2.2.2.2.2.2.2.2.2.2.2.1,y.2.2.2.2.2.2.2.2.2.2.2.2.2.2.2.2.2.1,y.2.2.2.2.2.2.2.2.2.2.2.2.2.2.2.2.2.2)=((set16 r.1 ((f+n) % 16) x,(f:Int),((n+1:Nat):Int),r.2.2.2):Rng):=by
 obtain⟨⟨c0,c1,c2,c3,c4,c5,c6,c7,c8,c9,c10,c11,c12,c13,c14,c15⟩,rf,rn,m⟩:=r
 dsimp only at hf hn hne ⊢
 subst hf
 subst hn
 have hw:IntKind.i64.wrap ((f:Int)+(n:Int))=(f:Int)+(n:Int):=w64 (by omega) (by omega)
 have hw2:IntKind.i64.wrap ((n:Int)+1)=((n+1:Nat):Int):=by rw [w64 (by omega) (by omega)];rfl
 obtain⟨k,hk⟩:∃ k,k=(f+n) % 16:=⟨_,rfl⟩
 have hm:((f:Int)+(n:Int)).tmod 16=(k:Int):=by rw [zBV (by omega)];omega
 have hk16:k<16:=by omega
 rw [<- hk]
 clear hk
 simp only [qo,qab,zAX hne,cond_false,hw,hw2,hm]
 rcases k16 hk16 with rfl | rfl | rfl | rfl | rfl | rfl | rfl | rfl | rfl | rfl | rfl | rfl | rfl | rfl | rfl | rfl <;> exact⟨_,rfl,rfl⟩
theorem qnC(N:Nat)(r:Rng)(h:r.2.2.1=0):qj N (r.1.1,r.1.2.1,r.1.2.2.1,r.1.2.2.2.1,r.1.2.2.2.2.1,r.1.2.2.2.2.2.1,r.1.2.2.2.2.2.2.1,r.1.2.2.2.2.2.2.2.1,r.1.2.2.2.2.2.2.2.2.1,r.1.2.2.2.2.2.2.2.2.2.1,r.1.2.2.2.2.2.2.2.2.2.2.1,r.1.2.2.2.2.2.2.2.2.2.2.2.1,r.1.2.2.2.2.2.2.2.2.2.2.2.2.1,r.1.2.2.2.2.2.2.2.2.2.2.2.2.2.1,r.1.2.2.2.2.2.2.2.2.2.2.2.2.2.2.1,r.1.2.2.2.2.2.2.2.2.2.2.2.2.2.2.2,r.2.1,r.2.2.1,r.2.2.2)=some (0,false,r.1.1,r.1.2.1,r.1.2.2.1,r.1.2.2.2.1,r.1.2.2.2.2.1,r.1.2.2.2.2.2.1,r.1.2.2.2.2.2.2.1,r.1.2.2.2.2.2.2.2.1,r.1.2.2.2.2.2.2.2.2.1,r.1.2.2.2.2.2.2.2.2.2.1,r.1.2.2.2.2.2.2.2.2.2.2.1,r.1.2.2.2.2.2.2.2.2.2.2.2.1,r.1.2.2.2.2.2.2.2.2.2.2.2.2.1,r.1.2.2.2.2.2.2.2.2.2.2.2.2.2.1,r.1.2.2.2.2.2.2.2.2.2.2.2.2.2.2.1,r.1.2.2.2.2.2.2.2.2.2.2.2.2.2.2.2,r.2.1,r.2.2.1,r.2.2.2):=by
 simp only [qj,qV,beq_iff_eq.2 h,cond_true]
theorem qoX(N:Nat)(r:Rng)(k n:Nat)(hf:r.2.1=(k:Int))(hk16:k<16)(hn:r.2.2.1=((n+1:Nat):Int))(hn16:n<=16) :
  qj N (r.1.1,r.1.2.1,r.1.2.2.1,r.1.2.2.2.1,r.1.2.2.2.2.1,r.1.2.2.2.2.2.1,r.1.2.2.2.2.2.2.1,r.1.2.2.2.2.2.2.2.1,r.1.2.2.2.2.2.2.2.2.1,r.1.2.2.2.2.2.2.2.2.2.1,r.1.2.2.2.2.2.2.2.2.2.2.1,r.1.2.2.2.2.2.2.2.2.2.2.2.1,r.1.2.2.2.2.2.2.2.2.2.2.2.2.1,r.1.2.2.2.2.2.2.2.2.2.2.2.2.2.1,r.1.2.2.2.2.2.2.2.2.2.2.2.2.2.2.1,r.1.2.2.2.2.2.2.2.2.2.2.2.2.2.2.2,r.2.1,r.2.2.1,r.2.2.2)=some (nth 0 (cl16 r.1) k,true,r.1.1,r.1.2.1,r.1.2.2.1,r.1.2.2.2.1,r.1.2.2.2.2.1,r.1.2.2.2.2.2.1,r.1.2.2.2.2.2.2.1,r.1.2.2.2.2.2.2.2.1,r.1.2.2.2.2.2.2.2.2.1,r.1.2.2.2.2.2.2.2.2.2.1,r.1.2.2.2.2.2.2.2.2.2.2.1,r.1.2.2.2.2.2.2.2.2.2.2.2.1,r.1.2.2.2.2.2.2.2.2.2.2.2.2.1,r.1.2.2.2.2.2.2.2.2.2.2.2.2.2.1,r.1.2.2.2.2.2.2.2.2.2.2.2.2.2.2.1,r.1.2.2.2.2.2.2.2.2.2.2.2.2.2.2.2,(((k+1) % 16:Nat):Int),(n:Int),r.2.2.2):=by
 obtain⟨⟨c0,c1,c2,c3,c4,c5,c6,c7,c8,c9,c10,c11,c12,c13,c14,c15⟩,rf,rn,m⟩:=r
 dsimp only at hf hn ⊢
 subst hf
 subst hn
 have hne:((n+1:Nat):Int)≠0:=by omega
 have hw2:IntKind.i64.wrap (((n+1:Nat):Int) - 1)=(n:Int):=by rw [w64 (by omega) (by omega)];omega
 simp only [qj,qV,zAX hne,cond_false,hw2]
 rcases k16 hk16 with rfl | rfl | rfl | rfl | rfl | rfl | rfl | rfl | rfl | rfl | rfl | rfl | rfl | rfl | rfl | rfl <;> rfl
structure RepR (room:Int) (r:Rng) (q:List Int):Prop where
 f0:0<=r.2.1
 f1:r.2.1<16
 n:r.2.2.1=(q.length:Int)
 rm:r.2.2.2=room
 le:(q.length:Int)<=room
 at_:∀ i,i<q.length->ringAt r i=nth 0 q i
theorem RepR.put{room:Int}{r:Rng}{q:List Int}(h:RepR room r q)(hlt:(q.length:Int)<room)(hr:room<=16)(f:Nat)(hf:r.2.1=(f:Int))(x:Int) :
  RepR room (set16 r.1 ((f+q.length) % 16) x,(f:Int),((q.length+1:Nat):Int),room) (q ++ [x]):=by
 have h1:=h.f1
 have hk:(f+q.length) % 16<16:=zBD _ (by omega)
 refine⟨by dsimp only;omega,by dsimp only;omega,by simp,rfl,by simp;omega,fun i hi=>?_⟩
 have hi:i<q.length+1:=by simpa using hi
 show nth 0 (cl16 (set16 r.1 ((f+q.length) % 16) x)) (((f:Int).toNat+i) % 16)=_
 rw [qoe _ hk,qbT (by rw [qof];exact hk),Int.toNat_natCast]
 by_cases e:i<q.length
 ·rw [qkc e,<- h.at_ i e,zP (by omega)]
  show _=nth 0 (cl16 r.1) ((r.2.1.toNat+i) % 16)
  rw [hf,Int.toNat_natCast]
 ·obtain rfl:i=q.length:=by omega
  rw [zG rfl,qkb]
theorem RepR.take{room:Int}{r:Rng}{y:Int}{q:List Int}(h:RepR room r (y :: q))(k:Nat)(hf:r.2.1=(k:Int)) :
  nth 0 (cl16 r.1) k=y/\RepR room (r.1,(((k+1) % 16:Nat):Int),(q.length:Int),room) q:=by
 have h1:=h.f1
 have hle:=h.le
 rw [List.length_cons] at hle
 constructor
 ·have:=h.at_ 0 (by simp)
  have e:ringAt r 0=nth 0 (cl16 r.1) ((r.2.1.toNat+0) % 16):=rfl
  rw [e,hf,Int.toNat_natCast,Nat.add_zero,Nat.mod_eq_of_lt (by omega)] at this
  rw [this];rfl
 ·refine⟨by dsimp only;omega,by dsimp only;omega,rfl,rfl,by omega,fun i hi=>?_⟩
  have:=h.at_ (i+1) (by simp;omega)
  have e:ringAt r (i+1)=nth 0 (cl16 r.1) ((r.2.1.toNat+(i+1)) % 16):=rfl
  rw [e,hf,Int.toNat_natCast] at this
  show nth 0 (cl16 r.1) (((((k+1) % 16:Nat):Int).toNat+i) % 16)=_
  rw [Int.toNat_natCast,show (((k+1) % 16)+i) % 16=(k+(i+1)) % 16 by omega,this]
  rfl
theorem RepR.xs{room:Int}{r:Rng}{q:List Int}(h:RepR room r q)(hr:room<=16):qdT (r,PUnit.unit)=true/\qcK (r,PUnit.unit)=q:=by
 have h1:=h.f0
 have h2:=h.f1
 have h3:=h.n
 have h4:=h.le
 constructor
 ·show (decide (0<=r.2.1)&&(decide (r.2.1<16)&&(decide (0<=r.2.2.1)&&decide (r.2.2.1<=16))))=true
  rw [qag h1,qag h2,qag (show 0<=r.2.2.1 by omega),qag (show r.2.2.1<=16 by omega)];rfl
 ·show (List.range r.2.2.1.toNat).map (ringAt r)=q
  rw [h3,Int.toNat_natCast]
  apply List.ext_getElem (by simp)
  intro i h5 h6
  rw [List.getElem_map,List.getElem_range,h.at_ i h6,qcf h6]
end Go.Proofs.Ytcjecibocjbdmaa
