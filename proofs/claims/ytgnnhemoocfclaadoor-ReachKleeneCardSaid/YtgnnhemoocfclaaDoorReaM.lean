import Derived.Test.YtgnnhemoocfclaaDoorReaQ
namespace Go.Proofs.YtgnnhemoocfclaaDoor.Rea
open Go.Abs
open Go.Smy (Sm qF qG qaI leqP qaN thenS qhn qev qjM)
open Go.Proofs.YtgnnhemoocfclaaDoor.Gh (Nd Ed nsum qam GrOk qah)
section
variable {ns : List Nd} {es : List Ed}
theorem Fit.chkD {a b : Int} {s : Tr} (h : GrOk ns es) (a0 : 0 <= a) (an : a < ns.length) (f : Fit ns a b s) : qF (sm s) (dp ns a) = 0:=by
 have h14:=qyo h a0 an
 obtain ⟨-,-,x1,x2,x3,x4,x5⟩:=qG.1 f.chk
 exact qG.2 ⟨h14.1,h14.2,x1,f.keep,x3,x4,x5⟩
theorem WayB.fit (h : GrOk ns es) {a b : Int} {s : Tr} (a0 : 0 <= a) (an : a < ns.length) (w : WayB ns es a b s) : Fit ns a b s:=(w.way h a0 an).fit h a0 an
theorem qwy (h : GrOk ns es) {a b c : Int} {s r : Tr} (fs : Fit ns a b s) (hs : ∀ i : Nat,(i : Int) < outT s -> pl s i <= 100) (fr : Fit ns b c r) (hr : ∀ i : Nat,(i : Int) < outT r -> pl r i <= 100) : qaN (sm s) (sm r) = 0:=by
 have h1 : r.2.1 <= 100:=by
  have k1:=fr.k1
  have h:=hr (r.1 - 1).toNat (by simp only [outT]; omega)
  have e2 : qaI (sm r) (r.1 - 1) = r.2.1:=Go.Smy.placeN_last rfl
  rwa [show (((r.1 - 1).toNat : Nat) : Int) = r.1 - 1 by omega,pl,e2] at h
 exact qkx 100 (by decide) fs.chk hs (by rw [fs.out]; exact fr.chkD h fs.b0 fs.bn) (by omega)
theorem qzv {s r : Tr} (hr : r.1 <= outT s) {c d : Int} (hc : 0 <= c) (hs : ∀ i : Nat,(i : Int) < outT s -> pl s i <= c) (h : ∀ i : Nat,(i : Int) < outT r -> pl r i <= d) : ∀ i : Nat,(i : Int) < outT (T s r) -> pl (T s r) i <= c + d:=fun i hi=>by
 rw [T_out hr] at hi
 rw [T_pl hr]
 have h1:=h i hi
 by_cases e : (i : Int) < r.1
 ·rw [if_pos e]; have:=hs i (by omega); omega
 ·rw [if_neg e]; omega
theorem Way.two (h : GrOk ns es) {a b : Int} {s : Tr} (a0 : 0 <= a) (an : a < ns.length) (w : Way ns es a b s) (hs : ∀ i : Nat,(i : Int) < outT s -> pl s i <= 80) {c : Int} {r : Tr} (v : WayB ns es b c r) : Way ns es a c (T s r):=by
 have fs:=w.fit h a0 an
 induction v with
 | nil=>rw [T_idr fs.k1 fs.out]; exact w
 | @step y r e v he hy hsm ih =>
  have fr:=v.fit h fs.b0 fs.bn
  have q:=qlk h fr.b0 fr.bn
  have hrs : r.1 <= outT s:=by rw [fs.out]; exact fr.keep
  have hqr : (qn ns y).1 <= outT r:=by rw [fr.out]; exact q.kd
  rw [<- qxa fs.k1 fr.k1 q.k1 hrs hqr]
  refine .step ih he hy ?_
  have f2:=ih.fit h a0 an
  have hb:=qzv hrs (by decide) hs v.small
  exact qkx (80 + 12) (by decide) f2.chk hb (by rw [f2.out]; exact q.chk) (by have:=q.a01; omega)
theorem qtw (h : GrOk ns es) {e : Ed} (he : e ∈ es) : WayB ns es e.1 e.2.1 (qn ns e.1):=by
 have x:=edgeF h he
 have q:=qlk h x.f0 x.fn
 have e1 : T (idT ns e.1) (qn ns e.1) = qn ns e.1:=T_idl q.k1 q.kd
 have:=WayB.step (WayB.nil (ns:=ns) (es:=es) (a:=e.1)) he rfl (by
  rw [e1]
  intro i hi
  rcases q.pl0 i hi with h | ⟨-,-,-,h⟩ <;> rw [h] <;> decide)
 rwa [e1] at this
theorem WayB.head (h : GrOk ns es) {a b : Int} {s : Tr} (a0 : 0 <= a) (an : a < ns.length) (w : WayB ns es a b s) : (a = b /\ s = idT ns a) \/ ∃ e ∈ es,e.1 = a /\ ∃ r,WayB ns es e.2.1 b r /\ T (qn ns a) r = s:=by
 induction w with
 | nil=>exact .inl ⟨rfl,rfl⟩
 | @step y s e w he hy hsm ih =>
  right
  rcases ih with ⟨rfl,rfl⟩ | ⟨e1,he1,rfl,r,v,hv⟩
  ·have q:=qlk h a0 an
   refine ⟨e,he,hy,idT ns e.2.1,.nil,?_⟩
   have x:=edgeF h he
   rw [T_idl q.k1 q.kd,T_idr q.k1 (by have:=x.out; rwa [hy] at this)]
  ·have x:=edgeF h he1
   have q1:=qlk h x.f0 x.fn
   have fr:=v.fit h x.t0 x.tn
   have q:=qlk h fr.b0 fr.bn
   have hr1 : r.1 <= outT (qn ns e1.1):=by rw [x.out]; exact fr.keep
   have hqr : (qn ns y).1 <= outT r:=by rw [fr.out]; exact q.kd
   have ha:=qxa q1.k1 fr.k1 q.k1 hr1 hqr
   rw [hv] at ha
   refine ⟨e1,he1,rfl,T r (qn ns y),.step v he hy ?_,ha.symm⟩
   intro i hi
   have k2 : (T r (qn ns y)).1 <= outT (qn ns e1.1):=by
    have hk:=qkq r (qn ns y)
    rw [hk]; split <;> omega
   have ho : outT (T s (qn ns y)) = outT (T r (qn ns y)):=by rw [ha,T_out k2]
   have h1:=hsm i (by rw [ho]; exact hi)
   rw [ha,T_pl k2] at h1
   by_cases c : (i : Int) < (T r (qn ns y)).1
   ·rw [if_pos c] at h1
    rcases q1.pl0 i (by omega) with h0 | ⟨-,-,-,h0⟩ <;> rw [h0] at h1 <;> omega
   ·rw [if_neg c] at h1; omega
end
end Go.Proofs.YtgnnhemoocfclaaDoor.Rea
