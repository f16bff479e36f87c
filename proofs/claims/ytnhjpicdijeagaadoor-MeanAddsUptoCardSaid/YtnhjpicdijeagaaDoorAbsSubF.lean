import Derived.Test.YtnhjpicdijeagaaDoorAbsFrag
import Derived.Test.YtnhjpicdijeagaaDoorAbsCut
namespace Go.Abs
open Go.RowKit
structure Rn where
 m:Nat->Nat
 d:Nat->Nat
mutual
def renV(q:Rn):V->V
 | .slc o ver=>.slc (q.m o) (ver+q.d o)
 | .ptr o off=>.ptr (q.m o) off
 | .rptr o ver i off=>.rptr (q.m o) (ver+q.d o) i off
 | .tl o ver a=>.tl (q.m o) (ver+q.d o) a
 | .ifc ty v=>.ifc ty (renV q v)
 | .clo f vs=>.clo f (renVs q vs)
 | .agg vs=>.agg (renVs q vs)
 | .tup vs=>.tup (renVs q vs)
 | v=>v
def renVs(q:Rn):List V->List V
 | []=>[]
 | v :: r=>renV q v :: renVs q r
end
def renO(q:Rn)(o:Nat):O->O
 | .none=>.none
 | .cells vs=>.cells (renVs q vs)
 | .row fz ver e s xs=>.row fz (ver+q.d o) e s xs
 | .oth fz z d=>.oth fz z d
 | .nst ver z d=>.nst (ver+q.d o) z d
 | .kds ver p t h0 d=>.kds (ver+q.d o) p t (hmap (renV q) h0) d
 | .gone=>.gone
theorem qlG{q:Rn}{i:Nat}{o:O}{it:Bool}:mapLk it (renO q i o)↔mapLk it o:=by cases o <;> exact Iff.rfl
theorem RefTo.ren{q:Rn}{i:Nat}{o:O}{l:Loc}{ver j off:Nat}{v:Value}:RefTo (renO q i o) l (ver+q.d i) j off v↔RefTo o l ver j off v:=by
 cases o with
 | row fz ver' e s xs=>exact⟨fun ⟨h1,h2,h3⟩=>⟨by omega,h2,fun e=>h3 (by omega)⟩,fun ⟨h1,h2,h3⟩=>⟨by omega,h2,fun e=>h3 (by omega)⟩⟩
 | nst ver' z d=>exact⟨fun ⟨h1,h2,h3⟩=>⟨by omega,h2,fun e=>h3 (by omega)⟩,fun ⟨h1,h2,h3⟩=>⟨by omega,h2,fun e=>h3 (by omega)⟩⟩
 | kds ver' p t h0 d=>exact⟨fun ⟨h0,h1,h2,h3⟩=>⟨h0,by omega,h2,fun e=>h3 (by omega)⟩,fun ⟨h0,h1,h2,h3⟩=>⟨h0,by omega,h2,fun e=>h3 (by omega)⟩⟩
 | _=>exact Iff.rfl
theorem TlTo.ren{q:Rn}{i:Nat}{o:O}{l:Loc}{ver a:Nat}{v:Value}:TlTo (renO q i o) l (ver+q.d i) a v↔TlTo o l ver a v:=by
 cases o with
 | row fz ver' e s xs=>exact⟨fun ⟨h1,h2,h3⟩=>⟨by omega,h2,fun e=>h3 (by omega)⟩,fun ⟨h1,h2,h3⟩=>⟨by omega,h2,fun e=>h3 (by omega)⟩⟩
 | _=>exact Iff.rfl
theorem Oat.ren{q:Rn}{i:Nat}{o:O}{l:Loc}{b:Nat}:Oat (renO q i o) l b↔Oat o l b:=by
 cases o <;> exact Iff.rfl
theorem PtrTo.ren{q:Rn}{i:Nat}{o:O}{b off:Nat}{v:Value}:PtrTo (renO q i o) b off v↔PtrTo o b off v:=by
 cases o <;> exact Iff.rfl
section
variable {w : World} {M : Nat -> Prop} {h H : List O} {σ τ' : Nat -> Loc} {q : Rn}
mutual
theorem qun(hg:∀ o,getO h o≠.none->getO H (q.m o)=renO q o (getO h o))(hs:∀ o,getO h o≠.none->τ' (q.m o)=σ o):{v:V} -> {x:Value}->RV w M h σ v x->RV w M H τ' (renV q v) x
 | .bad,_,_=>by simp only [renV,RV]
 | .undef,_,hv=>by simp only [renV,RV] at hv ⊢;exact hv
 | .int _ _,_,hv=>by simp only [renV,RV] at hv ⊢;exact hv
 | .bool _,_,hv=>by simp only [renV,RV] at hv ⊢;exact hv
 | .nl _,_,hv=>by simp only [renV,RV] at hv ⊢;exact hv
 | .ifc _ _,_,hv=>by
  simp only [renV,RV] at hv ⊢
  obtain⟨u,rfl,hr⟩:=hv
  exact⟨u,rfl,qun hg hs hr⟩
 | .nil,_,hv=>by simp only [renV,RV] at hv ⊢;exact hv
 | .nlt _ _,_,hv=>by simp only [renV,RV] at hv ⊢;exact hv
 | .sl _ _,_,hv=>by simp only [renV,RV] at hv ⊢;exact hv
 | .fptr _ _,_,hv=>by simp only [renV,RV] at hv ⊢;exact hv
 | .pptr _ _,_,hv=>by simp only [renV,RV] at hv ⊢;exact hv
 | .yld _,_,hv=>by simp only [renV,RV] at hv ⊢;exact hv
 | .slc o ver,x,hv=>by
  simp only [renV,RV] at hv ⊢
  obtain⟨fz,ver',e,s,xs,eo,h1,h2,h3⟩:=hv
  have hn:getO h o≠.none:=by rw [eo];simp
  refine⟨fz,ver'+q.d o,e,s,xs,by rw [hg o hn,eo];rfl,by omega,h2,fun e=>?_⟩
  rw [hs o hn];exact h3 (by omega)
 | .ptr o off,x,hv=>by
  simp only [renV,RV] at hv ⊢
  obtain⟨b,h1,h2⟩:=hv
  have hn:getO h o≠.none:=by intro e;rw [e] at h2;exact h2
  exact⟨b,by rw [hs o hn];exact h1,by rw [hg o hn];exact PtrTo.ren.2 h2⟩
 | .rptr o ver i off,x,hv=>by
  simp only [renV,RV] at hv ⊢
  have hn:getO h o≠.none:=by intro e;rw [e] at hv;exact hv
  rw [hg o hn,hs o hn];exact RefTo.ren.2 hv
 | .tl o ver i,x,hv=>by
  simp only [renV,RV] at hv ⊢
  have hn:getO h o≠.none:=by intro e;rw [e] at hv;exact hv
  rw [hg o hn,hs o hn];exact TlTo.ren.2 hv
 | .clo f vs,x,hv=>by
  simp only [renV,RV] at hv ⊢
  obtain⟨us,h1,h2⟩:=hv
  exact⟨us,h1,qpc hg hs h2⟩
 | .agg vs,x,hv=>by
  simp only [renV,RV] at hv ⊢
  obtain⟨cs,h1,h2,h3⟩:=hv
  exact⟨cs,h1,h2,qpc hg hs h3⟩
 | .tup vs,x,hv=>by
  simp only [renV,RV] at hv ⊢
  obtain⟨cs,h1,h2⟩:=hv
  exact⟨cs,h1,qpc hg hs h2⟩
theorem qpc(hg:∀ o,getO h o≠.none->getO H (q.m o)=renO q o (getO h o))(hs:∀ o,getO h o≠.none->τ' (q.m o)=σ o):{vs:List V} -> {xs:List Value}->RVs w M h σ vs xs->RVs w M H τ' (renVs q vs) xs
 | [],_,hv=>by simp only [renVs,RVs] at hv ⊢;exact hv
 | v :: vs,_,hv=>by
  simp only [renVs,RVs] at hv ⊢
  obtain⟨x,xs,e,h1,h2⟩:=hv
  exact⟨x,xs,e,qun hg hs h1,qpc hg hs h2⟩
end
mutual
theorem un_rv(hg:∀ o,getO H (q.m o)=renO q o (getO h o))(hs:∀ o,getO h o≠.none->τ' (q.m o)=σ o):{v:V} -> {x:Value}->RV w M H τ' (renV q v) x->RV w M h σ v x
 | .bad,_,_=>by simp only [RV]
 | .undef,_,hv=>by simp only [renV,RV] at hv ⊢;exact hv
 | .int _ _,_,hv=>by simp only [renV,RV] at hv ⊢;exact hv
 | .bool _,_,hv=>by simp only [renV,RV] at hv ⊢;exact hv
 | .nl _,_,hv=>by simp only [renV,RV] at hv ⊢;exact hv
 | .ifc _ _,_,hv=>by
  simp only [renV,RV] at hv ⊢
  obtain⟨u,rfl,hr⟩:=hv
  exact⟨u,rfl,un_rv hg hs hr⟩
 | .nil,_,hv=>by simp only [renV,RV] at hv ⊢;exact hv
 | .nlt _ _,_,hv=>by simp only [renV,RV] at hv ⊢;exact hv
 | .sl _ _,_,hv=>by simp only [renV,RV] at hv ⊢;exact hv
 | .fptr _ _,_,hv=>by simp only [renV,RV] at hv ⊢;exact hv
 | .pptr _ _,_,hv=>by simp only [renV,RV] at hv ⊢;exact hv
 | .yld _,_,hv=>by simp only [renV,RV] at hv ⊢;exact hv
 | .slc o ver,x,hv=>by
  simp only [renV,RV] at hv ⊢
  obtain⟨fz,ver',e,s,xs,eo,h1,h2,h3⟩:=hv
  rw [hg o] at eo
  cases e0:getO h o with
  | none=>rw [e0] at eo;cases eo
  | cells vs=>rw [e0] at eo;cases eo
  | oth fz0 z0 d0=>rw [e0] at eo;cases eo
  | nst v0 z0 d0=>rw [e0] at eo;cases eo
  | kds v0 p0 t0 h0 d0=>rw [e0] at eo;cases eo
  | gone=>rw [e0] at eo;cases eo
  | row fz0 ver0 ee s0 xs0=>
   rw [e0] at eo
   cases eo
   refine⟨_,_,_,_,_,rfl,by omega,h2,fun e=>?_⟩
   rw [<- hs o (by rw [e0];simp)];exact h3 (by omega)
 | .ptr o off,x,hv=>by
  simp only [renV,RV] at hv ⊢
  obtain⟨b,h1,h2⟩:=hv
  rw [hg o] at h2
  have h2:=PtrTo.ren.1 h2
  have hn:getO h o≠.none:=by intro e;rw [e] at h2;exact h2
  exact⟨b,by rw [<- hs o hn];exact h1,h2⟩
 | .rptr o ver i off,x,hv=>by
  simp only [renV,RV] at hv ⊢
  rw [hg o] at hv
  have hv:=RefTo.ren.1 hv
  have hn:getO h o≠.none:=by intro e;rw [e] at hv;exact hv
  rw [<- hs o hn];exact hv
 | .tl o ver i,x,hv=>by
  simp only [renV,RV] at hv ⊢
  rw [hg o] at hv
  have hv:=TlTo.ren.1 hv
  have hn:getO h o≠.none:=by intro e;rw [e] at hv;exact hv
  rw [<- hs o hn];exact hv
 | .clo f vs,x,hv=>by
  simp only [renV,RV] at hv ⊢
  obtain⟨us,h1,h2⟩:=hv
  exact⟨us,h1,qtP hg hs h2⟩
 | .agg vs,x,hv=>by
  simp only [renV,RV] at hv ⊢
  obtain⟨cs,h1,h2,h3⟩:=hv
  exact⟨cs,h1,h2,qtP hg hs h3⟩
 | .tup vs,x,hv=>by
  simp only [renV,RV] at hv ⊢
  obtain⟨cs,h1,h2⟩:=hv
  exact⟨cs,h1,qtP hg hs h2⟩
theorem qtP(hg:∀ o,getO H (q.m o)=renO q o (getO h o))(hs:∀ o,getO h o≠.none->τ' (q.m o)=σ o):{vs:List V} -> {xs:List Value}->RVs w M H τ' (renVs q vs) xs->RVs w M h σ vs xs
 | [],_,hv=>by simp only [renVs,RVs] at hv ⊢;exact hv
 | v :: vs,_,hv=>by
  simp only [renVs,RVs] at hv ⊢
  obtain⟨x,xs,e,h1,h2⟩:=hv
  exact⟨x,xs,e,un_rv hg hs h1,qtP hg hs h2⟩
end
theorem qCR(hg:∀ o,getO h o≠.none->getO H (q.m o)=renO q o (getO h o))(hs:∀ o,getO h o≠.none->τ' (q.m o)=σ o){l:Loc}{i:Nat}{o:O}(r:RO w M h σ l o):RO w M H τ' l (renO q i o):=by
 cases o with
 | none=>trivial
 | cells vs=>
  obtain⟨b,e,cs,h1,h2,h3,h4⟩:=r
  exact⟨b,e,cs,h1,h2,qpc hg hs h3,h4⟩
 | row fz ver e s xs=>cases fz <;> exact r
 | oth fz z d=>exact r
 | nst ver z d=>exact r
 | kds ver p t h0 d=>exact RK.link ⟨Nat.le_refl _,fun _ _ _=>rfl,fun _ _ h=>h⟩ (renV q) (fun y c _=>qun hg hs) (fun _ _ _=>rfl) r
 | gone=>trivial
theorem un_ro(hg:∀ o,getO H (q.m o)=renO q o (getO h o))(hs:∀ o,getO h o≠.none->τ' (q.m o)=σ o){l:Loc}{i:Nat}{o:O}(r:RO w M H τ' l (renO q i o)):RO w M h σ l o:=by
 cases o with
 | none=>trivial
 | cells vs=>
  obtain⟨b,e,cs,h1,h2,h3,h4⟩:=r
  exact⟨b,e,cs,h1,h2,qtP hg hs h3,h4⟩
 | row fz ver e s xs=>cases fz <;> exact r
 | oth fz z d=>exact r
 | nst ver z d=>exact r
 | kds ver p t h0 d=>exact RK.keeps ⟨Nat.le_refl _,fun _ _ _=>rfl,fun _ _ h=>h⟩ (fun y c _=>un_rv hg hs) (fun _ _ _=>rfl) (RK.comap (renV q) r)
 | gone=>trivial
theorem qdj{i:Nat}{o:O}:live (renO q i o)↔live o:=by cases o <;> exact Iff.rfl
end
structure SubH (q:Rn) (k:Nat) (h H:List O):Prop where
 len:h.length=k
 get:∀ o,getO H (q.m o)=renO q o (getO h o)
 inj:∀ o o',o<k->o'<k->q.m o=q.m o'->o=o'
section
variable {w0 : World} {A M0 : Nat -> Prop} {w w' : World} {h h' H H' : List O} {σ' τ1 τ2 : Nat -> Loc} {q : Rn} {k : Nat}
theorem SubH.offs(S:SubH q k h H){o:Nat}(ho:¬ o<k):getO h o=.none:=by
 unfold getO
 rw [zK,zX (by rw [S.len];omega)]
 rfl
theorem SubH.lt(S:SubH q k h H){o:Nat}(ho:getO h o≠.none):o<k:=Classical.byContradiction fun hn=>ho (S.offs hn)
theorem SubH.owns(S:SubH q k h H){b:Nat}(ho:own h (fun o=>τ1 (q.m o)) b):own H τ1 b:=by
 obtain⟨o,h1,h2⟩:=ho
 exact⟨q.m o,by rw [S.get];exact qdj.2 h1,by rw [S.get];exact Oat.ren.2 h2⟩
def restM(M0:Nat->Prop)(h H:List O)(σ τ1:Nat->Loc)(b:Nat):Prop:=mutb M0 H τ1 b/\¬ own h σ b
theorem SubH.mutbs(S:SubH q k h H):mutb (restM M0 h H (fun o=>τ1 (q.m o)) τ1) h (fun o=>τ1 (q.m o))=mutb M0 H τ1:=by
 classical
 funext b
 refine propext ⟨?_,fun hb=>?_⟩
 ·rintro (h | h)
  ·exact h.1
  ·exact .inr (S.owns h)
 ·by_cases ho:own h (fun o=>τ1 (q.m o)) b
  ·exact .inr ho
  ·exact .inl ⟨hb,ho⟩
theorem SubH.rep(S:SubH q k h H)(R:Rep w0 A M0 w H τ1):Rep w (own h fun o=>τ1 (q.m o)) (restM M0 h H (fun o=>τ1 (q.m o)) τ1) w h (fun o=>τ1 (q.m o)) where
 fr:=⟨rfl,TDr.rfl,rfl,Nat.le_refl _,fun _ _ _=>rfl⟩
 m0:=fun b hb=>⟨R.mlt hb.1,hb.2⟩
 inA:=fun b hb=>.inl hb
 apart:=fun o o' b h1 h2 h3 h4=>S.inj o o' (S.lt (qwj h1)) (S.lt (qwj h2)) (R.apart _ _ b (by rw [S.get];exact qdj.2 h1) (by rw [S.get];exact qdj.2 h2) (by rw [S.get];exact Oat.ren.2 h3) (by rw [S.get];exact Oat.ren.2 h4))
 obj:=fun o=>by
  rw [S.mutbs]
  have:=R.obj (q.m o)
  rw [S.get] at this
  exact un_ro S.get (fun _ _=>rfl) this
structure BackH (q q':Rn) (k:Nat) (h' H H':List O):Prop where
 get:∀ o,o<h'.length->getO H' (q'.m o)=renO q' o (getO h' o)
 rest:∀ j,(∀ o,o<h'.length->q'.m o≠j)->getO H' j=getO H j
 inj:∀ o o',o<h'.length->o'<h'.length->q'.m o=q'.m o'->o=o'
 old:∀ o,o<k->q'.m o=q.m o/\q'.d o=q.d o
 new:∀ o,k<=o->o<h'.length->getO H (q'.m o)=.none
 len:k<=h'.length
open Classical in
noncomputable def backσ(q':Rn)(n:Nat)(σ' τ1:Nat->Loc)(j:Nat):Loc:=if hx:∃ o,o<n/\q'.m o=j then σ' (Classical.choose hx) else τ1 j
theorem qjJ(hinj:∀ o o',o<h'.length->o'<h'.length->q.m o=q.m o'->o=o'){o:Nat}(ho:o<h'.length):backσ q h'.length σ' τ1 (q.m o)=σ' o:=by
 unfold backσ
 have hx:∃ o',o'<h'.length/\q.m o'=q.m o:=⟨o,ho,rfl⟩
 rw [dif_pos hx]
 have:=zAg hx
 rw [hinj _ _ this.1 ho this.2]
theorem qgB{n j:Nat}(hj:∀ o,o<n->q.m o≠j):backσ q n σ' τ1 j=τ1 j:=by
 unfold backσ
 rw [dif_neg]
 rintro⟨o,h1,h2⟩
 exact hj o h1 h2
variable {q' : Rn}
theorem SubH.back(S:SubH q k h H)(B:BackH q q' k h' H H')(R:Rep w0 A M0 w H τ1)
  (nx:Next w (own h fun o=>τ1 (q.m o)) (restM M0 h H (fun o=>τ1 (q.m o)) τ1) w h (fun o=>τ1 (q.m o)) w' h' σ') :
  Next w0 A M0 w H τ1 w' H' (backσ q' h'.length σ' τ1) /\
   ∀ {v:V} {x:Value},RV w' (mutb (restM M0 h H (fun o=>τ1 (q.m o)) τ1) h' σ') h' σ' v x->RV w' (mutb M0 H' (backσ q' h'.length σ' τ1)) H' (backσ q' h'.length σ' τ1) (renV q' v) x:=by
 classical
 have hlt:∀ o,getO h' o≠.none->o<h'.length:=fun o ho=>qae ho
 have hg:∀ o,getO h' o≠.none->getO H' (q'.m o)=renO q' o (getO h' o):=fun o ho=>B.get o (hlt o ho)
 have hs:∀ o,getO h' o≠.none->backσ q' h'.length σ' τ1 (q'.m o)=σ' o:=fun o ho=>qjJ B.inj (hlt o ho)
 have part:∀ j,(∃ o,o<h'.length/\q'.m o=j)\/∀ o,o<h'.length->q'.m o≠j:=fun j=>by
  by_cases e:∃ o,o<h'.length/\q'.m o=j
  ·exact .inl e
  ·exact .inr fun o h1 h2=>e ⟨o,h1,h2⟩
 have ownB:∀ b,own H' (backσ q' h'.length σ' τ1) b->own h' σ' b\/∃ j,(∀ o,o<h'.length->q'.m o≠j)/\live (getO H j)/\Oat (getO H j) (τ1 j) b:=by
  rintro b ⟨j,h1,h2⟩
  rcases part j with⟨o,ho,rfl⟩ | hj
  ·rw [B.get o ho] at h1 h2
   rw [qjJ B.inj ho] at h2
   exact .inl ⟨o,qdj.1 h1,Oat.ren.1 h2⟩
  ·rw [B.rest j hj] at h1 h2
   rw [qgB hj] at h2
   exact .inr ⟨j,hj,h1,h2⟩
 have apartB:∀ j b,(∀ o,o<h'.length->q'.m o≠j)->live (getO H j)->Oat (getO H j) (τ1 j) b->¬ own h (fun o=>τ1 (q.m o)) b:=by
  rintro j b hj hl ha ⟨o,h1,h2⟩
  have hok:=S.lt (qwj h1)
  have:=R.apart _ _ b (by rw [S.get];exact qdj.2 h1) hl (by rw [S.get];exact Oat.ren.2 h2) ha
  refine hj o (zM hok B.len) ?_
  rw [(B.old o hok).1,this]
 have apartB':∀ j b,(∀ o,o<h'.length->q'.m o≠j)->live (getO H j)->Oat (getO H j) (τ1 j) b->¬ own h' σ' b:=by
  intro j b hj hl ha ho
  rcases nx.rep.inA b ho with h | h
  ·exact apartB j b hj hl ha h
  ·have:own H τ1 b:=⟨j,hl,ha⟩
   have:=R.lt this
   omega
 have msub:∀ b,mutb M0 H' (backσ q' h'.length σ' τ1) b->mutb (restM M0 h H (fun o=>τ1 (q.m o)) τ1) h' σ' b:=by
  rintro b (hb | hb)
  ·exact .inl ⟨.inl hb,fun ho=>(R.foreign b hb).2 (S.owns ho)⟩
  ·rcases ownB b hb with hb | ⟨j,hj,hl,ha⟩
   ·exact .inr hb
   ·exact .inl ⟨.inr ⟨j,hl,ha⟩,apartB j b hj hl ha⟩
 have keeps:Keeps w (mutb M0 H τ1) w' (mutb M0 H' (backσ q' h'.length σ' τ1)):=by
  have k1:=nx.keeps
  rw [S.mutbs] at k1
  exact⟨k1.size,k1.block,fun b h1 h2 h3=>k1.out b h1 h2 (msub b h3)⟩
 have goes:Goes w H τ1 w':=⟨nx.goes.os,nx.goes.tape,nx.goes.output,nx.goes.size,fun b h1 h2=>nx.goes.block b h1 fun ho=>h2 (S.owns ho)⟩
 have step:OStep H τ1 H' (backσ q' h'.length σ' τ1):=fun j=>by
  rcases part j with⟨o,ho,rfl⟩ | hj
  ·by_cases hok:o<k
   ·have hst:=nx.step o
    rw [(B.old o hok).1,S.get,<- (B.old o hok).1]
    have hgo:=B.get o ho
    have hso:backσ q' h'.length σ' τ1 (q'.m o)=σ' o:=qjJ B.inj ho
    cases e0:getO h o with
    | none=>trivial
    | cells vs=>
     rw [e0] at hst
     rcases hst with⟨vs',e1,e2⟩ | ⟨e1,e2⟩
     ·refine .inl ⟨renVs q' vs',by rw [hgo,e1];rfl,?_⟩
      rw [hso,e2,(B.old o hok).1]
     ·exact .inr ⟨by rw [hgo,e1];rfl,by rw [hso,e2,(B.old o hok).1]⟩
    | row fz ver e s xs=>
     rw [e0] at hst
     obtain⟨fz',ver',e',s',xs',e1,h1,h2⟩:=hst
     refine⟨fz',ver'+q'.d o,e',s',xs',by rw [hgo,e1];rfl,by rw [(B.old o hok).2];omega,fun hv=>?_⟩
     rw [(B.old o hok).2] at hv
     obtain⟨h3,h4,h5⟩:=h2 (by omega)
     exact⟨by rw [hso,h3,(B.old o hok).1],h4,h5⟩
    | oth fz z d=>
     rw [e0] at hst
     exact⟨hst.1.imp (fun h=>by rw [hgo];exact qlG.2 h) (fun h=>by rw [hgo,h];rfl),by rw [hso,hst.2,(B.old o hok).1]⟩
    | kds ver p t h0 d=>
     rw [e0] at hst
     have hst:KStep ver p (kLen p t d) t.n _ _ _:=hst
     show KStep (ver+q.d o) p (kLen p t d) t.n _ _ _
     unfold KStep at hst ⊢
     split at hst
     ·exact⟨hst.1.imp (fun h=>by rw [hgo];exact qlG.2 h) (fun h=>by rw [hgo,h];rfl),by rw [hso,hst.2,(B.old o hok).1]⟩
     ·rcases hst with⟨ver',p',t',h1',d',e1,hp',hv,hc⟩ | e1
      ·refine .inl ⟨ver'+q'.d o,p',t',_,d',by rw [hgo,e1];rfl,hp',by rw [(B.old o hok).2];omega,fun hv'=>?_⟩
       rw [(B.old o hok).2] at hv'
       rw [hso,(B.old o hok).1]
       exact hc (by omega)
      ·exact .inr (by rw [hgo,e1];rfl)
    | nst ver z d=>
     rw [e0] at hst
     rcases hst with⟨ver',d',e1,h1,e2,h2⟩ | ⟨e1,e2⟩
     ·refine .inl ⟨ver'+q'.d o,d',by rw [hgo,e1];rfl,by rw [(B.old o hok).2];omega,by rw [hso,e2,(B.old o hok).1],fun hv i c hc=>?_⟩
      rw [(B.old o hok).2] at hv
      rw [hso]
      rw [(B.old o hok).1] at hc
      exact h2 (by omega) i c hc
     ·exact .inr ⟨by rw [hgo,e1];rfl,by rw [hso,e2,(B.old o hok).1]⟩
    | gone=>
     rw [e0] at hst
     exact⟨by rw [hgo,hst.1];rfl,by rw [hso,hst.2,(B.old o hok).1]⟩
   ·rw [B.new o (by omega) ho];trivial
  ·rw [B.rest j hj,qgB hj]
   cases ej:getO H j with
   | none=>trivial
   | cells vs=>exact .inl ⟨vs,rfl,rfl⟩
   | row fz ver e s xs=>exact⟨fz,ver,e,s,xs,rfl,Nat.le_refl _,fun _=>⟨rfl,rfl,rfl⟩⟩
   | oth fz z d=>exact⟨.inl rfl,rfl⟩
   | kds ver p t h0 d=>exact KStep.refl ..
   | nst ver z d=>exact .inl ⟨ver,d,rfl,Nat.le_refl _,rfl,fun _ _ _ h=>h⟩
   | gone=>exact⟨rfl,rfl⟩
 have rep:Rep w0 A M0 w' H' (backσ q' h'.length σ' τ1):={
  fr:=Fr.goes R goes
  m0:=R.m0
  inA:=fun b hb=>by
   rcases ownB b hb with hb | ⟨j,hj,hl,ha⟩
   ·rcases nx.rep.inA b hb with h | h
    ·exact R.inA b (S.owns h)
    ·have:=R.fr.size;omega
   ·exact R.inA b ⟨j,hl,ha⟩
  apart:=fun j j' b h1 h2 h3 h4=>by
   rcases part j with⟨o,ho,rfl⟩ | hj <;> rcases part j' with⟨o',ho',rfl⟩ | hj'
   ·rw [B.get o ho] at h1 h3
    rw [B.get o' ho'] at h2 h4
    rw [qjJ B.inj ho] at h3
    rw [qjJ B.inj ho'] at h4
    rw [nx.rep.apart o o' b (qdj.1 h1) (qdj.1 h2) (Oat.ren.1 h3) (Oat.ren.1 h4)]
   ·rw [B.get o ho] at h1 h3
    rw [qjJ B.inj ho] at h3
    rw [B.rest j' hj'] at h2 h4
    rw [qgB hj'] at h4
    exact absurd ⟨o,qdj.1 h1,Oat.ren.1 h3⟩ (apartB' j' b hj' h2 h4)
   ·rw [B.get o' ho'] at h2 h4
    rw [qjJ B.inj ho'] at h4
    rw [B.rest j hj] at h1 h3
    rw [qgB hj] at h3
    exact absurd ⟨o',qdj.1 h2,Oat.ren.1 h4⟩ (apartB' j b hj h1 h3)
   ·rw [B.rest j hj] at h1 h3
    rw [qgB hj] at h3
    rw [B.rest j' hj'] at h2 h4
    rw [qgB hj'] at h4
    exact R.apart j j' b h1 h2 h3 h4
  obj:=fun j=>by
   rcases part j with⟨o,ho,rfl⟩ | hj
   ·rw [B.get o ho,qjJ B.inj ho]
    exact qCR hg hs (RO.less msub (nx.rep.obj o))
   ·rw [B.rest j hj,qgB hj]
    have r:=R.obj j
    cases hl:getO H j with
    | none=>trivial
    | cells vs=>
     rw [hl] at r
     refine RO.keeps keeps step (fun b ha hb=>?_) r
     refine nx.goes.block b hb ?_
     exact apartB j b hj (by rw [hl];trivial) (.of ha)
    | gone=>trivial
    | nst ver z d=>
     rw [hl] at r
     refine RO.keeps keeps step (fun b ha hb=>?_) r
     refine nx.goes.block b hb ?_
     exact apartB j b hj (by rw [hl];trivial) (by rw [hl];exact ha)
    | kds ver p t h0 d=>
     rw [hl] at r
     refine RO.keeps keeps step (fun b ha hb=>?_) r
     refine nx.goes.block b hb ?_
     exact apartB j b hj (by rw [hl];trivial) (by rw [hl];exact ha)
    | row fz ver e s xs=>
     rw [hl] at r
     refine RO.keeps keeps step (fun b ha hb=>?_) r
     refine nx.goes.block b hb ?_
     cases fz with
     | false=>exact apartB j b hj (by rw [hl];rfl) (.of ha)
     | true=>
      intro ho
      exact (r.2.2 b ha).2 (.inr (S.owns ho))
    | oth fz z d=>
     rw [hl] at r
     refine RO.keeps keeps step (fun b ha hb=>?_) r
     refine nx.goes.block b hb ?_
     cases fz with
     | false=>exact apartB j b hj (by rw [hl];rfl) (.of ha)
     | true=>
      intro ho
      exact r.2 rfl b ha (.inr (S.owns ho)) }
 exact⟨⟨rep,goes,keeps,step⟩,fun hv=>qun hg hs (RV.less msub hv)⟩
end
end Go.Abs
namespace Go.Abs
open Go.RowKit
mutual
def renP(q:Rn):VP->VP
 | .slc o ver=>.slc (q.m o) (ver+q.d o)
 | .ptr o off=>.ptr (q.m o) off
 | .rptr o ver off=>.rptr (q.m o) (ver+q.d o) off
 | .tl o ver=>.tl (q.m o) (ver+q.d o)
 | .ifc ty p=>.ifc ty (renP q p)
 | .clo f ps=>.clo f (renPs q ps)
 | .agg ps=>.agg (renPs q ps)
 | .tup ps=>.tup (renPs q ps)
 | p=>p
def renPs(q:Rn):List VP->List VP
 | []=>[]
 | p :: r=>renP q p :: renPs q r
end
def renOP(q:Rn)(o:Nat):OP->OP
 | .none=>.none
 | .cells ps=>.cells (renPs q ps)
 | .row fz ver e s=>.row fz (ver+q.d o) e s
 | .oth fz z=>.oth fz z
 | .nst ver z=>.nst (ver+q.d o) z
 | .kds ver p t=>.kds (ver+q.d o) p t
 | .gone=>.gone
mutual
theorem qwf(q:Rn):(p:VP)->(ds:List Dy)->mkV (renP q p) ds=(renV q (mkV p ds).1,(mkV p ds).2)
 | .bad,_=>rfl
 | .undef,_=>rfl
 | .nl _,_=>rfl
 | .ifc _ p,ds=>by simp only [renP,mkV,qwf q p ds,renV]
 | .nil,_=>rfl
 | .int k,ds=>by cases ds with | nil=>rfl | cons d _=>cases d <;> rfl
 | .bool,ds=>by cases ds with | nil=>rfl | cons d _=>cases d <;> rfl
 | .sl s,ds=>by cases ds with | nil=>rfl | cons d _=>cases d <;> rfl
 | .fptr s,ds=>by cases ds with | nil=>rfl | cons d _=>cases d <;> rfl
 | .slc _ _,_=>rfl
 | .ptr _ _,_=>rfl
 | .rptr _ _ _,ds=>by cases ds with | nil=>rfl | cons d _=>cases d <;> rfl
 | .tl _ _,ds=>by cases ds with | nil=>rfl | cons d _=>cases d <;> rfl
 | .clo f ps,ds=>by simp only [renP,mkV,qlC q ps ds,renV]
 | .agg ps,ds=>by simp only [renP,mkV,qlC q ps ds,renV]
 | .tup ps,ds=>by simp only [renP,mkV,qlC q ps ds,renV]
theorem qlC(q:Rn):(ps:List VP)->(ds:List Dy)->mkVs (renPs q ps) ds=(renVs q (mkVs ps ds).1,(mkVs ps ds).2)
 | [],_=>rfl
 | p :: ps,ds=>by simp only [renPs,mkVs,qwf q p ds,qlC q ps,renVs]
end
theorem qDx(q:Rn)(o:Nat)(p:OP)(ds:List Dy):mkO (renOP q o p) ds=(renO q o (mkO p ds).1,(mkO p ds).2):=by
 cases p with
 | none=>rfl
 | cells ps=>simp only [renOP,mkO,qlC q ps ds,renO]
 | row fz ver e s=>cases ds with | nil=>rfl | cons d _=>cases d <;> rfl
 | oth fz z=>
  cases ds with
  | nil=>rfl
  | cons d _=>
   cases d <;> first | rfl | (simp only [renOP,mkO];split <;> rfl)
 | nst ver z=>
  cases ds with
  | nil=>rfl
  | cons d _=>
   cases d <;> first | rfl | (simp only [renOP,mkO];split <;> rfl)
 | kds ver p t=>
  cases ds with
  | nil=>rfl
  | cons d _=>
   cases d <;> first | rfl | (simp only [renOP,mkO];split <;> rfl)
 | gone=>rfl
inductive RP where
 | dat (b:Bool) (s:Sh)
 | form (p:VP)
def renRP(q:Rn):RP->RP
 | .dat b s=>.dat b s
 | .form p=>.form (renP q p)
def lfRs:List RP->List Lf
 | []=>[]
 | .dat _ s :: r=>.dat s :: lfRs r
 | .form p :: r=>lfV p++lfRs r
def rdR(h:List O):RP->V->Option (List Dy)
 | .dat b s,v=>match decA h b s v with | some x=>some [.dat s x] | none=>none
 | .form p,v=>rdV p v
def rdRs(h:List O):List RP->List V->Option (List Dy)
 | [],vs=>match vs with | []=>some [] | _ :: _=>none
 | p :: ps,vs=>
  match vs with
  | []=>none
  | v :: vs=>
   match rdR h p v with
   | none=>none
   | some xs=>
    match rdRs h ps vs with
    | none=>none
    | some ys=>some (xs++ys)
def mkR:RP->List Dy->V×List Dy
 | .dat b _,ds=>match ds with | .dat s x :: r=>(cval b s x,r) | _=>(.bad,[])
 | .form p,ds=>mkV p ds
def mkRs:List RP->List Dy->List V×List Dy
 | [],ds=>([],ds)
 | p :: ps,ds=>match mkR p ds with | (v,r)=>(match mkRs ps r with | (vs,r)=>(v :: vs,r))
def datA:List RP->List V->List V
 | .dat _ _ :: ps,v :: vs=>v :: datA ps vs
 | .form _ :: ps,_ :: vs=>datA ps vs
 | _,_=>[]
structure Sig where
 as:List RP
 hp:List OP
 rs:List RP
 hq:List OP
 al:List (List RP×List OP)
abbrev lyOf(a:List RP×List OP):List Lf:=lfRs a.1++lfH a.2
@[reducible] def YT:List (List RP×List OP)->Type
 | []=>Empty
 | a :: r=>
  match r with
  | []=>Tup (lyOf a)
  | _ :: _=>Tup (lyOf a) ⊕ YT r
abbrev Sig.alts(s:Sig):List (List RP×List OP):=(s.rs,s.hq) :: s.al
abbrev Sig.lx(s:Sig):List Lf:=lfRs s.as++lfH s.hp
abbrev Sig.X(s:Sig):Type:=Tup s.lx
abbrev Sig.Y(s:Sig):Type:=YT s.alts
def out1(a:List RP×List OP)(y:Tup (lyOf a)):V×List O:=match mkRs a.1 (encT (lyOf a) y) with | (vs,r)=>(retV vs,(mkH a.2 r).1)
def outsA:(l:List (List RP×List OP))->YT l->V×List O
 | [],_=>(.bad,[])
 | [a],y=>out1 a y
 | a :: b :: r,y=>
  match y with
  | .inl y=>out1 a y
  | .inr y=>outsA (b :: r) y
def qzp:(l:List (List RP×List OP))->(R:Type)->YT l->(YT l->Option R)->Option R
 | [],_,y,K=>K y
 | [_],_,y,K=>K y
 | _ :: b :: r,R,y,K=>caseD y (fun y=>K (.inl y)) (fun y=>qzp (b :: r) R y fun y=>K (.inr y))
theorem qtU:(l:List (List RP×List OP))->(R:Type)->(y:YT l)->(K:YT l->Option R)->qzp l R y K=K y
 | [],_,_,_=>rfl
 | [_],_,_,_=>rfl
 | a :: b :: r,R,y,K=>by
  cases y with
  | inl y=>rfl
  | inr y=>exact qtU (b :: r) R y fun y=>K (.inr y)
def Sig.ins(s:Sig)(x:s.X):List V×List O:=match mkRs s.as (encT s.lx x) with | (vs,r)=>(vs,(mkH s.hp r).1)
def Sig.outs(s:Sig)(y:s.Y):V×List O:=outsA s.alts y
def SpecH(P:Program)(gs:List (Nat×List Value))(f:Nat)(s:Sig)(D:s.X->Option s.Y):Prop:=
 ∀ (w:World) (A M0:Nat->Prop) (σ:Nat->Loc) (x:s.X) (y:s.Y) (vs:List Value),GW gs w->(∀ p∈gs,¬ A p.1)->Rep w A M0 w (s.ins x).2 σ->RVs w (mutb M0 (s.ins x).2 σ) (s.ins x).2 σ (s.ins x).1 vs->D x=some y ->
  Calls P f vs.toArray w fun e w'=>∃ v σ',e=.returned v/\Next w A M0 w (s.ins x).2 σ w' (s.outs y).2 σ'/\RV w' (mutb M0 (s.outs y).2 σ') (s.outs y).2 σ' (s.outs y).1 v
def bmp(fx:List Nat)(k:Nat):Rn:={ m:=fun o=>o,d:=fun o=>bif memN fx o&&Nat.blt o k then 1 else 0 }
def renL(q:Rn):Nat->List O->List O
 | _,[]=>[]
 | i,o :: r=>renO q i o :: renL q (i+1) r
def tupV(n:Nat)(v:V):Option (List V):=
 match n with
 | 1=>some [v]
 | _=>match v with | .tup vs=>some vs | _=>none
theorem qsM:(ps:List OP)->(ds ds':List Dy)->(mkH ps ds).1.length=(mkH ps ds').1.length
 | [],_,_=>rfl
 | p :: ps,ds,ds'=>by simp only [mkH,List.length_cons,qsM ps (mkO p ds).2 (mkO p ds').2]
def padH(n:Nat)(h:List O):List O:=h++List.replicate (n - h.length) .none
def fin1(fx:List Nat)(k:Nat)(a:List RP×List OP)(v:V)(h0:List O):Option (Tup (lyOf a)):=
 match padH a.2.length h0 with
 | h=>
 match tupV a.1.length (renV (bmp fx k) (cvV fx a.2.length h v)) with
 | none=>none
 | some vs=>
  match rdRs [] a.1 vs with
  | none=>none
  | some xs=>
   match rdH a.2 (mskH a.2 (renL (bmp fx k) 0 (cvH fx a.2.length h))) with
   | none=>none
   | some ys=>decT (lyOf a) (xs++ys)
def finA(fx:List Nat)(k:Nat):(l:List (List RP×List OP))->V->List O->Option (YT l)
 | [],_,_=>none
 | [a],v,h=>fin1 fx k a v h
 | a :: b :: r,v,h=>
  match fin1 fx k a v h with
  | some y=>some (.inl y)
  | none=>
   match finA fx k (b :: r) v h with
   | some y=>some (.inr y)
   | none=>none
theorem quP{fx:List Nat}{k:Nat}:(l:List (List RP×List OP)) -> {v:V} -> {h:List O} -> {y:YT l}->finA fx k l v h=some y->∃ a∈l,∃ y1,fin1 fx k a v h=some y1/\outsA l y=out1 a y1
 | [],_,_,_,h=>nomatch h
 | [a],v,h,y,hf=>⟨a,by simp,y,hf,rfl⟩
 | a :: b :: r,v,h,y,hf=>by
  simp only [finA] at hf
  split at hf
  ·rename_i y1 h1
   cases hf
   exact⟨a,by simp,y1,h1,rfl⟩
  ·split at hf
   ·rename_i y1 h1
    cases hf
    obtain⟨a',h2,y2,h3,h4⟩:=quP (b :: r) h1
    exact⟨a',zb _ h2,y2,h3,h4⟩
   ·cases hf
def finH(fx:List Nat)(s:Sig)(v:V)(h:List O):Option s.Y:=finA fx s.hp.length s.alts v h
theorem qxt:(l:List (List RP×List OP))->l ≠ []->(y:YT l)->∃ a∈l,(outsA l y).2.length=(mkH a.2 []).1.length
 | [],h,_=>absurd rfl h
 | [a],_,y=>⟨a,by simp,by simp only [outsA,out1];exact qsM _ _ _⟩
 | a :: b :: r,_,y=>by
  cases y with
  | inl y=>exact⟨a,by simp,by simp only [outsA,out1];exact qsM _ _ _⟩
  | inr y=>
   obtain⟨a',h1,h2⟩:=qxt (b :: r) (by simp) y
   exact⟨a',zb _ h1,h2⟩
def sigOk:List OP->List OP->Bool
 | [],_=>true
 | p :: ps,qs=>
  match qs with
  | []=>false
  | q :: qs=>(match p with
   | .none=>true
   | .cells _=>(match q with | .cells _=>true | _=>false)
   | .row _ ver _ _=>Nat.beq ver 0&&(match q with | .row _ _ _ _=>true | _=>false)
   | .oth _ z=>(match q with | .oth _ z'=>decide (z'=z) | _=>false)
   | .nst ver z=>Nat.beq ver 0&&(match q with | .nst _ z'=>decide (z'=z) | .gone=>true | _=>false)
   | .kds _ p _=>p.isMap
   | .gone=>(match q with | .gone=>true | _=>false))&&sigOk ps qs
def refsR(ps:List OP):RP->Bool
 | .dat _ _=>true
 | .form p=>refsP ps p
def wayOk(hp:List OP)(a:List RP×List OP):Bool:=sigOk hp a.2&&(a.1.all (refsR a.2)&&(a.2.all (refsO a.2)&&lowP a.2 hp.length))
section
variable {P : Program} {C : Ctx} {w0 : World} {A M0 : Nat -> Prop} {w w' : World} {h h' H : List O} {σ σ' τ1 : Nat -> Loc} {q : Rn}
theorem quq{qs:List OP}:(ps:List RP) -> {vs:List V} -> {xs:List Dy}->rdRs [] ps vs=some xs->ps.all (refsR qs)=true->qbs (idsP qs) vs=true
 | [],vs,xs,h,_=>by
  cases vs with
  | nil=>rfl
  | cons _ _=>simp [rdRs] at h
 | p :: ps,vs,xs,h,hr=>by
  cases vs with
  | nil=>simp [rdRs] at h
  | cons v vs=>
   simp only [rdRs] at h
   simp only [List.all_cons,zA] at hr
   split at h
   ·cases h
   ·rename_i d1 h1
    split at h
    ·cases h
    ·rename_i d2 h2
     simp only [qbs,zA]
     refine⟨?_,quq ps h2 hr.2⟩
     cases p with
     | dat b s=>
      simp only [rdR] at h1
      split at h1
      ·rename_i x hx
       unfold decA at hx
       have key:∀ u:V,qea [] s [u]=some x->qcu (idsP qs) u=true:=fun u hu=>by
        have:=qla (ids:=idsP qs) hu
        simpa [qbs] using this
       cases b with
       | true=>
        simp only [cond_true] at hx
        split at hx
        ·simp only [qcu];exact qla hx
        ·cases hx
       | false=>
        simp only [cond_false] at hx
        split at hx
        ·obtain⟨_,hx⟩:=qc hx
         simp only [qcu];exact qla hx
        ·cases hs:s.isAgg with
         | true=>rw [hs] at hx;cases hx
         | false=>rw [hs] at hx;exact key _ hx
      ·cases h1
     | form p=>
      simp only [rdR] at h1
      have:=qph p h1 []
      rw [List.append_nil] at this
      have h3:=qoE qs p hr.1 d1
      rw [this] at h3
      exact h3
theorem qzf{ids:List Nat}{n:Nat}{v:V}{us:List V}(h:tupV n v=some us)(hu:qbs ids us=true):qcu ids v=true:=by
 unfold tupV at h
 split at h
 ·cases h;simpa [qbs] using hu
 ·split at h
  ·cases h;simp only [qcu];exact hu
  ·cases h
theorem qlN(q:Rn):(h:List O)->(i j:Nat)->getO (renL q i h) j=renO q (i+j) (getO h j)
 | [],i,j=>rfl
 | o :: r,i,0=>rfl
 | o :: r,i,j+1=>by
  have:=qlN q r (i+1) j
  rw [show i+1+j=i+(j+1) by omega] at this
  exact this
theorem qhP:(ps:List OP)->(ds:List Dy)->(mkH ps ds).1.length=ps.length
 | [],_=>rfl
 | p :: ps,ds=>by simp only [mkH,List.length_cons,qhP ps]
theorem qEa{fx:List Nat}{k:Nat}(R:Rep w0 A M0 w h σ):Rep w0 A M0 w (renL (bmp fx k) 0 h) σ/\mutb M0 (renL (bmp fx k) 0 h) σ=mutb M0 h σ /\
  ∀ {v:V} {x:Value},RV w (mutb M0 h σ) h σ v x->RV w (mutb M0 (renL (bmp fx k) 0 h) σ) (renL (bmp fx k) 0 h) σ (renV (bmp fx k) v) x:=by
 have hg:∀ o,getO (renL (bmp fx k) 0 h) ((bmp fx k).m o)=renO (bmp fx k) o (getO h o):=fun o=>by
  have:=qlN (bmp fx k) h 0 o
  rwa [Nat.zero_add] at this
 have hg':∀ o,getO (renL (bmp fx k) 0 h) o=renO (bmp fx k) o (getO h o):=hg
 have ho:∀ b,own (renL (bmp fx k) 0 h) σ b↔own h σ b:=fun b=>by
  constructor
  ·rintro⟨o,h1,h2⟩;rw [hg'] at h1 h2;exact⟨o,qdj.1 h1,Oat.ren.1 h2⟩
  ·rintro⟨o,h1,h2⟩;exact⟨o,by rw [hg'];exact qdj.2 h1,by rw [hg'];exact Oat.ren.2 h2⟩
 have hm:mutb M0 (renL (bmp fx k) 0 h) σ=mutb M0 h σ:=by
  funext b
  exact propext ⟨fun h=>h.imp id (ho b).1,fun h=>h.imp id (ho b).2⟩
 refine⟨⟨R.fr,R.m0,fun b hb=>R.inA b ((ho b).1 hb),fun o o' b h1 h2 h3 h4=>R.apart o o' b (by rw [hg'] at h1;exact qdj.1 h1) (by rw [hg'] at h2;exact qdj.1 h2) (by rw [hg'] at h3;exact Oat.ren.1 h3) (by rw [hg'] at h4;exact Oat.ren.1 h4),fun o=>?_⟩,hm,fun hv=>?_⟩
 ·rw [hm,hg']
  exact qCR (fun o _=>hg o) (fun _ _=>rfl) (R.obj o)
 ·rw [hm];exact qun (fun o _=>hg o) (fun _ _=>rfl) hv
theorem qzv{M:Nat->Prop}(R:Rep w0 A M0 w h σ):(ps:List RP) -> {vs:List V} -> {xs:List Value} -> {ds:List Dy}->(r:List Dy)->RVs w (mutb M0 h σ) h σ vs xs->rdRs [] ps vs=some ds->(∀ b,M b->mutb M0 h σ b)->M=mutb M0 h σ ->
  RVs w M h σ (mkRs ps (ds++r)).1 xs/\(mkRs ps (ds++r)).2=r/\(mkRs ps (ds++r)).1.length=ps.length
 | [],vs,xs,ds,r,hv,hd,_,hM=>by
  cases vs with
  | nil=>simp only [rdRs,zD] at hd;subst hd;subst hM;exact⟨hv,rfl,rfl⟩
  | cons _ _=>simp [rdRs] at hd
 | p :: ps,vs,xs,ds,r,hv,hd,hs,hM=>by
  cases vs with
  | nil=>simp [rdRs] at hd
  | cons v vs=>
   simp only [rdRs] at hd
   split at hd
   ·cases hd
   ·rename_i d1 h1
    split at hd
    ·cases hd
    ·rename_i d2 h2
     cases hd
     simp only [RVs] at hv
     obtain⟨x,xs,rfl,g1,g2⟩:=hv
     obtain⟨i1,i2,i3⟩:=qzv R ps r g2 h2 hs hM
     cases p with
     | dat b s=>
      simp only [rdR] at h1
      split at h1
      ·rename_i y hy
       cases h1
       have:=qia (h':=h) (σ':=σ) (Mt:=M) R (hm:=[]) (fun o=>.inl (by simp [getO])) hs g1 (fun u _=>qfX) hy
       simp only [List.cons_append,List.nil_append,mkRs,mkR,RVs,List.length_cons]
       exact⟨⟨x,xs,rfl,this,i1⟩,i2,by rw [i3]⟩
      ·cases h1
     | form p=>
      simp only [rdR] at h1
      simp only [mkRs,mkR,zj,qph p h1,RVs,List.length_cons]
      refine⟨⟨x,xs,rfl,?_,i1⟩,i2,by rw [i3]⟩
      rw [hM];exact g1
theorem qDo{M:Nat->Prop}{n:Nat}{v:V}{vs us:List V}{x:Value}(ht:tupV n v=some vs)(hv:RV w M h σ v x)(hu:∀ xs,RVs w M h σ vs xs->RVs w M h σ us xs)(hl:us.length=n):RV w M h σ (retV us) x:=by
 unfold tupV at ht
 split at ht
 ·cases ht
  obtain⟨u,rfl⟩:∃ u,us = [u]:=by
   cases us with
   | nil=>cases hl
   | cons u r=>cases r with | nil=>exact⟨u,rfl⟩ | cons _ _=>simp at hl
  have:=hu [x] ⟨x,[],rfl,hv,rfl⟩
  simp only [RVs] at this
  obtain⟨y,ys,e,h1,h2⟩:=this
  cases e
  exact h1
 ·rename_i hn
  split at ht
  ·rename_i ws
   cases ht
   simp only [RV] at hv
   obtain⟨cs,h1,h2⟩:=hv
   have h3:=hu _ h2
   have:retV us=.tup us:=by
    cases us with
    | nil=>rfl
    | cons u r=>cases r with | nil=>exact absurd hl.symm (by simpa using hn) | cons _ _=>rfl
   rw [this]
   simp only [RV]
   exact⟨cs,h1,h3⟩
  ·cases ht
end
end Go.Abs
namespace Go.Abs
open Go.RowKit
section
variable {P : Program} {C : Ctx} {w0 : World} {A M0 : Nat -> Prop} {w w' : World} {h h' H : List O} {σ σ' τ1 : Nat -> Loc} {q : Rn}
theorem qzx:(ps:List OP) -> {h:List O} -> {xs:List Dy}->rdH ps h=some xs->∀ (i:Nat) (p:OP),ps[i]? = some p->∃ ds,rdO p (getO h i)=some ds
 | [],_,_,_,i,p,hp=>by simp at hp
 | p0 :: ps,h,xs,hr,i,p,hp=>by
  cases h with
  | nil=>simp [rdH] at hr
  | cons o h=>
   simp only [rdH] at hr
   split at hr
   ·cases hr
   ·rename_i ys hy
    split at hr
    ·cases hr
    ·rename_i zs hz
     cases i with
     | zero=>simp at hp;subst hp;exact⟨_,hy⟩
     | succ i=>exact qzx ps hz i p (by simpa using hp)
theorem qsN:(ps:List OP)->(ds:List Dy)->(i:Nat)->getO (mkH ps ds).1 i≠.none->∃ p ds',ps[i]? = some p/\getO (mkH ps ds).1 i=(mkO p ds').1
 | [],ds,i,hn=>absurd rfl hn
 | p :: ps,ds,0,_=>⟨p,ds,rfl,rfl⟩
 | p :: ps,ds,i+1,hn=>by
  have:=qsN ps (mkO p ds).2 i (by simp only [mkH] at hn;exact hn)
  obtain⟨p',ds',h1,h2⟩:=this
  exact⟨p',ds',by simpa using h1,by simp only [mkH];exact h2⟩
theorem quh:(ps qs:List OP)->sigOk ps qs=true->∀ (i:Nat) (fz:Bool) (ver:Nat) (e:TypeId) (s:Sh),ps[i]? = some (OP.row fz ver e s)->ver=0/\∃ fz' ver' e' s',qs[i]? = some (OP.row fz' ver' e' s')
 | [],_,_,i,_,_,_,_,hp=>by simp at hp
 | p :: ps,[],hs,_,_,_,_,_,_=>by simp [sigOk] at hs
 | p :: ps,q :: qs,hs,i,fz,ver,e,s,hp=>by
  simp only [sigOk,zA] at hs
  cases i with
  | zero=>
   simp at hp
   subst hp
   simp only [zA] at hs
   cases q with
   | row fz' ver' e' s'=>exact⟨zB hs.1.1,_,_,_,_,rfl⟩
   | _=>exact absurd hs.1.2 (by simp)
  | succ i=>simpa using quh ps qs hs.2 i fz ver e s (by simpa using hp)
theorem que:(ps qs:List OP)->sigOk ps qs=true->∀ (i ver:Nat) (z:Nst),ps[i]? = some (OP.nst ver z)->ver=0
 | [],_,_,i,_,_,hp=>by simp at hp
 | p :: ps,[],hs,_,_,_,_=>by simp [sigOk] at hs
 | p :: ps,q :: qs,hs,i,ver,z,hp=>by
  simp only [sigOk,zA] at hs
  cases i with
  | zero=>
   simp at hp
   subst hp
   simp only [zA] at hs
   exact zB hs.1.1
  | succ i=>exact que ps qs hs.2 i ver z (by simpa using hp)
theorem qug:(ps qs:List OP)->sigOk ps qs=true->∀ (i ver:Nat) (p:Kp) (t:Kt),ps[i]? = some (OP.kds ver p t)->p.isMap=true
 | [],_,_,i,_,_,_,hp=>by simp at hp
 | p :: ps,[],hs,_,_,_,_,_=>by simp [sigOk] at hs
 | p :: ps,q :: qs,hs,i,ver,z,t,hp=>by
  simp only [sigOk,zA] at hs
  cases i with
  | zero=>
   simp at hp
   subst hp
   exact hs.1
  | succ i=>exact qug ps qs hs.2 i ver z t (by simpa using hp)
theorem qkS:(ps:List RP)->(ds:List Dy)->(mkRs ps ds).1.length=ps.length
 | [],_=>rfl
 | p :: ps,ds=>by simp only [mkRs,List.length_cons,qkS ps]
theorem quf:(ps qs:List OP)->sigOk ps qs=true->ps.length<=qs.length
 | [],_,_=>zAE _
 | p :: ps,[],hs=>by simp [sigOk] at hs
 | p :: ps,q :: qs,hs=>by
  simp only [sigOk,zA] at hs
  have:=quf ps qs hs.2
  simp;omega
theorem qzU{s:Sig}{C:Ctx}(hsig:s.alts.all (wayOk s.hp)=true)(hfl:C.fl=s.hp.length){x:s.X}{y:s.Y}{v:Value}{u:V}{h0':List O}(hfin:finH C.fx s u h0'=some y)(R0':Rep w0 A M0 w' h0' σ')(hr0:RV w' (mutb M0 h0' σ') h0' σ' u v)(far0:Far C.fx C.fl M0 w (s.ins x).2 σ M0 w' h0' σ') :
  ∃ v1 σ1,Ending.returned v=.returned v1/\Next w0 A M0 w (s.ins x).2 σ w' (s.outs y).2 σ1/\RV w' (mutb M0 (s.outs y).2 σ1) (s.outs y).2 σ1 (s.outs y).1 v1:=by
 have hlh:(s.ins x).2.length=s.hp.length:=by simp only [Sig.ins,qhP]
 obtain⟨a1,ha1,y1,hfin,hout⟩:=quP _ hfin
 have hN0:=R0'.ext (fun o=>qxs h0' (a1.2.length - h0'.length) o)
 have R':=hN0.rep
 have hr:=RV.keeps hN0.keeps hN0.step hr0
 have far:=far0.trans (Far.of_next (fx:=C.fx) (fl:=C.fl) hN0) (fun b hb=>(R0'.foreign b hb).2)
 rw [show h0'++List.replicate (a1.2.length - h0'.length) O.none=padH a1.2.length h0' from rfl] at R' hr far
 clear hN0 hr0 far0
 have hsig:=zm.1 hsig a1 ha1
 unfold wayOk at hsig
 simp only [zA] at hsig
 obtain⟨hsig,hrf,hro,hlow⟩:=hsig
 have hk:=quf _ _ hsig
 unfold fin1 at hfin
 simp only at hfin
 generalize padH a1.2.length h0'=h' at hfin R' hr far
 split at hfin
 ·cases hfin
 rename_i us hus
 split at hfin
 ·cases hfin
 rename_i xs hxs
 split at hfin
 ·cases hfin
 rename_i ys hys
 have R1:=qqm (fx:=C.fx) (base:=a1.2.length) R'
 have hr1:=cv_rv (fx:=C.fx) (base:=a1.2.length) R' hr
 have far1:=far.trans (Far.conv (base:=a1.2.length) (by rw [hfl];exact hk)) (fun b hb=>(R'.foreign b hb).2)
 obtain⟨R2,hm2,hr2⟩:=qEa (fx:=C.fx) (k:=s.hp.length) R1
 have hr2:=hr2 hr1
 have eh:(mkH a1.2 ys).1=mskH a1.2 (renL (bmp C.fx s.hp.length) 0 (cvH C.fx a1.2.length h')):=by
  have:=qzw a1.2 hys []
  rw [List.append_nil] at this
  rw [this]
 have R3:=qzQ R2 eh hro
 have hr3:=qzP (ps:=a1.2) (qzf hus (quq a1.1 hxs hrf)) hr2
 have eo:s.outs y=(retV (mkRs a1.1 (xs++ys)).1,(mkH a1.2 (mkRs a1.1 (xs++ys)).2).1):=by
  simp only [Sig.outs,hout,out1,qkb _ hfin]
 have key:∀ zs,RVs w' (mutb M0 (mskH a1.2 (renL (bmp C.fx s.hp.length) 0 (cvH C.fx a1.2.length h'))) σ') (mskH a1.2 (renL (bmp C.fx s.hp.length) 0 (cvH C.fx a1.2.length h'))) σ' us zs->_:=fun zs hz=>
  qzv R3 a1.1 ys hz hxs (fun _ h=>h) rfl
 have hsnd:(mkRs a1.1 (xs++ys)).2=ys:=by
  have:∀ (ps:List RP) (vs:List V) (ds r:List Dy),rdRs [] ps vs=some ds->(mkRs ps (ds++r)).2=r:=by
   intro ps
   induction ps with
   | nil=>
    intro vs ds r hd
    cases vs with
    | nil=>simp only [rdRs,zD] at hd;subst hd;rfl
    | cons _ _=>simp [rdRs] at hd
   | cons p ps ih=>
    intro vs ds r hd
    cases vs with
    | nil=>simp [rdRs] at hd
    | cons v vs=>
     simp only [rdRs] at hd
     split at hd
     ·cases hd
     ·rename_i d1 h1
      split at hd
      ·cases hd
      ·rename_i d2 h2
       cases hd
       cases p with
       | dat b s=>
        simp only [rdR] at h1
        split at h1
        ·cases h1
         simp only [List.cons_append,List.nil_append,mkRs,mkR]
         exact ih _ _ _ h2
        ·cases h1
       | form p=>
        simp only [rdR] at h1
        simp only [mkRs,mkR,zj,qph p h1]
        exact ih _ _ _ h2
  exact this _ _ _ _ hxs
 have eo2:(s.outs y).2=mskH a1.2 (renL (bmp C.fx s.hp.length) 0 (cvH C.fx a1.2.length h')):=by rw [eo];simp only [hsnd,eh]
 have eo1:(s.outs y).1=retV (mkRs a1.1 (xs++ys)).1:=by rw [eo]
 rw [eo1,eo2]
 refine⟨v,σ',rfl,⟨R3,far1.goes,⟨far1.keeps.size,far1.keeps.block,fun b h1 h2 h3=>far1.keeps.out b h1 h2 (by rw [<- hm2];exact qit b h3)⟩,fun o=>?_⟩,?_⟩
 ·have hgo2':o<s.hp.length->getO (mskH a1.2 (renL (bmp C.fx s.hp.length) 0 (cvH C.fx a1.2.length h'))) o=renO (bmp C.fx s.hp.length) o (getO (cvH C.fx a1.2.length h') o):=fun ho=>by
   rw [qjU,quB hlow ho,cond_true,qlN,Nat.zero_add]
  cases e0:getO (s.ins x).2 o with
  | none=>trivial
  | cells vs0=>
   have hok:o<C.fl:=by rw [hfl,<- hlh];exact qae (by rw [e0];simp)
   have:=far1.step o hok
   rw [e0] at this
   have hgo2:=hgo2' (by rw [<- hfl];exact hok)
   rcases this with⟨vs',h1,h2⟩ | ⟨h1,h2⟩
   ·exact .inl ⟨_,by rw [hgo2,h1];rfl,h2⟩
   ·exact .inr ⟨by rw [hgo2,h1];rfl,h2⟩
  | gone=>
   have hok:o<C.fl:=by rw [hfl,<- hlh];exact qae (by rw [e0];simp)
   have:=far1.step o hok
   rw [e0] at this
   have hgo2:=hgo2' (by rw [<- hfl];exact hok)
   exact⟨by rw [hgo2,this.1];rfl,this.2⟩
  | nst ver z d0=>
   have hol:o<s.hp.length:=by rw [<- hlh];exact qae (by rw [e0];simp)
   have hok:o<C.fl:=by rw [hfl];exact hol
   have hgo2:=hgo2' hol
   have:=far1.step o hok
   rw [e0] at this
   have e0':getO (mkH s.hp (mkRs s.as (encT s.lx x)).2).1 o=.nst ver z d0:=e0
   obtain⟨p,ds',hp1,hp2⟩:=qsN s.hp (mkRs s.as (encT s.lx x)).2 o (by rw [e0'];simp)
   rw [e0'] at hp2
   have hver:ver=0:=by
    cases p with
    | none=>cases hp2
    | gone=>cases hp2
    | cells _=>simp only [mkO] at hp2;cases hp2
    | oth fz1 z1=>
     cases ds' with
     | nil=>cases hp2
     | cons d r=>cases d <;> first | (cases hp2;done) | (simp only [mkO] at hp2;split at hp2 <;> cases hp2)
    | row fz1 ver1 e1 s1=>
     cases ds' with
     | nil=>cases hp2
     | cons d r=>cases d <;> first | (cases hp2;done) | (simp only [mkO] at hp2;cases hp2)
    | kds _ _ _=>
     cases ds' with
     | nil=>cases hp2
     | cons d r=>cases d <;> first | (cases hp2;done) | (simp only [mkO] at hp2;split at hp2 <;> cases hp2)
    | nst ver1 z1=>
     have hv1:ver=ver1:=by
      cases ds' with
      | nil=>cases hp2
      | cons d r=>cases d <;> first | (cases hp2;done) | (simp only [mkO] at hp2;split at hp2 <;> first | (cases hp2;done) | (simp only [O.nst.injEq] at hp2;exact hp2.1))
     rw [hv1]
     exact que _ _ hsig o _ _ hp1
   subst hver
   rcases this with⟨ver',d',h1,h2,h3⟩ | ⟨h1,h2⟩
   ·refine .inl ⟨_,d',by rw [hgo2,h1];rfl,zAE _,h2,fun hv=>?_⟩
    cases eb:memN C.fx o with
    | false=>
     obtain⟨_,h4⟩:=h3 eb
     simp only [bmp,eb,Bool.false_and,cond_false,Nat.add_zero] at hv
     exact h4 hv
    | true=>
     simp only [bmp,eb,Bool.true_and,show Nat.blt o s.hp.length=true from zAn hol,cond_true] at hv
     omega
   ·exact .inr ⟨by rw [hgo2,h1];rfl,h2⟩
  | oth fz z d0=>
   have hok:o<C.fl:=by rw [hfl,<- hlh];exact qae (by rw [e0];simp)
   have:=far1.step o hok
   rw [e0] at this
   have hgo2:=hgo2' (by rw [<- hfl];exact hok)
   exact⟨this.1.imp (fun h=>by rw [hgo2];exact qlG.2 h) (fun h=>by rw [hgo2,h];rfl),this.2⟩
  | kds ver p t h0 d0=>
   have hol:o<s.hp.length:=by rw [<- hlh];exact qae (by rw [e0];simp)
   have hok:o<C.fl:=by rw [hfl];exact hol
   have hgo2:=hgo2' hol
   have:=far1.step o hok
   rw [e0] at this
   have e0':getO (mkH s.hp (mkRs s.as (encT s.lx x)).2).1 o=.kds ver p t h0 d0:=e0
   obtain⟨pp,ds',hp1,hp2⟩:=qsN s.hp (mkRs s.as (encT s.lx x)).2 o (by rw [e0'];simp)
   rw [e0'] at hp2
   have hmap:p.isMap=true:=by
    cases pp with
    | none=>cases hp2
    | gone=>cases hp2
    | cells _=>simp only [mkO] at hp2;cases hp2
    | oth fz1 z1=>
     cases ds' with
     | nil=>cases hp2
     | cons d r=>cases d <;> first | (cases hp2;done) | (simp only [mkO] at hp2;split at hp2 <;> cases hp2)
    | row fz1 ver1 e1 s1=>
     cases ds' with
     | nil=>cases hp2
     | cons d r=>cases d <;> first | (cases hp2;done) | (simp only [mkO] at hp2;cases hp2)
    | nst fz1 z1=>
     cases ds' with
     | nil=>cases hp2
     | cons d r=>cases d <;> first | (cases hp2;done) | (simp only [mkO] at hp2;split at hp2 <;> cases hp2)
    | kds ver1 p1 t1=>
     have hp3:p=p1:=by
      cases ds' with
      | nil=>cases hp2
      | cons d r=>cases d <;> first | (cases hp2;done) | (simp only [mkO] at hp2;split at hp2 <;> first | (cases hp2;done) | (simp only [O.kds.injEq] at hp2;exact hp2.2.1))
     rw [hp3]
     exact qug _ _ hsig o _ _ _ hp1
   have this:=this (.inl hmap)
   show KStep ver p (kLen p t d0) t.n _ _ _
   unfold KStep at this ⊢
   rw [hmap] at this ⊢
   exact⟨this.1.imp (fun h=>by rw [hgo2];exact qlG.2 h) (fun h=>by rw [hgo2,h];rfl),this.2⟩
  | row fz ver e t zs=>
   have hol:o<s.hp.length:=by rw [<- hlh];exact qae (by rw [e0];simp)
   have hok:o<C.fl:=by rw [hfl];exact hol
   have hgo2:=hgo2' hol
   have:=far1.step o hok
   rw [e0] at this
   have e0':getO (mkH s.hp (mkRs s.as (encT s.lx x)).2).1 o=.row fz ver e t zs:=e0
   obtain⟨p,ds',hp1,hp2⟩:=qsN s.hp (mkRs s.as (encT s.lx x)).2 o (by rw [e0'];simp)
   rw [e0'] at hp2
   cases p with
   | none=>cases hp2
   | gone=>cases hp2
   | cells _=>simp only [mkO] at hp2;cases hp2
   | oth fz1 z1=>
    cases ds' with
    | nil=>cases hp2
    | cons d r=>cases d <;> first | (cases hp2;done) | (simp only [mkO] at hp2;split at hp2 <;> cases hp2)
   | nst fz1 z1=>
    cases ds' with
    | nil=>cases hp2
    | cons d r=>cases d <;> first | (cases hp2;done) | (simp only [mkO] at hp2;split at hp2 <;> cases hp2)
   | kds _ _ _=>
    cases ds' with
    | nil=>cases hp2
    | cons d r=>cases d <;> first | (cases hp2;done) | (simp only [mkO] at hp2;split at hp2 <;> cases hp2)
   | row fz1 ver1 e1 s1=>
    have hv1:ver=ver1:=by
     cases ds' with
     | nil=>cases hp2
     | cons d r=>cases d <;> first | (cases hp2;done) | (simp only [mkO,O.row.injEq] at hp2;exact hp2.2.1)
    obtain⟨hz,fz2,ver2,e2,s2,hq1⟩:=quh _ _ hsig o _ _ _ _ hp1
    obtain⟨ds,hd⟩:=qzx _ hys o _ hq1
    cases eb:memN C.fx o with
    | false=>
     obtain⟨fz',ver',e',s',xs',h1,h2,h3⟩:=this eb
     refine⟨fz',ver',e',s',xs',by rw [hgo2,h1];simp only [renO,bmp,eb,Bool.false_and,cond_false,Nat.add_zero],h2,h3⟩
    | true=>
     cases e3:getO (cvH C.fx a1.2.length h') o with
     | none=>rw [hgo2,e3] at hd;simp [renO,rdO] at hd
     | cells _=>rw [hgo2,e3] at hd;simp [renO,rdO] at hd
     | oth _ _ _=>rw [hgo2,e3] at hd;simp [renO,rdO] at hd
     | nst _ _ _=>rw [hgo2,e3] at hd;simp [renO,rdO] at hd
     | kds _ _ _ _ _=>rw [hgo2,e3] at hd;simp [renO,rdO] at hd
     | gone=>rw [hgo2,e3] at hd;simp [renO,rdO] at hd
     | row fz' ver' e' s' xs'=>
      refine⟨fz',ver'+1,e',s',xs',by rw [hgo2,e3];simp only [renO,bmp,eb,Bool.true_and,show Nat.blt o s.hp.length=true from zAn hol,cond_true],by omega,fun h=>by omega⟩
 ·refine qDo hus hr3 (fun zs hz=>(key zs hz).1) ?_
  exact qkS _ _
theorem mkSpH{gs:List (Nat×List Value)}{f:Nat}{fn:Func}{c:Code}{s:Sig}{D:s.X->Option s.Y}{C:Ctx}{a:Ann}(hf:P.funcs[f]? = some fn)(hb:fn.body=some c)(hm:P.follows .mixedOrders=true)(hlen:Nat.ble s.as.length fn.ntmps=true)
  (hsig:s.alts.all (wayOk s.hp)=true) (hfl:C.fl=s.hp.length) (hC:CtxOk P gs fn C) (hE:∀ x,exec C c a (argS 0 (s.ins x).1) (s.ins x).2 (finK C fn.results.toList (finH C.fx s))=D x):SpecH P gs f s D:=by
 intro w A M0 σ x y vs hgw hgo R hv hD
 have hx:=(hE x).trans hD
 have hla:(s.ins x).1.length=s.as.length:=by simp only [Sig.ins,qkS]
 refine (qqp hf hb hC.types hC.calls hC.its (hC.gs▸⟨hgw,hgo⟩) hm hC.n hx (by rw [hla];exact zH hlen) R hv).mono ?_
 rintro e' w' ⟨v,u,h0',σ',rfl,hfin,R0',hr0,far0⟩
 exact qzU hsig hfl hfin R0' hr0 far0
mutual
def bindV:VP->V->List (Nat×Nat×Nat)
 | .slc o ver,v=>match v with | .slc o' ver'=>[(o,o',ver' - ver)] | _=>[]
 | .ptr o _,v=>match v with | .ptr o' _=>[(o,o',0)] | _=>[]
 | .rptr o ver _,v=>match v with | .rptr o' ver' _ _=>[(o,o',ver' - ver)] | _=>[]
 | .tl o ver,v=>match v with | .tl o' ver' _=>[(o,o',ver' - ver)] | _=>[]
 | .ifc _ p,v=>match v with | .ifc _ u=>bindV p u | _=>[]
 | .clo _ ps,v=>match v with | .clo _ vs=>qvt ps vs | _=>[]
 | .agg ps,v=>match v with | .agg vs=>qvt ps vs | _=>[]
 | .tup ps,v=>match v with | .tup vs=>qvt ps vs | _=>[]
 | _,_=>[]
def qvt:List VP->List V->List (Nat×Nat×Nat)
 | [],_=>[]
 | p :: ps,vs=>match vs with | []=>[] | v :: vs=>bindV p v++qvt ps vs
end
def qBd:List RP->List V->List (Nat×Nat×Nat)
 | .dat _ _ :: ps,_ :: vs=>qBd ps vs
 | .form p :: ps,v :: vs=>bindV p v++qBd ps vs
 | _,_=>[]
def bindO(p:OP)(o:O):List (Nat×Nat×Nat):=
 match p with
 | .cells ps=>match o with | .cells vs=>qvt ps vs | _=>[]
 | _=>[]
def bfind:List (Nat×Nat×Nat)->Nat->Option (Nat×Nat)
 | [],_=>none
 | b :: r,o=>bif Nat.beq b.1 o then some b.2 else bfind r o
def qqt(H:List O):Nat->List OP->List (Nat×Nat×Nat)->Option (List (Nat×Nat))
 | _,[],_=>some []
 | o,p :: ps,b=>
  match bfind b o with
  | none=>none
  | some x=>
   match qqt H (o+1) ps (b++bindO p (getO H x.1)) with
   | none=>none
   | some l=>some (x :: l)
def rnL(l:List (Nat×Nat))(n:Nat):Rn:=
 { m:=fun o=>match l[o]? with | some p=>p.1 | none=>n+(o - l.length),d:=fun o=>match l[o]? with | some p=>p.2 | none=>0 }
def rdHs(q:Rn)(H:List O):Nat->List OP->Option (List Dy)
 | _,[]=>some []
 | o,p :: ps=>
  match rdO (renOP q o p) (getO H (q.m o)) with
  | none=>none
  | some xs=>
   match rdHs q H (o+1) ps with
   | none=>none
   | some ys=>some (xs++ys)
def qxu:List Nat->Bool
 | []=>true
 | x :: r=>!memN r x&&qxu r
def idxL:Nat->List (Nat×Nat)->Nat->Option Nat
 | _,[],_=>none
 | i,p :: r,j=>bif Nat.beq p.1 j then some i else idxL (i+1) r j
def backM(l:List (Nat×Nat))(q:Rn)(h':List O):Nat->List O->List O
 | _,[]=>[]
 | j,x :: r=>(match idxL 0 l j with | some o=>renO q o (getO h' o) | none=>x) :: backM l q h' (j+1) r
def backL(l:List (Nat×Nat))(q:Rn)(h' H:List O):List O:=backM l q h' 0 H++renL q l.length (h'.drop l.length)
def qwX(s:Sig)(args:List V)(H:List O):Option (List (Nat×Nat)×s.X):=
 match qqt H 0 s.hp (qBd s.as args) with
 | none=>none
 | some l=>
  bif l.all (fun p=>Nat.blt p.1 H.length)&&(qxu (l.map (·.1))&&s.alts.all fun a=>Nat.ble s.hp.length a.2.length) then
   match rdRs H (s.as.map (renRP (rnL l H.length))) args with
   | none=>none
   | some xs=>
    match rdHs (rnL l H.length) H 0 s.hp with
    | none=>none
    | some ys=>match decT s.lx (xs++ys) with | none=>none | some x=>some (l,x)
  else none
def frzD(s:Sig)(args:List V)(H:List O):List O:=qai (frzL H (cellsOf (datA s.as args))) H
def mkHe(f:Nat)(s:Sig)(D:s.X->Option s.Y):Ent:=
 { f:=f,run:=fun args H=>
  match qwX s args (frzD s args H) with
  | none=>none
  | some p=>some { α:=s.Y,r:=D p.2,v:=fun y=>renV (rnL p.1 H.length) (s.outs y).1,h:=some fun y H=>backL p.1 (rnL p.1 H.length) (s.outs y).2 (frzD s args H),sp:=qzp s.alts,spOk:=qtU s.alts } }
theorem qqs(H:List O):(o:Nat)->(ps:List OP)->(b:List (Nat×Nat×Nat)) -> {l:List (Nat×Nat)}->qqt H o ps b=some l->l.length=ps.length
 | _,[],_,l,hl=>by simp only [qqt,zD] at hl;subst hl;rfl
 | o,p :: ps,b,l,hl=>by
  simp only [qqt] at hl
  split at hl
  ·cases hl
  ·split at hl
   ·cases hl
   ·rename_i l' hl'
    cases hl
    simp [qqs H _ _ _ hl']
theorem qrA:(l:List Nat)->qxu l=true->l.Nodup
 | [],_=>zBX
 | x :: r,h=>by
  simp only [qxu,zA,zT] at h
  refine zZ.2 ⟨fun hx=>?_,qrA r h.2⟩
  have h1:=h.1
  rw [qgV.2 hx] at h1
  cases h1
theorem qpO:(l:List (Nat×Nat))->(i j o:Nat)->idxL i l j=some o->i<=o/\∃ p,l[o - i]? = some p/\p.1=j
 | [],_,_,_,h=>by cases h
 | p :: r,i,j,o,h=>by
  simp only [idxL] at h
  cases hb:Nat.beq p.1 j with
  | true=>
   rw [hb] at h
   cases h
   exact⟨Nat.le_refl _,p,by simp,zB hb⟩
  | false=>
   rw [hb] at h
   obtain⟨h1,p',h2,h3⟩:=qpO r (i+1) j o h
   refine⟨by omega,p',?_,h3⟩
   rw [show o - i=(o - (i+1))+1 by omega]
   simpa using h2
theorem quI:(l:List (Nat×Nat))->(i j:Nat)->idxL i l j=none->∀ p∈l,p.1≠j
 | [],_,_,_,p,hp=>by cases hp
 | p0 :: r,i,j,h,p,hp=>by
  simp only [idxL] at h
  cases hb:Nat.beq p0.1 j with
  | true=>rw [hb] at h;cases h
  | false=>
   rw [hb] at h
   rcases zi.1 hp with rfl | hp
   ·exact fun e=>by rw [e,Nat.beq_refl] at hb;cases hb
   ·exact quI r (i+1) j h p hp
theorem qkt(x:O)(r:List O)(i:Nat):getO (x :: r) (i+1)=getO r i:=rfl
theorem qvx(l:List (Nat×Nat))(q:Rn)(h':List O):(H:List O)->(j0 j:Nat)->getO (backM l q h' j0 H) j=if j<H.length then (match idxL 0 l (j0+j) with | some o=>renO q o (getO h' o) | none=>getO H j) else .none
 | [],j0,j=>by simp [backM,getO]
 | x :: r,j0,0=>by simp [backM,getO]
 | x :: r,j0,j+1=>by
  simp only [backM,qkt,qvx l q h' r (j0+1) j,List.length_cons,show j0+1+j=j0+(j+1) by omega,Nat.add_lt_add_iff_right]
theorem qoa(l:List (Nat×Nat))(q:Rn)(h':List O):(H:List O)->(j0:Nat)->(backM l q h' j0 H).length=H.length
 | [],_=>rfl
 | x :: r,j0=>by simp only [backM,List.length_cons,qoa l q h' r]
theorem qCs(a b:List O)(j:Nat):getO (a++b) j=if j<a.length then getO a j else getO b (j - a.length):=by
 unfold getO
 simp only [zK]
 split
 ·rename_i h;rw [zl h]
 ·rename_i h;rw [zu (by omega)]
theorem qAs(a:List O)(n j:Nat):getO (a.drop n) j=getO a (n+j):=by
 unfold getO
 simp only [zK,zAB]
theorem qxm{q:Rn}{H:List O}:(ps:List OP)->(o:Nat) -> {ys:List Dy}->rdHs q H o ps=some ys->∀ i,i<ps.length->getO H (q.m (o+i))=renO q (o+i) (getO (mkH ps ys).1 i)
 | [],_,_,_,i,hi=>absurd hi (zAd i)
 | p :: ps,o,ys,hr,i,hi=>by
  simp only [rdHs] at hr
  split at hr
  ·cases hr
  ·rename_i xs hx
   split at hr
   ·cases hr
   ·rename_i zs hz
    cases hr
    have h1:=qCT hx zs
    rw [qDx] at h1
    have h2:=(zN _ _ _ _).mp h1
    cases i with
    | zero=>simp only [mkH,Nat.add_zero];exact h2.1.symm
    | succ i=>
     have:=qxm ps (o+1) hz i (by simpa using hi)
     rw [show o+(i+1)=o+1+i by omega,this]
     simp only [mkH,qkt,h2.2]
theorem qvX(R:Rep w0 A M0 w H τ1)(hg:∀ o,getO H (q.m o)=renO q o (getO h o)):(ps:List RP) -> {vs:List V} -> {xs:List Value} -> {ds:List Dy}->(r:List Dy)->RVs w (mutb M0 H τ1) H τ1 vs xs->rdRs H (ps.map (renRP q)) vs=some ds ->
  (∀ v∈datA ps vs,∀ u∈v.cells,RefOk H τ1 (mutb M0 H τ1) u)->RVs w (mutb M0 H τ1) h (fun o=>τ1 (q.m o)) (mkRs ps (ds++r)).1 xs/\(mkRs ps (ds++r)).2=r
 | [],vs,xs,ds,r,hv,hd,_=>by
  cases vs with
  | nil=>simp only [List.map_nil,rdRs,zD] at hd;subst hd;exact⟨by simpa only [mkRs,RVs] using hv,rfl⟩
  | cons _ _=>simp [rdRs] at hd
 | p :: ps,vs,xs,ds,r,hv,hd,hz=>by
  cases vs with
  | nil=>simp [rdRs] at hd
  | cons v vs=>
   simp only [List.map_cons,rdRs] at hd
   split at hd
   ·cases hd
   ·rename_i d1 h1
    split at hd
    ·cases hd
    ·rename_i d2 h2
     cases hd
     simp only [RVs] at hv
     obtain⟨x,xs,rfl,g1,g2⟩:=hv
     cases p with
     | dat b s=>
      obtain⟨i1,i2⟩:=qvX R hg ps r g2 h2 (fun v' hv'=>hz v' (by simp [datA,hv']))
      simp only [renRP,rdR] at h1
      split at h1
      ·rename_i y hy
       cases h1
       have:=qia (h':=h) (σ':=fun o=>τ1 (q.m o)) (Mt:=mutb M0 H τ1) R (Sub.refl _) (fun _ h=>h) g1 (hz v (by simp [datA])) hy
       simp only [List.cons_append,List.nil_append,mkRs,mkR,RVs]
       exact⟨⟨x,xs,rfl,this,i1⟩,i2⟩
      ·cases h1
     | form p=>
      obtain⟨i1,i2⟩:=qvX R hg ps r g2 h2 (fun v' hv'=>hz v' (by simp [datA,hv']))
      simp only [renRP,rdR] at h1
      have h3:=qph (renP q p) h1 (d2++r)
      rw [qwf] at h3
      have h4:=(zN _ _ _ _).mp h3
      simp only [mkRs,mkR,zj,RVs]
      rw [h4.2]
      refine⟨⟨x,xs,rfl,un_rv hg (fun _ _=>rfl) ?_,i1⟩,i2⟩
      rw [h4.1];exact g1
theorem qAJ{gs:List (Nat×List Value)}{f:Nat}{s:Sig}{args:List V}{H0:List O}{l:List (Nat×Nat)}{x:s.X}(hsub:qwX s args (frzD s args H0)=some (l,x)){en:Ending->Value->Prop}{vo:V}{h':List O}(hlen:s.hp.length<=h'.length)
  (hS:∀ (w:World) (A M0:Nat->Prop) (σ:Nat->Loc) (vs:List Value),GW gs w->(∀ p∈gs,¬ A p.1)->Rep w A M0 w (s.ins x).2 σ->RVs w (mutb M0 (s.ins x).2 σ) (s.ins x).2 σ (s.ins x).1 vs ->
   Calls P f vs.toArray w fun e w'=>∃ v σ',en e v/\Next w A M0 w (s.ins x).2 σ w' h' σ'/\RV w' (mutb M0 h' σ') h' σ' vo v)
  {w0:World} {A M0:Nat->Prop} {w:World} {τ1:Nat->Loc} (hgl:Gl gs w0 A) (R0:Rep w0 A M0 w H0 τ1) {vs:List Value} (hv0:RVs w (mutb M0 H0 τ1) H0 τ1 args vs) :
  Calls P f vs.toArray w fun e w'=>∃ v σ',en e v/\Next w0 A M0 w H0 τ1 w' (backL l (rnL l H0.length) h' (frzD s args H0)) σ'/\RV w' (mutb M0 (backL l (rnL l H0.length) h' (frzD s args H0)) σ') (backL l (rnL l H0.length) h' (frzD s args H0)) σ' (renV (rnL l H0.length) vo) v:=by
 have nf:Next w0 A M0 w H0 τ1 w (frzD s args H0) τ1:=qjW (Sub.refl H0).f R0 _
 have hln:(frzD s args H0).length=H0.length:=qbo _ _
 have hv:=RVs.keeps nf.keeps nf.step hv0
 have hfz:∀ v∈datA s.as args,∀ u∈v.cells,RefOk (frzD s args H0) τ1 (mutb M0 (frzD s args H0) τ1) u:=by
  intro v hv u hu o ver e' ver' ty' s' ys hg hvv b hb hmt
  subst e'
  rcases qfM (frzL H0 (cellsOf (datA s.as args))) (h:=H0) o with h' | ⟨ob,h3,h4⟩
  ·exact qtg (hx:=H0) (fun i hi=>qae hi) (qpu hv hu) hg ⟨_,_,_,_,_,by rw [<- h'];exact hg,hvv⟩
  ·obtain⟨_,_,_,_,_,_,h6⟩:=qiA h3
   have hg':getO (qai (frzL H0 (cellsOf (datA s.as args))) H0) o=_:=hg
   rw [h4,h6] at hg';cases hg'
 rw [<- hln]
 generalize frzD s args H0=H at *
 have R:=nf.rep
 unfold qwX at hsub
 split at hsub
 ·cases hsub
 rename_i l' hl
 obtain⟨hc,hsub⟩:=qc hsub
 split at hsub
 ·cases hsub
 rename_i xs hxs
 split at hsub
 ·cases hsub
 rename_i ys hys
 split at hsub
 ·cases hsub
 rename_i x' hx
 cases hsub
 simp only [zA,zm] at hc
 obtain⟨c1,c2,-⟩:=hc
 have hll:=qqs _ _ _ _ hl
 have hnd:=qrA _ c2
 generalize hq:rnL l H.length=q at *
 have qlt:∀ o,o<l.length->q.m o<H.length/\l[o]? = some (q.m o,q.d o):=fun o ho=>by
  have e:l[o]? = some l[o]:=zW ho
  have:=c1 l[o] (zAu ho)
  rw [<- hq]
  simp only [rnL,e]
  exact⟨zH this,trivial⟩
 have qge:∀ o,l.length<=o->q.m o=H.length+(o - l.length):=fun o ho=>by
  rw [<- hq]
  simp only [rnL,zX ho]
 have qinj:∀ o o',o<l.length->o'<l.length->q.m o=q.m o'->o=o':=fun o o' h1 h2 e=>by
  have e1:=(qlt o h1).2
  have e2:=(qlt o' h2).2
  have f1:=(zS.1 e1).2
  have f2:=(zS.1 e2).2
  have hi:=zAq.1 hnd
  rcases zCE o o' with hlt | heq | hgt
  ·exact (hi o o' (by simpa using h1) (by simpa using h2) hlt (by rw [List.getElem_map,List.getElem_map,f1,f2];exact e)).elim
  ·exact heq
  ·exact (hi o' o (by simpa using h2) (by simpa using h1) hgt (by rw [List.getElem_map,List.getElem_map,f1,f2];exact e.symm)).elim
 have ein:s.ins x=((mkRs s.as (xs++ys)).1,(mkH s.hp (mkRs s.as (xs++ys)).2).1):=by
  simp only [Sig.ins,qkb _ hx]
 have S:SubH q l.length (mkH s.hp ys).1 H:=by
  refine⟨by rw [qhP,hll],fun o=>?_,qinj⟩
  by_cases ho:o<l.length
  ·have:=qxm s.hp 0 hys o (by omega)
   rwa [Nat.zero_add] at this
  ·have e1:getO H (q.m o)=.none:=by
    rw [qge o (by omega)]
    unfold getO
    rw [zK,zX (by omega)];rfl
   have e2:getO (mkH s.hp ys).1 o=.none:=by
    unfold getO
    rw [zK,zX (by rw [qhP];omega)];rfl
   rw [e1,e2];rfl
 obtain⟨a1,a2⟩:=qvX (h:=(mkH s.hp ys).1) R S.get s.as ys hv hxs hfz
 have ein1:(s.ins x).1=(mkRs s.as (xs++ys)).1:=by rw [ein]
 have ein2:(s.ins x).2=(mkH s.hp ys).1:=by rw [ein];simp only [a2]
 have R1:=S.rep R
 have hown:∀ b,own (mkH s.hp ys).1 (fun o=>τ1 (q.m o)) b->own H τ1 b:=fun b hb=>S.owns hb
 refine (hS w (own (mkH s.hp ys).1 fun o=>τ1 (q.m o)) (restM M0 (mkH s.hp ys).1 H (fun o=>τ1 (q.m o)) τ1) (fun o=>τ1 (q.m o)) vs (hgl.now R) (fun p hp ho=>?_) (by rw [ein2];exact R1) (by rw [ein1,ein2,S.mutbs];exact a1)).mono ?_
 ·rcases R.inA p.1 (hown _ ho) with h | h
  ·exact hgl.out p hp h
  ·have:=(hgl.at_ p hp).1;omega
 rintro e w' ⟨v,σ',hen,nx,hrv⟩
 rw [ein2] at nx
 have c3:=hlen
 have B:BackH q q l.length h' H (backL l q h' H):=by
  have hget:∀ j,getO (backL l q h' H) j=if j<H.length then (match idxL 0 l j with | some o=>renO q o (getO h' o) | none=>getO H j) else renO q (l.length+(j - H.length)) (getO h' (l.length+(j - H.length))):=fun j=>by
   unfold backL
   rw [qCs,qoa,qvx,Nat.zero_add]
   split
   ·rfl
   ·rw [qlN,qAs]
  have qm:∀ o,o<h'.length->(o<l.length/\q.m o<H.length)\/(l.length<=o/\q.m o=H.length+(o - l.length)):=fun o _=>by
   by_cases h:o<l.length
   ·exact .inl ⟨h,(qlt o h).1⟩
   ·exact .inr ⟨by omega,qge o (by omega)⟩
  refine⟨fun o ho=>?_,fun j hj=>?_,fun o o' h1 h2 e=>?_,fun _ _=>⟨rfl,rfl⟩,fun o h1 h2=>?_,by omega⟩
  ·rw [hget]
   rcases qm o ho with⟨h1,h2⟩ | ⟨h1,h2⟩
   ·rw [zJ h2]
    cases ei:idxL 0 l (q.m o) with
    | none=>exact absurd rfl (quI l 0 _ ei (q.m o,q.d o) (zh (qlt o h1).2))
    | some o'=>
     obtain⟨-,p,h3,h4⟩:=qpO l 0 _ _ ei
     rw [Nat.sub_zero] at h3
     have ho':o'<l.length:=(zS.1 h3).1
     have:=(qlt o' ho').2
     rw [h3] at this
     cases this
     simp only at h4
     have:=qinj o' o ho' h1 h4
     subst this;rfl
   ·rw [zL (by omega),h2,show l.length+(H.length+(o - l.length) - H.length)=o by omega]
  ·rw [hget]
   by_cases hjl:j<H.length
   ·rw [zJ hjl]
    cases ei:idxL 0 l j with
    | none=>rfl
    | some o'=>
     obtain⟨-,p,h3,h4⟩:=qpO l 0 _ _ ei
     rw [Nat.sub_zero] at h3
     have ho':o'<l.length:=(zS.1 h3).1
     have:=(qlt o' ho').2
     rw [h3] at this
     cases this
     exact absurd h4 (hj o' (by omega))
   ·rw [zL hjl]
    have e1:getO H j=.none:=by
     unfold getO
     rw [zK,zX (by omega)];rfl
    have e2:getO h' (l.length+(j - H.length))=.none:=by
     by_cases hh:l.length+(j - H.length)<h'.length
     ·refine absurd ?_ (hj _ hh)
      rw [qge _ (by omega)];omega
     ·unfold getO
      rw [zK,zX (by omega)];rfl
    rw [e1,e2];rfl
  ·rcases qm o h1 with⟨g1,g2⟩ | ⟨g1,g2⟩ <;> rcases qm o' h2 with⟨g3,g4⟩ | ⟨g3,g4⟩
   ·exact qinj o o' g1 g3 e
   ·omega
   ·omega
   ·omega
  ·rw [qge o h1]
   unfold getO
   rw [zK,zX (by omega)];rfl
 obtain⟨nx2,hrv2⟩:=S.back B R nx
 exact⟨v,_,hen,nf.trans nx2 R0,hrv2 hrv⟩
theorem entH{gs:List (Nat×List Value)}{f:Nat}{s:Sig}{D:s.X->Option s.Y}(hb:qeO P f)(hS:SpecH P gs f s D):EntOk P gs (mkHe f s D) where
 fn:=fun _ _ _ _=>hb
 rd:=fun args h hm p y hsub hp hh=>by
  simp only [mkHe] at hp
  split at hp
  ·cases hp
  ·cases hp;cases hh
 wr:=fun args H0 p u y hp hu hr w0 A M0 w τ1 hgl R0 vs hv0=>by
  simp only [mkHe] at hp
  split at hp
  ·cases hp
  rename_i p' hsub
  obtain⟨l,x⟩:=p'
  cases hp
  cases hu
  simp only at hr
  dsimp only
  obtain⟨a1,ha1,hlo⟩:=qxt s.alts (by simp) y
  have hlo:(s.outs y).2.length=a1.2.length:=hlo.trans (qhP _ _)
  have c3:s.hp.length<=(s.outs y).2.length:=by
   have hsub:=hsub
   unfold qwX at hsub
   split at hsub
   ·cases hsub
   obtain⟨hc,-⟩:=qc hsub
   simp only [zA,zm] at hc
   have:=zH (hc.2.2 a1 ha1)
   omega
  exact qAJ (en:=fun e v=>e=.returned v) hsub c3 (fun w A M0 σ vs g1 g2 g3 g4=>hS w A M0 σ x y vs g1 g2 g3 g4 hr) hgl R0 hv0
structure XEnt where
 f:Nat
 run:List V->List O->Option XPkg
structure XEntOk (P:Program) (gs:List (Nat×List Value)) (en:XEnt):Prop where
 fn : ∃ f c, P.funcs[en.f]? = some f ∧ (f.name == "runtime.NumGoroutine") = false ∧ f.body = some c
 x:∀ args h p u,en.run args h=some p->p.r=some (.inr u)->∀ w0 A M0 w σ,Gl gs w0 A->Rep w0 A M0 w h σ->∀ vs,RVs w (mutb M0 h σ) h σ args vs ->
  Calls P en.f vs.toArray w fun e w'=>e=.panicked [{ v:=panV p.ty,recovered:=false }]/\∃ σ',Next w0 A M0 w h σ w' p.h σ'
end
end Go.Abs
