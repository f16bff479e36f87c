import Derived.Test.YtnhjpicdijeagaaDoorAbsDraw
import Derived.Test.YtnhjpicdijeagaaDoorAbsCut
namespace Go.Abs
open Go.RowKit
def Ctl.out:Ctl->Exit
 | .normal=>.normal
 | .exit id=>.exit id
 | .ret=>.ret
 | .pan ty=>.panic [{ v:=panV ty,recovered:=false }]
def Sound(ρ:Type)(c:Code):Prop:=∀ (E:Env),E.Ok->∀ (ann:Ann) (t:Slots) (h:List O) (K:Ctl->Slots->List O->Option ρ) (res:ρ) (Q:Exit->Act->World->Prop) (a:Act) (w:World),
 exec E.C c ann t h K=some res->At E (look t,h) a w->(∀ c t' h' a' w',K c t' h'=some res->At E (look t',h') a' w'->Q c.out a' w')->c.wpIn (WF E.r) E.n E.P Q a w
theorem qza{r:Option Nat}{n n':Nat}{P:Program}{c:Code}{Q:Exit->Act->World->Prop}{a:Act}{w:World}(h:c.wpIn (WF r) n P Q a w):c.wpIn (WF r) n' P Q a w:=
 fun b k cs hro hb _=>h b k cs hro hb (room_wide _)
section
variable {ρ : Type} {E : Env}
theorem At.conv(hE:E.Ok){t:Slots}{h:List O}{a:Act}{w:World}(hat:At E (look t,h) a w){base:Nat}(hle:E.C.fl<=base)(ks:List Nat):At E (look (cvT E.C.fx ks base t h),cvH E.C.fx base h) a w:=by
 obtain⟨σ,R,hr,hn,hk⟩:=hat
 refine⟨σ,qqm R,fun i=>?_,hn,hE.kp _ _ _ _ _ _ _ R (qqm R) (Far.conv hle) hk⟩
 rcases qCd (fx:=E.C.fx) (ks:=ks) (base:=base) (h:=h) (t:=t) i with e | e
 ·simp only [e,RV]
 ·simp only [e];exact cv_rv R (hr i)
theorem qjU:(ps:List OP)->(h:List O)->(i:Nat)->getO (mskH ps h) i=bif liveP ps i then getO h i else .none
 | [],h,i=>by simp [mskH,liveP,getO]
 | p :: ps,[],i=>by simp [mskH,getO]
 | p :: ps,o :: h,0=>by cases p <;> rfl
 | p :: ps,o :: h,i+1=>by
  have:=qjU ps h i
  simpa [mskH,liveP,getO] using this
theorem qCe{ps:List OP}{i:Nat}(h:liveP ps i=true):i<ps.length:=by
 unfold liveP at h
 split at h
 ·cases h
 ·rename_i p hp
  exact (zS.1 hp).1
def idsP(ps:List OP):List Nat:=(List.range ps.length).filter (liveP ps)
theorem qjs(ps:List OP)(i:Nat):memN (idsP ps) i=liveP ps i:=by
 refine Bool.eq_iff_iff.2 ⟨fun h=>?_,fun h=>?_⟩
 ·exact (zc.1 (qgV.1 h)).2
 ·exact qgV.2 (zc.2 ⟨zg.2 (qCe h),h⟩)
theorem qDE(ps:List OP)(h:List O)(i:Nat):getO (hid (idsP ps) h) i=getO (mskH ps h) i:=by
 rw [qgf,qjU,qjs]
 cases liveP ps i <;> rfl
mutual
theorem qoE(ps:List OP):(p:VP)->refsP ps p=true->∀ ds,qcu (idsP ps) (mkV p ds).1=true
 | .bad,_,_=>rfl
 | .undef,_,_=>rfl
 | .nil,_,_=>rfl
 | .nl _,_,_=>rfl
 | .ifc ty p,h,ds=>by simp only [mkV,qcu];exact qoE ps p h ds
 | .int _,_,ds=>by cases ds with | nil=>rfl | cons d _=>cases d <;> rfl
 | .bool,_,ds=>by cases ds with | nil=>rfl | cons d _=>cases d <;> rfl
 | .sl _,_,ds=>by cases ds with | nil=>rfl | cons d _=>cases d <;> rfl
 | .fptr _,_,ds=>by cases ds with | nil=>rfl | cons d _=>cases d <;> rfl
 | .slc o _,h,_=>by simp only [mkV,qcu,qjs];exact h
 | .ptr o _,h,_=>by simp only [mkV,qcu,qjs];exact h
 | .rptr o _ _,h,ds=>by
  cases ds with
  | nil=>rfl
  | cons d _=>cases d <;> first | rfl | (simp only [mkV,qcu,qjs];exact h)
 | .tl o _,h,ds=>by
  cases ds with
  | nil=>rfl
  | cons d _=>cases d <;> first | rfl | (simp only [mkV,qcu,qjs];exact h)
 | .clo f vs,h,ds=>by simp only [mkV,qcu];exact qjf ps vs h ds
 | .agg vs,h,ds=>by simp only [mkV,qcu];exact qjf ps vs h ds
 | .tup vs,h,ds=>by simp only [mkV,qcu];exact qjf ps vs h ds
theorem qjf(ps:List OP):(vs:List VP)->qpd ps vs=true->∀ ds,qbs (idsP ps) (mkVs vs ds).1=true
 | [],_,_=>rfl
 | v :: vs,h,ds=>by
  simp only [qpd,zA] at h
  simp only [mkVs,qbs,zA]
  exact⟨qoE ps v h.1 ds,qjf ps vs h.2 _⟩
end
theorem qzW:(ps:List OP)->(ds:List Dy)->(i:Nat)->getO (mkH ps ds).1 i=.none\/∃ p ds',ps[i]? = some p/\getO (mkH ps ds).1 i=(mkO p ds').1
 | [],ds,i=>.inl rfl
 | p :: ps,ds,0=>.inr ⟨p,ds,rfl,rfl⟩
 | p :: ps,ds,i+1=>by
  rcases qzW ps (mkO p ds).2 i with h | ⟨p',ds',h1,h2⟩
  ·exact .inl (by simp only [mkH];exact h)
  ·exact .inr ⟨p',ds',by simpa using h1,by simp only [mkH];exact h2⟩
theorem qCY:(ps:List (Nat×VP))->(ds:List Dy)->(i:Nat)->look (mkT ps ds).1 i=.bad\/∃ p∈ps,∃ ds',look (mkT ps ds).1 i=(mkV p.2 ds').1
 | [],_,_=>.inl rfl
 | p :: ps,ds,i=>by
  simp only [mkT,look]
  cases hb:Nat.beq p.1 i with
  | true=>exact .inr ⟨p,by simp,ds,rfl⟩
  | false=>
   rcases qCY ps (mkV p.2 ds).2 i with h | ⟨p',h1,ds',h2⟩
   ·exact .inl h
   ·exact .inr ⟨p',by simp [h1],ds',h2⟩
section
variable {w0 : World} {A M0 : Nat -> Prop} {w : World} {h : List O} {σ : Nat -> Loc} {ps : List OP}
theorem qit:∀ b,mutb M0 (mskH ps h) σ b->mutb M0 h σ b:=by
 intro b hb
 refine hb.imp id ?_
 rintro⟨o,h1,h2⟩
 rw [qjU] at h1 h2
 cases q:liveP ps o with
 | true=>rw [q] at h1 h2;exact⟨o,h1,h2⟩
 | false=>rw [q] at h1;exact h1.elim
theorem qzP{v:V}{x:Value}(hv:qcu (idsP ps) v=true)(hx:RV w (mutb M0 h σ) h σ v x):RV w (mutb M0 (mskH ps h) σ) (mskH ps h) σ v x:=
 RV.less qit (quT (fun o _=>(qDE ps h o).symm) (fun _ _=>rfl) (qxG hv hx))
theorem qDv{vs:List V}{xs:List Value}(hv:qbs (idsP ps) vs=true)(hx:RVs w (mutb M0 h σ) h σ vs xs):RVs w (mutb M0 (mskH ps h) σ) (mskH ps h) σ vs xs:=by
 induction vs generalizing xs with
 | nil=>exact hx
 | cons v vs ih=>
  simp only [qbs,zA] at hv
  simp only [RVs] at hx ⊢
  obtain⟨x,xs,rfl,h1,h2⟩:=hx
  exact⟨x,xs,rfl,qzP hv.1 h1,ih hv.2 h2⟩
theorem qzQ(R:Rep w0 A M0 w h σ){ds:List Dy}(hd:(mkH ps ds).1=mskH ps h)(hp:ps.all (refsO ps)=true):Rep w0 A M0 w (mskH ps h) σ:=by
 have hg:∀ o,getO (mskH ps h) o=bif liveP ps o then getO h o else .none:=qjU _ _
 have hgl:∀ o,live (getO (mskH ps h) o)->getO (mskH ps h) o=getO h o:=fun o hl=>by
  rw [hg] at hl ⊢
  cases q:liveP ps o with
  | true=>rfl
  | false=>rw [q] at hl;exact hl.elim
 have ho:∀ b,own (mskH ps h) σ b->own h σ b:=fun b ⟨o,h1,h2⟩=>⟨o,by rw [<- hgl o h1];exact h1,by rw [<- hgl o h1];exact h2⟩
 exact {
  fr:=R.fr
  m0:=R.m0
  inA:=fun b hb=>R.inA b (ho b hb)
  apart:=fun o o' b h1 h2 h3 h4=>R.apart o o' b (by rw [<- hgl o h1];exact h1) (by rw [<- hgl o' h2];exact h2) (by rw [<- hgl o h1];exact h3) (by rw [<- hgl o' h2];exact h4)
  obj:=fun o=>by
   cases q:liveP ps o with
   | false=>rw [hg,q];trivial
   | true=>
    have e:getO (mskH ps h) o=getO h o:=by rw [hg,q];rfl
    have r:=R.obj o
    cases e2:getO h o with
    | none=>rw [e,e2];trivial
    | row fz ver ty s xs=>
     rw [e,e2];rw [e2] at r
     exact RO.less qit (by cases fz <;> exact r)
    | oth fz z d=>
     rw [e,e2];rw [e2] at r
     exact RO.less (h:=mskH ps h) (σ:=σ) qit r
    | gone=>rw [e,e2];trivial
    | nst ver z d=>
     rw [e,e2];rw [e2] at r
     exact RO.less (h:=mskH ps h) (σ:=σ) qit r
    | kds ver p t h0 d=>
     rw [e,e2];rw [e2] at r
     have h00:h0=none:=by
      rcases qzW ps ds o with h5 | ⟨p,ds',h5,h6⟩
      ·rw [hd,e,e2] at h5;cases h5
      ·rw [hd,e,e2] at h6
       cases p with
       | none=>cases h6
       | cells qs=>cases h6
       | row _ _ _ _=>cases ds' with | nil=>cases h6 | cons d _=>cases d <;> cases h6
       | oth _ _=>
        cases ds' with
        | nil=>cases h6
        | cons d _=>cases d <;> first | (cases h6;done) | (simp only [mkO] at h6;split at h6 <;> cases h6)
       | gone=>cases h6
       | nst _ _=>
        cases ds' with
        | nil=>cases h6
        | cons d _=>cases d <;> first | (cases h6;done) | (simp only [mkO] at h6;split at h6 <;> cases h6)
       | kds _ _ _=>
        cases ds' with
        | nil=>cases h6
        | cons d _=>cases d <;> first | (cases h6;done) | (simp only [mkO] at h6;split at h6 <;> first | (cases h6;done) | (cases h6;rfl))
     subst h00
     exact RK.keeps (qbW qit) (fun y c hy=>by cases hy) (fun _ _ _=>rfl) r
    | cells vs=>
     rw [e,e2];rw [e2] at r
     obtain⟨b,ty,cs,h1,h2,h3,h4⟩:=r
     refine⟨b,ty,cs,h1,h2,qDv ?_ h3,h4⟩
     rcases qzW ps ds o with h5 | ⟨p,ds',h5,h6⟩
     ·rw [hd,e,e2] at h5;cases h5
     ·rw [hd,e,e2] at h6
      have hp:=zm.1 hp p (zh h5)
      cases p with
      | none=>cases h6
      | row _ _ _ _=>cases ds' with | nil=>cases h6 | cons d _=>cases d <;> cases h6
      | oth _ _=>
       cases ds' with
       | nil=>cases h6
       | cons d _=>cases d <;> first | (cases h6;done) | (simp only [mkO] at h6;split at h6 <;> cases h6)
      | gone=>cases h6
      | nst _ _=>
       cases ds' with
       | nil=>cases h6
       | cons d _=>cases d <;> first | (cases h6;done) | (simp only [mkO] at h6;split at h6 <;> cases h6)
      | kds _ _ _=>
       cases ds' with
       | nil=>cases h6
       | cons d _=>cases d <;> first | (cases h6;done) | (simp only [mkO] at h6;split at h6 <;> cases h6)
      | cells qs=>
       simp only [mkO,O.cells.injEq] at h6
       rw [h6]
       exact qjf ps qs hp ds' }
theorem quB{n:Nat}(h:lowP ps n=true){o:Nat}(ho:o<n):liveP ps o=true:=by
 induction n with
 | zero=>exact absurd ho (zAd o)
 | succ n ih=>
  simp only [lowP,zA] at h
  rcases zAW.1 ho with h' | rfl
  ·exact ih h.2 h'
  ·exact h.1
theorem qDw{fx:List Nat}{fl:Nat}(h3:lowP ps fl=true):Far fx fl M0 w h σ M0 w (mskH ps h) σ:=by
 refine⟨Goes.refl,qbW qit,fun o hlt=>?_⟩
 have e:getO (mskH ps h) o=getO h o:=by rw [qjU,quB h3 hlt];rfl
 have:=(OStep.refl h σ).c (fx:=fx) (fl:=fl) o hlt
 rw [e]
 exact this
theorem qpe{ids:List Nat}{c r:List V}(h:qbs ids c=true):qbs ids (c++r)=qbs ids r:=by
 induction c with
 | nil=>rfl
 | cons v c ih=>
  simp only [qbs,zA] at h
  simp only [List.cons_append,qbs,h.1,Bool.true_and,ih h.2]
theorem qtr{ids:List Nat}:(s:Sh) -> {vs r:List V} -> {x:s.den}->dec [] s vs=some (x,r)->∃ c,vs=c++r/\qbs ids c=true
 | .int k,vs,r,x,h=>by
  cases vs with
  | nil=>cases h
  | cons v vs=>
   cases v <;> simp only [dec,reduceCtorEq] at h
   split at h
   ·cases h;exact⟨[_],rfl,rfl⟩
   ·cases h
 | .bool,vs,r,x,h=>by
  cases vs with
  | nil=>cases h
  | cons v vs=>
   cases v <;> simp only [dec,reduceCtorEq] at h
   cases h;exact⟨[_],rfl,rfl⟩
 | .unit,vs,r,x,h=>by simp only [dec,zD,zN] at h;exact⟨[],h.2,rfl⟩
 | .pair a b,vs,r,x,h=>by
  simp only [dec] at h
  split at h
  ·cases h
  ·rename_i y r1 h1
   split at h
   ·cases h
   ·rename_i z r2 h2
    cases h
    obtain⟨c,rfl,hc⟩:=qtr (ids:=ids) a h1
    obtain⟨d,rfl,hd⟩:=qtr (ids:=ids) b h2
    exact⟨c++d,by simp,by rw [qpe hc,hd]⟩
 | .sl s,vs,r,x,h=>by
  cases vs with
  | nil=>cases h
  | cons v vs=>
   simp only [dec] at h
   split at h
   ·rename_i ys hy
    cases h
    refine⟨[v],rfl,?_⟩
    cases v <;> simp only [decSl,reduceCtorEq] at hy
    ·rfl
    ·rfl
    ·simp [getO] at hy
   ·cases h
theorem qla{ids:List Nat}{s:Sh}{vs:List V}{x:s.den}(h:qea [] s vs=some x):qbs ids vs=true:=by
 unfold qea at h
 split at h
 ·rename_i y hy
  obtain⟨c,rfl,hc⟩:=qtr (ids:=ids) s hy
  rw [qpe hc];rfl
 ·cases h
end
theorem At.msk(hE:E.Ok){P:Pat}(hP:patOk E.C.fl P=true){t:Slots}{h:List O}{ds:List Dy}(hd:mkD2 P ds=(t,mskH P.o h)){a:Act}{w:World}(hat:At E (look t,h) a w):At E (look t,mskH P.o h) a w:=by
 obtain⟨σ,R,hr,hn,hk⟩:=hat
 unfold patOk at hP
 simp only [zA] at hP
 obtain⟨p1,p2,p3⟩:=hP
 simp only [mkD2,zN] at hd
 obtain⟨d1,d2⟩:=hd
 have R':=qzQ R d2 p2
 refine⟨σ,R',fun i=>?_,hn,hE.kp _ _ _ _ _ _ _ R R' (qDw p3) hk⟩
 rcases qCY P.t ds i with h5 | ⟨p,h5,ds',h6⟩
 ·rw [d1] at h5
  simp only [h5,RV]
 ·rw [d1] at h6
  refine qzP ?_ (hr i)
  simp only [h6]
  exact qoE P.o p.2 (zm.1 p1 p h5) ds'
theorem ev_at{t:Slots}{h:List O}{a:Act}{w:World}{σ:Nat->Loc}(hr:∀ i,RV w (mutb E.M0 h σ) h σ (look t i) (a.tmps.getD i undef))(x:Operand):RV w (mutb E.M0 h σ) h σ (ev (look t) x) (a.eval x):=qj hr x
theorem qzm{w:World}{M:Nat->Prop}{h:List O}{σ:Nat->Loc}:(vs:List V)->vs.all is0=true->RVs w M h σ vs (vs.map sv0)/\∀ c∈vs.map sv0,c.oneCell'=true
 | [],_=>⟨by simp [RVs],by simp⟩
 | v :: vs,hv=>by
  simp only [List.all_cons,zA] at hv
  obtain⟨h1,h2⟩:=qzm (w:=w) (M:=M) (h:=h) (σ:=σ) vs hv.2
  have hv1:=hv.1
  refine⟨?_,?_⟩
  ·rw [List.map_cons,RVs]
   refine⟨_,_,rfl,?_,h1⟩
   cases v <;> simp_all [is0,sv0,RV]
  ·intro c hc
   rcases zi.1 hc with rfl | hc
   ·cases v <;> simp_all [is0,sv0] <;> rfl
   ·exact h2 c hc
theorem sv_rv{w:World}{M:Nat->Prop}{h:List O}{σ:Nat->Loc}{v:V}(hv:isSv v=true):RV w M h σ v (svOf v):=by
 cases v with
 | agg vs=>
  obtain⟨h1,h2⟩:=qzm (w:=w) (M:=M) (h:=h) (σ:=σ) vs hv
  simp only [svOf,RV]
  exact⟨_,rfl,by simpa using h2,by simpa using h1⟩
 | _=>simp_all [isSv,svOf,RV]
theorem qoV{n:Nat}{w:World}{M:Nat->Prop}{h:List O}{σ:Nat->Loc}:(ps:List Tmp)->(vs:List V)->(xs:List Value) -> {t t':Slots} -> {tmps:Array Value}->setPs n ps vs t=some t'->RVs w M h σ vs xs->tmps.size=n ->
  (∀ i,RV w M h σ (look t i) (tmps.getD i undef))->ps.length=xs.length/\((ps.zip xs).foldl (fun t (p,v)=>t.setIfInBounds p v) tmps).size=n /\
   ∀ i,RV w M h σ (look t' i) (((ps.zip xs).foldl (fun t (p,v)=>t.setIfInBounds p v) tmps).getD i undef)
 | [],[],xs,t,t',tmps,hs,hv,hn,hr=>by
  simp only [setPs,zD] at hs
  simp only [RVs] at hv
  subst hs;subst hv
  exact⟨rfl,hn,hr⟩
 | [],_ :: _,_,t,t',tmps,hs,_,_,_=>by simp [setPs] at hs
 | _ :: _,[],_,t,t',tmps,hs,_,_,_=>by simp [setPs] at hs
 | p :: ps,v :: vs,_,t,t',tmps,hs,hv,hn,hr=>by
  simp only [setPs] at hs
  obtain⟨hp,hs⟩:=qc hs
  simp only [RVs] at hv
  obtain⟨x,xs,rfl,hv1,hv2⟩:=hv
  have:=qoV ps vs xs (tmps:=tmps.setIfInBounds p x) hs hv2 (by simp [hn]) (fun i=>by
   have:=qzy (a:=⟨tmps,[]⟩) (dst:=some p) (v:=v) (x:=x) (t:=look t) hp hn hr hv1 i
   exact this)
  exact⟨by simp [this.1],this.2⟩
theorem qEn{w:World}{M M':Nat->Prop}{h:List O}{σ:Nat->Loc}{vs:List V}{xs:List Value}(hv:RVs w M' [] σ0 vs xs)(hs:∀ b,M b->M' b):RVs w M h σ vs xs:=
 RVs.keeps (⟨Nat.le_refl _,fun _ _ _=>rfl,fun b _ hm hm'=>hm (hs b hm')⟩:Keeps w M' w M) (fun o=>by simp [getO]) hv
variable {w W1 W : World} {h1 h' : List O} {σ σ' : Nat -> Loc} {l : Nat}
abbrev M1of(M0:Nat->Prop)(l:Nat):Nat->Prop:=fun b=>M0 b\/b=l
abbrev A1of(h1:List O)(σ:Nat->Loc):Nat->Prop:=fun b=>own h1 σ b
theorem Rep.enter{w0:World}{A M0:Nat->Prop}(R:Rep w0 A M0 w h1 σ)(hb:Below w.heap.size w W1)(hl:w.heap.size<=l)(hl':l<W1.heap.size):Rep W1 (A1of h1 σ) (M1of M0 l) W1 h1 σ:=by
 have k:Keeps w (mutb M0 h1 σ) W1 (mutb (M1of M0 l) h1 σ):=⟨hb.size,fun b hlt _=>hb.block b hlt,fun b hlt hm hm'=>hm (hm'.elim (fun h=>h.elim .inl (fun e=>by omega)) .inr)⟩
 refine⟨⟨rfl,TDr.rfl,rfl,Nat.le_refl _,fun _ _ _=>rfl⟩,fun b hm=>?_,fun b ho=>.inl ho,R.apart,fun o=>(R.obj o).keeps k (OStep.refl _ _) fun b _ hlt=>hb.block b hlt⟩
 rcases hm with hm | rfl
 ·exact⟨zM (R.foreign b hm).1 hb.size,(R.foreign b hm).2⟩
 ·exact⟨hl',fun ho=>by have:=R.lt ho;omega⟩
theorem Rep.leave{w0:World}{A M0:Nat->Prop}(R:Rep w0 A M0 w h1 σ)(hb:Below w.heap.size w W1)(R':Rep W1 (A1of h1 σ) (M1of M0 l) W h' σ'):Rep w0 A M0 W h' σ':=by
 refine⟨⟨?_,?_,?_,?_,fun b hlt hA=>?_⟩,R.m0,fun b ho=>?_,R'.apart,fun o=>(R'.obj o).less (fun b hm=>hm.imp .inl id)⟩
 ·rw [R'.fr.os,hb.os,R.fr.os]
 ·exact (R'.fr.tape.trans hb.tape).trans R.fr.tape
 ·rw [R'.fr.output,hb.output,R.fr.output]
 ·exact zn R.fr.size (zn hb.size R'.fr.size)
 ·have h1:b<w.heap.size:=zM hlt R.fr.size
  rw [R'.fr.block b (zM h1 hb.size) (fun ho=>?_),hb.block b h1,R.fr.block b hlt hA]
  rcases R.inA b ho with h | h
  ·exact hA h
  ·omega
 ·rcases R'.inA b ho with h | h
  ·exact R.inA b h
  ·exact .inr (zn R.fr.size (zn hb.size h))
def KpR(E:Env)(base:Nat)(w W1:World)(h1:List O)(σ:Nat->Loc)(l:Nat)(marks:List Deferred)(o:Loop)(ds:List Deferred)(W:World)(h':List O)(σ':Nat->Loc):Prop:=
 ds = []/\Far E.C.fx base E.M0 w h1 σ (M1of E.M0 l) W h' σ'/\W.heap[l]? = some (.loop o) /\
  (marks = []\/E.r=none/\∃ D,marks = [qnK D]/\w.heap.size<=D/\D≠l/\D<W1.heap.size/\W.heap[D]? = some (.deferred (some [])))
def EnvR(E:Env)(base:Nat)(w W1:World)(h1:List O)(σ:Nat->Loc)(l:Nat)(marks:List Deferred)(o:Loop):Env:=
 { E with C:=E.C.low base,r:=some l,w0:=W1,A:=A1of h1 σ,M0:=M1of E.M0 l,Kp:=KpR E base w W1 h1 σ l marks o }
theorem quL{w0:World}{A M0:Nat->Prop}(R:Rep w0 A M0 w h1 σ)(R':Rep W1 (A1of h1 σ) (M1of M0 l) W h' σ'){D:Nat}(hD:w.heap.size<=D)(hD':D<W1.heap.size):¬ own h' σ' D:=fun ho=>by
 rcases R'.inA D ho with h | h
 ·have:=R.lt h;omega
 ·omega
theorem KpR.far{w0:World}{A:Nat->Prop}{base:Nat}{marks:List Deferred}{o:Loop}(R:Rep w0 A E.M0 w h1 σ)(hl:w.heap.size<=l)(hl':l<W1.heap.size){ds:List Deferred}{W':World}{h'':List O}{σ'':Nat->Loc}
  (R':Rep W1 (A1of h1 σ) (M1of E.M0 l) W h' σ') (f:Far E.C.fx base (M1of E.M0 l) W h' σ' (M1of E.M0 l) W' h'' σ'') (k:KpR E base w W1 h1 σ l marks o ds W h' σ'):KpR E base w W1 h1 σ l marks o ds W' h'' σ'':=by
 obtain⟨k1,k2,k3,k4⟩:=k
 refine⟨k1,k2.trans f (fun b hb=>(R'.foreign b (.inl hb)).2),?_,?_⟩
 ·rw [f.goes.block l (zI.1 k3).1 (quL R R' hl hl'),k3]
 ·rcases k4 with k4 | ⟨k4,D,k5,k6,k7,k8,k9⟩
  ·exact .inl k4
  ·exact .inr ⟨k4,D,k5,k6,k7,k8,by rw [f.goes.block D (zI.1 k9).1 (quL R R' k6 k8),k9]⟩
theorem GOk.fl{P:Program}{C:Ctx}(hG:GOk P C)(base:Nat):GOk P (C.low base):=⟨hG.fn,hG.rd,hG.wr⟩
theorem IOk.fl{P:Program}{C:Ctx}(hG:IOk P C)(base:Nat):IOk P (C.low base):=⟨hG.fn,hG.it⟩
theorem EnvR.ok(hE:E.Ok){base:Nat}{marks:List Deferred}(o:Loop){w0:World}{A:Nat->Prop}(R:Rep w0 A E.M0 w h1 σ)(hl:w.heap.size<=l)(hl':l<W1.heap.size)(hgl:Gl E.C.gs W1 (A1of h1 σ)):(EnvR E base w W1 h1 σ l marks o).Ok where
 types:=hE.types
 calls:=hE.calls.fl base
 its:=hE.its.fl base
 xs:=⟨fun _ _ _ _ h=>(by cases h),fun _ _ _ _ _ h=>(by cases h)⟩
 glob:=hgl
 mixed:=hE.mixed
 kp:=fun ds W h' σ' W' h'' σ'' R' _ f k=>KpR.far R hl hl' R' f k
 km:=fun h=>by cases h
 kl:=fun l' h ds W h' σ' k=>by cases h;exact⟨o,k.2.2.1⟩
theorem KpR.w1{W1':World}{base:Nat}{marks:List Deferred}{o:Loop}{ds:List Deferred}(he:W1.heap.size=W1'.heap.size)(k:KpR E base w W1 h1 σ l marks o ds W h' σ'):KpR E base w W1' h1 σ l marks o ds W h' σ':=by
 unfold KpR at *
 rw [<- he];exact k
theorem KpR.turn{base:Nat}{marks:List Deferred}{o o':Loop}(hl:w.heap.size<=l){ds:List Deferred}(k:KpR E base w W1 h1 σ l marks o ds W h' σ'):KpR E base w W1 h1 σ l marks o' ds (W.putObj l (.loop o')) h' σ':=by
 obtain⟨k1,k2,k3,k4⟩:=k
 have hlt:=(zI.1 k3).1
 refine⟨k1,⟨⟨k2.goes.os,k2.goes.tape,k2.goes.output,by simpa using k2.goes.size,fun b hb ho=>?_⟩,⟨by simpa using k2.keeps.size,fun b hb hm=>?_,k2.keeps.out⟩,k2.step⟩,World.putObj_heap_same hlt,?_⟩
 ·rw [World.putObj_heap_other (by omega)];exact k2.goes.block b hb ho
 ·rw [World.putObj_heap_other (by omega)];exact k2.keeps.block b hb hm
 ·rcases k4 with k4 | ⟨k4,D,k5,k6,k7,k8,k9⟩
  ·exact .inl k4
  ·exact .inr ⟨k4,D,k5,k6,k7,k8,by rw [World.putObj_heap_other k7];exact k9⟩
theorem qoQ{fx:List Nat}{base:Nat}{t:Slots}(h:stbT fx base t=true)(i:Nat):stbV fx base (look t i)=true:=by
 induction t with
 | nil=>rfl
 | cons p t ih=>
  obtain⟨k,v⟩:=p
  simp only [stbT,List.all_cons,zA] at h
  simp only [look]
  cases Nat.beq k i with
  | true=>exact h.1
  | false=>exact ih h.2
abbrev recOf(fn:FuncId)(tmps:Array Value)(ps:Array Tmp)(x b:Code)(dn:Nat)(st:LoopState)(pe:Option Code):Loop:=
 { state:=st,pending:=pe,fn,tmps,params:=ps,assign:=x,body:=b,defers:=dn }
theorem qwu(hE:E.Ok){a:Act}{t:Nat->V}{h:List O}{w:World}(hat:At E (t,h) a w)(fn:FuncId)(ps:Array Tmp)(x b:Code) :
  ∃ (l:Nat) (marks:List Deferred) (W1:World) (dn:Nat),(Instr.enterLoop fn a.tmps ps x b E.r).run E.P w=.ok (l,marks) W1/\w.heap.size<=l/\l<W1.heap.size/\Below w.heap.size w W1 /\
   W1.heap[l]? = some (.loop (recOf fn a.tmps ps x b dn .ready none)) /\
   (marks = []\/E.r=none/\∃ D,marks = [qnK D]/\w.heap.size<=D/\D≠l/\D<W1.heap.size/\W1.heap[D]? = some (.deferred (some []))):=by
 cases hr:E.r with
 | none=>
  refine⟨w.heap.size+1,[qnK w.heap.size],_,w.heap.size,run_enterLoop_outer fn a.tmps ps x b,by omega,by simp,?_,?_,.inr ⟨rfl,w.heap.size,rfl,Nat.le_refl _,by omega,by simp;omega,?_⟩⟩
  ·exact ((Below.refl _ w).alloc (Nat.le_refl _) _).alloc (by simp) _
  ·have:=World.alloc_heap_new (w.alloc (.deferred (some []))) (.loop (recOf fn a.tmps ps x b w.heap.size .ready none));rwa [World.size_alloc] at this
  ·exact (Below.heap_alloc _ _ _ (by simp)).trans (World.alloc_heap_new w _)
 | some l0=>
  obtain⟨σ,R,_,_,hk⟩:=hat
  obtain⟨r0,h0⟩:=hE.kl l0 hr _ _ _ _ hk
  refine⟨w.heap.size,[],_,r0.defers,run_enterLoop_inner h0 fn a.tmps ps x b,Nat.le_refl _,by simp,?_,?_,.inl rfl⟩
  ·exact (Below.refl _ w).alloc (Nat.le_refl _) _
  ·exact World.alloc_heap_new w _
theorem qlw{R S:Type}{o:Option S}{k:S->Option R}{r:R}(h:optK o k=some r):∃ s,o=some s/\k s=some r:=by
 cases o with
 | none=>cases h
 | some s=>exact⟨s,rfl,h⟩
theorem qvY{f:Operand}{ps:Array Tmp}{x b:Code}(hx:Sound ρ x)(hb:Sound ρ b)(hE:E.Ok){an an':Ann}{base:Nat}{t:Slots}{h:List O}{K:Ctl->Slots->List O->Option ρ}{res:ρ}{Q:Exit->Act->World->Prop}{act:Act}{w:World}
  {g:Nat} {caps:List V} (hev:ev (look t) f=.clo g caps) {p:ItPkg} (hI:E.C.I g caps h=some p) (hok:p.ok=true) (hfl:E.C.fl<=base) (hst:stbT E.C.fx base t=true)
  {C S:Type} {mk:C×S->List O} {rd:List O->Option (C×S)} (hrdm:∀ h s,rd h=some s->mk s=h)
  {s0:C×S} {F:p.α->S->(S->Option ρ)->Option ρ} (hF:F=fun y s kn=>optK (setPs E.C.n ps.toList (p.v y) t) fun t1=>
   exec (E.C.low base) x an t1 (mk (s0.1,s)) (qiV (fun t1 h=>
    exec (E.C.low base) b an' t1 h fun c _ h=>qiV (fun _ h=>optK (rd (cvH E.C.fx base h)) (backE s0.1 kn)) (noPan K) c t h) (fun _ _ _=>none))) (hs0:mk s0=cvH E.C.fx base h) (hex:forD F (fun s=>K .normal t (mk (s0.1,s))) p.xs s0.2=some res)
  (hat:At E (look t,h) act w) (hQ:∀ c t' h' a' w',K c t' h'=some res->At E (look t',h') a' w'->Q c.out a' w') :
  (Code.rangeFunc f ps x b).wpIn (WF E.r) E.n E.P Q act w:=by
 have hat0:=hat
 obtain⟨σ,R,hr,hn,hk⟩:=hat
 simp only at R hr hk
 have R1:=qqm (fx:=E.C.fx) (base:=base) R
 have far1:Far E.C.fx E.C.fl E.M0 w h σ E.M0 w (cvH E.C.fx base h) σ:=Far.conv hfl
 have hsl:∀ i,RV w (mutb E.M0 (cvH E.C.fx base h) σ) (cvH E.C.fx base h) σ (look t i) (act.tmps.getD i undef):=fun i=>qzo (Nat.le_refl _) (fun b=>qcC) (qoQ hst i) (hr i)
 have how:∀ b,¬ own h σ b->¬ own (cvH E.C.fx base h) σ b:=fun b hb hb'=>hb (qzD hb')
 have hgv:=ev_at (E:=E) hr f
 rw [hev] at hgv
 simp only [RV] at hgv
 obtain⟨vs,hg,hcaps⟩:=hgv
 obtain⟨fn',code',hf1,hf2,hf3⟩:=hE.its.fn g caps h p hI
 have hit:=hE.its.it g caps h p hI hok E.w0 E.A E.M0 w σ hE.glob R vs.toList hcaps E.r (E.n - 1)
 revert hs0 R1 far1 hsl how
 generalize cvH E.C.fx base h=h1
 intro hs0 R1 far1 hsl how
 have hglr:∀ {W1:World},Below w.heap.size w W1->Gl E.C.gs W1 (A1of h1 σ):=fun hb=>⟨GW.below (hE.glob.now R1) hb,fun p hp ho=>by
  rcases R1.inA p.1 ho with h | h
  ·exact hE.glob.out p hp h
  ·have:=(hE.glob.at_ p hp).1;omega⟩
 refine wpIn_rangeFunc ?_
 intro fn _
 obtain⟨l,marks,W1,dn,hent,hl,hl',hbW,hrec,hmk⟩:=qwu hE hat0 fn ps x b
 have hleave:∀ {W W1:World} {h':List O} {σ':Nat->Loc} {o:Loop} (o2:Loop),Below w.heap.size w W1->l<W1.heap.size->Rep W1 (A1of h1 σ) (M1of E.M0 l) W h' σ'->KpR E base w W1 h1 σ l marks o [] W h' σ' ->
   At E (look t,h') { act with defers:=marks++act.defers } (W.putObj l (.loop o2)):=by
  intro W W1 h' σ' o o2 hbW hl' R' k
  have k2:=KpR.turn (o':=o2) hl k
  have R3:Rep E.w0 E.A E.M0 (W.putObj l (.loop o2)) h' σ':=R1.leave (W1:=W1.putObj l (.loop o2)) ⟨hbW.os,hbW.tape,hbW.output,by simpa using hbW.size,fun b hb=>by rw [World.putObj_heap_other (by omega)];exact hbW.block b hb⟩ (R'.turn (.inr rfl) _)
  obtain⟨_,far2,_,km⟩:=k2
  have far2:=far2.less (M2:=E.M0) (fun b hb=>.inl hb)
  have far3:=far1.trans (far2.mono hfl) (fun b hb=>(R1.foreign b hb).2)
  refine⟨σ',R3,fun i=>far2.rv (qoQ hst i) (hsl i),hn,?_⟩
  rcases km with rfl | ⟨h0,D,rfl,hD,_,_,hDd⟩
  ·exact hE.kp _ _ _ _ _ _ _ R R3 far3 hk
  ·exact hE.km h0 ⟨_,_,_,_,hI⟩ _ _ _ _ _ _ _ D R R3 far3 hk hD hDd
 refine⟨l,marks,W1,{ target:=.fn (.func (tgtF g)) (capF g vs),args:=fstF g vs ++ #[.func (.yield l) #[] #[]] },W1,tgtF g,fstF g vs ++ #[.func (.yield l) #[] #[]]++capF g vs,W1,hent,?_,fun _ _=>trivial,?_,fun hh=>by simp [WF,Fence.wide] at hh,?_⟩
 ·simp only [resolve,hg,Deferred.ofValue,Sem.run_pure]
  simp [Act.eval,cloV]
 ·simp only [invoke,callFunc,Sem.run_bind,run_program,Result.andThen_ok,hf1,hf2,hf3]
  simp
 have hfr:∀ {X Y W1:World} {h':List O} {σ':Nat->Loc} {o:Loop},Below w.heap.size w W1->l<W1.heap.size->Rep W1 (A1of h1 σ) (M1of E.M0 l) X h' σ'->KpR E base w W1 h1 σ l marks o [] X h' σ'->Below X.heap.size X Y ->
   Rep W1 (A1of h1 σ) (M1of E.M0 l) Y h' σ'/\KpR E base w W1 h1 σ l marks o [] Y h' σ':=by
  intro X Y W1 h' σ' o hbW hl' R' k g
  have nx:=Next.grow R' g
  exact⟨nx.rep,KpR.far R1 hl hl' R' (.of_next nx) k⟩
 refine (hit l (fun B i W=>∃ W1 h' σ',(W1.heap.size=B.heap.size/\∀ b,b≠l->W1.heap[b]? = B.heap[b]?)/\Below w.heap.size w W1/\l<W1.heap.size/\(∃ s,mk (s0.1,s)=h'/\forD F (fun s=>K .normal t (mk (s0.1,s))) (p.xs.drop i) s=some res)/\Rep W1 (A1of h1 σ) (M1of E.M0 l) W h' σ'/\KpR E base w W1 h1 σ l marks (recOf fn act.tmps ps x b dn .ready none) [] W h' σ')
  (fun _ W=>∃ c cc W1 h' σ',(c=Ctl.ret/\cc=Code.ret\/∃ id,c=Ctl.exit id/\cc=Code.exit id)/\Below w.heap.size w W1/\l<W1.heap.size/\K c t h'=some res/\Rep W1 (A1of h1 σ) (M1of E.M0 l) W h' σ'/\KpR E base w W1 h1 σ l marks (recOf fn act.tmps ps x b dn .done (some cc)) [] W h' σ')
  W1 hbW hl hl' ?_ ?_ ?_ ?_ ?_).mono ?_
 ·intro B hB
  have hbB:Below w.heap.size w B:=hbW.trans (hB.mono hbW.size)
  have hlB:l<B.heap.size:=zM hl' hB.size
  refine⟨B,h1,σ,⟨rfl,fun _ _=>rfl⟩,hbB,hlB,⟨s0.2,hs0,by simpa using hex⟩,R1.enter hbB hl hlB,rfl,?_,(hB.block l hl').trans hrec,?_⟩
  ·exact⟨⟨hbB.os,hbB.tape,hbB.output,hbB.size,fun b hb _=>hbB.block b hb⟩,⟨hbB.size,fun b hb _=>hbB.block b hb,fun b hb hm hm'=>hm (hm'.elim (fun h=>h.elim .inl (fun e=>by omega)) .inr)⟩,(OStep.refl _ _).c⟩
  ·rcases hmk with h | ⟨h0,D,h2,h3,h4,h5,h6⟩
   ·exact .inl h
   ·exact .inr ⟨h0,D,h2,h3,h4,zM h5 hB.size,(hB.block D h5).trans h6⟩
 ·rintro B i X Y ⟨W1,h',σ',hq,h2,h3,h4,h5,h6⟩ hg
  obtain⟨h7,h8⟩:=hfr h2 h3 h5 h6 hg
  exact⟨W1,h',σ',hq,h2,h3,h4,h7,h8⟩
 ·rintro B X Y ⟨c,cc,W1,h',σ',h1,h2,h3,h4,h5,h6⟩ hg
  obtain⟨h7,h8⟩:=hfr h2 h3 h5 h6 hg
  exact⟨c,cc,W1,h',σ',h1,h2,h3,h4,h7,h8⟩
 ·rintro B i X ⟨W1,h',σ',⟨q1,q2⟩,h2,h3,h4,R',k⟩
  refine⟨by have:=R'.fr.size;omega,fun b hb hbl ho=>?_⟩
  rw [R'.fr.block b (by omega) (how b ho),q2 b hbl]
 ·-- one round
  rintro B i y args W0 W hy ⟨W1,_,σ',hq,hbW,hl',⟨s,rfl,hfor⟩,R0,k0⟩ hbel hargs
  obtain⟨R',k⟩:=hfr hbW hl' R0 k0 hbel
  have hargs':RVs W (mutb (M1of E.M0 l) (mk (s0.1,s)) σ') (mk (s0.1,s)) σ' (p.v y) args.toList:=qEn hargs fun b hb=>by
   refine⟨R0.mlt hb,?_⟩
   rcases hb with (hb | hb) | hb
   ·exact .inr (.inl (.inl hb))
   ·exact .inr (.inr hb)
   ·rcases R0.inA b hb with h | h
    ·exact .inr (.inl (.inr (Classical.byContradiction fun hn=>how b hn h)))
    ·exact .inl (by rw [<- hq.1];exact h)
  obtain⟨hlt,hy'⟩:=zS.1 hy
  rw [zBB hlt,hy'] at hfor
  simp only [forD,hF] at hfor
  rw [<- hF] at hfor
  obtain⟨t1,ht1,hfor⟩:=qlw hfor
  obtain⟨hlen,hsz,hrv⟩:=qoV (M:=mutb (M1of E.M0 l) (mk (s0.1,s)) σ') (h:=mk (s0.1,s)) (σ:=σ') (w:=W) ps.toList (p.v y) args.toList ht1 hargs' hn (fun i=>k.2.1.rv (qoQ hst i) (hsl i))
  have hyield:=run_yield (P:=E.P) (args:=args) k.2.2.1 (by simpa using hlen.symm)
  refine⟨_,_,_,_,hyield,roundIn_of_wpIn trivial ?_⟩
  have hzip:(ps.zip args).foldl (fun tmps (t,a)=>tmps.setIfInBounds t a) act.tmps=(ps.toList.zip args.toList).foldl (fun t (p,v)=>t.setIfInBounds p v) act.tmps:=by
   rw [<- Array.foldl_toList,Array.toList_zip]
  simp only [hzip]
  have hw1:=hx (EnvR E base w W1 h1 σ l marks (recOf fn act.tmps ps x b dn .ready none)) (EnvR.ok hE _ R1 hl hl' (hglr hbW)) an t1 (mk (s0.1,s)) _ res
   (Exit.then (fun a₁ w₁=>∃ w₂,(Instr.beginRound l).run E.P w₁=.ok () w₂/\b.wpIn ((WF E.r).inRound l) (E.n - 1 - 1) E.P (roundPost E.P l fun e W'=>
    (e=.returned (.bool true)/\(∃ W1 h' σ',(W1.heap.size=B.heap.size/\∀ b,b≠l->W1.heap[b]? = B.heap[b]?)/\Below w.heap.size w W1/\l<W1.heap.size/\(∃ s,mk (s0.1,s)=h'/\forD F (fun s=>K .normal t (mk (s0.1,s))) (p.xs.drop (i+1)) s=some res)/\Rep W1 (A1of h1 σ) (M1of E.M0 l) W' h' σ'/\KpR E base w W1 h1 σ l marks (recOf fn act.tmps ps x b dn .ready none) [] W' h' σ')) \/
    (e=.returned (.bool false)/\∃ c cc W1 h' σ',(c=Ctl.ret/\cc=Code.ret\/∃ id,c=Ctl.exit id/\cc=Code.exit id)/\Below w.heap.size w W1/\l<W1.heap.size/\K c t h'=some res/\Rep W1 (A1of h1 σ) (M1of E.M0 l) W' h' σ' /\
     KpR E base w W1 h1 σ l marks (recOf fn act.tmps ps x b dn .done (some cc)) [] W' h' σ')) a₁ w₂) (fun _ _ _=>False))
   { tmps:=(ps.toList.zip args.toList).foldl (fun t (p,v)=>t.setIfInBounds p v) act.tmps,defers:=[] } W hfor ⟨σ',R',hrv,hsz,k⟩ ?_
  ·exact qza hw1
  ·rintro c t2 h2 a2 w2 hc ⟨σ2,R2,hr2,hn2,k2⟩
   simp only at R2 hr2 k2
   cases c with
   | exit id=>cases hc
   | ret=>cases hc
   | pan _=>cases hc
   | normal=>
    simp only [qiV] at hc
    refine⟨_,run_beginRound k2.2.2.1 rfl,?_⟩
    have ho:(recOf fn act.tmps ps x b dn .busy none) = { recOf fn act.tmps ps x b dn .ready none with state:=.busy }:=rfl
    rw [<- ho]
    have k3:=KpR.turn (o':=recOf fn act.tmps ps x b dn .busy none) hl k2
    have R3:=R2.turn (l:=l) (.inr rfl) (.loop (recOf fn act.tmps ps x b dn .busy none))
    have hbW':Below w.heap.size w (W1.putObj l (.loop (recOf fn act.tmps ps x b dn .busy none))):=⟨hbW.os,hbW.tape,hbW.output,by simpa using hbW.size,fun b hb=>by rw [World.putObj_heap_other (by omega)];exact hbW.block b hb⟩
    have hl'':l<(W1.putObj l (.loop (recOf fn act.tmps ps x b dn .busy none))).heap.size:=by simpa using hl'
    have k3':KpR E base w (W1.putObj l (.loop (recOf fn act.tmps ps x b dn .busy none))) h1 σ l marks (recOf fn act.tmps ps x b dn .busy none) a2.defers (w2.putObj l (.loop (recOf fn act.tmps ps x b dn .busy none))) h2 σ2:=k3.w1 (by simp)
    refine qza (hb (EnvR E base w (W1.putObj l (.loop (recOf fn act.tmps ps x b dn .busy none))) h1 σ l marks (recOf fn act.tmps ps x b dn .busy none)) (EnvR.ok hE _ R1 hl hl'' (hglr hbW')) an' t2 h2 _ res _ a2 _ hc
     ⟨σ2,R3,fun i=>RV.keeps (Keeps.turn (.inl (.inr rfl)) _) (OStep.refl _ _) (hr2 i),hn2,k3'⟩ ?_)
    rintro c t3 h3 a3 w3 hc3 ⟨σ3,R4,hr4,hn4,k4⟩
    simp only at R4 hr4 k4
    have hd:a3.defers = []:=k4.1
    have k4:KpR E base w (W1.putObj l (.loop (recOf fn act.tmps ps x b dn .busy none))) h1 σ l marks (recOf fn act.tmps ps x b dn .busy none) [] w3 h3 σ3:=hd▸k4
    have R4:Rep (W1.putObj l (.loop (recOf fn act.tmps ps x b dn .busy none))) (A1of h1 σ) (M1of E.M0 l) w3 h3 σ3:=R4
    have hbW'':∀ o,Below w.heap.size w ((W1.putObj l (.loop (recOf fn act.tmps ps x b dn .busy none))).putObj l o):=fun o=>
     ⟨hbW.os,hbW.tape,hbW.output,by simpa using hbW.size,fun b hb=>by rw [World.putObj_heap_other (by omega),World.putObj_heap_other (by omega)];exact hbW.block b hb⟩
    cases c with
    | normal=>
     simp only [qiV] at hc3
     obtain⟨⟨c3,s3⟩,hs3,hc3⟩:=qlw hc3
     obtain⟨e3,hc3⟩:=qsf hc3
     simp only at e3
     subst e3
     refine⟨_,_,run_endRound none k4.2.2.1,.inl ⟨rfl,?_⟩⟩
     have k5:=KpR.turn (o':=recOf fn act.tmps ps x b dn .ready none) hl k4
     have R5:=R4.turn (l:=l) (.inr rfl) (.loop (recOf fn act.tmps ps x b dn .ready none))
     have hl3:l<((W1.putObj l (.loop (recOf fn act.tmps ps x b dn .busy none))).putObj l (.loop (recOf fn act.tmps ps x b dn .ready none))).heap.size:=by simpa using hl'
     refine⟨_,cvH E.C.fx base h3,σ3,⟨by simpa using hq.1,fun b' hb'=>?_⟩,hbW'' _,hl3,?_,qqm R5,KpR.far R1 hl hl3 R5 (Far.conv (Nat.le_refl _)) (k5.w1 (by simp))⟩
     ·rw [World.putObj_heap_other (by omega),World.putObj_heap_other (by omega)]
      exact hq.2 b' hb'
     ·exact⟨s3,hrdm _ _ hs3,hc3⟩
    | ret=>
     simp only [qiV] at hc3
     refine⟨_,_,run_endRound (some .ret) k4.2.2.1,.inr ⟨rfl,?_⟩⟩
     have k5:=KpR.turn (o':=recOf fn act.tmps ps x b dn .done (some .ret)) hl k4
     have R5:=R4.turn (l:=l) (.inr rfl) (.loop (recOf fn act.tmps ps x b dn .done (some .ret)))
     exact⟨.ret,.ret,_,h3,σ3,.inl ⟨rfl,rfl⟩,hbW'' _,by simpa using hl',hc3,R5,k5.w1 (by simp)⟩
    | exit id=>
     simp only [qiV] at hc3
     refine⟨_,_,run_endRound (some (.exit id)) k4.2.2.1,.inr ⟨rfl,?_⟩⟩
     have k5:=KpR.turn (o':=recOf fn act.tmps ps x b dn .done (some (.exit id))) hl k4
     have R5:=R4.turn (l:=l) (.inr rfl) (.loop (recOf fn act.tmps ps x b dn .done (some (.exit id))))
     exact⟨.exit id,.exit id,_,h3,σ3,.inr ⟨id,rfl,rfl⟩,hbW'' _,by simpa using hl',hc3,R5,k5.w1 (by simp)⟩
    | pan ty=>simp [qiV,noPan] at hc3
 ·rintro e W2 ⟨⟨v,rfl⟩,B,hJ | hJx⟩
  ·obtain⟨W1,h',σ',-,hbW,hl',hfor,R',k⟩:=hJ
   obtain⟨s,rfl,hfor⟩:=hfor
   rw [List.drop_length] at hfor
   exact⟨none,_,run_endLoop k.2.2.1 (by simp),hQ .normal t (mk (s0.1,s)) _ _ hfor (hleave _ hbW hl' R' k)⟩
  ·obtain⟨c,cc,W1,h',σ',hc,hbW,hl',hKc,R',k⟩:=hJx
   refine⟨some cc,_,run_endLoop k.2.2.1 (by simp),?_⟩
   rcases hc with⟨rfl,rfl⟩ | ⟨id,rfl,rfl⟩
   ·exact wpIn_ret (hQ .ret t h' _ _ hKc (hleave _ hbW hl' R' k))
   ·exact wpIn_exit (hQ (.exit id) t h' _ _ hKc (hleave _ hbW hl' R' k))
end
end Go.Abs
