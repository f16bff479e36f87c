import Derived.Test.YtnhjpicdijeagaaDoorAbsRange
import Derived.Scope
namespace Go.Abs
open Go.RowKit
section
variable {ρ : Type} {E : Env}
theorem RVs.set{w:World}{M:Nat->Prop}{h:List O}{σ:Nat->Loc}{vs:List V}{xs:List Value}(hv:RVs w M h σ vs xs){j:Nat}{u:V}{x:Value}(hj:xs[j]? = some x)(hu:RV w M h σ u x):RVs w M h σ (vs.set j u) xs:=by
 induction vs generalizing xs j with
 | nil=>exact hv
 | cons v vs ih=>
  simp only [RVs] at hv
  obtain⟨y,ys,rfl,a,b⟩:=hv
  cases j with
  | zero=>
   simp at hj;subst hj
   exact⟨y,ys,rfl,hu,b⟩
  | succ j=>exact⟨y,ys,rfl,a,ih b (by simpa using hj)⟩
theorem qzM{h:List O}{w:World}{σ:Nat->Loc}(R:Rep E.w0 E.A E.M0 w h σ)(e:TypeId)(s:Sh)(h1:1<=s.n) :
  Next E.w0 E.A E.M0 w h σ w (h ++ [O.row false 0 e s []]) (updL σ h.length ⟨none,0,[]⟩) /\
   RV w (mutb E.M0 (h ++ [O.row false 0 e s []]) (updL σ h.length ⟨none,0,[]⟩)) (h ++ [O.row false 0 e s []]) (updL σ h.length ⟨none,0,[]⟩) (.slc h.length 0) (.slice none 0 0):=by
 have hH:getO (h ++ [O.row false 0 e s []]) h.length=.row false 0 e s []:=by rw [qbA,zJ rfl]
 refine⟨qhB R (qlO h) hH (fun o ho=>by rw [qbA,zL ho]) (Below.refl _ _) ⟨none,0,[]⟩ (fun b hb=>by cases hb) (fun k st=>⟨h1,[],?_,rfl⟩),?_⟩
 ·exact⟨by simp,.inl ⟨rfl,rfl⟩⟩
 ·simp only [RV]
  exact⟨false,0,e,s,[],hH,Nat.le_refl _,rfl,fun _=>by rw [qZ];rfl⟩
theorem At.nx(hE:E.Ok){t:Nat->V}{h h':List O}{a:Act}{w w':World}{σ σ':Nat->Loc}(R:Rep E.w0 E.A E.M0 w h σ)(hr:∀ i,RV w (mutb E.M0 h σ) h σ (t i) (a.tmps.getD i undef))(hn:a.tmps.size=E.C.n)(hk:E.Kp a.defers w h σ)
  (nx:Next E.w0 E.A E.M0 w h σ w' h' σ'):At E (t,h') a w':=⟨σ',nx.rep,fun i=>nx.rv (hr i),hn,hE.kp _ _ _ _ _ _ _ R nx.rep (.of_next nx) hk⟩
theorem qDf{h:List O}{w:World}{σ:Nat->Loc}(R:Rep E.w0 E.A E.M0 w h σ){o:Nat}{fz:Bool}{q q':Oth}{d:q.sh.den}{d':q'.sh.den}(ho:getO h o=.oth fz q d)(hit:q'.it=q.it)
  (hq:∀ w M l,RU w M l q d->RU w M l q' d'):Next E.w0 E.A E.M0 w h σ w (h.set o (.oth fz q' d')) σ:=by
 have hlt:=qae (h:=h) (i:=o) (by rw [ho];simp)
 have hg:=qad hlt (.oth fz q' d')
 refine Next.upd R o (by rw [ho];trivial) (by rw [hg,zJ rfl];trivial) rfl TDr.rfl rfl (Nat.le_refl _) (fun o' hne=>⟨by rw [hg,zL (fun e=>hne e.symm)],rfl⟩) (fun _ _ _=>rfl)
  (fun b hl ha=>.inl ⟨by rw [hg,zJ rfl] at hl;rw [ho];exact hl,ha⟩) (by rw [ho];exact⟨by rw [hg,zJ rfl];exact hit,rfl⟩) (fun k st=>?_)
 rw [hg,zJ rfl]
 have ro:=R.obj o
 rw [ho] at ro
 exact⟨hq _ _ _ (ro.1.keeps k fun _ _ _=>rfl),fun hf b ha=>k.out b (ro.1.lt ha) (ro.2 hf b ha)⟩
theorem qBz{h:List O}{w:World}{σ:Nat->Loc}(R:Rep E.w0 E.A E.M0 w h σ){o:Nat}{q:Oth}{d:q.sh.den}{e:TypeId}{s:Sh}(ho:getO h o=.oth false q d)(hc:(d.2.isEmpty&&(!q.it&&(!q.un&&Nat.ble 1 s.n)))=true) :
  Next E.w0 E.A E.M0 w h σ w (h.set o (.kds 0 (.map q.kt q.et q.k) (.row e s) none (d.1,[]))) (updL σ o ⟨(σ o).a,(σ o).cap,[]⟩):=by
 simp only [zA,zT] at hc
 obtain⟨c1,c2,c3,_⟩:=hc
 have hlt:=qae (h:=h) (i:=o) (by rw [ho];simp)
 have hg:=qad hlt (.kds 0 (.map q.kt q.et q.k) (.row e s) none (d.1,[]))
 refine Next.updG R o rfl TDr.rfl rfl (Nat.le_refl _) (fun o' hne=>⟨by rw [hg,zL (fun e=>hne e.symm)],qaE σ _ hne⟩) (fun _ _ _=>rfl) (fun b hl hb=>.inl ⟨by rw [ho];rfl,?_⟩) ?_ (fun k st=>?_)
 ·rw [hg,zJ rfl,qZ] at hb
  rw [ho]
  rcases hb with hb | hb
  ·exact hb
  ·cases hb
 ·rw [ho]
  exact⟨.inl (by rw [hg,zJ rfl];exact⟨c2,rfl⟩),by rw [qZ]⟩
 ·rw [hg,zJ rfl,qZ]
  have ro:=R.obj o
  rw [ho] at ro
  have rq:=ro.1.q c3
  unfold RQ at rq
  rw [c2] at rq
  obtain⟨b,es,clock,ha,hb,hcl,he,hlt,hnd⟩:=rq
  have hd:d.2 = []:=zCL.1 c1
  rw [hd] at he
  have hes:es.toList = []:=he
  refine⟨b,es,clock,ha,hb,hcl,?_,?_,hlt,hnd,by simp⟩
  ·rw [hes];exact rfl
  ·rw [hes];exact⟨rfl,rfl⟩
theorem qxL{w:World}{M M':Nat->Prop}{k:Sh}{e:TypeId}{s:Sh}(hM:∀ b,M' b->M b):{xs:List (Int×(k.den×List s.den))} -> {es:List MapEntry} -> {bs:List Nat}->KKs w M k xs es->KVs w M (.row e s) (xs.map (·.2.2)) (es.map (·.val)) none bs->(∀ b,b∈bs->¬ M' b)->MEs w M' k (.sl s) xs es
 | [],_,_,h,_,_=>h
 | x :: xs,_,_,h,h2,hb=>by
  obtain⟨en,r,rfl,g1,g2,h⟩:=h
  obtain⟨v,r',b1,b2,e1,rfl,h3,h2⟩:=h2
  simp only [List.map_cons,zz] at e1
  obtain⟨rfl,rfl⟩:=e1
  obtain⟨l,cs,e2,hs1,hown,hrl,rfl⟩:=(h3.resolve_left (fun q=>by cases q.1)).2
  refine⟨en,r,rfl,⟨g1,RV.keeps ⟨Nat.le_refl _,fun _ _ _=>rfl,fun b _ h1 h2=>h1 (hM b h2)⟩ (OStep.refl [] σ0) g2,?_⟩,qxL hM h h2 fun b h1=>hb b (zf _ h1)⟩
  rw [e2]
  rw [e2] at hown
  simp only [Abs.enc,RV]
  exact qje hown hrl hM fun b hl=>hb b (zo _ (by simp [hl]))
theorem qCt{h:List O}{w:World}{σ:Nat->Loc}(R:Rep E.w0 E.A E.M0 w h σ){o ver:Nat}{kt et e:TypeId}{k s:Sh}{d:Mp k (.sl s)}(ho:getO h o=.kds ver (.map kt et k) (.row e s) none d) :
  Next E.w0 E.A E.M0 w h σ w (h.set o (.oth false ⟨false,kt,et,k,.sl s,false⟩ d)) σ:=by
 have hlt:=qae (h:=h) (i:=o) (by rw [ho];simp)
 have hg:=qad hlt (.oth false ⟨false,kt,et,k,.sl s,false⟩ d)
 have ro:=R.obj o
 rw [ho] at ro
 obtain⟨b,es,clock,ha,hb,hcl,hkk,hkv,hlt2,hnd,hsep⟩:=ro
 refine Next.updG R o rfl TDr.rfl rfl (Nat.le_refl _) (fun o' hne=>⟨by rw [hg,zL (fun e=>hne e.symm)],rfl⟩) (fun _ _ _=>rfl) (fun b hl hb=>.inl ⟨by rw [ho];trivial,?_⟩) ?_ (fun kp st=>?_)
 ·rw [hg,zJ rfl] at hb
  rw [ho]
  exact .inl hb
 ·rw [ho]
  show KStep _ _ _ _ _ _ _
  unfold KStep
  exact⟨.inl (by rw [hg,zJ rfl];rfl),rfl⟩
 ·rw [hg,zJ rfl]
  refine⟨RQ.u ⟨b,es,clock,ha,hb,hcl,qxL (fun b' hm=>?_) hkk hkv (fun b' hb' hm=>?_),hlt2,hnd⟩,fun q=>by cases q⟩
  ·rcases hm with hm | ⟨j,l1,o1⟩
   ·exact .inl hm
   ·by_cases q1:j=o
    ·subst q1
     rw [hg,zJ rfl] at o1
     exact .inr ⟨j,by rw [ho];trivial,by rw [ho];exact .inl o1⟩
    ·rw [hg,zL (fun q=>q1 q.symm)] at l1 o1
     exact .inr ⟨j,l1,o1⟩
  ·have hown:own h σ b':=⟨o,by rw [ho];trivial,by rw [ho];exact .inr hb'⟩
   rcases hm with hm | ⟨j,l1,o1⟩
   ·exact R.own_m0 hown hm
   ·by_cases q1:j=o
    ·subst q1
     rw [hg,zJ rfl] at o1
     have o1:(σ j).a=some b':=o1
     rw [ha] at o1;cases o1
     exact (zZ.1 hsep).1 hb'
    ·rw [hg,zL (fun q=>q1 q.symm)] at l1 o1
     exact q1 (R.apart j o b' l1 (by rw [ho];trivial) o1 (by rw [ho];exact .inr hb'))
theorem qCA{h:List O}{w:World}{σ:Nat->Loc}(R:Rep E.w0 E.A E.M0 w h σ){o ver n:Nat}{e:TypeId}{kt:Kt}{x:Int×V}{d:List kt.sh.den}(ho:getO h o=.kds ver (.row e) kt (some x) d)(hk:qnN x.2=some n){y:kt.sh.den}(hd:qdb kt x.2 (getO h n)=some y) :
  ∃ τ,Next E.w0 E.A E.M0 w h σ w ((h.set n (husk (getO h n))).set o (.kds ver (.row e) kt none (d.set x.1.toNat y))) τ:=by
 have ro:=R.obj o
 rw [ho] at ro
 obtain⟨hn1,cs,hown,hks,hnd⟩:=ro
 have hn0:kt.n=1:=qyx hd
 rw [hn0] at hks hown
 obtain⟨c,hci,hlt,hl⟩:=hks.link (fun z c hl bs hq=>by cases kt <;> first | (simp only [KW] at hq;exact hq) | (simp [qdb] at hd;done))
 have hlt:x.1.toNat<d.length:=hlt
 have lo:=qae (h:=h) (i:=o) (by rw [ho];simp)
 have hnone:getO h n≠.none:=fun q=>by
  rw [q,qwp] at hd
  cases hd
 have ln:=qae (h:=h) (i:=n) hnone
 have hne:o≠n:=fun q=>by
  rw [<- q,ho,qwo] at hd
  cases hd
 have hg1:∀ j,getO ((h.set n (husk (getO h n))).set o (.kds ver (.row e) kt none (d.set x.1.toNat y))) j=if o=j then .kds ver (.row e) kt none (d.set x.1.toNat y) else if n=j then husk (getO h n) else getO h j:=fun j=>by
  rw [qad (by simpa using lo),qad ln]
 refine qAh R ho hl hk hd hlt (fun z hz=>?_) hne rfl TDr.rfl rfl rfl (fun _ _=>rfl) (fun cs' ho'=>?_) (by rw [hg1,zL hne,zJ rfl]) (by rw [hg1,zJ rfl]) (fun j j1 j2=>by rw [hg1,zL (fun q=>j2 q.symm),zL (fun q=>j1 q.symm)])
 ·simp only [holeR,Option.map_some,zD] at hz
  rw [<- hz]
 ·have e1:cs'=cs:=hown.det ho'
  subst e1
  have e2:cs'.set x.1.toNat c=cs':=by
   apply zAY
   intro j
   rw [zAc]
   split
   ·rename_i q
    subst q
    split
    ·exact hci.symm
    ·rename_i q;rw [zX (by omega)]
   ·rfl
  rw [e2];exact ho'
theorem qCa{h:List O}{w:World}{σ:Nat->Loc}(R:Rep E.w0 E.A E.M0 w h σ){o ver:Nat}{e:TypeId}{kt:Kt}{y:kt.sh.den}(hy:kt.lost=some y){x:Int×V}{d:List kt.sh.den}(ho:getO h o=.kds ver (.row e) kt (some x) d) :
  ∃ τ,Next E.w0 E.A E.M0 w h σ w (h.set o (.kds ver (.row e) kt none (d.set x.1.toNat y))) τ:=by
 have ro:=R.obj o
 rw [ho] at ro
 obtain⟨hn1,cs,hown,hks,hnd⟩:=ro
 have hkn:kt.n=1:=by cases kt <;> first | rfl | (cases hy;done)
 rw [hkn] at hks hown
 have hks:KLs 1 (KW w (mutb E.M0 h σ) (RV w (mutb E.M0 h σ) h σ) kt) d cs (some (x.1.toNat,x.2)) (σ o).ex:=hks
 obtain⟨c,hci,hlt,_,hone⟩:=hks.link (L:=fun v c=>RV w (mutb E.M0 h σ) h σ v c/\c.oneCell'=true) (fun z c hl bs hq=>by
  have hq:outK (RV w (mutb E.M0 h σ) h σ) hl c bs:=by cases kt <;> first | (simp only [KW] at hq;exact hq) | (cases hy;done)
  obtain⟨h1,h2,c,h3,h4,h5⟩:=hq
  exact⟨h1,h2,c,h3,h4,h5,h4⟩)
 have hlt:x.1.toNat<d.length:=hlt
 have lo:=qae (h:=h) (i:=o) (by rw [ho];simp)
 have hnew:KW w (mutb E.M0 h σ) (RV w (mutb E.M0 h σ) h σ) kt y [c] none []:=by
  cases kt with
  | map q=>
   simp only [Kt.lost,zD] at hy
   subst hy
   simp only [KW]
   exact .inl ⟨by first | trivial | rfl,by first | trivial | rfl,⟨c,rfl,hone⟩,by first | trivial | rfl⟩
  | box e2 t2=>
   simp only [Kt.lost,zD] at hy
   subst hy
   simp only [KW]
   exact .inl ⟨by first | trivial | rfl,⟨c,rfl,hone⟩,by first | trivial | rfl⟩
  | _=>cases hy
 obtain⟨b0,ex',hput,hperm⟩:=hks.put1 hlt (fun y hy=>by cases hy;rfl) hnew
 have hex:∀ b,b∈ex'->b∈(σ o).ex:=fun b hb=>by
  have:=hperm.subset (zf _ hb)
  simpa using this
 have hnd2:ex'.Nodup:=(za.1 ((hperm.nodup_iff).2 (by simpa using (za.1 hnd).2.1))).2.1
 have e2':cs.set x.1.toNat c=cs:=by
  apply zAY
  intro j
  rw [zAc]
  split
  ·rename_i q
   subst q
   split
   ·exact hci.symm
   ·rename_i q;rw [zX (by omega)]
  ·rfl
 rw [e2'] at hput
 have hgs:=qad lo (.kds ver (.row e) kt none (d.set x.1.toNat y))
 refine⟨updL σ o ⟨(σ o).a,(σ o).cap,ex'⟩,Next.updG R o rfl TDr.rfl rfl (Nat.le_refl _) (fun o' hne=>⟨by rw [hgs,zL (fun e=>hne e.symm)],qaE σ _ hne⟩) (fun _ _ _=>rfl) (fun b hlv ha=>.inl ⟨by rw [ho];trivial,?_⟩) ?_ (fun kp st=>?_)⟩
 ·rw [hgs,zJ rfl,qZ] at ha
  rw [ho]
  rcases ha with ha | ha
  ·exact .inl ha
  ·exact .inr (hex b ha)
 ·rw [ho]
  show KStep _ _ _ _ _ _ _
  unfold KStep
  exact .inl ⟨ver,.row e,kt,none,d.set x.1.toNat y,by rw [hgs,zJ rfl],rfl,Nat.le_refl _,fun _=>⟨by rw [qZ],by rw [qZ],by simp [kLen],rfl⟩⟩
 ·rw [hgs,zJ rfl,qZ]
  refine⟨hn1,cs,by rw [zBK,hkn];exact hown,?_,za.2 ⟨(za.1 hnd).1,hnd2,fun p hp q hq=>(za.1 hnd).2.2 p hp q (hex q hq)⟩⟩
  rw [hkn]
  exact hput.keeps (f:=id) (L':=RV w (mutb E.M0 (h.set o (.kds ver (.row e) kt none (d.set x.1.toNat y))) (updL σ o ⟨(σ o).a,(σ o).cap,ex'⟩)) (h.set o (.kds ver (.row e) kt none (d.set x.1.toNat y))) (updL σ o ⟨(σ o).a,(σ o).cap,ex'⟩)) (fun x c hl bs a1 a2 a3=>KW.keeps kp id kt x c hl bs a1 a2 a3) (fun y c q=>by cases q) (fun _ _ _=>rfl)
mutual
theorem fz_rv{w:World}{M M':Nat->Prop}{h H:List O}{σ:Nat->Loc}{o ver:Nat}{s:Sh}{d:List s.den}(hk:∀ (v:V) (x:Value),RV w M h σ v x->RV w M' H σ v x)(hr:∀ i x,RV w M h σ (.rptr o ver i 2000000) x->RC w M' (.sl s) d [x]):{v:V} -> {x:Value}->RV w M h σ v x->RV w M' H σ (datV o ver s d v) x
 | .rptr o' ver' i off,x,hv=>by
  simp only [datV]
  cases hb:(Nat.beq o o'&&(Nat.beq ver ver'&&Nat.beq off 2000000)) with
  | false=>exact hk _ _ hv
  | true=>
   simp only [zA] at hb
   obtain⟨b1,b2,b3⟩:=hb
   obtain rfl:=zB b1
   obtain rfl:=zB b2
   obtain rfl:=zB b3
   simp only [cond_true,RV]
   exact hr i x hv
 | .ifc _ _,_,hv=>by
  simp only [datV,RV] at hv ⊢
  obtain⟨u,rfl,h1⟩:=hv
  exact⟨u,rfl,fz_rv hk hr h1⟩
 | .clo _ _,_,hv=>by
  simp only [datV,RV] at hv ⊢
  obtain⟨vs,rfl,h1⟩:=hv
  exact⟨vs,rfl,quK hk hr h1⟩
 | .agg _,_,hv=>by
  simp only [datV,RV] at hv ⊢
  obtain⟨vs,rfl,h1,h2⟩:=hv
  exact⟨vs,rfl,h1,quK hk hr h2⟩
 | .tup _,_,hv=>by
  simp only [datV,RV] at hv ⊢
  obtain⟨vs,rfl,h2⟩:=hv
  exact⟨vs,rfl,quK hk hr h2⟩
 | .bad,_,hv=>hk _ _ hv
 | .undef,_,hv=>hk _ _ hv
 | .nl _,_,hv=>hk _ _ hv
 | .int _ _,_,hv=>hk _ _ hv
 | .bool _,_,hv=>hk _ _ hv
 | .nlt _ _,_,hv=>hk _ _ hv
 | .nil,_,hv=>hk _ _ hv
 | .sl _ _,_,hv=>hk _ _ hv
 | .slc _ _,_,hv=>hk _ _ hv
 | .ptr _ _,_,hv=>hk _ _ hv
 | .tl _ _ _,_,hv=>hk _ _ hv
 | .fptr _ _,_,hv=>hk _ _ hv
 | .pptr _ _,_,hv=>hk _ _ hv
 | .yld _,_,hv=>hk _ _ hv
theorem quK{w:World}{M M':Nat->Prop}{h H:List O}{σ:Nat->Loc}{o ver:Nat}{s:Sh}{d:List s.den}(hk:∀ (v:V) (x:Value),RV w M h σ v x->RV w M' H σ v x)(hr:∀ i x,RV w M h σ (.rptr o ver i 2000000) x->RC w M' (.sl s) d [x]):{vs:List V} -> {xs:List Value}->RVs w M h σ vs xs->RVs w M' H σ (datVs o ver s d vs) xs
 | [],_,hv=>by simp only [datVs,RVs] at hv ⊢;exact hv
 | _ :: _,_,hv=>by
  simp only [datVs,RVs] at hv ⊢
  obtain⟨x,xs,rfl,h1,h2⟩:=hv
  exact⟨x,xs,rfl,fz_rv hk hr h1,quK hk hr h2⟩
end
theorem qrX{o ver:Nat}{s:Sh}{d:List s.den}(x:O):(∃ vs,x=.cells vs/\datO o ver s d x=.cells (datVs o ver s d vs))\/datO o ver s d x=x:=by
 cases x <;> first | exact .inr rfl | exact .inl ⟨_,rfl,rfl⟩
theorem qAv{h:List O}{w:World}{σ:Nat->Loc}(R:Rep E.w0 E.A E.M0 w h σ){o ver:Nat}{e:TypeId}{kt:Kt}{d:List kt.sh.den}(ho:getO h o=.kds ver (.row e) kt none d)(hp:kt.isPl=true) :
  Next E.w0 E.A E.M0 w h σ w ((h.set o .gone).map (datO o ver kt.sh d)) σ/\∀ (v:V) (x:Value),RV w (mutb E.M0 h σ) h σ v x->RV w (mutb E.M0 ((h.set o .gone).map (datO o ver kt.sh d)) σ) ((h.set o .gone).map (datO o ver kt.sh d)) σ (datV o ver kt.sh d v) x:=by
 have lo:=qae (h:=h) (i:=o) (by rw [ho];simp)
 generalize hH:(h.set o .gone).map (datO o ver kt.sh d)=H
 have hg:∀ j,getO H j=if o=j then .gone else datO o ver kt.sh d (getO h j):=fun j=>by
  have:getO H j=datO o ver kt.sh d (getO (h.set o .gone) j):=by
   rw [<- hH]
   unfold getO
   rw [zK,zK,zAb]
   cases (h.set o .gone)[j]? <;> rfl
  rw [this,qad lo]
  split <;> rfl
 have hlive:∀ j,live (getO H j)->o≠j/\live (getO h j)/\∀ b,Oat (getO H j) (σ j) b↔Oat (getO h j) (σ j) b:=fun j hl=>by
  rw [hg] at hl ⊢
  split at hl
  ·exact hl.elim
  ·rename_i q
   rw [zL q]
   refine⟨q,?_,?_⟩
   ·cases e9:getO h j <;> rw [e9] at hl <;> first | exact hl | trivial
   ·cases e9:getO h j <;> exact fun _=>Iff.rfl
 have hown:∀ b,own H σ b->own h σ b:=fun b ⟨j,hl,ha⟩=>by
  obtain⟨_,h2,h3⟩:=hlive j hl
  exact⟨j,h2,(h3 b).1 ha⟩
 have hmut:∀ b,mutb E.M0 H σ b->mutb E.M0 h σ b:=fun b hb=>hb.imp id (hown b)
 have kp:Keeps w (mutb E.M0 h σ) w (mutb E.M0 H σ):=qbW hmut
 have st:OStep h σ H σ:=fun j=>by
  have h1:=hg j
  by_cases q:o=j
  ·subst q
   rw [zJ rfl] at h1
   rw [ho]
   show KStep _ _ _ _ _ _ _
   unfold KStep
   exact .inr h1
  ·rw [zL q] at h1
   rcases qrX (o:=o) (ver:=ver) (s:=kt.sh) (d:=d) (getO h j) with⟨vs,q1,q2⟩ | q1
   ·rw [q1] at h1 ⊢
    exact .inl ⟨_,by rw [h1];rfl,rfl⟩
   ·rw [q1] at h1
    have:=OStep.refl h σ j
    rw [h1];exact this
 have ro:=R.obj o
 rw [ho] at ro
 have hrc:RC w (mutb E.M0 H σ) (.sl kt.sh) d [rowK (σ o) d.length]:=RK.pl hmut hp ro (fun b hb hm=>by
  have hob:own h σ b:=⟨o,by rw [ho];trivial,by rw [ho];exact hb⟩
  rcases hm with hm | ⟨j,hl,ha⟩
  ·exact R.own_m0 hob hm
  ·obtain⟨h1,h2,h3⟩:=hlive j hl
   exact h1 (R.apart o j b (by rw [ho];trivial) h2 (by rw [ho];exact hb) ((h3 b).1 ha)))
 have hk:∀ (v:V) (x:Value),RV w (mutb E.M0 h σ) h σ v x->RV w (mutb E.M0 H σ) H σ v x:=fun v x=>RV.keeps kp st
 have hr:∀ i x,RV w (mutb E.M0 h σ) h σ (.rptr o ver i 2000000) x->RC w (mutb E.M0 H σ) (.sl kt.sh) d [x]:=fun i x hx=>by
  simp only [RV] at hx
  rw [ho] at hx
  obtain⟨_,_,_,hx⟩:=hx
  obtain⟨_,rfl⟩:=(hx rfl).resolve_right (fun q=>q.1 rfl)
  exact hrc
 refine⟨Next.gen R rfl TDr.rfl rfl (Nat.le_refl _) (fun b hb=>.inl (hown b hb)) (fun _ _ _=>rfl) (fun j j' b l1 l2 o1 o2=>?_) st (fun _ j=>?_),fun v x hv=>fz_rv hk hr hv⟩
 ·obtain⟨_,h1,h2⟩:=hlive j l1
  obtain⟨_,h3,h4⟩:=hlive j' l2
  exact R.apart j j' b h1 h3 ((h2 b).1 o1) ((h4 b).1 o2)
 ·rw [hg]
  by_cases q:o=j
  ·rw [zJ q];trivial
  ·rw [zL q]
   have r:=R.obj j
   rcases qrX (o:=o) (ver:=ver) (s:=kt.sh) (d:=d) (getO h j) with⟨vs,q1,q2⟩ | q1
   ·rw [q1] at r ⊢
    obtain⟨b,ty,cs,h1,h2,h3,h4⟩:=r
    exact⟨b,ty,cs,h1,h2,quK hk hr h3,h4⟩
   ·rw [q1]
    exact r.keeps kp st fun _ _ _=>rfl
theorem qDA{h:List O}{w:World}{σ:Nat->Loc}(R:Rep E.w0 E.A E.M0 w h σ)(e:TypeId)(kt:Kt)(h1:1<=kt.n) :
  Next E.w0 E.A E.M0 w h σ w (h ++ [O.kds 0 (.row e) kt none []]) (updL σ h.length ⟨none,0,[]⟩) /\
   RV w (mutb E.M0 (h ++ [O.kds 0 (.row e) kt none []]) (updL σ h.length ⟨none,0,[]⟩)) (h ++ [O.kds 0 (.row e) kt none []]) (updL σ h.length ⟨none,0,[]⟩) (.rptr h.length 0 0 2000000) (.slice none 0 0):=by
 have hH:getO (h ++ [O.kds 0 (.row e) kt none []]) h.length=.kds 0 (.row e) kt none []:=by rw [qbA,zJ rfl]
 refine⟨qhB R (qlO h) hH (fun o ho=>by rw [qbA,zL ho]) (Below.refl _ _) ⟨none,0,[]⟩ (fun b hb=>by rcases hb with hb | hb <;> cases hb) (fun k st=>⟨h1,[],⟨by simp,.inl ⟨rfl,rfl,rfl⟩⟩,⟨rfl,rfl,rfl⟩,by simp⟩),?_⟩
 have:=qAl (w:=w) (σ:=updL σ h.length ⟨none,0,[]⟩) (M:=mutb E.M0 (h ++ [O.kds 0 (.row e) kt none []]) (updL σ h.length ⟨none,0,[]⟩)) (i:=0) hH
 rw [qZ] at this
 exact this
theorem qCc(f:V->V)(hf:f .bad=.bad)(t:Slots)(i:Nat):look (t.map fun p=>(p.1,f p.2)) i=f (look t i):=by
 induction t with
 | nil=>exact hf.symm
 | cons p t ih=>
  obtain⟨k,v⟩:=p
  simp only [List.map_cons,look]
  cases Nat.beq k i with
  | true=>rfl
  | false=>exact ih
theorem qCB{k v:Sh}(d:Mp k v):UnE k v (qAX k v d) d:=by
 unfold UnE qAX
 rw [List.map_map]
 exact (List.mergeSort_perm d.2 _).map (·.2)
theorem qBn{k v:Sh}{d:Mp k v}{f:Mp k v->Option ρ}{r:ρ}(h:anyU d f=some r){d':Mp k v}(hd:UnE k v d d'):f d'=some r:=by
 classical
 unfold anyU at h
 split at h
 ·rename_i hx
  have:=hx.choose_spec d' hd
  rw [this,<- h]
 ·cases h
theorem qiH(hE:E.Ok){t:Slots}{a:Act}{w:World}:(os:List Nat) -> {h:List O} -> {K:List O->Option ρ} -> {res:ρ}->anyUs os h K=some res->At E (look t,h) a w->∃ h',K h'=some res/\At E (look t,h') a w
 | [],h,K,res,hex,hat=>⟨h,hex,hat⟩
 | o :: r,h,K,res,hex,hat=>by
  simp only [anyUs] at hex
  split at hex
  ·rename_i fz q d eo
   cases hu:q.un with
   | false=>rw [hu,cond_false] at hex;exact qiH hE r hex hat
   | true=>
    rw [hu,cond_true] at hex
    obtain⟨σ,R,hr,hn,hk⟩:=hat
    simp only at R hr hk
    have ro:=R.obj o
    rw [eo] at ro
    obtain⟨⟨d',hud,rq⟩,-⟩:=ro
    unfold UnQ at hud
    rw [hu] at hud
    have hex:=qBn hex hud
    refine qiH hE r hex ?_
    refine At.nx (σ':=σ) hE R hr hn hk ?_
    have hlt:=qae (h:=h) (i:=o) (by rw [eo];simp)
    have hg:=qad hlt (.oth fz ⟨q.it,q.kt,q.et,q.k,q.v,false⟩ d')
    refine Next.upd R o (by rw [eo];trivial) (by rw [hg,zJ rfl];trivial) rfl TDr.rfl rfl (Nat.le_refl _) (fun o' hne=>⟨by rw [hg,zL (fun e=>hne e.symm)],rfl⟩) (fun _ _ _=>rfl)
     (fun b hl ha=>.inl ⟨by rw [hg,zJ rfl] at hl;rw [eo];exact hl,ha⟩) (by rw [eo];exact⟨by rw [hg,zJ rfl];rfl,rfl⟩) (fun k st=>?_)
    rw [hg,zJ rfl]
    have ro:=R.obj o
    rw [eo] at ro
    refine⟨RQ.u ?_,fun hf b ha=>k.out b (ro.1.lt ha) (ro.2 hf b ha)⟩
    have:=rq.keeps k fun _ _ _=>rfl
    exact this
  ·exact qiH hE r hex hat
theorem qoU{h h1:List O}{w:World}{σ:Nat->Loc}{v u:V}(R:Rep E.w0 E.A E.M0 w h σ)(hs:shutV h v=some (u,h1)) :
  Next E.w0 E.A E.M0 w h σ w h1 σ/\(∀ x,RV w (mutb E.M0 h σ) h σ v x->RV w (mutb E.M0 h1 σ) h1 σ u x)/\h1.length=h.length/\∀ o vs,getO h o=.cells vs->getO h1 o=.cells vs:=by
 unfold shutV at hs
 split at hs
 ·rename_i r ver
  split at hs
  ·rename_i fz ver' e s xs er
   obtain⟨hv,hs⟩:=qc hs
   have hv:=zB hv
   subst hv
   cases hs
   have e1:qai (frzL h [.slc r ver]) h=h.set r (.row true ver e s xs):=by
    simp only [frzL,er,Nat.beq_refl,cond_true,qai]
   have hlt:r<h.length:=qae (by rw [er];simp)
   have nx:=qjW (Sub.refl h).f R [.slc r ver]
   rw [e1] at nx
   have gr:getO (h.set r (.row true ver e s xs)) r=.row true ver e s xs:=by rw [qad hlt,zJ rfl]
   refine⟨nx,fun x hx=>?_,by simp,fun o vs ho=>?_⟩
   ·have hx':=nx.rv hx
    have hd:decSl (h.set r (.row true ver e s xs)) s (.slc r ver)=some xs:=by
     simp only [decSl,gr,Nat.beq_refl,cond_true]
     simp [qbn]
    have:=qql nx.rep (Sub.refl _) (Mt:=mutb E.M0 (h.set r (.row true ver e s xs)) σ) (fun b hb=>hb) hx' (fun o ver1 e2 ver2 e3 s3 xs3 hg=>by
     cases e2
     rw [gr] at hg;cases hg) hd
    simpa only [RV] using this
   ·rw [qad hlt,zL (fun e=>by rw [<- e,er] at ho;cases ho)];exact ho
  ·cases hs
 ·rename_i r ver q
  split at hs
  ·rename_i fz ver' e s xs er
   obtain⟨hv,hs⟩:=qc hs
   have hv:=zB hv
   subst hv
   cases hs
   have e1:qai (frzL h [.slc r ver]) h=h.set r (.row true ver e s xs):=by
    simp only [frzL,er,Nat.beq_refl,cond_true,qai]
   have hlt:r<h.length:=qae (by rw [er];simp)
   have nx:=qjW (Sub.refl h).f R [.slc r ver]
   rw [e1] at nx
   have gr:getO (h.set r (.row true ver e s xs)) r=.row true ver e s xs:=by rw [qad hlt,zJ rfl]
   refine⟨nx,fun x hx=>?_,by simp,fun o vs ho=>?_⟩
   ·have hx':=nx.rv hx
    simp only [RV] at hx' ⊢
    rw [gr] at hx'
    obtain⟨_,_,htl⟩:=hx'
    have ro:=nx.rep.obj r
    rw [gr] at ro
    exact RC.tl ro.2.1 (htl rfl)
   ·rw [qad hlt,zL (fun e=>by rw [<- e,er] at ho;cases ho)];exact ho
  ·cases hs
 ·cases hs
theorem qh(hE:E.Ok){a:Act}{w:World}:(ann:Ann) -> {t:Slots} -> {h:List O} -> {ann':Ann} -> {t':Slots} -> {h':List O}->prep E.C ann t h=some (ann',t',h')->At E (look t,h) a w->At E (look t',h') a w
 | .keep ks base an,t,h,ann',t',h',hp,hat=>by
  simp only [prep] at hp
  obtain⟨hle,hp⟩:=qc hp
  exact qh hE an hp (hat.conv hE (zH hle) ks)
 | .obj i e s an,t,h,ann',t',h',hp,hat=>by
  simp only [prep] at hp
  split at hp
  ·rename_i hi
   obtain⟨hs,hp⟩:=qc hp
   refine qh hE an hp ?_
   obtain⟨σ,R,hr,hn,hk⟩:=hat
   obtain⟨nx,hv⟩:=qzM R e s (zH hs)
   obtain⟨_,_,hr',_,_⟩:=At.nx hE R hr hn hk nx
   refine⟨_,nx.rep,fun j=>?_,hn,hE.kp _ _ _ _ _ _ _ R nx.rep (.of_next nx) hk⟩
   simp only [look]
   cases hb:Nat.beq i j with
   | true=>
    have:=zB hb
    subst this
    have h0:=hr i
    simp only [hi,RV] at h0
    simp only [cond_true]
    rw [h0];exact hv
   | false=>exact nx.rv (hr j)
  ·exact qh hE an hp hat
 | .objc o j e s an,t,h,ann',t',h',hp,hat=>by
  simp only [prep] at hp
  split at hp
  ·rename_i vs eo
   split at hp
   ·rename_i hj
    obtain⟨hs,hp⟩:=qc hp
    refine qh hE an hp ?_
    obtain⟨σ,R,hr,hn,hk⟩:=hat
    simp only at R hr hk
    obtain⟨nx,hv⟩:=qzM R e s (zH hs)
    have hlt:o<h.length:=qae (by rw [eo];simp)
    have hh:h.set o (.cells (vs.set j (.slc h.length 0))) ++ [O.row false 0 e s []]=(h ++ [O.row false 0 e s []]).set o (.cells (vs.set j (.slc h.length 0))):=by
     rw [List.set_append_left _ _ hlt]
    rw [hh]
    have eo1:getO (h ++ [O.row false 0 e s []]) o=.cells vs:=by rw [qbA,zL (by omega),eo]
    have hlt1:o<(h ++ [O.row false 0 e s []]).length:=by simp;omega
    have hgs:=qad hlt1 (.cells (vs.set j (.slc h.length 0)))
    have nx2:Next E.w0 E.A E.M0 w (h ++ [O.row false 0 e s []]) (updL σ h.length ⟨none,0,[]⟩) w ((h ++ [O.row false 0 e s []]).set o (.cells (vs.set j (.slc h.length 0)))) (updL σ h.length ⟨none,0,[]⟩):=by
     refine Next.upd nx.rep o (by rw [eo1];trivial) (by rw [hgs,zJ rfl];trivial) rfl TDr.rfl rfl (Nat.le_refl _) (fun o' hne=>⟨by rw [hgs,zL (fun e=>hne e.symm)],rfl⟩) (fun _ _ _=>rfl) (fun b hl ha=>.inl ⟨by rw [eo1];trivial,ha⟩) ?_ (fun k st=>?_)
     ·rw [eo1];exact⟨_,by rw [hgs,zJ rfl],rfl⟩
     ·rw [hgs,zJ rfl]
      have ro:=nx.rep.obj o
      rw [eo1] at ro
      obtain⟨b,e',cs,ha,hb,hrs,h1⟩:=ro
      refine⟨b,e',cs,ha,hb,?_,h1⟩
      have hrs':=RVs.keeps k st hrs
      have hv':=RV.keeps k st hv
      have:=hrs.get hj
      obtain⟨x,hx,hnil⟩:=this
      simp only [RV] at hnil
      subst hnil
      exact RVs.set hrs' hx hv'
    exact At.nx hE R hr hn hk (nx.trans nx2 R)
   ·exact qh hE an hp hat
  ·exact qh hE an hp hat
 | .shut i an,t,h,ann',t',h',hp,hat=>by
  simp only [prep] at hp
  split at hp
  ·rename_i p hs
   refine qh hE an hp ?_
   obtain⟨u,h1⟩:=p
   obtain⟨σ,R,hr,hn,hk⟩:=hat
   simp only at R hr hk
   obtain⟨nx,hv,-,-⟩:=qoU R hs
   refine⟨_,nx.rep,fun j=>?_,hn,hE.kp _ _ _ _ _ _ _ R nx.rep (.of_next nx) hk⟩
   simp only [look]
   cases hb:Nat.beq i j with
   | true=>
    have:=zB hb
    subst this
    exact hv _ (hr i)
   | false=>exact nx.rv (hr j)
  ·exact qh hE an hp hat
 | .shutc o j an,t,h,ann',t',h',hp,hat=>by
  simp only [prep] at hp
  split at hp
  ·rename_i vs eo
   split at hp
   ·rename_i v hj
    split at hp
    ·rename_i p hs
     refine qh hE an hp ?_
     obtain⟨u,h1⟩:=p
     obtain⟨σ,R,hr,hn,hk⟩:=hat
     simp only at R hr hk hp ⊢
     obtain⟨nx,hv,hlen,hcs⟩:=qoU R hs
     have hlt:o<h.length:=qae (by rw [eo];simp)
     have eo1:getO h1 o=.cells vs:=hcs o vs eo
     have hlt1:o<h1.length:=by omega
     have hgs:=qad hlt1 (.cells (vs.set j u))
     have nx2:Next E.w0 E.A E.M0 w h1 σ w (h1.set o (.cells (vs.set j u))) σ:=by
      refine Next.upd nx.rep o (by rw [eo1];trivial) (by rw [hgs,zJ rfl];trivial) rfl TDr.rfl rfl (Nat.le_refl _) (fun o' hne=>⟨by rw [hgs,zL (fun e=>hne e.symm)],rfl⟩) (fun _ _ _=>rfl) (fun b hl ha=>.inl ⟨by rw [eo1];trivial,ha⟩) ?_ (fun k st=>?_)
      ·rw [eo1];exact⟨_,by rw [hgs,zJ rfl],rfl⟩
      ·rw [hgs,zJ rfl]
       have ro0:=R.obj o
       rw [eo] at ro0
       obtain⟨b0,e0,cs0,ha0,hb0,hrs0,-⟩:=ro0
       have ro:=nx.rep.obj o
       rw [eo1] at ro
       obtain⟨b,e',cs,ha,hb,hrs,h2⟩:=ro
       rw [ha0] at ha
       have:=zAj ha
       subst this
       rw [hb0] at hb
       cases hb
       refine⟨b0,e0,cs0,ha0,hb0,?_,h2⟩
       have hrs':=RVs.keeps k st hrs
       obtain⟨x,hx,hx2⟩:=hrs0.get hj
       exact RVs.set hrs' hx (RV.keeps k st (hv x hx2))
     exact At.nx hE R hr hn hk (nx.trans nx2 R)
    ·exact qh hE an hp hat
   ·exact qh hE an hp hat
  ·exact qh hE an hp hat
 | .sel i ty an bn,t,h,ann',t',h',hp,hat=>by
  simp only [prep] at hp
  split at hp
  ·rename_i ty' u hi
   cases hb:Nat.beq ty ty' with
   | true=>rw [hb,cond_true] at hp;exact qh hE an hp hat
   | false=>rw [hb,cond_false] at hp;exact qh hE bn hp hat
  ·cases hb:Nat.beq ty 999999999 with
   | true=>rw [hb,cond_true] at hp;exact qh hE an hp hat
   | false=>rw [hb,cond_false] at hp;exact qh hE bn hp hat
  ·cases hb:Nat.beq ty 999999998 with
   | true=>rw [hb,cond_true] at hp;exact qh hE an hp hat
   | false=>rw [hb,cond_false] at hp;exact qh hE bn hp hat
  ·exact qh hE bn hp hat
 | .nils i s an,t,h,ann',t',h',hp,hat=>by
  simp only [prep] at hp
  split at hp
  ·rename_i hi
   refine qh hE an hp ?_
   obtain⟨σ,R,hr,hn,hk⟩:=hat
   refine⟨σ,R,fun j=>?_,hn,hk⟩
   simp only [look]
   cases hb:Nat.beq i j with
   | true=>
    have:=zB hb
    subst this
    have h0:=hr i
    simp only [hi,RV] at h0
    simp only [cond_true]
    rw [h0]
    simp only [RV,RC]
    exact⟨none,0,rfl,Nat.le_refl _,zAE _,fun h=>absurd rfl h⟩
   | false=>exact hr j
  ·exact qh hE an hp hat
 | .nilc o j s an,t,h,ann',t',h',hp,hat=>by
  simp only [prep] at hp
  split at hp
  ·rename_i vs eo
   split at hp
   ·rename_i hj
    refine qh hE an hp ?_
    obtain⟨σ,R,hr,hn,hk⟩:=hat
    simp only at R hr hk
    have hlt:o<h.length:=qae (by rw [eo];simp)
    have hgs:=qad hlt (.cells (vs.set j (.sl s [])))
    have nx2:Next E.w0 E.A E.M0 w h σ w (h.set o (.cells (vs.set j (.sl s [])))) σ:=by
     refine Next.upd R o (by rw [eo];trivial) (by rw [hgs,zJ rfl];trivial) rfl TDr.rfl rfl (Nat.le_refl _) (fun o' hne=>⟨by rw [hgs,zL (fun e=>hne e.symm)],rfl⟩) (fun _ _ _=>rfl) (fun b hl ha=>.inl ⟨by rw [eo];trivial,ha⟩) ?_ (fun k st=>?_)
     ·rw [eo];exact⟨_,by rw [hgs,zJ rfl],rfl⟩
     ·rw [hgs,zJ rfl]
      have ro:=R.obj o
      rw [eo] at ro
      obtain⟨b,e',cs,ha,hb,hrs,h1⟩:=ro
      refine⟨b,e',cs,ha,hb,?_,h1⟩
      have hrs':=RVs.keeps k st hrs
      obtain⟨x,hx,hnil⟩:=hrs.get hj
      simp only [RV] at hnil
      subst hnil
      refine RVs.set hrs' hx ?_
      simp only [RV,RC]
      exact⟨none,0,rfl,Nat.le_refl _,zAE _,fun h=>absurd rfl h⟩
    exact At.nx hE R hr hn hk nx2
   ·exact qh hE an hp hat
  ·exact qh hE an hp hat
 | .none,t,h,ann',t',h',hp,hat=>by simp only [prep,zD,zN] at hp;obtain⟨_,rfl,rfl⟩:=hp;exact hat
 | .draw _ _,t,h,ann',t',h',hp,hat=>by simp only [prep,zD,zN] at hp;obtain⟨_,rfl,rfl⟩:=hp;exact hat
 | .two _ _,t,h,ann',t',h',hp,hat=>by simp only [prep,zD,zN] at hp;obtain⟨_,rfl,rfl⟩:=hp;exact hat
 | .one _,t,h,ann',t',h',hp,hat=>by simp only [prep,zD,zN] at hp;obtain⟨_,rfl,rfl⟩:=hp;exact hat
 | .loop _ _ _ _,t,h,ann',t',h',hp,hat=>by simp only [prep,zD,zN] at hp;obtain⟨_,rfl,rfl⟩:=hp;exact hat
 | .each _ _ _ _ _,t,h,ann',t',h',hp,hat=>by simp only [prep,zD,zN] at hp;obtain⟨_,rfl,rfl⟩:=hp;exact hat
 | .join _ _ _ _,t,h,ann',t',h',hp,hat=>by simp only [prep,zD,zN] at hp;obtain⟨_,rfl,rfl⟩:=hp;exact hat
 | .canon o an,t,h,ann',t',h',hp,hat=>by
  simp only [prep] at hp
  split at hp
  ·rename_i fz q d eo
   cases hu:q.un with
   | true=>rw [hu,cond_true] at hp;exact qh hE an hp hat
   | false=>
    rw [hu,cond_false] at hp
    refine qh hE an hp ?_
    obtain⟨σ,R,hr,hn,hk⟩:=hat
    exact At.nx hE R hr hn hk (qDf (q':=⟨q.it,q.kt,q.et,q.k,q.v,true⟩) R eo rfl fun w M l hq=>by
     have r:=hq.q hu
     exact⟨d,qCB d,r⟩)
  ·exact qh hE an hp hat
 | .thw o e an,t,h,ann',t',h',hp,hat=>by
  simp only [prep] at hp
  split at hp
  ·rename_i q d eo
   split at hp
   ·rename_i s hv
    cases hc:(d.2.isEmpty&&(!q.it&&(!q.un&&Nat.ble 1 s.n))) with
    | false=>rw [hc,cond_false] at hp;exact qh hE an hp hat
    | true=>
     rw [hc,cond_true] at hp
     refine qh hE an hp ?_
     obtain⟨σ,R,hr,hn,hk⟩:=hat
     exact At.nx hE R hr hn hk (qBz R eo hc)
   ·exact qh hE an hp hat
  ·exact qh hE an hp hat
 | .frk o an,t,h,ann',t',h',hp,hat=>by
  simp only [prep] at hp
  split at hp
  ·rename_i ver kt et k e s d eo
   refine qh hE an hp ?_
   obtain⟨σ,R,hr,hn,hk⟩:=hat
   exact At.nx hE R hr hn hk (qCt R eo)
  ·exact qh hE an hp hat
 | .los o an,t,h,ann',t',h',hp,hat=>by
  simp only [prep] at hp
  split at hp
  ·rename_i ver e kt x d eo
   split at hp
   ·rename_i y hy
    refine qh hE an hp ?_
    obtain⟨σ,R,hr,hn,hk⟩:=hat
    obtain⟨τ,nx⟩:=qCa R hy eo
    exact At.nx hE R hr hn hk nx
   ·exact qh hE an hp hat
  ·exact qh hE an hp hat
 | .cls o an,t,h,ann',t',h',hp,hat=>by
  simp only [prep] at hp
  split at hp
  ·rename_i ver e kt x d eo
   split at hp
   ·exact qh hE an hp hat
   ·rename_i n hk
    split at hp
    ·exact qh hE an hp hat
    ·rename_i y hd
     refine qh hE an hp ?_
     obtain⟨σ,R,hr,hn,hkp⟩:=hat
     obtain⟨τ,nx⟩:=qCA R eo hk hd
     exact At.nx hE R hr hn hkp nx
  ·exact qh hE an hp hat
 | .frz o an,t,h,ann',t',h',hp,hat=>by
  simp only [prep] at hp
  split at hp
  ·rename_i ver e kt d eo
   cases hpl:kt.isPl with
   | false=>rw [hpl,cond_false] at hp;exact qh hE an hp hat
   | true=>
    rw [hpl,cond_true] at hp
    refine qh hE an hp ?_
    obtain⟨σ,R,hr,hn,hkp⟩:=hat
    obtain⟨nx,hv⟩:=qAv R eo hpl
    refine⟨σ,nx.rep,fun j=>?_,hn,hE.kp _ _ _ _ _ _ _ R nx.rep (.of_next nx) hkp⟩
    simp only
    rw [qCc (datV o ver kt.sh d) rfl]
    exact hv _ _ (hr j)
  ·exact qh hE an hp hat
 | .giv i s an,t,h,ann',t',h',hp,hat=>by
  simp only [prep] at hp
  split at hp
  ·rename_i o hi
   split at hp
   ·rename_i us eo
    split at hp
    ·rename_i x hd
     refine qh hE an hp ?_
     obtain⟨σ,R,hr,hn,hk⟩:=hat
     obtain⟨nx,hv⟩:=qCq R eo hd
     refine⟨_,nx.rep,fun j=>?_,hn,hE.kp _ _ _ _ _ _ _ R nx.rep (.of_next nx) hk⟩
     simp only [look]
     cases hb:Nat.beq i j with
     | true=>
      have:=zB hb
      subst this
      have h0:=hr i
      simp only [hi] at h0
      simp only [cond_true]
      exact hv _ h0
     | false=>exact nx.rv (hr j)
    ·exact qh hE an hp hat
   ·exact qh hE an hp hat
  ·exact qh hE an hp hat
 | .kob i e kt an,t,h,ann',t',h',hp,hat=>by
  simp only [prep] at hp
  split at hp
  ·rename_i hi
   obtain⟨h1,hp⟩:=qc hp
   have h1:=zH h1
   refine qh hE an hp ?_
   obtain⟨σ,R,hr,hn,hk⟩:=hat
   obtain⟨nx,hv⟩:=qDA R e kt h1
   refine⟨_,nx.rep,fun j=>?_,hn,hE.kp _ _ _ _ _ _ _ R nx.rep (.of_next nx) hk⟩
   simp only [look]
   cases hb:Nat.beq i j with
   | true=>
    have:=zB hb
    subst this
    have h0:=hr i
    simp only [hi,RV] at h0
    simp only [cond_true]
    rw [h0]
    exact hv
   | false=>exact nx.rv (hr j)
  ·exact qh hE an hp hat
 | .rv _ _,t,h,ann',t',h',hp,hat=>by simp only [prep,zD,zN] at hp;obtain⟨_,rfl,rfl⟩:=hp;exact hat
 | .mv _ _,t,h,ann',t',h',hp,hat=>by simp only [prep,zD,zN] at hp;obtain⟨_,rfl,rfl⟩:=hp;exact hat
 | .nx,t,h,ann',t',h',hp,hat=>by simp only [prep,zD,zN] at hp;obtain⟨_,rfl,rfl⟩:=hp;exact hat
 | .thr,t,h,ann',t',h',hp,hat=>by simp only [prep,zD,zN] at hp;obtain⟨_,rfl,rfl⟩:=hp;exact hat
 | .pan _ _,t,h,ann',t',h',hp,hat=>by simp only [prep,zD,zN] at hp;obtain⟨_,rfl,rfl⟩:=hp;exact hat
theorem qxs(h:List O)(c o:Nat):getO (h++List.replicate c .none) o=getO h o:=by
 simp only [getO,List.getD]
 by_cases hl:o<h.length
 ·rw [zl hl]
 ·rw [zu (by omega),zCY,zX (by omega)]
  split <;> rfl
theorem At.pad(hE:E.Ok){t:Nat->V}{h:List O}{a:Act}{w:World}(hat:At E (t,h) a w)(c:Nat):At E (t,h++List.replicate c .none) a w:=by
 obtain⟨σ,R,hr,hn,hk⟩:=hat
 exact At.nx hE R hr hn hk (R.ext fun o=>qxs h c o)
theorem At.drew(hE:E.Ok){s:S}{a:Act}{w:World}(hat:At E s a w):At E s a { w with drawn:=w.drawn+1 }:=by
 obtain⟨σ,R,hr,hn,hk⟩:=hat
 exact At.nx hE R hr hn hk (Next.grow R ⟨rfl,⟨rfl,zBc _⟩,rfl,Nat.le_refl _,fun _ _=>rfl⟩)
theorem qCb{i n d off:Nat}{t:Slots}(j:Nat):look (mvT i n d off t) j=.bad\/look (mvT i n d off t) j=(bif Nat.beq j d then .ptr i off else bif noRef i n (look t j) then look t j else .bad):=by
 induction t with
 | nil=>exact .inl rfl
 | cons p t ih=>
  obtain⟨k,v⟩:=p
  simp only [mvT,List.map_cons,look]
  cases hb:Nat.beq k j with
  | true=>
   have:=zB hb
   subst this
   exact .inr rfl
  | false=>exact ih
theorem qzO(hE:E.Ok){i d n off off':Nat}{t:Slots}{h:List O}{ob:O}(hd:look t d=.ptr n off)(hn:getO h n=ob)(hoff:∀ b v,PtrTo ob b off v->PtrTo ob b off' v)
  (c1:E.C.fl<=i) (c2:i<n) (c3:n+1=h.length) (c4:(mvH i n ob h).all (qxv i n)=true) {a:Act} {w:World} (hat:At E (look t,h) a w):At E (look (mvT i n d off' t),mvH i n ob h) a w:=by
 obtain⟨σ,R,hr,hsz,hk⟩:=hat
 simp only at R hr hk
 have R':=qEr R hn c2 c3 c4
 refine⟨_,R',fun j=>?_,hsz,hE.kp _ _ _ _ _ _ _ R R' (Far.mv c1 c2 c3 hn) hk⟩
 rcases qCb (i:=i) (n:=n) (d:=d) (off:=off') (t:=t) j with e | e
 ·simp only [e,RV]
 ·simp only [e]
  cases hb:Nat.beq j d with
  | true=>
   have:=zB hb
   subst this
   have:=hr j
   rw [hd] at this
   simp only [RV] at this
   obtain⟨b,e2,e3⟩:=this
   rw [hn] at e3
   simp only [cond_true,RV]
   exact⟨b,by simp only [mvσ,if_true];exact e2,by rw [qjr c2 c3,zJ rfl];exact hoff _ _ e3⟩
  | false=>
   simp only [cond_false]
   cases hf:noRef i n (look t j) with
   | false=>simp only [cond_false,RV]
   | true=>exact mv_rv c2 c3 (fun b=>qen hn c2 c3) hf (hr j)
theorem qBV(hE:E.Ok){i d:Nat}{t:Slots}{h:List O}{K:Slots->List O->Option ρ}{res:ρ}(hex:mvK E.C.fl i d t h K=some res){a:Act}{w:World}(hat:At E (look t,h) a w) :
  ∃ t' h',K t' h'=some res/\At E (look t',h') a w:=by
 unfold mvK at hex
 split at hex
 ·rename_i n off hd
  split at hex
  ·rename_i vs hn
   obtain⟨hc,hex2⟩:=qc hex
   clear hex
   simp only [zA] at hc
   obtain⟨c0,c1,c2,c3,c4⟩:=hc
   have c0:=zB c0
   subst c0
   exact⟨_,_,hex2,qzO hE hd hn (fun _ _ h=>h) (zH c1) (zH c2) (zB c3) c4 hat⟩
  ·rename_i fz q x hn
   obtain⟨hc,hex2⟩:=qc hex
   clear hex
   simp only [zA] at hc
   obtain⟨c1,c2,c3,c4⟩:=hc
   exact⟨_,_,hex2,qzO hE hd hn (fun _ _ h=>⟨rfl,h.2⟩) (zH c1) (zH c2) (zB c3) c4 hat⟩
  ·cases hex
 ·cases hex
open Go.ChangeMaps (setBlock)
theorem qBo{α:Type}{xs:List α}{f:α->List α->Option ρ}{r:ρ}(h:anyE xs f=some r):xs ≠ []/\∀ i x,xs[i]? = some x->f x (xs.eraseIdx i)=some r:=by
 classical
 unfold anyE at h
 split at h
 ·rename_i hh
  simp only [zD] at h
  rw [<- h];exact hh.choose_spec
 ·cases h
theorem qrB{k v:Sh}{d:Mp k v}{k0:Option ρ}{k1:Int×(k.den×v.den)->Ents k v->Option ρ}{r:ρ}(h:nextE d k0 k1=some r):(restE d = []/\k0=some r)\/∀ i x,(restE d)[i]? = some x->restE d ≠ []/\k1 x ((restE d).eraseIdx i)=some r:=by
 unfold nextE at h
 cases q:(restE d).isEmpty with
 | true=>rw [q] at h;exact .inl ⟨zCL.1 q,h⟩
 | false=>
  rw [q] at h
  obtain⟨h1,h2⟩:=qBo h
  exact .inr fun i x hx=>⟨h1,h2 i x hx⟩
theorem qpU:(l:List MapEntry)->(l.map (·.born)).Nodup->(i:Nat)->(e:MapEntry)->l[i]? = some e->l.filter (fun x=>x.born != e.born)=l.eraseIdx i
 | [],_,i,e,h=>by simp at h
 | y :: l,hn,i,e,h=>by
  simp only [List.map_cons,zZ] at hn
  cases i with
  | zero=>
   simp at h;subst h
   rw [zAQ (by simp),List.eraseIdx_cons_zero]
   exact zAX.2 fun x hx=>by
    rw [zBF]
    exact fun e=>hn.1 (zr.2 ⟨x,hx,e⟩)
  | succ i=>
   have h':l[i]? = some e:=by simpa using h
   have hne:y.born≠e.born:=fun e1=>hn.1 (zr.2 ⟨e,zh h',e1.symm⟩)
   rw [zAK (by rw [zBF];exact hne),zBe,qpU l hn.2 i e h']
theorem qrF{es:Array MapEntry}{seen:Array Nat}(hn:(es.toList.map (·.born)).Nodup){i:Nat}{e:MapEntry}(h:(leftL es seen)[i]? = some e):leftL es (seen.push e.born)=(leftL es seen).eraseIdx i:=by
 have h1:leftL es seen=es.toList.filter fun x=>!seen.contains x.born:=by simp [leftL]
 have h2:leftL es (seen.push e.born)=(leftL es seen).filter fun x=>x.born != e.born:=by
  rw [h1,zCC]
  unfold leftL
  rw [Array.toList_filter]
  congr 1
  funext x
  rw [Array.contains_push]
  by_cases q:x.born=e.born
  ·rw [q];simp
  ·have q':¬ e.born=x.born:=fun h=>q h.symm
   simp only [bne,show (x.born==e.born)=false from zO q,show (e.born==x.born)=false from zO q']
   simp
 rw [h2]
 exact qpU _ (by rw [h1];exact hn.sublist (List.filter_sublist.map _)) i e h
theorem qBT(hE:E.Ok){ops:Array Oper}{o:Oper}{rest:List Oper}(hops:ops.toList=o :: rest){x:Operand}(ho:o.op=.next x false)(hg:o.guard=none){t:Slots}{h:List O}{ob:Nat}{q:Oth}{d:q.sh.den}
  (hi:iterAt h (ev (look t) x)=some (ob,⟨q,d⟩)) {K:Slots->List O->Option ρ} {res:ρ}
  (hex:nextE (k:=q.k) (v:=q.v) d (putD E.C.n o.dst (.tup [.bool false]) t fun t=>opsK E.C ops.toList rest [] t h K)
   (fun e r=>putD E.C.n o.dst (.tup [.bool true,enc q.k e.2.1,enc q.v e.2.2]) t fun t=>opsK E.C ops.toList rest [] t (h.set ob (.oth false q ((1:Int),e :: r))) K)=some res)
  {a:Act} {w:World} {Q:Exit->Act->World->Prop} (hat:At E (look t,h) a w) (hQ:∀ t h a w,K t h=some res->At E (look t,h) a w->Q .normal a w):wpOpsIn (WF E.r) E.n E.P ops Q (List.range ops.size) a w:=by
 have hsz:ops.size=rest.length+1:=by rw [<- zAt,hops];rfl
 have h0:ops[0]? = some o:=by rw [<- zp,hops];rfl
 have tail:∀ {v:V} {H:List O} {a':Act} {w':World},(putD E.C.n o.dst v t fun t=>opsK E.C ops.toList rest [] t H K)=some res->(okDst E.C.n o.dst=true->At E (upd o.dst v (look t),H) a' w') ->
   wpOpsIn (WF E.r) E.n E.P ops Q ((List.range rest.length).map Nat.succ) a' w':=fun {v H a' w'} hp ha=>by
  obtain⟨p1,t',p2,p3⟩:=qsE hp
  obtain⟨t2,h2,hr,hk⟩:=qeV _ _ _ _ _ p3
  have hat':=ha p1
  rw [<- p2] at hat'
  refine qfV hE (mds:=[]) _ (s':=(look t2,h2)) ?_ hat' fun a w hat=>hQ _ _ _ _ hk hat
  have:sel ops [] ((List.range rest.length).map Nat.succ)=zipM rest []:=by
   have e:=qfY (zipM rest [])
   rw [qcj] at e
   unfold sel
   rw [zCD,hops]
   exact e
  rw [this];exact hr
 rw [hsz,zBk]
 simp only [wpOpsIn,h0,Region.wanted,hg,if_true]
 obtain⟨σ,R,hr,hn,hk⟩:=hat
 simp only at R hr hk
 obtain⟨h1,hun,-,eo,b,ha,hp,rq⟩:=qnO R (Sub.refl h) (qj hr x) hi
 unfold RQ at rq
 rw [h1] at rq
 obtain⟨b',bm,since,last,seen,es,clock,ha',hbi,hlt,hm',hbm,hbs,hsl,hnd,hME,hcur⟩:=rq
 rw [ha] at ha';cases ha'
 have hbl:b<w.heap.size:=(zI.1 hbi).1
 have hol:=qae (h:=h) (i:=ob) (by rw [eo];simp)
 rcases run_next_at (P:=E.P) w o.type b bm since last seen es clock hbi hbm hbs hsl.1 with⟨z,hrun⟩ | ⟨e,he,w1,hw1,hrun⟩
 ·have hemp:restE (k:=q.k) (v:=q.v) d = []:=by
   have hl:leftL es seen = []:=by
    have:(leftOf es seen).toList = []:=by rw [zCI z]
    exact this
   rw [hl] at hME
   exact zY (by rw [hME.length];rfl)
  have hk0:(putD E.C.n o.dst (.tup [.bool false]) t fun t=>opsK E.C ops.toList rest [] t h K)=some res:=by
   unfold nextE at hex
   rw [hemp] at hex
   exact hex
  have hN:=Next.refl R
  have hD:Does E.r E.n E.P o a w (PostW E.w0 E.A E.M0 w h σ h (.tup [.bool false])):=by
   refine qaH (by rw [ho];simp) (x:=.tuple #[.bool false]) (w':=w) (by simp only [execOp,ho,hp,Sem.run_bind,hrun,Result.andThen_ok];rfl) ⟨σ,hN,?_⟩
   simp only [RV]
   exact⟨_,rfl,⟨_,_,rfl,qeD,rfl⟩⟩
  exact hD _ _ fun x w' ⟨σ',hx,hv⟩=>tail hk0 fun hd=>At.next hE (s:=(look t,h)) R hr hn hk hd hx hv
 ·obtain⟨i,hi'⟩:=List.getElem?_of_mem (show e∈leftL es seen from he)
  obtain⟨y,hy,hye⟩:=hME.get' hi'
  have hk1:(putD E.C.n o.dst (.tup [.bool true,enc q.k y.2.1,enc q.v y.2.2]) t fun t=>opsK E.C ops.toList rest [] t (h.set ob (.oth false q ((1:Int),y :: (restE (k:=q.k) (v:=q.v) d).eraseIdx i))) K)=some res:=by
   rcases qrB hex with⟨h1,-⟩ | h2
   ·rw [h1] at hy;simp at hy
   ·exact (h2 i y hy).2
  have hw1':w1.heap=w.heap/\w1.os=w.os/\w1.output=w.output/\TDr w w1:=by
   rcases hw1 with rfl | rfl
   ·exact⟨rfl,rfl,rfl,TDr.rfl⟩
   ·exact⟨rfl,rfl,rfl,rfl,zBc _⟩
  obtain⟨wh,wo,wu,wt⟩:=hw1'
  have hg':=qad hol (.oth false q ((1:Int),y :: (restE (k:=q.k) (v:=q.v) d).eraseIdx i))
  have hN:Next E.w0 E.A E.M0 w h σ (setBlock w1 b (.mapIter (some bm) since (seen.push e.born) clock)) (h.set ob (.oth false q ((1:Int),y :: (restE (k:=q.k) (v:=q.v) d).eraseIdx i))) σ:=by
   have hne:bm≠b:=fun e=>hm' (.inr ⟨ob,by rw [eo];rfl,.of (by rw [e];exact ha)⟩)
   refine Next.upd R ob (by rw [eo];trivial) (by rw [hg',zJ rfl];trivial) wo wt wu (by simp [setBlock,wh]) (fun o' hne=>⟨by rw [hg',zL (fun e=>hne e.symm)],rfl⟩) (fun b' hb' hne=>?_) (fun b' hl ha'=>.inl ⟨by rw [eo];rfl,ha'⟩)
    (by rw [eo];exact⟨by rw [hg',zJ rfl];rfl,rfl⟩) (fun k st=>?_)
   ·have:b≠b':=fun e=>hne (by rw [eo];rfl) (by rw [<- e];exact ha)
    simp [setBlock,wh,zk,this]
   ·rw [hg',zJ rfl]
    refine⟨RQ.u ?_,fun h=>by cases h⟩
    unfold RQ
    rw [h1]
    refine⟨b,bm,since,clock,seen.push e.born,es,clock,ha,by simp [setBlock,wh,hbl],zM hlt k.size,k.out bm hlt hm',by rw [k.block bm hlt hm'];exact hbm,hbs,⟨hsl.2,hsl.2⟩,hnd,?_,fun _=>?_⟩
    ·rw [qrF hnd hi']
     exact (hME.erase i).keeps k
    ·exact⟨e,seen,y,_,by have:=zh hi';simp [leftL] at this;simpa using this.1,rfl,rfl,rfl,hye.born,RV.keeps k (OStep.refl [] σ0) hye.key,RV.keeps k (OStep.refl [] σ0) hye.val⟩
  have hD:Does E.r E.n E.P o a w (PostW E.w0 E.A E.M0 w h σ (h.set ob (.oth false q ((1:Int),y :: (restE (k:=q.k) (v:=q.v) d).eraseIdx i))) (.tup [.bool true,enc q.k y.2.1,enc q.v y.2.2])):=by
   refine qaH (by rw [ho];simp) (x:=.tuple #[.bool true,e.key,e.val]) (w':=setBlock w1 b (.mapIter (some bm) since (seen.push e.born) clock)) (by simp only [execOp,ho,hp,Sem.run_bind,hrun,Result.andThen_ok];rfl) ⟨σ,hN,?_⟩
   simp only [RV]
   exact⟨_,rfl,⟨_,_,rfl,qeD,⟨_,_,rfl,RV.keeps hN.keeps hN.step (qeB hye.kD),⟨_,_,rfl,RV.keeps hN.keeps hN.step (qeB hye.vD),rfl⟩⟩⟩⟩
  exact hD _ _ fun x w' ⟨σ',hx,hv⟩=>tail hk1 fun hd=>At.next hE (s:=(look t,h)) R hr hn hk hd hx hv
theorem qzH(hE:E.Ok){ops:Array Oper}{o:Oper}{rest:List Oper}(hops:ops.toList=o :: rest){x:Operand}(ho:o.op=.next x false)(hg:o.guard=none){t:Slots}{h:List O}{ob ver:Nat}{q:Nst}{d:q.sh.den}
  (hi:nitAt h (ev (look t) x)=some (ob,ver,⟨q,d⟩)) {K:Slots->List O->Option ρ} {res:ρ}
  (hex:nextE (k:=q.k) (v:=q.kd.sh) d (putD E.C.n o.dst (.tup [.bool false]) t fun t=>opsK E.C ops.toList rest [] t h K)
   (fun e r=>putD E.C.n o.dst (.tup [.bool true,enc q.k e.2.1,.rptr ob (ver+1) 0 1000000]) t fun t=>opsK E.C ops.toList rest [] t (h.set ob (.nst (ver+1) q ((1:Int),e :: r))) K)=some res)
  {a:Act} {w:World} {Q:Exit->Act->World->Prop} (hat:At E (look t,h) a w) (hQ:∀ t h a w,K t h=some res->At E (look t,h) a w->Q .normal a w):wpOpsIn (WF E.r) E.n E.P ops Q (List.range ops.size) a w:=by
 have hsz:ops.size=rest.length+1:=by rw [<- zAt,hops];rfl
 have h0:ops[0]? = some o:=by rw [<- zp,hops];rfl
 have tail:∀ {v:V} {H:List O} {a':Act} {w':World},(putD E.C.n o.dst v t fun t=>opsK E.C ops.toList rest [] t H K)=some res->(okDst E.C.n o.dst=true->At E (upd o.dst v (look t),H) a' w') ->
   wpOpsIn (WF E.r) E.n E.P ops Q ((List.range rest.length).map Nat.succ) a' w':=fun {v H a' w'} hp ha=>by
  obtain⟨p1,t',p2,p3⟩:=qsE hp
  obtain⟨t2,h2,hr,hk⟩:=qeV _ _ _ _ _ p3
  have hat':=ha p1
  rw [<- p2] at hat'
  refine qfV hE (mds:=[]) _ (s':=(look t2,h2)) ?_ hat' fun a w hat=>hQ _ _ _ _ hk hat
  have:sel ops [] ((List.range rest.length).map Nat.succ)=zipM rest []:=by
   have e:=qfY (zipM rest [])
   rw [qcj] at e
   unfold sel
   rw [zCD,hops]
   exact e
  rw [this];exact hr
 rw [hsz,zBk]
 simp only [wpOpsIn,h0,Region.wanted,hg,if_true]
 obtain⟨σ,R,hr,hn,hk⟩:=hat
 simp only at R hr hk
 obtain⟨h1,⟨kq,hkq,hki⟩,eo,b,ha,hp,rq⟩:=qwd R (Sub.refl h) (qj hr x) hi
 have hkm:kdMap q.kd=some kq:=by rw [hkq];simp [kdMap,hki]
 unfold RN at rq
 rw [h1] at rq
 obtain⟨b',bm,since,last,seen,es,clock,ha',hbi,hlt,hm',hbm,hbs,hsl,hnd,hsep,cs,hME,hcur⟩:=rq
 rw [ha] at ha';cases ha'
 have hcs:cs.Nodup/\∀ c,c∈cs->c∈(σ ob).ex:=by
  rcases hcur with⟨_,e⟩ | ⟨_,_,_,_,c,_,_,_,_,_,_,e⟩
  ·rw [e] at hsep ⊢;exact⟨(zZ.1 hsep).2,fun c hc=>hc⟩
  ·rw [e] at hsep ⊢;exact⟨(zZ.1 (zZ.1 hsep).2).2,fun c hc=>zb _ hc⟩
 have hbl:b<w.heap.size:=(zI.1 hbi).1
 have hol:=qae (h:=h) (i:=ob) (by rw [eo];simp)
 rcases run_next_at (P:=E.P) w o.type b bm since last seen es clock hbi hbm hbs hsl.1 with⟨z,hrun⟩ | ⟨e,he,w1,hw1,hrun⟩
 ·have hemp:restE (k:=q.k) (v:=q.kd.sh) d = []:=by
   have hl:leftL es seen = []:=by
    have:(leftOf es seen).toList = []:=by rw [zCI z]
    exact this
   rw [hl] at hME
   exact zY (by rw [hME.length.1];rfl)
  have hk0:(putD E.C.n o.dst (.tup [.bool false]) t fun t=>opsK E.C ops.toList rest [] t h K)=some res:=by
   unfold nextE at hex
   rw [hemp] at hex
   exact hex
  have hN:=Next.refl R
  have hD:Does E.r E.n E.P o a w (PostW E.w0 E.A E.M0 w h σ h (.tup [.bool false])):=by
   refine qaH (by rw [ho];simp) (x:=.tuple #[.bool false]) (w':=w) (by simp only [execOp,ho,hp,Sem.run_bind,hrun,Result.andThen_ok];rfl) ⟨σ,hN,?_⟩
   simp only [RV]
   exact⟨_,rfl,⟨_,_,rfl,qeD,rfl⟩⟩
  exact hD _ _ fun x w' ⟨σ',hx,hv⟩=>tail hk0 fun hd=>At.next hE (s:=(look t,h)) R hr hn hk hd hx hv
 ·obtain⟨i,hi'⟩:=List.getElem?_of_mem (show e∈leftL es seen from he)
  obtain⟨y,c,hy,hc,hye⟩:=hME.get' hi'
  have hev:e.val=.map (some c):=hye.kid.val hkm
  have hk1:(putD E.C.n o.dst (.tup [.bool true,enc q.k y.2.1,.rptr ob (ver+1) 0 1000000]) t fun t=>opsK E.C ops.toList rest [] t (h.set ob (.nst (ver+1) q ((1:Int),y :: (restE (k:=q.k) (v:=q.kd.sh) d).eraseIdx i))) K)=some res:=by
   rcases qrB hex with⟨h1,-⟩ | h2
   ·rw [h1] at hy;simp at hy
   ·exact (h2 i y hy).2
  have hw1':w1.heap=w.heap/\w1.os=w.os/\w1.output=w.output/\TDr w w1:=by
   rcases hw1 with rfl | rfl
   ·exact⟨rfl,rfl,rfl,TDr.rfl⟩
   ·exact⟨rfl,rfl,rfl,rfl,zBc _⟩
  obtain⟨wh,wo,wu,wt⟩:=hw1'
  have hg':=qad hol (.nst (ver+1) q ((1:Int),y :: (restE (k:=q.k) (v:=q.kd.sh) d).eraseIdx i))
  have hperm:∀ c',c'∈c :: cs.eraseIdx i->c'∈cs:=fun c' h'=>by
   rcases zi.1 h' with rfl | h'
   ·exact zh hc
   ·exact (zAw _ _).subset h'
  have hnd':(c :: cs.eraseIdx i).Nodup:=by
   refine zZ.2 ⟨fun hm=>?_,hcs.1.sublist (zAw _ _)⟩
   obtain⟨hil,hce⟩:=zS.1 hc
   obtain⟨j,hj,hje⟩:=zAs hm
   have hcj:cs[j]? = some c\/cs[j+1]? = some c:=by
    have h9:(cs.eraseIdx i)[j]? = some c:=by rw [zW hj,hje]
    rw [List.getElem?_eraseIdx] at h9
    split at h9
    ·exact .inl h9
    ·exact .inr h9
   have hij:∀ j',cs[j']? = some c->j'=i:=fun j' h'=>by
    obtain⟨hl',he'⟩:=zS.1 h'
    rcases zCE j' i with hlt' | rfl | hlt'
    ·exact absurd (he'.trans hce.symm) (zAq.1 hcs.1 j' i hl' hil hlt')
    ·rfl
    ·exact absurd (hce.trans he'.symm) (zAq.1 hcs.1 i j' hil hl' hlt')
   have h9:(cs.eraseIdx i)[j]? = some c:=by rw [zW hj,hje]
   rw [List.getElem?_eraseIdx] at h9
   split at h9
   ·have:=hij j h9;omega
   ·have:=hij (j+1) h9;omega
  have hbx:b ∉ (σ ob).ex:=(zZ.1 hsep).1
  have hN:Next E.w0 E.A E.M0 w h σ (setBlock w1 b (.mapIter (some bm) since (seen.push e.born) clock)) (h.set ob (.nst (ver+1) q ((1:Int),y :: (restE (k:=q.k) (v:=q.kd.sh) d).eraseIdx i))) (updL σ ob ⟨(σ ob).a,(σ ob).cap,c :: cs.eraseIdx i⟩):=by
   have hne:bm≠b:=fun e=>hm' (.inr ⟨ob,by rw [eo];trivial,.of (by rw [e];exact ha)⟩)
   refine Next.updG R ob wo wt wu (by simp [setBlock,wh]) (fun o' hne=>⟨by rw [hg',zL (fun e=>hne e.symm)],qaE _ _ hne⟩) (fun b' hb' hne=>?_) (fun b' hl ha'=>.inl ⟨by rw [eo];trivial,?_⟩)
    (by rw [eo];exact .inl ⟨ver+1,_,by rw [hg',zJ rfl],zBc _,by rw [qZ],fun h=>by omega⟩) (fun k st=>?_)
   ·have:b≠b':=fun e=>hne (by rw [eo];trivial) (.of (by rw [<- e];exact ha))
    simp [setBlock,wh,zk,this]
   ·rw [hg',zJ rfl,qZ] at ha'
    rw [eo]
    rcases ha' with ha' | ha'
    ·exact .inl ha'
    ·exact .inr (hcs.2 _ (hperm _ ha'))
   ·rw [hg',zJ rfl,qZ]
    have hkb:∀ b',b'∈cs->(setBlock w1 b (.mapIter (some bm) since (seen.push e.born) clock)).heap[b']? = w.heap[b']?:=fun b' hb'=>by
     have:b≠b':=fun e=>hbx (e▸hcs.2 _ hb')
     simp [setBlock,wh,zk,this]
    show RN _ _ _ _ _
    unfold RN
    rw [h1]
    have hr1:restE (k:=q.k) (v:=q.kd.sh) ((1:Int),y :: (restE (k:=q.k) (v:=q.kd.sh) d).eraseIdx i)=(restE (k:=q.k) (v:=q.kd.sh) d).eraseIdx i:=rfl
    refine⟨b,bm,since,clock,seen.push e.born,es,clock,ha,by simp [setBlock,wh,hbl],zM hlt k.size,k.out bm hlt hm',by rw [k.block bm hlt hm'];exact hbm,hbs,⟨hsl.2,hsl.2⟩,hnd,zZ.2 ⟨fun h'=>hbx (hcs.2 _ (hperm _ h')),hnd'⟩,cs.eraseIdx i,?_,.inr ⟨e,seen,y,_,c,rfl,by have:=zh hi';simp [leftL] at this;simpa using this.1,rfl,rfl,rfl,?_,rfl⟩⟩
    ·rw [qrF hnd hi',hr1]
     exact (hME.erase i).keeps k fun b' hb' _=>hkb b' ((zAw _ _).subset hb')
    ·exact hye.one.keeps k fun b' hb' _=>by
      simp at hb'
      rw [hb']
      exact hkb c (zh hc)
  have hD:Does E.r E.n E.P o a w (PostW E.w0 E.A E.M0 w h σ (h.set ob (.nst (ver+1) q ((1:Int),y :: (restE (k:=q.k) (v:=q.kd.sh) d).eraseIdx i))) (.tup [.bool true,enc q.k y.2.1,.rptr ob (ver+1) 0 1000000])):=by
   refine qaH (by rw [ho];simp) (x:=.tuple #[.bool true,e.key,e.val]) (w':=setBlock w1 b (.mapIter (some bm) since (seen.push e.born) clock)) (by simp only [execOp,ho,hp,Sem.run_bind,hrun,Result.andThen_ok];rfl) ⟨_,hN,?_⟩
   simp only [RV]
   refine⟨_,rfl,⟨_,_,rfl,qeD,⟨_,_,rfl,RV.keeps hN.keeps hN.step (qeB hye.kD),⟨_,_,rfl,?_,rfl⟩⟩⟩⟩
   simp only [RV]
   rw [hg',zJ rfl,qZ,hev]
   exact⟨Nat.le_refl _,rfl,fun _=>⟨rfl,c,rfl,rfl⟩⟩
  exact hD _ _ fun x w' ⟨σ',hx,hv⟩=>tail hk1 fun hd=>At.next hE (s:=(look t,h)) R hr hn hk hd hx hv
theorem qup(_hE:E.Ok){id:Nat}{ops:Array Oper}{draw:Bool}:Sound ρ (.region id ops draw):=by
 intro E hE ann t h K res Q a w hex hat hQ
 simp only [exec] at hex
 split at hex
 ·cases hex
 ·rename_i an t1 h1 hp
  have hat:=qh hE ann hp hat
  cases draw with
  | false=>
   simp only [cond_false] at hex
   split at hex
   ·obtain⟨t2,h2,hr,hk⟩:=qeV _ _ _ _ _ hex
    rw [<- qjc] at hr
    refine wpIn_region (qfV hE _ hr hat fun a w hat=>?_)
    obtain⟨t3,h3,hk,hat⟩:=qBV hE hk hat
    exact hQ .normal t3 h3 a w hk hat
   ·split at hex
    ·cases hex
    ·rename_i o rest hops
     split at hex
     ·rename_i x hop
      split at hex
      ·cases hex
      ·rename_i hgu
       split at hex
       ·split at hex
        ·cases hex
        ·rename_i ob ver q d hit
         exact wpIn_region (qzH (K:=K .normal) hE hops hop hgu hit hex hat fun t h a w hk hat=>hQ .normal t h a w hk hat)
       ·rename_i ob q d hit
        exact wpIn_region (qBT (K:=K .normal) hE hops hop hgu hit hex hat fun t h a w hk hat=>hQ .normal t h a w hk hat)
     ·cases hex
   ·rcases qpj _ hex with hex | ⟨i,o,tz,hz,p,u,-,ho,hg,hr,hq,hp,hk⟩
    ·obtain⟨t2,h2,hr,hk⟩:=qeV _ _ _ _ _ hex
     rw [<- qjc] at hr
     exact wpIn_region (qfV hE _ hr hat fun a w hat=>hQ .normal t2 h2 a w hk hat)
    ·exact wpIn_region (qDu hE ho hg hr hq hp hat (fun o ho d hd=>qqi t1 ho hd) (qqh _ t1) fun a w' h=>hQ (.pan p.ty) _ p.h a w' hk h)
   ·unfold thrR at hex
    split at hex
    case h_2=>cases hex
    rename_i o ho
    split at hex
    ·cases hex
    rename_i hg
    split at hex
    case h_2=>cases hex
    rename_i x hx
    obtain⟨t2,h2,hr,hk⟩:=qeV _ _ _ _ _ hex
    split at hk
    case h_2=>cases hk
    rename_i ty hv
    exact wpIn_region (qDh hE ho hg hx hr hv hat (fun o ho d hd=>qqi t1 ho hd) (qqh _ t1) fun a w' h=>hQ (.pan ty) _ h2 a w' hk h)
   ·obtain⟨t2,h2,hr,hk⟩:=qeV _ _ _ _ _ hex
    rw [<- qjc] at hr
    exact wpIn_region (qfV hE _ hr hat fun a w hat=>hQ .normal t2 h2 a w hk hat)
  | true=>
   simp only [cond_true] at hex
   split at hex
   ·rename_i c mds
    obtain⟨hd,hex⟩:=qc hex
    obtain⟨t2,h2,hr,hk⟩:=qeV _ _ _ _ _ hex
    obtain⟨m,hS⟩:=qjF ops.toList mds [] [] rfl hd ⟨fun i x hx=>by simp at hx,fun i x hx=>by simp at hx,fun i x hx=>by simp at hx⟩
    rw [List.nil_append] at hS
    have hat:=(hat.pad hE c).drew hE
    refine wpIn_region_draw fun k=>?_
    simp only [Region.schedule,hE.mixed,Bool.true_or,if_true]
    refine qqw hE hS (s':=(look t2,h2)) (fun a w hat=>hQ .normal t2 h2 a w hk hat) ops.size k _ (by simp) ?_ ?_ ?_ hat
    ·exact zn (zAP _ _) (by simp)
    ·intro i o hi hl e he
     have hlt:=(zI.1 hi).1
     rw [zP,zAh,zJ hlt] at hl
     cases hl
    ·have:left ops (Array.replicate ops.size false)=List.range ops.size:=by
      refine zAX.2 fun i hi=>?_
      rw [zP,zAh,zJ (zg.1 hi)];rfl
     rw [this,qjc]
     exact hr
   ·split at hex
    case h_2=>cases hex
    rename_i is _ c mds
    obtain⟨hd,hex⟩:=qc hex
    rw [zA] at hd
    obtain⟨hd,hd2⟩:=hd
    obtain⟨m,hS⟩:=qjF ops.toList mds [] [] rfl hd ⟨fun i x hx=>by simp at hx,fun i x hx=>by simp at hx,fun i x hx=>by simp at hx⟩
    obtain⟨m2,hP⟩:=qpl ops.toList mds [] [] rfl hd2 ⟨fun i x hx=>by simp at hx,fun i x hx=>by simp at hx,fun i x hx=>by simp at hx⟩
    rw [List.nil_append] at hS hP
    have hat:=(hat.pad hE c).drew hE
    have hleft:left ops (Array.replicate ops.size false)=List.range ops.size:=by
     refine zAX.2 fun i hi=>?_
     rw [zP,zAh,zJ (zg.1 hi)];rfl
    have hshut:Shut ops (Array.replicate ops.size false):=by
     intro i o hi hl e he
     have hlt:=(zI.1 hi).1
     rw [zP,zAh,zJ hlt] at hl
     cases hl
    refine wpIn_region_draw fun k=>?_
    simp only [Region.schedule,hE.mixed,Bool.true_or,if_true]
    rcases qpj _ hex with hex | ⟨i,o,tz,hz,p,u,him,ho,hg,hr,hq,hp,hk⟩
    ·obtain⟨t2,h2,hr,hk⟩:=qeV _ _ _ _ _ hex
     refine qqw hE hS (s':=(look t2,h2)) (fun a w hat=>hQ .normal t2 h2 a w hk hat) ops.size k _ (by simp) ?_ hshut ?_ hat
     ·exact zn (zAP _ _) (by simp)
     ·rw [hleft,qjc]
      exact hr
    ·have hi:i<ops.size:=by
      have:=(zS.1 ho).1
      simpa using this
     obtain⟨x0,hx0,he0⟩:∃ x0,(zipM ops.toList mds)[i]? = some x0/\x0.1=o:=by
      have:=qlg ops.toList mds i
      rw [ho] at this
      exact zw.1 this
     subst he0
     refine qwH hE hS hP hx0 him hg hp (H:=hz) (s':=(look tz,hz)) (fun o ho d hd=>qqi t1 ho hd) (fun a w' h=>hQ (.pan p.ty) _ p.h a w' hk h) ops.size k _ (by simp) ?_ hshut ?_ ?_ rfl hq (qqh _ t1) hat
     ·exact zn (zAP _ _) (by simp)
     ·rw [hleft];exact zg.2 hi
     ·have e:List.range ops.size=List.range i++i :: (List.range ops.size).drop (i+1):=by
       have h1:=(zAe i (List.range ops.size)).symm
       rw [List.take_range,zBH (by omega),zBB (by simpa using hi),zCB] at h1
       exact h1
      have hsrt:(List.range ops.size).Pairwise (· < ·):=List.pairwise_lt_range
      rw [hleft]
      have ef:(List.range ops.size).filter (fun j=>decide (j<i))=List.range i:=by
       rw [e] at hsrt ⊢
       rw [zBo] at hsrt
       have hgt:=(zAA.1 hsrt.2.1).1
       rw [zAL,zAX.2 (fun q hq=>by simpa using hq),zAV.2 (fun q hq=>by
        rcases zi.1 hq with rfl | hq
        ·simp
        ·have:=hgt q hq;simp;omega),List.append_nil]
      rw [ef]
      unfold sel
      rw [qjQ,<- qlf]
      exact hr
   ·cases hex
theorem least{p:Nat->Prop}(h:∃ n,p n):∃ n,p n/\∀ m,p m->n<=m:=by
 obtain⟨n,hn⟩:=h
 induction n using Nat.strongRecOn with
 | _ n ih=>
  by_cases hm:∃ m,m<n/\p m
  ·obtain⟨m,hlt,hp⟩:=hm
   exact ih m hlt hp
  ·exact⟨n,hn,fun m hp=>zBC fun hlt=>hm ⟨m,hlt,hp⟩⟩
theorem qqG{F:Fence}{m:Nat}{P:Program}{c:Code}{Q:Exit->Act->World->Prop}(I:Nat->Act->World->Prop)(round:∀ n a w,I n a w->c.wpIn F m P (Exit.then (fun a' w'=>∃ n',n'<n/\I n' a' w') Q) a w)
  {n:Nat} {a:Act} {w:World} (h0:I n a w):(Code.loop c).wpIn F m P Q a w:=by
 classical
 refine wpIn_loop (fun a w=>∃ n,I n a w) (fun a w=>if h:∃ n,I n a w then Classical.choose (least h) else 0) ⟨n,h0⟩ fun a w hI=>?_
 have hs:=zAg (least hI)
 refine wpIn_mono (round _ a w hs.1) fun e a' w' he=>?_
 cases e with
 | normal=>
  obtain⟨n',hlt,hI'⟩:=he
  refine⟨⟨n',hI'⟩,?_⟩
  have hex':∃ n,I n a' w':=⟨n',hI'⟩
  have hs':=zAg (least hex')
  simp only [hex',hI,dif_pos]
  exact zCA (hs'.2 n' hI') hlt
 | _=>exact he
theorem qyr{b:Code}(hb:Sound ρ b):Sound ρ (.loop b):=by
 intro E hE ann t h K res Q a w hex hat hQ
 simp only [exec] at hex
 split at hex
 ·cases hex
 ·rename_i an t1 h1 hp
  have hat:=qh hE ann hp hat
  split at hex
  ·rename_i base P vs an
   obtain⟨hle,hex⟩:=qc hex
   rw [zA] at hle
   obtain⟨hle,hpo⟩:=hle
   have hle:=zH hle
   split at hex
   ·cases hex
   ·rename_i s0 hs0
    have hat1:=(hat.conv hE hle P.ks).msk hE hpo (qmJ hs0)
    have e0:=qmJ hs0
    obtain⟨c0,u0⟩:=s0
    unfold loopE at hex
    revert hex
    generalize hG:(fun (s:P.S vs) (kn:P.S vs->Option ρ)=>exec E.C b an (mkSt P vs (c0,s)).1 (mkSt P vs (c0,s)).2 (qiV (fun t h=>optK (rdSt P vs (cvT E.C.fx P.ks base t h) (mskH P.o (cvH E.C.fx base h))) (backE c0 kn)) K))=G
    intro hex
    refine qqG (fun n a w=>∃ s,loopD G n s=some res/\At E (look (mkSt P vs (c0,s)).1,(mkSt P vs (c0,s)).2) a w) (fun n a w hI=>?_) ⟨u0,hex,by rw [e0];exact hat1⟩
    obtain⟨s,hl,hat⟩:=hI
    cases n with
    | zero=>cases hl
    | succ n=>
     simp only [loopD] at hl
     rw [<- hG] at hl
     refine hb E hE an _ _ _ res _ a w hl hat fun c t' h' a' w' hc hat'=>?_
     cases c with
     | normal=>
      obtain⟨⟨c1,s'⟩,hs',hc⟩:=qlw hc
      obtain⟨e1,hc⟩:=qsf hc
      simp only at e1
      subst e1
      refine⟨n,zBf n,s',by rw [<- hG];exact hc,?_⟩
      rw [qmJ hs']
      exact (hat'.conv hE hle P.ks).msk hE hpo (qmJ hs')
     | ret=>exact hQ .ret t' h' a' w' hc hat'
     | exit id=>exact hQ (.exit id) t' h' a' w' hc hat'
     | pan ty=>exact hQ (.pan ty) t' h' a' w' hc hat'
  ·cases hex
theorem qkE{F:Fence}{n:Nat}{P:Program}{Q:Exit->Act->World->Prop}{a:Act}{w:World}{c:Code}(h:c.wpIn F n P (Exit.noGoto Q) a w):(Code.scope c).wpIn F n P Q a w:=by
 intro b k cs hro hb hr
 have s1:∀ {a w},step P (lone (b.atR a (.code (.scope c) :: k)) cs w)=.next (lone (b.atR a (.code c :: .inScope c :: k)) cs w):=step_lone_go (by simp [stepG,stepG.exec,Frame.atR])
 have s2:∀ {a w},step P (lone (b.atR a (.inScope c :: k)) cs w)=.next (lone (b.atR a k) cs w):=step_lone_go (by simp [stepG,stepG.exec,Frame.atR])
 have h0:(lone (b.atR a (.code (.scope c) :: k)) cs w).fenced P F:=fenced_calm hb hr rfl
 obtain⟨e,a₁,w₁,hq,harr⟩:=h b (.inScope c :: k) cs hro hb hr
 cases e with
 | normal=>exact⟨.normal,a₁,w₁,hq,.head h0 s1 (StepsIn.trans harr (.one (fenced_calm hb hr rfl) s2))⟩
 | exit id=>
  have hx:exitTo id (.inScope c :: k)=exitTo id k:=by simp [exitTo]
  exact⟨.exit id,a₁,w₁,hq,fun k' hk=>.head h0 s1 (harr.1 k' (by rw [hx];exact hk)),
   fun hr' hk=>let ⟨k₁,h1,h2⟩:=harr.2 hr' (by rw [hx];exact hk);⟨k₁,h1,.head h0 s1 h2⟩⟩
 | goto l=>exact hq.elim
 | ret=>exact⟨.ret,a₁,w₁,hq,.of_steps (.one h0 s1) harr⟩
 | panic ch=>exact⟨.panic ch,a₁,w₁,hq,.of_steps (.one h0 s1) harr⟩
 | outgrown=>exact⟨.outgrown,a₁,w₁,hq,.of_steps (.one h0 s1) harr⟩
theorem qbf:(c:Code)->Sound ρ c
 | .skip=>by
  intro E hE ann t h K res Q a w hex hat hQ
  simp only [exec] at hex
  split at hex
  ·cases hex
  ·rename_i an t1 h1 hp
   exact wpIn_skip (hQ .normal t1 h1 a w hex (qh hE ann hp hat))
 | .label _=>by
  intro E hE ann t h K res Q a w hex hat hQ
  simp only [exec] at hex
  split at hex
  ·cases hex
  ·rename_i an t1 h1 hp
   exact wpIn_label (hQ .normal t1 h1 a w hex (qh hE ann hp hat))
 | .region id ops draw=>fun E hE=>qup hE E hE
 | .seq x y=>by
  intro E hE ann t h K res Q a w hex hat hQ
  simp only [exec] at hex
  split at hex
  ·cases hex
  ·rename_i an t1 h1 hp
   have hat:=qh hE ann hp hat
   split at hex
   ·rename_i base P a1 a2
    obtain⟨hle,hex⟩:=qc hex
    rw [zA] at hle
    obtain⟨hle,hpo⟩:=hle
    have hle:=zH hle
    unfold joinD at hex
    refine wpIn_seq (qbf x E hE _ _ _ _ res _ a w hex hat fun c t' h' a' w' hc hat'=>?_)
    cases c with
    | normal=>
     obtain⟨s,hs,hc⟩:=qlw hc
     have e:=qEq hs
     have hat2:=(hat'.conv hE hle P.ks).msk hE hpo (show mkD2 P _=_ from e)
     refine qbf y E hE _ _ _ _ res _ a' w' hc ?_ hQ
     rw [e];exact hat2
    | ret=>exact hQ .ret t' h' a' w' hc hat'
    | exit id=>exact hQ (.exit id) t' h' a' w' hc hat'
    | pan ty=>exact hQ (.pan ty) t' h' a' w' hc hat'
   ·obtain⟨h2,hex,hat⟩:=qiH hE _ hex hat
    refine wpIn_seq (qbf x E hE _ _ _ _ res _ a w hex hat fun c t' h' a' w' hc hat'=>?_)
    cases c with
    | normal=>exact qbf y E hE _ _ _ _ res _ a' w' hc hat' hQ
    | ret=>exact hQ .ret t' h' a' w' hc hat'
    | exit id=>exact hQ (.exit id) t' h' a' w' hc hat'
    | pan ty=>exact hQ (.pan ty) t' h' a' w' hc hat'
   ·refine wpIn_seq (qbf x E hE _ _ _ _ res _ a w hex hat fun c t' h' a' w' hc hat'=>?_)
    cases c with
    | normal=>exact qbf y E hE _ _ _ _ res _ a' w' hc hat' hQ
    | ret=>exact hQ .ret t' h' a' w' hc hat'
    | exit id=>exact hQ (.exit id) t' h' a' w' hc hat'
    | pan ty=>exact hQ (.pan ty) t' h' a' w' hc hat'
 | .cond c x y=>by
  intro E hE ann t h K res Q a w hex hat hQ
  simp only [exec] at hex
  split at hex
  ·cases hex
  ·rename_i an t1 h1 hp
   have hat:=qh hE ann hp hat
   split at hex
   ·rename_i b hb
    have hv:a.eval c=.bool b:=by
     obtain⟨σ,R,hr,_,_⟩:=hat
     have:=ev_at (E:=E) hr c
     rw [hb] at this
     simpa only [RV] using this
    refine wpIn_cond hv ?_
    cases b with
    | true=>exact qbf x E hE _ _ _ _ res _ a w hex hat hQ
    | false=>exact qbf y E hE _ _ _ _ res _ a w hex hat hQ
   ·rename_i neg e hb
    obtain⟨b,hv,hbe⟩:∃ b:Bool,a.eval c=.bool (xor b neg)/\(e=false->b=false):=by
     obtain⟨σ,R,hr,_,_⟩:=hat
     have:=ev_at (E:=E) hr c
     rw [hb] at this
     simpa only [RV] using this
    refine wpIn_cond hv ?_
    have hex2:(xor b neg=true->exec E.C x an.fst t1 h1 K=some res)/\(xor b neg=false->exec E.C y an.snd t1 h1 K=some res):=by
     cases e with
     | true=>
      obtain⟨q1,q2⟩:=qAQ hex
      exact⟨fun _=>q1,fun _=>q2⟩
     | false=>
      have:=hbe rfl
      subst this
      simp only [cond_false,Bool.false_xor] at hex ⊢
      cases neg with
      | true=>exact⟨fun _=>hex,fun h=>(by cases h)⟩
      | false=>exact⟨fun h=>(by cases h),fun _=>hex⟩
    cases hx:xor b neg with
    | true=>exact qbf x E hE _ _ _ _ res _ a w (hex2.1 hx) hat hQ
    | false=>exact qbf y E hE _ _ _ _ res _ a w (hex2.2 hx) hat hQ
   ·cases hex
 | .block id b=>by
  intro E hE ann t h K res Q a w hex hat hQ
  simp only [exec] at hex
  split at hex
  ·cases hex
  ·rename_i an t1 h1 hp
   have hat:=qh hE ann hp hat
   refine wpIn_block (qbf b E hE _ _ _ _ res _ a w hex hat fun c t' h' a' w' hc hat'=>?_)
   cases c with
   | normal=>exact hQ .normal t' h' a' w' hc hat'
   | ret=>exact hQ .ret t' h' a' w' hc hat'
   | pan ty=>exact hQ (.pan ty) t' h' a' w' hc hat'
   | exit i=>
    simp only at hc
    simp only [Ctl.out,Exit.inBlock]
    cases hb:Nat.beq i id with
    | true=>
     rw [hb] at hc
     rw [zJ (zB hb)]
     exact hQ .normal t' h' a' w' hc hat'
    | false=>
     rw [hb] at hc
     rw [zL (fun e=>by rw [e,Nat.beq_refl] at hb;cases hb)]
     exact hQ (.exit i) t' h' a' w' hc hat'
 | .loop b=>qyr (qbf b)
 | .rangeFunc f ps x b=>by
  intro E hE ann t h K res Q a w hex hat hQ
  simp only [exec] at hex
  split at hex
  ·cases hex
  ·rename_i an t1 h1 hp
   have hat:=qh hE ann hp hat
   split at hex
   ·split at hex
    ·rename_i g caps hev
     split at hex
     ·cases hex
     ·rename_i p hI
      obtain⟨hok,hex⟩:=qc hex
      obtain⟨hc,hex⟩:=qc hex
      rw [zA] at hc
      split at hex
      ·cases hex
      ·rename_i s0 hs0
       exact qvY (qbf x) (qbf b) hE hev hI hok (zH hc.1) hc.2 (mk:=fun s=>(mkSt ⟨[],_⟩ _ s).2) (rd:=fun h=>rdSt ⟨[],_⟩ _ [] h) (fun h s e=>by rw [qmJ e]) rfl (by rw [qmJ hs0]) hex hat hQ
    ·cases hex
   ·cases hex
 | .exit id=>by
  intro E hE ann t h K res Q a w hex hat hQ
  simp only [exec] at hex
  split at hex
  ·cases hex
  ·rename_i an t1 h1 hp
   exact wpIn_exit (hQ (.exit id) t1 h1 a w hex (qh hE ann hp hat))
 | .scope b=>by
  intro E hE ann t h K res Q a w hex hat hQ
  simp only [exec] at hex
  split at hex
  ·cases hex
  ·rename_i an t1 h1 hp
   have hat:=qh hE ann hp hat
   refine qkE (qbf b E hE _ _ _ _ res _ a w hex hat fun c t' h' a' w' hc hat'=>?_)
   cases c <;> exact hQ _ t' h' a' w' hc hat'
 | .ret=>by
  intro E hE ann t h K res Q a w hex hat hQ
  simp only [exec] at hex
  split at hex
  ·cases hex
  ·rename_i an t1 h1 hp
   exact wpIn_ret (hQ .ret t1 h1 a w hex (qh hE ann hp hat))
 | .goto _=>fun E hE ann t h K res Q a w hex hat hQ=>by simp [exec] at hex
 | .refuse _=>fun E hE ann t h K res Q a w hex hat hQ=>by simp [exec] at hex
end
end Go.Abs
