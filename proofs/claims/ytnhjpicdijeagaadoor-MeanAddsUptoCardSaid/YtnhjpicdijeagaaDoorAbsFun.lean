import Derived.Test.YtnhjpicdijeagaaDoorAbsExec
namespace Go.Abs
open Go.RowKit
def Blk:Obj->Bool
 | .cells _ _ _=>true
 | .map _ _=>true
 | .mapIter _ _ _ _=>true
 | _=>false
structure Kept (w w':World):Prop where
 os:w'.os=w.os
 tape:TDr w w'
 output:w'.output=w.output
 size:w'.heap.size=w.heap.size
 blk:∀ (b:Nat) o,w.heap[b]? = some o->Blk o=true->w'.heap[b]? = w.heap[b]?
theorem Kept.cells{w w':World}(k:Kept w w')(b:Nat)(cs e f)(h:w.heap[b]? = some (Obj.cells cs e f)):w'.heap[b]? = w.heap[b]?:=k.blk b _ h rfl
theorem Kept.refl(w:World):Kept w w:=⟨rfl,TDr.rfl,rfl,rfl,fun _ _ _ _=>rfl⟩
theorem Kept.trans{a b c:World}(h:Kept a b)(k:Kept b c):Kept a c:=
 ⟨k.os.trans h.os,k.tape.trans h.tape,k.output.trans h.output,k.size.trans h.size,fun i o hi hb=>by
  have h1:=h.blk i o hi hb
  rw [k.blk i o (by rw [h1];exact hi) hb,h1]⟩
section
variable {w w' : World} {M : Nat -> Prop} {h : List O} {σ : Nat -> Loc}
theorem Kept.cellsAt(k:Kept w w'){b q:Nat}{cs:List Value}(hc:qay w b q cs):qay w' b q cs:=fun j v hj=>by
 obtain⟨h1,h2⟩:=hc j v hj
 obtain⟨o,ho,hco⟩:=cells_of_cell h1
 cases o with
 | cells cs e f=>exact⟨(World.cell?_of_block (k.cells _ cs e f ho)).trans h1,(World.frozen?_of_block (k.cells _ cs e f ho)).trans h2⟩
 | _=>cases hco
theorem RC.kept(k:Kept w w'):{s:Sh} -> {x:s.den} -> {cs:List Value}->RC w M s x cs->RC w' M s x cs
 | .int _,_,_,h=>by simp only [RC] at h ⊢;exact h
 | .bool,_,_,h=>by simp only [RC] at h ⊢;exact h
 | .unit,_,_,h=>by simp only [RC] at h ⊢;exact h
 | .pair _ _,_,_,h=>by
  simp only [RC] at h ⊢
  obtain⟨c,d,rfl,h1,h2⟩:=h
  exact⟨c,d,rfl,RC.kept k h1,RC.kept k h2⟩
 | .sl s,xs,_,h=>by
  simp only [RC] at h ⊢
  obtain⟨a,cap,rfl,hl,hc,h⟩:=h
  refine⟨a,cap,rfl,hl,hc,fun hne=>?_⟩
  obtain⟨b,q,ha,hb,hm,hr⟩:=h hne
  refine⟨b,q,ha,by rw [k.size];exact hb,hm,fun i x hx=>?_⟩
  obtain⟨cs,hcs,hR⟩:=hr i x hx
  exact⟨cs,k.cellsAt hcs,RC.kept k hR⟩
mutual
theorem RV.kept(k:Kept w w'):{v:V} -> {x:Value}->RV w M h σ v x->RV w' M h σ v x
 | .bad,_,_=>by simp only [RV]
 | .undef,_,hv=>by simp only [RV] at hv ⊢;exact hv
 | .int _ _,_,hv=>by simp only [RV] at hv ⊢;exact hv
 | .bool _,_,hv=>by simp only [RV] at hv ⊢;exact hv
 | .nl _,_,hv=>by simp only [RV] at hv ⊢;exact hv
 | .ifc _ _,_,hv=>by
  simp only [RV] at hv ⊢
  obtain⟨u,rfl,hr⟩:=hv
  exact⟨u,rfl,RV.kept k hr⟩
 | .nil,_,hv=>by simp only [RV] at hv ⊢;exact hv
 | .nlt _ _,_,hv=>by simp only [RV] at hv ⊢;exact hv
 | .sl _ _,_,hv=>by simp only [RV] at hv ⊢;exact RC.kept k hv
 | .slc _ _,_,hv=>by simp only [RV] at hv ⊢;exact hv
 | .ptr _ _,_,hv=>by simp only [RV] at hv ⊢;exact hv
 | .rptr _ _ _ _,_,hv=>by simp only [RV] at hv ⊢;exact hv
 | .tl _ _ _,_,hv=>by simp only [RV] at hv ⊢;exact hv
 | .fptr _ _,_,hv=>by
  simp only [RV] at hv ⊢
  obtain⟨b,q,cs,rfl,hb,hm,hc,hr⟩:=hv
  exact⟨b,q,cs,rfl,by rw [k.size];exact hb,hm,k.cellsAt hc,RC.kept k hr⟩
 | .yld _,_,hv=>by simp only [RV] at hv ⊢;exact hv
 | .pptr _ _,_,hv=>by
  simp only [RV] at hv ⊢
  obtain⟨b,q,b',q',cs,rfl,hb,hm,hc,hb2,hm2,hc2,hr⟩:=hv
  exact⟨b,q,b',q',cs,rfl,by rw [k.size];exact hb,hm,k.cellsAt hc,by rw [k.size];exact hb2,hm2,k.cellsAt hc2,RC.kept k hr⟩
 | .clo _ _,_,hv=>by
  simp only [RV] at hv ⊢
  obtain⟨vs,rfl,hr⟩:=hv
  exact⟨vs,rfl,RVs.kept k hr⟩
 | .agg _,_,hv=>by
  simp only [RV] at hv ⊢
  obtain⟨vs,rfl,h1,hr⟩:=hv
  exact⟨vs,rfl,h1,RVs.kept k hr⟩
 | .tup _,_,hv=>by
  simp only [RV] at hv ⊢
  obtain⟨vs,rfl,hr⟩:=hv
  exact⟨vs,rfl,RVs.kept k hr⟩
theorem RVs.kept(k:Kept w w'):{vs:List V} -> {xs:List Value}->RVs w M h σ vs xs->RVs w' M h σ vs xs
 | [],_,hv=>by simp only [RVs] at hv ⊢;exact hv
 | _ :: _,_,hv=>by
  simp only [RVs] at hv ⊢
  obtain⟨x,xs,rfl,h1,h2⟩:=hv
  exact⟨x,xs,rfl,RV.kept k h1,RVs.kept k h2⟩
end
theorem RL.kept(k:Kept w w'){s:Sh}{xs:List s.den}{cs:List Value}(h:RL w M s xs cs):RL w' M s xs cs:=by
 induction xs generalizing cs with
 | nil=>simpa only [RL] using h
 | cons x xs ih=>
  simp only [RL] at h ⊢
  obtain⟨c,d,rfl,h1,h2⟩:=h
  exact⟨c,d,rfl,RC.kept k h1,ih h2⟩
theorem qjh(k:Kept w w'){e:TypeId}{n m:Nat}{v:Value}{cs:List Value}(h:w.ownsRow 0 e n v m cs):w'.ownsRow 0 e n v m cs:=by
 refine⟨h.1,?_⟩
 rcases h.2 with hn | ⟨g,cap,cur,rfl,h1,hg,rest⟩
 ·exact .inl hn
 ·exact .inr ⟨g,cap,cur,rfl,h1,by rw [k.cells g _ _ _ hg];exact hg,rest⟩
theorem MEs.kept(k:Kept w w'){kS vS:Sh}:{xs:List (Int×(kS.den×vS.den))} -> {es:List MapEntry}->MEs w M kS vS xs es->MEs w' M kS vS xs es
 | [],_,h=>h
 | _ :: _,_,h=>by
  obtain⟨e,r,rfl,h1,h2⟩:=h
  exact⟨e,r,rfl,⟨h1.born,RV.kept k h1.key,RV.kept k h1.val⟩,MEs.kept k h2⟩
theorem RQ.kept(k:Kept w w'){l:Loc}{q:Oth}{d:q.sh.den}(r:RQ w M l q d):RQ w' M l q d:=by
 unfold RQ at r ⊢
 split at r
 ·obtain⟨b,es,clock,ha,hb,hc,h1,h2⟩:=r
  exact⟨b,es,clock,ha,by rw [k.blk b _ hb rfl];exact hb,hc,h1.kept k,h2⟩
 ·obtain⟨b,bm,since,last,seen,es,clock,ha,hb,hm,hM,hbm,h1,h2,h3,h4,h5⟩:=r
  refine⟨b,bm,since,last,seen,es,clock,ha,by rw [k.blk b _ hb rfl];exact hb,by rw [k.size];exact hm,hM,by rw [k.blk bm _ hbm rfl];exact hbm,h1,h2,h3,h4.kept k,fun hd=>?_⟩
  obtain⟨e,s0,x,r,q1,q2,q3,q4,q5⟩:=h5 hd
  exact⟨e,s0,x,r,q1,q2,q3,q4,q5.born,RV.kept k q5.key,RV.kept k q5.val⟩
theorem RU.kept(k:Kept w w'){l:Loc}{q:Oth}{d:q.sh.den}(r:RU w M l q d):RU w' M l q d:=by
 obtain⟨d',h,r⟩:=r
 exact⟨d',h,r.kept k⟩
theorem KidAt.kept(k:Kept w w'){kd:Kid}{x:kd.sh.den}{c:Nat}{v:Value}(r:KidAt w M kd x c v):KidAt w' M kd x c v:=by
 cases kd with
 | map q=>exact⟨r.1,r.2.1,r.2.2.kept k⟩
 | row e s=>
  obtain⟨cap,cs,rfl,h1,h2,h3⟩:=r
  exact⟨cap,cs,rfl,h1,qjh k h2,RL.kept k h3⟩
theorem NEs.kept(k:Kept w w'){kS:Sh}{kd:Kid}:{xs:List (Int×(kS.den×kd.sh.den))} -> {es:List MapEntry} -> {bs:List Nat}->NEs w M kS kd xs es bs->NEs w' M kS kd xs es bs
 | [],_,_,h=>h
 | _ :: _,_,_,h=>by
  obtain⟨e,r,c,cs,rfl,rfl,h1,h2,h3,h4⟩:=h
  exact⟨e,r,c,cs,rfl,rfl,h1,RV.kept k h2,h3.kept k,NEs.kept k h4⟩
theorem RN.kept(k:Kept w w'){l:Loc}{q:Nst}{d:q.sh.den}(r:RN w M l q d):RN w' M l q d:=by
 unfold RN at r ⊢
 split at r
 ·obtain⟨b,es,clock,ha,hb,hc,h1,h2⟩:=r
  exact⟨b,es,clock,ha,by rw [k.blk b _ hb rfl];exact hb,hc,h1.kept k,h2⟩
 ·obtain⟨b,bm,since,last,seen,es,clock,ha,hb,hm,hM,hbm,h1,h2,h3,h5,cs,h4,h6⟩:=r
  refine⟨b,bm,since,last,seen,es,clock,ha,by rw [k.blk b _ hb rfl];exact hb,by rw [k.size];exact hm,hM,by rw [k.blk bm _ hbm rfl];exact hbm,h1,h2,h3,h5,cs,h4.kept k,h6.imp id ?_⟩
  rintro⟨e,s0,x,r,c,q1,q2,q3,q4,q5,q6,q7⟩
  exact⟨e,s0,x,r,c,q1,q2,q3,q4,q5,q6.kept k,q7⟩
theorem KV.kept(k:Kept w w'){t:Kt}{x:t.sh.den}{v:Value}{bs:List Nat}(r:KV w M t x v bs):KV w' M t x v bs:=by
 cases t with
 | row e s=>
  obtain⟨l,cs,rfl,h1,h2,h3,rfl⟩:=r
  exact⟨l,cs,rfl,h1,qjh k h2,RL.kept k h3,rfl⟩
 | _=>exact r.elim
theorem OwnK.kept(k:Kept w w'){e:TypeId}{n:Nat}{l:Loc}{m:Nat}{cs:List Value}(h:OwnK w e n l m cs):OwnK w' e n l m cs:=by
 obtain⟨h0,q | ⟨g,cur,q,hg,h1⟩⟩:=h
 ·exact⟨h0,.inl q⟩
 ·exact⟨h0,.inr ⟨g,cur,q,by rw [k.cells g _ _ _ hg];exact hg,h1⟩⟩
theorem KW.kept(k:Kept w w'){L L':V->Value->Prop}:(t:Kt)->(x:t.sh.den)->(cs:List Value)->(hl:Option (Nat×V))->(bs:List Nat)->(∀ y c,hl=some y->L y.2 c->L' y.2 c)->KW w M L t x cs hl bs->KW w' M L' t x cs hl bs
 | .dat s,x,cs,hl,bs,hL,h=>by
  simp only [KW] at h ⊢
  exact⟨h.1,h.2.1,RC.kept k h.2.2⟩
 | .pair a c,x,cs,hl,bs,hL,h=>by
  simp only [KW] at h ⊢
  obtain⟨c1,c2,b1,b2,rfl,rfl,hc,h1,h2⟩:=h
  refine⟨c1,c2,b1,b2,rfl,rfl,hc,KW.kept k _ _ _ _ _ (fun y c hy=>?_) h1,KW.kept k _ _ _ _ _ (fun y c hy=>?_) h2⟩
  ·obtain⟨z,h3,h4⟩:=qtb hy
   rw [<- h4];exact hL z c h3
  ·obtain⟨z,h3,h4⟩:=qte hy
   rw [<- h4];exact hL z c h3
 | .row e s,x,cs,hl,bs,hL,h=>by
  simp only [KW] at h ⊢
  cases hl with
  | some y=>exact h.imp (f:=id) fun c=>hL _ c rfl
  | none=>obtain⟨c,rfl,h⟩:=h;exact⟨c,rfl,h.kept k⟩
 | .krow e t,x,cs,hl,bs,hL,h=>by
  simp only [KW] at h ⊢
  cases hl with
  | some y=>exact h.imp (f:=id) fun c=>hL _ c rfl
  | none=>
   obtain⟨l,vs,ex,rfl,hn,h1,h2,rfl⟩:=h
   exact⟨l,vs,ex,rfl,hn,h1.kept k,KLs.none_imp (P:=fun _=>True) (fun x c bs _ h=>KW.kept k t x c none bs (fun y _ q=>by cases q) h) (fun _ _=>trivial) h2,rfl⟩
 | .map q,x,cs,hl,bs,hL,h=>by
  simp only [KW] at h ⊢
  cases hl with
  | some y=>exact h.imp (f:=id) fun c=>hL _ c rfl
  | none=>exact h.imp id fun ⟨c,h0,h1,h2,h3,h4⟩=>⟨c,h0,h1,h2,h3.kept k,h4⟩
 | .box e t,x,cs,hl,bs,hL,h=>by
  simp only [KW] at h ⊢
  cases hl with
  | some y=>exact h.imp (f:=id) fun c=>hL _ c rfl
  | none=>exact h.imp id fun ⟨c,vs,ex,e',h0,h1,h2,h3,h4⟩=>⟨c,vs,ex,e',h0,h1,by rw [k.cells c _ _ _ h2];exact h2,KW.kept k _ _ _ none _ (fun y _ q=>by cases q) h3,h4⟩
theorem KLs.kept(k:Kept w w'){L L':V->Value->Prop}{t:Kt}:{xs:List t.sh.den} -> {cs:List Value} -> {hl:Option (Nat×V)} -> {bs:List Nat}->(∀ y c,hl=some y->L y.2 c->L' y.2 c)->KLs t.n (KW w M L t) xs cs hl bs->KLs t.n (KW w' M L' t) xs cs hl bs
 | [],_,_,_,_,h=>h
 | _ :: _,_,_,_,hL,h=>by
  obtain⟨c,r,b1,b2,rfl,rfl,hc,h1,h2⟩:=h
  refine⟨c,r,b1,b2,rfl,rfl,hc,KW.kept k _ _ _ _ _ (fun y c hy=>?_) h1,KLs.kept k (fun y c hy=>?_) h2⟩
  ·obtain⟨z,h3,h4⟩:=qtb hy
   rw [<- h4];exact hL z c h3
  ·obtain⟨z,h3,h4⟩:=qte hy
   rw [<- h4];exact hL z c h3
theorem KVs.kept(k:Kept w w'){t:Kt}:{xs:List t.sh.den} -> {vs:List Value} -> {h0:Option Nat} -> {bs:List Nat}->KVs w M t xs vs h0 bs->KVs w' M t xs vs h0 bs
 | [],_,_,_,h=>h
 | _ :: _,_,_,_,h=>by
  obtain⟨v,r,b1,b2,rfl,rfl,h1,h2⟩:=h
  exact⟨v,r,b1,b2,rfl,rfl,h1.imp id fun ⟨q,h1⟩=>⟨q,h1.kept k⟩,KVs.kept k h2⟩
theorem KKs.kept(k:Kept w w'){kS:Sh}{α:Type}:{xs:List (Int×(kS.den×α))} -> {es:List MapEntry}->KKs w M kS xs es->KKs w' M kS xs es
 | [],_,h=>h
 | _ :: _,_,h=>by
  obtain⟨e,r,rfl,h1,h2,h3⟩:=h
  exact⟨e,r,rfl,h1,RV.kept k h2,KKs.kept k h3⟩
theorem RK.kept(k:Kept w w'){L L':V->Value->Prop}{l:Loc}{p:Kp}{t:Kt}{h0:Option (p.ix.den×V)}{d:(p.sh t).den}(hL:∀ v c,L v c->L' v c)(r:RK w M L l p t h0 d):RK w' M L' l p t h0 d:=by
 cases p with
 | map kt et kS=>
  obtain⟨b,es,clock,ha,hb,hc,h1,h2,h3⟩:=r
  exact⟨b,es,clock,ha,by rw [k.blk b _ hb rfl];exact hb,hc,h1.kept k,h2.kept k,h3⟩
 | row e=>
  obtain⟨hn,vs,h1,h2,h3⟩:=r
  exact⟨hn,vs,h1.kept k,h2.kept k (fun y c _=>hL y.2 c),h3⟩
theorem RO.kept(k:Kept w w'){l:Loc}:{o:O}->RO w M h σ l o->RO w' M h σ l o
 | .none,_=>trivial
 | .cells vs,r=>by
  obtain⟨b,e,cs,ha,hb,hr,h1⟩:=r
  exact⟨b,e,cs,ha,by rw [k.cells b _ _ _ hb];exact hb,RVs.kept k hr,h1⟩
 | .row true ver e t xs,r=>by
  obtain⟨h1,h2,h3⟩:=r
  exact⟨h1,RC.kept k h2,fun b ha=>⟨by rw [k.size];exact (h3 b ha).1,(h3 b ha).2⟩⟩
 | .row false ver e t xs,r=>by
  obtain⟨h1,cs,h2,h3⟩:=r
  exact⟨h1,cs,qjh k h2,RL.kept k h3⟩
 | .oth fz q d,r=>⟨r.1.kept k,r.2⟩
 | .nst ver q d,r=>RN.kept k r
 | .kds ver p t h0 d,r=>RK.kept k (fun _ _=>RV.kept k) r
 | .gone,_=>trivial
theorem Rep.kept{w0:World}{A M0:Nat->Prop}(R:Rep w0 A M0 w h σ)(k:Kept w w')(hb:∀ b,b<w0.heap.size->w'.heap[b]? = w.heap[b]?):Rep w0 A M0 w' h σ:=
 ⟨⟨k.os.trans R.fr.os,k.tape.trans R.fr.tape,k.output.trans R.fr.output,by rw [k.size];exact R.fr.size,fun b hlt hA=>by rw [hb b hlt,R.fr.block b hlt hA]⟩,R.m0,R.inA,R.apart,fun o=>(R.obj o).kept k⟩
end
def qgb(B:Nat):List Deferred->World->Prop
 | [],_=>True
 | d :: ds,w=>(∃ D,d=qnK D/\B<=D/\w.heap[D]? = some (.deferred (some []))/\qnK D ∉ ds)/\qgb B ds w
theorem qgb.mono{B:Nat}{ds:List Deferred}{w w':World}(h:qgb B ds w)(hs:∀ D,qnK D∈ds->w.heap[D]? = some (.deferred (some []))->w'.heap[D]? = some (.deferred (some []))):qgb B ds w':=by
 induction ds with
 | nil=>trivial
 | cons d ds ih=>
  obtain⟨⟨D,rfl,h1,h2,h3⟩,h4⟩:=h
  exact⟨⟨D,rfl,h1,hs D (by simp) h2,h3⟩,ih h4 fun D' hm=>hs D' (by simp [hm])⟩
theorem qgb.lt{B:Nat}{ds:List Deferred}{w:World}(h:qgb B ds w){D:Nat}(hm:qnK D∈ds):D<w.heap.size:=by
 induction ds with
 | nil=>cases hm
 | cons d ds ih=>
  obtain⟨⟨D',rfl,h1,h2,h3⟩,h4⟩:=h
  rcases zi.1 hm with e | hm
  ·simp at e;subst e;exact (zI.1 h2).1
  ·exact ih h4 hm
theorem qnL{F:Fence}{n:Nat}{P:Program}{fn:Func}{tmps:Array Value}{R:Ending->World->Prop}{B:Nat}:(ds:List Deferred) -> {w:World}->qgb B ds w ->
  (∀ w',Kept w w'->(∀ b,b<B->w'.heap[b]? = w.heap[b]?)->∃ v,(results fn tmps).run P w'=.ok v w'/\R (.returned v) w')->LeavesInM F n P fn tmps R ds .returning w
 | [],w,_,hR=>hR w (Kept.refl w) fun _ _=>rfl
 | d :: ds,w,hm,hR=>by
  obtain⟨⟨D,rfl,h1,h2,h3⟩,h4⟩:=hm
  refine⟨by simp,.inl ⟨D,_,rfl,run_takeDeferred h2,qnL ds (h4.mono fun D' hm' h'=>?_) fun w' hk hb=>hR w' ?_ fun b hlt=>?_⟩⟩
  ·have hne:D'≠D:=fun e=>h3 (e▸hm')
   rw [World.putObj_heap_other hne];exact h'
  ·refine Kept.trans (b:=w.putObj D (.deferred none)) ⟨rfl,TDr.rfl,rfl,by simp,fun b o hc hbk=>?_⟩ hk
   exact World.putObj_heap_other fun e=>by subst e;rw [h2] at hc;cases hc;cases hbk
  ·rw [hb b hlt,World.putObj_heap_other (by omega)]
def qxl(C:Ctx)(t:Nat->V)(h:List O):ResultVar->Option V
 | .tmp i=>some (t i)
 | .cell a ty=>loadK C h ty (t a) some
def qxk(tmps:Array Value)(r:ResultVar):Sem Value:=
 match r with
 | .tmp t=>pure (tmps.getD t undef)
 | .cell a t=>do loadVar t (<- asAddr (tmps.getD a undef))
def resL(C:Ctx)(t:Nat->V)(h:List O):List ResultVar->Option (List V)
 | []=>some []
 | r :: rs=>
  match qxl C t h r with
  | none=>none
  | some v=>
   match resL C t h rs with
   | none=>none
   | some vs=>some (v :: vs)
def retV:List V->V
 | [v]=>v
 | vs=>.tup vs
section
variable {P : Program} {C : Ctx} {w0 : World} {A M0 : Nat -> Prop} {w : World} {h : List O} {σ : Nat -> Loc} {t : Nat -> V}
theorem qum(hT:TOk P C.T)(R:Rep w0 A M0 w h σ){tmps:Array Value}(hr:∀ i,RV w (mutb M0 h σ) h σ (t i) (tmps.getD i undef)){rv:ResultVar}{v:V}(he:qxl C t h rv=some v) :
  ∃ x,(qxk tmps rv).run P w=.ok x w/\RV w (mutb M0 h σ) h σ v x:=by
 cases rv with
 | tmp i=>
  simp only [qxl,zD] at he
  subst he
  exact⟨_,rfl,hr i⟩
 | cell a ty=>
  simp only [qxl] at he
  unfold loadK at he
  split at he
  ·cases he
  ·rename_i te hte
   split at he
   ·cases he
   ·rename_i q hq
    obtain⟨vs,off⟩:=q
    obtain⟨hok,he⟩:=qc he
    cases he
    obtain⟨b,q,cs,hx,hc,hr',h1⟩:=qiF R (Sub.refl h) (hr a) hq
    obtain⟨i,z,hi⟩:=hT.get hte
    refine⟨_,?_,qis hr' h1 hok⟩
    simp only at hok
    rw [hr'.length] at hok
    simp only [qxk,hx,asAddr,Sem.run_bind,Sem.run_pure,Result.andThen_ok,qhA hi hc.g hok]
theorem qrt(hT:TOk P C.T)(R:Rep w0 A M0 w h σ){tmps:Array Value}(hr:∀ i,RV w (mutb M0 h σ) h σ (t i) (tmps.getD i undef)):(rs:List ResultVar) -> {vs:List V}->resL C t h rs=some vs ->
  ∃ xs,(rs.mapM (qxk tmps)).run P w=.ok xs w/\RVs w (mutb M0 h σ) h σ vs xs
 | [],vs,he=>by
  simp only [resL,zD] at he
  subst he
  exact⟨[],rfl,rfl⟩
 | rv :: rs,vs,he=>by
  simp only [resL] at he
  split at he
  ·cases he
  ·rename_i v hv
   split at he
   ·cases he
   ·rename_i us hus
    cases he
    obtain⟨x,h1,h2⟩:=qum hT R hr hv
    obtain⟨xs,h3,h4⟩:=qrt hT R hr rs hus
    refine⟨x :: xs,?_,x,xs,rfl,h2,h4⟩
    simp only [List.mapM_cons,Sem.run_bind,h1,Result.andThen_ok,h3,Sem.run_pure]
theorem qsA(hT:TOk P C.T)(R:Rep w0 A M0 w h σ){tmps:Array Value}(hr:∀ i,RV w (mutb M0 h σ) h σ (t i) (tmps.getD i undef)){fn:Func}{vs:List V}(he:resL C t h fn.results.toList=some vs) :
  ∃ x,(results fn tmps).run P w=.ok x w/\RV w (mutb M0 h σ) h σ (retV vs) x:=by
 obtain⟨xs,h1,h2⟩:=qrt hT R hr fn.results.toList he
 have hd:results fn tmps=(do let vs <- fn.results.mapM (qxk tmps);pure (if h:vs.size=1 then vs[0] else .tuple vs)):=rfl
 rw [hd,Array.mapM_eq_mapM_toList]
 refine⟨if h:xs.toArray.size=1 then xs.toArray[0] else .tuple xs.toArray,by simp only [Sem.run_bind,map_eq_pure_bind,h1,Result.andThen_ok,Sem.run_pure],?_⟩
 cases vs with
 | nil=>
  simp only [RVs] at h2
  subst h2
  simp only [retV,RV]
  exact⟨#[],rfl,rfl⟩
 | cons v vs=>
  simp only [RVs] at h2
  obtain⟨x,xs,rfl,h3,h4⟩:=h2
  cases vs with
  | nil=>
   simp only [RVs] at h4
   subst h4
   exact h3
  | cons u vs=>
   simp only [RVs] at h4
   obtain⟨y,ys,rfl,h5,h6⟩:=h4
   simp only [retV,RV]
   exact⟨(x :: y :: ys).toArray,by simp,x,y :: ys,rfl,h3,y,ys,rfl,h5,h6⟩
def argS:Nat->List V->Slots
 | _,[]=>[]
 | i,v :: r=>(i,v) :: argS (i+1) r
def finK{ρ:Type}(C:Ctx)(rs:List ResultVar)(fin:V->List O->Option ρ):Ctl->Slots->List O->Option ρ:=fun c t h=>
 match c with
 | .exit _=>none
 | .pan _=>none
 | _=>match resL C (look t) h rs with | some vs=>fin (retV vs) h | none=>none
theorem qBk{M:Nat->Prop}:(args:List V) -> {vs:List Value}->(i j:Nat)->RVs w M h σ args vs->RV w M h σ (look (argS i args) (i+j)) (vs.getD j undef)
 | [],vs,i,j,hv=>by
  simp only [argS,look,RV]
 | v :: r,vs,i,j,hv=>by
  simp only [RVs] at hv
  obtain⟨x,xs,rfl,h1,h2⟩:=hv
  simp only [argS,look]
  cases j with
  | zero=>simp only [Nat.add_zero,Nat.beq_refl,cond_true];exact h1
  | succ j=>
   have hne:Nat.beq i (i+(j+1))=false:=zAJ.2 fun e=>by have:=zB e;omega
   rw [hne]
   have:=qBk r (i+1) j h2
   rw [show i+1+j=i+(j+1) by omega] at this
   exact this
theorem KidAt.blk{M:Nat->Prop}{kd:Kid}{x:kd.sh.den}{c:Nat}{v:Value}(r:KidAt w M kd x c v):∃ o,w.heap[c]? = some o/\Blk o=true:=by
 cases kd with
 | map q=>
  obtain⟨_,hi,r⟩:=r
  unfold RQ at r
  rw [hi] at r
  obtain⟨b',es,clock,ha',hb,_⟩:=r
  cases ha'
  exact⟨_,hb,rfl⟩
 | row e s=>
  obtain⟨cap,cs,rfl,h1,h2,h3⟩:=r
  rcases h2.2 with⟨hn,_⟩ | ⟨g,cap,cur,hv,_,hg,_⟩
  ·simp [rowV,Loc.addr] at hn
  ·simp only [rowV,Loc.addr,Option.map_some,Value.slice.injEq,zD,Addr.mk.injEq] at hv
   obtain⟨⟨rfl,_⟩,_⟩:=hv
   exact⟨_,hg,rfl⟩
theorem qxh{e:TypeId}{n m b:Nat}{l:Loc}{cs:List Value}(h:w.ownsRow 0 e n (rowV l m) m cs)(ha:l.a=some b):∃ o,w.heap[b]? = some o/\Blk o=true:=by
 rcases h.2 with⟨hn,_⟩ | ⟨g,cap,cur,hv,_,hg,_⟩
 ·simp [rowV,Loc.addr,ha] at hn
 ·simp only [rowV,Loc.addr,ha,Option.map_some,Value.slice.injEq,zD,Addr.mk.injEq] at hv
  obtain⟨⟨rfl,_⟩,_⟩:=hv
  exact⟨_,hg,rfl⟩
theorem KVs.blk{M:Nat->Prop}{t:Kt}:{xs:List t.sh.den} -> {vs:List Value} -> {h0:Option Nat} -> {bs:List Nat}->KVs w M t xs vs h0 bs->∀ {b:Nat},b∈bs->∃ o,w.heap[b]? = some o/\Blk o=true
 | [],_,_,_,h,b,hb=>by obtain⟨-,rfl⟩:=h;cases hb
 | _ :: _,_,_,_,h,b,hb=>by
  obtain⟨v,r,b1,b2,rfl,rfl,h1,h2⟩:=h
  rcases zU.1 hb with hb | hb
  ·rcases h1 with⟨_,rfl⟩ | ⟨_,h1⟩
   ·cases hb
   ·cases t with
    | row e s=>
     obtain⟨l,cs,rfl,_,h3,_,rfl⟩:=h1
     exact qxh h3 (by simpa using hb)
    | _=>exact h1.elim
  ·exact KVs.blk h2 hb
theorem OwnK.blk{e:TypeId}{n:Nat}{l:Loc}{m:Nat}{cs:List Value}(h:OwnK w e n l m cs){b:Nat}(ha:l.a=some b):∃ o,w.heap[b]? = some o/\Blk o=true:=by
 obtain⟨_,⟨q,_⟩ | ⟨g,cur,q,hg,_⟩⟩:=h
 ·rw [ha] at q;cases q
 ·rw [ha] at q;cases q;exact⟨_,hg,rfl⟩
theorem KLs.blk{α:Type}{n:Nat}{R:α->List Value->Option (Nat×V)->List Nat->Prop}(hR:∀ x c hl bs,R x c hl bs->∀ b,b∈bs->∃ o,w.heap[b]? = some o/\Blk o=true):{xs:List α} -> {cs:List Value} -> {hl:Option (Nat×V)} -> {bs:List Nat}->KLs n R xs cs hl bs->∀ {b:Nat},b∈bs->∃ o,w.heap[b]? = some o/\Blk o=true
 | [],_,_,_,h,b,hb=>by obtain⟨-,-,rfl⟩:=h;cases hb
 | _ :: _,_,_,_,h,b,hb=>by
  obtain⟨c,r,b1,b2,rfl,rfl,_,h1,h2⟩:=h
  rcases zU.1 hb with hb | hb
  ·exact hR _ _ _ _ h1 b hb
  ·exact KLs.blk hR h2 hb
theorem KW.blk{M:Nat->Prop}{L:V->Value->Prop}:(t:Kt)->(x:t.sh.den)->(cs:List Value)->(hl:Option (Nat×V))->(bs:List Nat)->KW w M L t x cs hl bs->∀ b,b∈bs->∃ o,w.heap[b]? = some o/\Blk o=true
 | .dat s,x,cs,hl,bs,h,b,hb=>by
  simp only [KW] at h
  obtain⟨-,rfl,-⟩:=h;cases hb
 | .pair a c,x,cs,hl,bs,h,b,hb=>by
  simp only [KW] at h
  obtain⟨_,_,b1,b2,rfl,rfl,_,h1,h2⟩:=h
  rcases zU.1 hb with hb | hb
  ·exact KW.blk _ _ _ _ _ h1 b hb
  ·exact KW.blk _ _ _ _ _ h2 b hb
 | .row e s,x,cs,hl,bs,h,b,hb=>by
  simp only [KW] at h
  split at h
  ·obtain⟨-,rfl,-⟩:=h;cases hb
  ·obtain⟨c,rfl,l,cs,rfl,_,h3,_,rfl⟩:=h
   exact qxh h3 (by simpa using hb)
 | .krow e t,x,cs,hl,bs,h,b,hb=>by
  simp only [KW] at h
  split at h
  ·obtain⟨-,rfl,-⟩:=h;cases hb
  ·obtain⟨l,vs,ex,rfl,_,h1,h2,rfl⟩:=h
   rcases zU.1 hb with hb | hb
   ·exact h1.blk (by simpa using hb)
   ·exact KLs.blk (fun x c hl bs=>KW.blk t x c hl bs) h2 hb
 | .map q,x,cs,hl,bs,h,b,hb=>by
  simp only [KW] at h
  split at h
  ·obtain⟨-,rfl,-⟩:=h;cases hb
  ·rcases h with⟨_,_,_,rfl⟩ | ⟨c,rfl,h1,_,h,rfl⟩
   ·cases hb
   ·unfold RQ at h
    rw [h1] at h
    obtain⟨b',es,clock,ha,hb',_⟩:=h
    simp only [zD] at ha
    subst ha
    rw [zAG] at hb
    subst hb
    exact⟨_,hb',rfl⟩
 | .box e t,x,cs,hl,bs,h,b,hb=>by
  simp only [KW] at h
  split at h
  ·obtain⟨-,rfl,-⟩:=h;cases hb
  ·rcases h with⟨_,_,rfl⟩ | ⟨c,vs,ex,_,_,rfl,hc,h,rfl⟩
   ·cases hb
   ·rcases zi.1 hb with rfl | hb
    ·exact⟨_,hc,rfl⟩
    ·exact KW.blk _ _ _ _ _ h b hb
theorem qzE(R:Rep w0 A M0 w h σ){b:Nat}(ho:own h σ b):∃ o,w.heap[b]? = some o/\Blk o=true:=by
 obtain⟨o,hl,ha⟩:=ho
 have r:=R.obj o
 cases eo:getO h o with
 | none=>rw [eo] at hl;exact hl.elim
 | gone=>rw [eo] at hl;exact hl.elim
 | kds ver p t h0 d=>
  rw [eo] at r ha
  have r:RK w (mutb M0 h σ) (RV w (mutb M0 h σ) h σ) (σ o) p t h0 d:=r
  cases p with
  | map kt et kS=>
   obtain⟨b',es,clock,ha',hb,_,_,h2,_⟩:=r
   rcases ha with ha | ha
   ·rw [ha] at ha';cases ha'
    exact⟨_,hb,rfl⟩
   ·exact h2.blk ha
  | row e=>
   obtain⟨_,vs,h1,h2,_⟩:=r
   rcases ha with ha | ha
   ·exact h1.blk ha
   ·exact h2.blk (fun x c hl bs=>KW.blk t x c hl bs) ha
 | nst ver q d=>
  rw [eo] at r ha
  rcases ha with ha | ha
  ·have r:RN w (mutb M0 h σ) (σ o) q d:=r
   unfold RN at r
   split at r
   ·obtain⟨b',es,clock,ha',hb,_⟩:=r
    rw [ha] at ha';cases ha'
    exact⟨_,hb,rfl⟩
   ·obtain⟨b',bm,since,last,seen,es,clock,ha',hb,_⟩:=r
    rw [ha] at ha';cases ha'
    exact⟨_,hb,rfl⟩
  ·obtain⟨es,hes⟩:=RN.ents r
   obtain⟨i,hi,he⟩:=zAs ha
   have hl:=hes.length.2
   obtain⟨e,c,h1,h2,h3⟩:=hes.get (zW (show i<d.2.length by omega))
   rw [zW hi,he] at h2
   cases h2
   exact h3.kid.blk
 | cells vs=>
  rw [eo] at r ha
  obtain⟨b',e,cs,ha',hb,_⟩:=r
  have ha:(σ o).a=some b:=ha
  rw [ha] at ha';cases ha'
  exact⟨_,hb,rfl⟩
 | oth fz q d=>
  rw [eo] at r ha
  have ha:(σ o).a=some b:=ha
  obtain⟨⟨d',-,r⟩,-⟩:=r
  unfold RQ at r
  split at r
  ·obtain⟨b',es,clock,ha',hb,_⟩:=r
   rw [ha] at ha';cases ha'
   exact⟨_,hb,rfl⟩
  ·obtain⟨b',bm,since,last,seen,es,clock,ha',hb,_⟩:=r
   rw [ha] at ha';cases ha'
   exact⟨_,hb,rfl⟩
 | row fz ver e s xs=>
  rw [eo] at r hl ha
  replace ha:(σ o).a=some b:=ha
  cases fz with
  | true=>cases hl
  | false=>
   obtain⟨_,cs,hr,_⟩:=r
   rcases hr.2 with⟨hn,_⟩ | ⟨g,cap,cur,hv,_,hg,_⟩
   ·simp [rowV,Loc.addr,ha] at hn
   ·simp only [rowV,Loc.addr,ha,Option.map_some,Value.slice.injEq,zD,Addr.mk.injEq] at hv
    obtain⟨⟨rfl,_⟩,_⟩:=hv
    exact⟨_,hg,rfl⟩
theorem qqp{ρ:Type}{f:Nat}{fn:Func}{c:Code}(hf:P.funcs[f]? = some fn)(hb:fn.body=some c)(hT:TOk P C.T)(hG:GOk P C)(hI:IOk P C)(hL:Gl C.gs w0 A)(hm:P.follows .mixedOrders=true)(hn:(C.n,C.X)=(fn.ntmps,fun _ _ _=>none)){ann:Ann}{args:List V}
  {fin:V->List O->Option ρ} {y:ρ} (hex:exec C c ann (argS 0 args) h (finK C fn.results.toList fin)=some y) (hlen:args.length<=fn.ntmps) (R:Rep w0 A M0 w h σ) {vs:List Value} (hv:RVs w (mutb M0 h σ) h σ args vs) :
  Calls P f vs.toArray w fun e w'=>∃ x v h' σ',e=.returned x/\fin v h'=some y/\Rep w0 A M0 w' h' σ'/\RV w' (mutb M0 h' σ') h' σ' v x/\Far C.fx C.fl M0 w h σ M0 w' h' σ':=by
 let E:Env:={ P:=P,C:=C,r:=none,n:=0,w0:=w0,A:=A,M0:=M0,Kp:=fun ds w' h' σ'=>qgb w.heap.size ds w'/\w.heap.size<=w'.heap.size/\Far C.fx C.fl M0 w h σ M0 w' h' σ' }
 have hfar:∀ {w1 w2:World} {h1 h2:List O} {σ1 σ2:Nat->Loc} {ds:List Deferred},Rep w0 A M0 w1 h1 σ1->Far C.fx C.fl M0 w1 h1 σ1 M0 w2 h2 σ2->qgb w.heap.size ds w1->qgb w.heap.size ds w2:=fun R1 fr hk=>
  hk.mono fun D _ hD=>by
   rw [fr.goes.block D (zI.1 hD).1 (fun ho=>?_),hD]
   obtain⟨o9,hc,hb9⟩:=qzE R1 ho
   rw [hD] at hc;cases hc;cases hb9
 have hE:E.Ok:={
  types:=hT,calls:=hG,its:=hI,xs:=XOk.none (congrArg Prod.snd hn),glob:=hL,mixed:=hm
  kp:=fun ds w1 h1 σ1 w2 h2 σ2 R1 _ fr hk=>⟨hfar R1 fr hk.1,zn hk.2.1 fr.goes.size,hk.2.2.trans fr fun b hb=>(R1.foreign b hb).2⟩
  km:=fun _ _ ds w1 h1 σ1 w2 h2 σ2 D R1 _ fr hk hD hd=>⟨⟨⟨D,rfl,zn hk.2.1 hD,hd,fun hmem=>by have:=hk.1.lt hmem;omega⟩,hfar R1 fr hk.1⟩,zn hk.2.1 fr.goes.size,hk.2.2.trans fr fun b hb=>(R1.foreign b hb).2⟩
  kl:=fun l hl=>by cases hl }
 have hl:=hv.length
 refine callsIn_wide.1 (callsIn_of_wp_marks (F:=Fence.wide) (n:=0) hf hb trivial ?_)
 refine qbf c E hE ann (argS 0 args) h _ y _ _ w hex ⟨σ,R,fun i=>?_,?_,trivial,Nat.le_refl _,Far.refl⟩ ?_
 ·have:=qBk args 0 i hv
  rw [Nat.zero_add] at this
  have e:(vs.toArray++Array.replicate (fn.ntmps - vs.toArray.size) undef).getD i undef=vs.getD i undef:=by
   simp only [zP,Array.getElem?_append,zK,List.size_toArray,List.getElem?_toArray]
   split
   ·rfl
   ·rename_i hni
    rw [zX (by omega),zAh]
    split <;> rfl
  simp only [e];exact this
 ·simp only [Array.size_append,List.size_toArray,Array.size_replicate]
  show _=C.n
  have hn:C.n=fn.ntmps:=congrArg Prod.fst hn
  omega
 ·rintro ct t' h' a' w' hc ⟨σ',R',hr',hn',hk'⟩
  have hk':qgb w.heap.size a'.defers w'/\w.heap.size<=w'.heap.size/\Far C.fx C.fl M0 w h σ M0 w' h' σ':=hk'
  have key:(match resL C (look t') h' fn.results.toList with | some vs=>fin (retV vs) h' | none=>none)=some y ->
    LeavesInM Fence.wide 0 P fn a'.tmps (fun e w'=>∃ x v h' σ',e=.returned x/\fin v h'=some y/\Rep w0 A M0 w' h' σ'/\RV w' (mutb M0 h' σ') h' σ' v x/\Far C.fx C.fl M0 w h σ M0 w' h' σ') a'.defers .returning w':=fun hc=>by
   refine qnL a'.defers hk'.1 fun w'' hkept hbl=>?_
   split at hc
   ·rename_i us hus
    have R'':=R'.kept hkept fun b hlt=>hbl b (zM hlt R.fr.size)
    obtain⟨x,h1,h2⟩:=qsA hT R'' (fun i=>(hr' i).kept hkept) hus
    obtain⟨f1,f2,f3⟩:=hk'.2.2
    refine⟨x,h1,x,_,h',σ',rfl,hc,R'',h2,⟨hkept.os.trans f1.os,hkept.tape.trans f1.tape,hkept.output.trans f1.output,by rw [hkept.size];exact f1.size,fun b hb ho=>by rw [hbl b hb];exact f1.block b hb ho⟩,
     ⟨by rw [hkept.size];exact f2.size,fun b hb hm=>by rw [hbl b hb];exact f2.block b hb hm,f2.out⟩,f3⟩
   ·cases hc
  cases ct with
  | exit id=>cases hc
  | pan _=>cases hc
  | normal=>exact key hc
  | ret=>exact key hc
theorem qnl{ρ:Type}{f:Nat}{fn:Func}{c:Code}(hf:P.funcs[f]? = some fn)(hb:fn.body=some c)(hT:TOk P C.T)(hG:GOk P C)(hI:IOk P C)(hL:Gl C.gs w0 A)(hm:P.follows .mixedOrders=true)(hn:(C.n,C.X)=(fn.ntmps,fun _ _ _=>none)){ann:Ann}{args:List V}
  {fin:V->List O->Option ρ} {y:ρ} (hex:exec C c ann (argS 0 args) h (finK C fn.results.toList fin)=some y) (hlen:args.length<=fn.ntmps) (R:Rep w0 A M0 w h σ) {vs:List Value} (hv:RVs w (mutb M0 h σ) h σ args vs) :
  Calls P f vs.toArray w fun e w'=>∃ x v h' σ',e=.returned x/\fin v h'=some y/\Rep w0 A M0 w' h' σ'/\RV w' (mutb M0 h' σ') h' σ' v x:=
 (qqp hf hb hT hG hI hL hm hn hex hlen R hv).mono fun _ _ ⟨x,v,h',σ',h1,h2,h3,h4,_⟩=>⟨x,v,h',σ',h1,h2,h3,h4⟩
end
end Go.Abs
namespace Go.Abs
open Go.RowKit
inductive Kd where
 | dat (s:Sh)
 | agg (s:Sh)
 | ptr (s:Sh)
 | clo (g:Nat) (cs:List Sh)
 | bnd (g:Nat) (s:Sh)
@[reducible] def CDen:List Sh->Type
 | []=>Unit
 | s :: cs=>s.den×CDen cs
@[reducible] def Kd.den:Kd->Type
 | .dat s=>s.den
 | .agg s=>s.den
 | .ptr s=>s.den
 | .clo _ cs=>CDen cs
 | .bnd _ s=>s.den
def cval(b:Bool)(s:Sh)(x:s.den):V:=bif b then .agg (encL s x) else enc s x
def cvals:(cs:List Sh)->CDen cs->List V
 | [],_=>[]
 | s :: cs,x=>.fptr s x.1 :: cvals cs x.2
@[reducible] def Dens:List Kd->Type
 | []=>Unit
 | k :: ks=>k.den×Dens ks
def Kd.val:(k:Kd)->k.den->V
 | .dat s,x=>enc s x
 | .agg s,x=>.agg (encL s x)
 | .ptr s,x=>.fptr s x
 | .clo g cs,x=>.clo g (cvals cs x)
 | .bnd g s,x=>.clo g [enc s x]
def kvals:(ks:List Kd)->Dens ks->List V
 | [],_=>[]
 | k :: ks,x=>k.val x.1 :: kvals ks x.2
def Sh.flat:Sh->Bool
 | .sl _=>false
 | .pair a b=>a.flat&&b.flat
 | _=>true
def Kd.scal:Kd->Bool
 | .dat s=>s.flat
 | .agg s=>s.flat
 | .ptr _=>false
 | .clo _ cs=>cs.isEmpty
 | .bnd _ _=>false
def decA(h:List O)(b:Bool)(s:Sh)(v:V):Option s.den:=
 bif b then (match v with | .agg vs=>qea h s vs | _=>none)
 else (match v with | .agg vs=>bif s.isAgg then qea h s vs else none | v=>bif s.isAgg then none else qea h s [v])
def decP(fz:Bool)(h:List O)(s:Sh)(v:V):Option s.den:=
 match v with
 | .fptr _ x=>qbn x
 | v=>
  bif fz then none
  else
   match qdk h v with
   | some (vs,off)=>bif Nat.ble 1 s.n&&Nat.ble (off+s.n) vs.length then qea h s ((vs.drop off).take s.n) else none
   | none=>none
def decC(fz:Bool)(h:List O):(cs:List Sh)->List V->Option (CDen cs)
 | [],[]=>some ()
 | [],_ :: _=>none
 | _ :: _,[]=>none
 | s :: cs,v :: vs=>
  match decP fz h s v with
  | none=>none
  | some x=>
   match decC fz h cs vs with
   | none=>none
   | some xs=>some (x,xs)
def noSlc:V->Bool
 | .slc _ _=>false
 | _=>true
def decK(fz:Bool)(h:List O):(k:Kd)->V->Option k.den
 | .dat s,v=>decA h false s v
 | .agg s,v=>decA h true s v
 | .ptr s,v=>decP fz h s v
 | .clo g cs,v=>
  match v with
  | .clo g' us=>bif Nat.beq g g' then decC fz h cs us else none
  | _=>none
 | .bnd g s,v=>
  match v with
  | .clo g' [u]=>bif Nat.beq g g'&&u.cells.all noSlc then decA h false s u else none
  | _=>none
def decL(fz:Bool)(h:List O):(ks:List Kd)->List V->Option (Dens ks)
 | [],[]=>some ()
 | [],_ :: _=>none
 | _ :: _,[]=>none
 | k :: ks,v :: vs=>
  match decK fz h k v with
  | none=>none
  | some x=>
   match decL fz h ks vs with
   | none=>none
   | some xs=>some (x,xs)
section
variable {w w' : World} {M M' : Nat -> Prop} {h h' : List O} {σ σ' : Nat -> Loc}
theorem qoI{s:Sh}(hs:s.isAgg=true)(x:s.den):enc s x=.agg (encL s x):=by
 cases s <;> simp_all [Sh.isAgg,enc,encL]
theorem qAK{s:Sh}(hs:s.isAgg=false){x:s.den}{v:Value}(hc:RC w M s x [v]):RV w M h σ (enc s x) v:=by
 cases s with
 | int k=>simp only [RC,zz,and_true] at hc;subst hc;simp only [enc,RV]
 | bool=>simp only [RC,zz,and_true] at hc;subst hc;simp only [enc,RV]
 | unit=>cases hs
 | pair a b=>cases hs
 | sl s=>simp only [enc,RV];exact hc
theorem qoJ:(s:Sh) -> {x:s.den} -> {cs:List Value}->RVs w M h σ (encL s x) cs->RVs w M h' σ' (encL s x) cs
 | .int _,_,_,hv=>by simp only [encL,RVs,RV] at hv ⊢;exact hv
 | .bool,_,_,hv=>by simp only [encL,RVs,RV] at hv ⊢;exact hv
 | .unit,_,_,hv=>by simp only [encL,RVs] at hv ⊢;exact hv
 | .sl _,_,_,hv=>by simp only [encL,RVs,RV] at hv ⊢;exact hv
 | .pair a b,x,cs,hv=>by
  have hl:=hv.length
  simp only [encL] at hv ⊢
  have h1:=hv.take (encL a x.1).length
  have h2:=hv.drop (encL a x.1).length
  rw [List.take_left] at h1
  rw [zCW] at h2
  have h3:RVs w M h' σ' (encL a x.1) _:=qoJ a h1
  have h4:RVs w M h' σ' (encL b x.2) _:=qoJ b h2
  have:=h3.append h4
  rwa [zAe] at this
theorem qAL{s:Sh}{x:s.den}{v:Value}(hv:RV w M h σ (enc s x) v):RV w M h' σ' (enc s x) v:=by
 cases hs:s.isAgg with
 | true=>
  rw [qoI hs] at hv ⊢
  simp only [RV] at hv ⊢
  obtain⟨cs,h1,h2,h3⟩:=hv
  exact⟨cs,h1,h2,qoJ s h3⟩
 | false=>cases s <;> simp_all [Sh.isAgg,enc,RV]
theorem qve:(cs:List Sh) -> {x:CDen cs} -> {vs:List Value}->RVs w M h σ (cvals cs x) vs->RVs w M h' σ' (cvals cs x) vs
 | [],_,_,hv=>by simp only [cvals,RVs] at hv ⊢;exact hv
 | c :: cs,x,vs,hv=>by
  simp only [cvals,RVs] at hv ⊢
  obtain⟨y,ys,rfl,h1,h2⟩:=hv
  refine⟨y,ys,rfl,?_,qve cs h2⟩
  simp only [RV] at h1 ⊢
  exact h1
theorem qzc{k:Kd}{x:k.den}{v:Value}(hv:RV w M h σ (k.val x) v):RV w M h' σ' (k.val x) v:=by
 cases k with
 | dat s=>exact qAL hv
 | agg s=>
  simp only [Kd.val,RV] at hv ⊢
  obtain⟨cs,h1,h2,h3⟩:=hv
  exact⟨cs,h1,h2,qoJ s h3⟩
 | ptr s=>simp only [Kd.val,RV] at hv ⊢;exact hv
 | clo g cs=>
  simp only [Kd.val,RV] at hv ⊢
  obtain⟨vs,h1,h2⟩:=hv
  exact⟨vs,h1,qve cs h2⟩
 | bnd g s=>
  simp only [Kd.val,RV,RVs] at hv ⊢
  obtain⟨vs,h1,y,ys,h2,h3,h4⟩:=hv
  exact⟨vs,h1,y,ys,h2,qAL h3,h4⟩
theorem qpG:(ks:List Kd) -> {x:Dens ks} -> {vs:List Value}->RVs w M h σ (kvals ks x) vs->RVs w M h' σ' (kvals ks x) vs
 | [],_,_,hv=>by simp only [kvals,RVs] at hv ⊢;exact hv
 | k :: ks,x,vs,hv=>by
  simp only [kvals,RVs] at hv ⊢
  obtain⟨y,ys,rfl,h1,h2⟩:=hv
  exact⟨y,ys,rfl,qzc h1,qpG ks h2⟩
theorem qxj{ks:List Kd}{x:Dens ks}{v:Value}(hv:RV w M h σ (retV (kvals ks x)) v):RV w M h' σ' (retV (kvals ks x)) v:=by
 have tupc:∀ {us:List V},(∀ {cs},RVs w M h σ us cs->RVs w M h' σ' us cs)->RV w M h σ (.tup us) v->RV w M h' σ' (.tup us) v:=fun hu hv=>by
  simp only [RV] at hv ⊢
  obtain⟨cs,h1,h2⟩:=hv
  exact⟨cs,h1,hu h2⟩
 match ks,x with
 | [],_=>exact tupc (qpG []) hv
 | [k],x=>exact qzc hv
 | k :: k' :: ks,x=>exact tupc (qpG (k :: k' :: ks)) hv
theorem RC.flat:(s:Sh)->s.flat=true -> {x:s.den} -> {cs:List Value}->RC w M s x cs->RC w' M' s x cs
 | .int _,_,_,_,h=>by simp only [RC] at h ⊢;exact h
 | .bool,_,_,_,h=>by simp only [RC] at h ⊢;exact h
 | .unit,_,_,_,h=>by simp only [RC] at h ⊢;exact h
 | .sl _,hs,_,_,_=>by cases hs
 | .pair a b,hs,_,_,h=>by
  simp only [Sh.flat,zA] at hs
  simp only [RC] at h ⊢
  obtain⟨c,d,rfl,h1,h2⟩:=h
  exact⟨c,d,rfl,RC.flat a hs.1 h1,RC.flat b hs.2 h2⟩
theorem RL.flat{s:Sh}(hs:s.flat=true){xs:List s.den}{cs:List Value}(h:RL w M s xs cs):RL w' M' s xs cs:=by
 induction xs generalizing cs with
 | nil=>simpa only [RL] using h
 | cons x xs ih=>
  simp only [RL] at h ⊢
  obtain⟨c,d,rfl,h1,h2⟩:=h
  exact⟨c,d,rfl,RC.flat s hs h1,ih h2⟩
theorem qqf:(s:Sh)->s.flat=true -> {x:s.den} -> {cs:List Value}->RVs w M h σ (encL s x) cs->RVs w' M' h' σ' (encL s x) cs
 | .int _,_,_,_,hv=>by simp only [encL,RVs,RV] at hv ⊢;exact hv
 | .bool,_,_,_,hv=>by simp only [encL,RVs,RV] at hv ⊢;exact hv
 | .unit,_,_,_,hv=>by simp only [encL,RVs] at hv ⊢;exact hv
 | .sl _,hs,_,_,_=>by cases hs
 | .pair a b,hs,x,cs,hv=>by
  simp only [Sh.flat,zA] at hs
  simp only [encL] at hv ⊢
  have h1:=hv.take (encL a x.1).length
  have h2:=hv.drop (encL a x.1).length
  rw [List.take_left] at h1
  rw [zCW] at h2
  have h3:RVs w' M' h' σ' (encL a x.1) _:=qqf a hs.1 h1
  have h4:RVs w' M' h' σ' (encL b x.2) _:=qqf b hs.2 h2
  have:=h3.append h4
  rwa [zAe] at this
theorem qvf{b:Bool}{s:Sh}(hs:s.flat=true){x:s.den}{v:Value}(hv:RV w M h σ (cval b s x) v):RV w' M' h' σ' (cval b s x) v:=by
 have ag:RV w M h σ (.agg (encL s x)) v->RV w' M' h' σ' (.agg (encL s x)) v:=fun hv=>by
  simp only [RV] at hv ⊢
  obtain⟨cs,h1,h2,h3⟩:=hv
  exact⟨cs,h1,h2,qqf s hs h3⟩
 cases b with
 | true=>exact ag hv
 | false=>
  simp only [cval,cond_false] at hv ⊢
  cases hb:s.isAgg with
  | true=>rw [qoI hb] at hv ⊢;exact ag hv
  | false=>cases s <;> simp_all [Sh.isAgg,enc,RV,Sh.flat]
theorem qwR{k:Kd}(hs:k.scal=true){x:k.den}{v:Value}(hv:RV w M h σ (k.val x) v):RV w' M' h' σ' (k.val x) v:=by
 cases k with
 | dat s=>exact qvf (b:=false) hs hv
 | agg s=>exact qvf (b:=true) hs hv
 | ptr s=>cases hs
 | clo g cs=>
  simp only [Kd.val,RV] at hv ⊢
  obtain⟨vs,h1,h2⟩:=hv
  cases cs with
  | nil=>exact⟨vs,h1,by simpa only [cvals,RVs] using h2⟩
  | cons _ _=>cases hs
 | bnd g s=>cases hs
theorem qmS:(ks:List Kd)->ks.all Kd.scal=true -> {x:Dens ks} -> {vs:List Value}->RVs w M h σ (kvals ks x) vs->RVs w' M' h' σ' (kvals ks x) vs
 | [],_,_,_,hv=>by simp only [kvals,RVs] at hv ⊢;exact hv
 | k :: ks,hs,x,vs,hv=>by
  simp only [List.all_cons,zA] at hs
  simp only [kvals,RVs] at hv ⊢
  obtain⟨y,ys,rfl,h1,h2⟩:=hv
  exact⟨y,ys,rfl,qwR hs.1 h1,qmS ks hs.2 h2⟩
theorem qzt{ks:List Kd}(hs:ks.all Kd.scal=true){x:Dens ks}{v:Value}(hv:RV w M h σ (retV (kvals ks x)) v):RV w' M' h' σ' (retV (kvals ks x)) v:=by
 have tupc:∀ {us:List V},(∀ {cs},RVs w M h σ us cs->RVs w' M' h' σ' us cs)->RV w M h σ (.tup us) v->RV w' M' h' σ' (.tup us) v:=fun hu hv=>by
  simp only [RV] at hv ⊢
  obtain⟨cs,h1,h2⟩:=hv
  exact⟨cs,h1,hu h2⟩
 match ks,x,hs with
 | [],_,hs=>exact tupc (qmS [] hs) hv
 | [k],x,hs=>simp only [List.all_cons,zA] at hs;exact qwR hs.1 hv
 | k :: k' :: ks,x,hs=>exact tupc (qmS (k :: k' :: ks) hs) hv
variable {w0 : World} {A M0 : Nat -> Prop} {hm : List O}
theorem qia(R:Rep w0 A M0 w h σ)(hs:Sub hm h){Mt:Nat->Prop}(hsub:∀ b,Mt b->mutb M0 h σ b){b:Bool}{s:Sh}{v:V}{x:Value}(hv:RV w (mutb M0 h σ) h σ v x)
  (hr:∀ u∈v.cells,RefOk hm σ Mt u) {y:s.den} (hd:decA hm b s v=some y):RV w Mt h' σ' (cval b s y) x:=by
 have agc:∀ {vs:List V},RV w (mutb M0 h σ) h σ (.agg vs) x->(∀ u∈vs,RefOk hm σ Mt u)->qea hm s vs=some y->RV w Mt h' σ' (.agg (encL s y)) x:=fun hv hr hd=>by
  simp only [RV] at hv ⊢
  obtain⟨cs,h1,h2,h3⟩:=hv
  exact⟨cs,h1,h2,qbM _ (qcf R hs hsub h3 hr hd)⟩
 cases b with
 | false=>
  simp only [decA,cond_false] at hd
  simp only [cval,cond_false]
  split at hd
  ·rename_i vs
   obtain⟨ha,hd⟩:=qc hd
   rw [qoI ha]
   exact agc hv hr hd
  ·rename_i hna
   cases hb:s.isAgg with
   | true=>rw [hb] at hd;cases hd
   | false=>
    rw [hb] at hd
    have hc:v.cells = [v]:=by cases v <;> first | rfl | exact absurd rfl (hna _)
    exact qAK hb (qcf R hs hsub (vs:=[v]) (cs:=[x]) ⟨x,[],rfl,hv,rfl⟩ (fun u hu=>hr u (by rw [hc];exact hu)) hd)
 | true=>
  simp only [decA,cond_true] at hd
  split at hd
  ·exact agc hv hr hd
  ·cases hd
theorem qrU(R:Rep w0 A M0 w h σ)(hs:Sub hm h){Mt:Nat->Prop}(hsub:∀ b,Mt b->mutb M0 h σ b){fz:Bool}(hfz:fz=false->∀ b,¬ Mt b){s:Sh}{v:V}{x:Value}(hv:RV w (mutb M0 h σ) h σ v x)
  {y:s.den} (hd:decP fz hm s v=some y):RV w Mt h' σ' (.fptr s y) x:=by
 unfold decP at hd
 split at hd
 ·obtain⟨e,rfl⟩:=qau hd
  cases e
  simp only [RV] at hv ⊢
  obtain⟨b,q,cs,h1,h2,h3,h4,h5⟩:=hv
  exact⟨b,q,cs,h1,h2,fun hm=>h3 (hsub b hm),h4,RC.sub hsub h5⟩
 ·cases fz with
  | true=>cases hd
  | false=>
   simp only [cond_false] at hd
   split at hd
   ·rename_i vs off hdr
    obtain⟨hc,hd⟩:=qc hd
    rw [zA] at hc
    have h1:=zH hc.1
    have h2:=zH hc.2
    obtain⟨b,q,cs,rfl,hcs,hrs,h1c⟩:=qiF R hs hv hdr
    have hrs':=(hrs.drop off).take s.n
    have hrc:=qcf R hs hsub hrs' (fun u hu o ver _ ver' e s' xs _ _ b _ hmt=>hfz rfl b hmt) hd
    have hca:qay w b (q+off) ((cs.drop off).take s.n):=fun j u hj=>by
     rw [zt] at hj
     split at hj
     ·rw [zAB] at hj
      have:=hcs _ u hj
      rwa [<- zAF] at this
     ·cases hj
    simp only [RV]
    refine⟨b,q+off,_,rfl,?_,hfz rfl b,hca,hrc⟩
    have hlen:=hrc.length
    obtain⟨u,hu⟩:∃ u,((cs.drop off).take s.n)[0]? = some u:=⟨_,zW (by omega)⟩
    obtain⟨o,ho,_⟩:=cells_of_cell (hca 0 u hu).1
    exact (zI.1 ho).1
   ·cases hd
theorem qrW(R:Rep w0 A M0 w h σ)(hs:Sub hm h){Mt:Nat->Prop}(hsub:∀ b,Mt b->mutb M0 h σ b){fz:Bool}(hfz:fz=false->∀ b,¬ Mt b):(cs:List Sh) -> {us:List V} -> {xs:List Value}->RVs w (mutb M0 h σ) h σ us xs ->
  {y:CDen cs}->decC fz hm cs us=some y->RVs w Mt h' σ' (cvals cs y) xs
 | [],[],xs,hv,y,hd=>by simp only [RVs] at hv;simp only [cvals,RVs];exact hv
 | [],_ :: _,xs,hv,y,hd=>by simp [decC] at hd
 | _ :: _,[],xs,hv,y,hd=>by simp [decC] at hd
 | s :: cs,v :: vs,xs,hv,y,hd=>by
  simp only [decC] at hd
  split at hd
  ·cases hd
  ·rename_i x hx
   split at hd
   ·cases hd
   ·rename_i ys hys
    cases hd
    simp only [RVs] at hv
    obtain⟨z,zs,rfl,h1,h2⟩:=hv
    simp only [cvals,RVs]
    exact⟨z,zs,rfl,qrU R hs hsub hfz h1 hx,qrW R hs hsub hfz cs h2 hys⟩
theorem qzL{hm:List O}{σ:Nat->Loc}{Mt:Nat->Prop}{c:V}(hc:noSlc c=true):RefOk hm σ Mt c:=by
 intro o ver e
 subst e
 cases hc
theorem qrV(R:Rep w0 A M0 w h σ)(hs:Sub hm h){Mt:Nat->Prop}(hsub:∀ b,Mt b->mutb M0 h σ b){fz:Bool}(hfz:fz=false->∀ b,¬ Mt b){k:Kd}{v:V}{x:Value}(hv:RV w (mutb M0 h σ) h σ v x)
  (hr:∀ u∈v.cells,RefOk hm σ Mt u) {y:k.den} (hd:decK fz hm k v=some y):RV w Mt h' σ' (k.val y) x:=by
 cases k with
 | dat s=>exact qia (b:=false) R hs hsub hv hr hd
 | agg s=>exact qia (b:=true) R hs hsub hv hr hd
 | ptr s=>exact qrU R hs hsub hfz hv hd
 | clo g cs=>
  simp only [decK] at hd
  split at hd
  ·rename_i g' us
   obtain⟨hg,hd2⟩:=qc hd
   clear hd
   have:=zB hg
   subst this
   simp only [RV] at hv
   obtain⟨vs,rfl,hvs⟩:=hv
   simp only [Kd.val,RV]
   exact⟨vs,rfl,qrW R hs hsub hfz cs hvs hd2⟩
  ·cases hd
 | bnd g s=>
  simp only [decK] at hd
  split at hd
  ·rename_i g' u
   obtain⟨hg,hd2⟩:=qc hd
   clear hd
   simp only [zA,zm] at hg
   have:=zB hg.1
   subst this
   simp only [RV,RVs] at hv
   obtain⟨vs,rfl,z,zs,h1,h2,h3⟩:=hv
   simp only [Kd.val,RV,RVs]
   exact⟨vs,rfl,z,zs,h1,qia (b:=false) R hs hsub h2 (fun c hc=>qzL (hg.2 c hc)) hd2,h3⟩
  ·cases hd
theorem qdZ(R:Rep w0 A M0 w h σ)(hs:Sub hm h){Mt:Nat->Prop}(hsub:∀ b,Mt b->mutb M0 h σ b){fz:Bool}(hfz:fz=false->∀ b,¬ Mt b):(ks:List Kd) -> {vs:List V} -> {xs:List Value}->RVs w (mutb M0 h σ) h σ vs xs ->
  (∀ v∈vs,∀ u∈v.cells,RefOk hm σ Mt u) -> {y:Dens ks}->decL fz hm ks vs=some y->RVs w Mt h' σ' (kvals ks y) xs
 | [],[],xs,hv,hr,y,hd=>by simp only [RVs] at hv;simp only [kvals,RVs];exact hv
 | [],_ :: _,xs,hv,hr,y,hd=>by simp [decL] at hd
 | _ :: _,[],xs,hv,hr,y,hd=>by simp [decL] at hd
 | k :: ks,v :: vs,xs,hv,hr,y,hd=>by
  simp only [decL] at hd
  split at hd
  ·cases hd
  ·rename_i x hx
   split at hd
   ·cases hd
   ·rename_i ys hys
    cases hd
    simp only [RVs] at hv
    obtain⟨z,zs,rfl,h1,h2⟩:=hv
    simp only [kvals,RVs]
    exact⟨z,zs,rfl,qrV R hs hsub hfz h1 (hr v (by simp)) hx,qdZ R hs hsub hfz ks h2 (fun u hu=>hr u (by simp [hu])) hys⟩
end
end Go.Abs
