import Derived.Test.YtcjecibocjbdmaaAbsSubF
namespace Go.Abs
open Go.RowKit
def rowsOk:Sh->Bool
 | .pair a b=>rowsOk a&&rowsOk b
 | .sl s=>Nat.ble 1 s.n&&rowsOk s
 | _=>true
theorem RC.excl{w:World}{M:Nat->Prop}{c:Nat}{es:Array MapEntry}{clock:Nat}(hc:w.heap[c]? = some (.map es clock)):{s:Sh}->rowsOk s=true -> {x:s.den} -> {cs:List Value}->RC w M s x cs->RC w (fun b=>M b\/b=c) s x cs
 | .int _,_,_,_,h=>by simp only [RC] at h ⊢;exact h
 | .bool,_,_,_,h=>by simp only [RC] at h ⊢;exact h
 | .unit,_,_,_,h=>by simp only [RC] at h ⊢;exact h
 | .pair a b,ho,_,_,h=>by
  simp only [rowsOk,zB] at ho
  simp only [RC] at h ⊢
  obtain⟨c',d,rfl,h1,h2⟩:=h
  exact⟨c',d,rfl,RC.excl hc ho.1 h1,RC.excl hc ho.2 h2⟩
 | .sl s,ho,xs,_,h=>by
  simp only [rowsOk,zB] at ho
  have hn:=zD ho.1
  simp only [RC] at h ⊢
  obtain⟨a,cap,rfl,h1,h2,h3⟩:=h
  refine⟨a,cap,rfl,h1,h2,fun hne=>?_⟩
  obtain⟨b,q,ha,hb,hm,hr⟩:=h3 hne
  refine⟨b,q,ha,hb,?_,fun i x hx=>?_⟩
  ·rintro (h | rfl)
   ·exact hm h
   ·obtain⟨x,hx⟩:∃ x,xs[0]? = some x:=by
     cases xs with
     | nil=>exact absurd rfl hne
     | cons x xs=>exact⟨x,rfl⟩
    obtain⟨cs,h4,h5⟩:=hr 0 x hx
    have hl:=h5.length
    have:=(h4 0 cs[0] (zP (by omega))).1
    simp [World.cell?,hc] at this
  ·obtain⟨cs,h4,h5⟩:=hr i x hx
   exact⟨cs,h4,RC.excl hc ho.2 h5⟩
theorem RC.any{w w':World}{M M':Nat->Prop}:{s:Sh}->noSl s=true -> {x:s.den} -> {cs:List Value}->RC w M s x cs->RC w' M' s x cs
 | .int _,_,_,_,h=>by simp only [RC] at h ⊢;exact h
 | .bool,_,_,_,h=>by simp only [RC] at h ⊢;exact h
 | .unit,_,_,_,h=>by simp only [RC] at h ⊢;exact h
 | .pair a b,ho,_,_,h=>by
  simp only [noSl,zB] at ho
  simp only [RC] at h ⊢
  obtain⟨c',d,rfl,h1,h2⟩:=h
  exact⟨c',d,rfl,RC.any ho.1 h1,RC.any ho.2 h2⟩
 | .sl _,ho,_,_,_=>by cases ho
theorem Dat.any{w w':World}{M M':Nat->Prop}{s:Sh}(ho:noSl s=true){x:s.den}{v:Value}(h:Dat w M s x v):Dat w' M' s x v:=⟨h.1.any ho,h.2⟩
theorem MEs.any{w w':World}{M M':Nat->Prop}{k v:Sh}(hk:noSl k=true)(hv:noSl v=true):{xs:List (Int×(k.den×v.den))} -> {es:List MapEntry}->MEs w M k v xs es->MEs w' M' k v xs es
 | [],_,h=>h
 | _ :: _,_,h=>by
  obtain⟨e,r,rfl,h1,h2⟩:=h
  exact⟨e,r,rfl,⟨h1.born,dat_rv (h1.kD.any hk),dat_rv (h1.vD.any hv)⟩,MEs.any hk hv h2⟩
theorem MEs.det{w w':World}{M M':Nat->Prop}{k v:Sh}(hk:noSl k=true)(hv:noSl v=true):{xs:List (Int×(k.den×v.den))} -> {es es':List MapEntry}->MEs w M k v xs es->MEs w' M' k v xs es'->es=es'
 | [],_,_,h,h'=>by simp only [MEs] at h h';rw [h,h']
 | _ :: _,_,_,h,h'=>by
  obtain⟨e,r,rfl,h1,h2⟩:=h
  obtain⟨e',r',rfl,h1',h2'⟩:=h'
  rw [MEs.det hk hv h2 h2']
  have a1:e.born=e'.born:=by have:=h1.born.trans h1'.born.symm;omega
  have a2:e.key=e'.key:=h1.kD.det hk h1'.kD
  have a3:e.val=e'.val:=h1.vD.det hv h1'.vD
  cases e;cases e'
  simp only at a1 a2 a3
  rw [a1,a2,a3]
open Classical in
noncomputable def roR{q:Oth}{s:Sh}(D:q.sh.den->Option (s.den×q.sh.den))(d:q.sh.den):Option s.den:=(D d).bind fun y=>if y.2=d then some y.1 else none
theorem roR_of{q:Oth}{s:Sh}{D:q.sh.den->Option (s.den×q.sh.den)}{d:q.sh.den}{y:s.den}(h:D d=some (y,d)):roR D d=some y:=by
 unfold roR;rw [h];simp
def roAt(h:List O)(q:Oth)(x:V):Option q.sh.den:=
 bif q.un then none else
 match x with
 | .ptr o _=>
  match getO h o with
  | .oth _ q' d=>bif decide (q'=q) then castSh (s:=q'.sh) (s':=q.sh) d else none
  | _=>none
 | .rptr o ver i 1000000=>
  match getO h o with
  | .nst ver' q' d=>bif Nat.beq ver ver'&&decide (q'.kd=.map q) then castSh (s:=q'.kd.sh) (s':=q.sh) (kidL q'.k q'.kd.sh d.2 i) else none
  | _=>none
 | _=>none
noncomputable def mkRo(f:Nat)(q:Oth)(s:Sh)(D:q.sh.den->Option (s.den×q.sh.den)):Ent:=
 { f:=f,run:=fun args h=>
   match args with
   | [x]=>
    match roAt h q x with
    | none=>none
    | some d=>some { α:=s.den,r:=roR D d,v:=fun y=>enc s y,h:=none }
   | _=>none }
abbrev roSig(q:Oth)(s:Sh):Sig:=⟨[.form (.ptr 0 1000000)],[.oth false q],[.dat false s],[.oth true q],[]⟩
section
variable {P : Program} {w0 : World} {A M0 : Nat -> Prop} {w : World} {h hm : List O} {σ : Nat -> Loc}
theorem roAt_sound(R:Rep w0 A M0 w h σ)(hs:Sub hm h){q:Oth}(hq:q.it=false){x:V}{v:Value}(hv:RV w (mutb M0 h σ) h σ x v){d:q.sh.den}(hat:roAt hm q x=some d) :
  q.un=false/\∃ c,v=.map (some c)/\RQ w (mutb M0 h σ) ⟨some c,0,[]⟩ q d:=by
 have key:∀ {kq:Oth} {y:kq.sh.den} {c:Nat},castSh (s:=kq.sh) (s':=q.sh) y=some d->kq=q->v=.map (some c)->RQ w (mutb M0 h σ) ⟨some c,0,[]⟩ kq y->∃ c,v=.map (some c)/\RQ w (mutb M0 h σ) ⟨some c,0,[]⟩ q d:=fun hc e hv r=>by
  subst e
  obtain⟨e,rfl⟩:=castSh_some hc
  cases e
  exact⟨_,hv,r⟩
 unfold roAt at hat
 cases hun:q.un with
 | true=>rw [hun] at hat;cases hat
 | false=>
 rw [hun,cond_false] at hat
 refine⟨rfl,?_⟩
 split at hat
 ·rename_i o off
  split at hat
  ·rename_i fz q' d' eo
   obtain⟨he,hat⟩:=cond_some hat
   have he:=zk he
   subst he
   have eh:=hs.get eo (by simp)
   simp only [RV] at hv
   obtain⟨b,ha,hx⟩:=hv
   rw [eh] at hx
   obtain⟨-,hx⟩:=hx
   rw [hq,cond_false] at hx
   have ro:=R.obj o
   rw [eh] at ro
   have rq:=ro.1.q hun
   refine key hat rfl hx ?_
   unfold RQ at rq ⊢
   rw [hq] at rq ⊢
   obtain⟨b',es,clock,ha',rest⟩:=rq
   rw [ha] at ha';cases ha'
   exact⟨b,es,clock,rfl,rest⟩
  ·cases hat
 ·rename_i o ver i
  split at hat
  ·rename_i ver' q' d' eo
   obtain⟨he,hat⟩:=cond_some hat
   simp only [zB] at he
   have he2:=zk he.2
   have hkm:kdMap q'.kd=some q:=by rw [he2];simp [kdMap,hq]
   have hkk:kidAt hm (.rptr o ver i 1000000)=some (o,ver,⟨q',d'⟩,i):=by
    simp only [kidAt,eo,hkm,he.1,cond_true]
   obtain⟨kq,hkq,eh,hi,c,hc,hvv,hK⟩:=kidAt_sound R hs hv hkk
   revert hat hK
   generalize kidL q'.k q'.kd.sh d'.2 i=y
   revert y
   rw [he2]
   intro y hat hK
   exact key hat rfl hvv hK.2.2
  ·cases hat
 ·cases hat
theorem SpecH.ro{gs:List (Nat×List Value)}{f:Nat}{q:Oth}{s:Sh}{D:q.sh.den->Option (s.den×q.sh.den)}(S:SpecH P gs f (roSig q s) D)(w:World)(A M0:Nat->Prop)(σ:Nat->Loc)(d:q.sh.den)(y:s.den×q.sh.den)(vs:List Value)
  (h1:GW gs w) (h2:∀ p∈gs,¬ A p.1) (h3:Rep w A M0 w [.oth false q d] σ) (h4:RVs w (mutb M0 [.oth false q d] σ) [.oth false q d] σ [.ptr 0 1000000] vs) (h5:D d=some y) :
  Calls P f vs.toArray w fun e w'=>∃ v σ',e=.returned v/\Next w A M0 w [.oth false q d] σ w' [.oth true q y.2] σ'/\RV w' (mutb M0 [.oth true q y.2] σ') [.oth true q y.2] σ' (enc s y.1) v:=by
 have ei:(roSig q s).ins d=([.ptr 0 1000000],[.oth false q d]):=by
  have e1:encT (roSig q s).lx d = [.dat q.sh d]:=rfl
  unfold Sig.ins
  rw [e1]
  simp only [mkRs,mkR,mkV,mkH,mkO,castSh,dif_pos]
 have eo:(roSig q s).outs y=(enc s y.1,[.oth true q y.2]):=by
  simp only [Sig.outs,Sig.alts,outsA,out1,lyOf,lfRs,lfH,lfO,List.cons_append,List.nil_append,List.append_nil,encT,Lf.enc,mkRs,mkR,mkH,mkO,castSh,dif_pos,cval,retV]
  rfl
 have:=S w A M0 σ d y vs h1 h2 (by rw [ei];exact h3) (by rw [ei];exact h4) h5
 rw [ei,eo] at this
 exact this
theorem entRo{gs:List (Nat×List Value)}{f:Nat}{q:Oth}{s:Sh}{D:q.sh.den->Option (s.den×q.sh.den)}(hb:HasBody P f)(hq:q.it=false)(hk:noSl q.k=true)(hv9:noSl q.v=true)(hs9:rowsOk s=true)(hg9:gs.all (fun p=>!p.2.isEmpty)=true)
  (S:SpecH P gs f (roSig q s) D):EntOk P gs (mkRo f q s D) where
 fn:=fun _ _ _ _=>hb
 wr:=fun args h p u y hp hu=>by
  simp only [mkRo] at hp
  split at hp
  ·split at hp
   ·cases hp
   ·cases hp;cases hu
  ·cases hp
 rd:=fun args h hm p y hsub hp _ hr w0 A M0 w σ hgl R vs hv=>by
  simp only [mkRo] at hp
  split at hp
  case h_2=>cases hp
  rename_i x
  split at hp
  ·cases hp
  rename_i d hat
  cases hp
  simp only [RVs] at hv
  obtain⟨v,_,rfl,hv,rfl⟩:=hv
  obtain⟨hun,c,rfl,rq⟩:=roAt_sound R hsub hq hv hat
  generalize hM:mutb M0 h σ=M at rq hv
  simp only at hr
  unfold roR at hr
  obtain⟨y0,hD,hy⟩:=zN.1 hr
  split at hy
  case isFalse=>cases hy
  rename_i hd
  simp only [zC] at hy
  have rq0:=rq
  unfold RQ at rq
  rw [hq] at rq
  obtain⟨b0,es,clock,ha0,hbl,hcl,hE,hlt,hnd⟩:=rq
  cases ha0
  have hclt:c<w.heap.size:=(zF.1 hbl).1
  have hGW:=hgl.now R
  have hown:∀ b,own [O.oth false q d] (fun _=>⟨some c,0,[]⟩) b↔b=c:=fun b=>by
   constructor
   ·rintro⟨o,l1,o1⟩
    cases o with
    | zero=>have o1:some c=some b:=o1;cases o1;rfl
    | succ o=>simp [getO,live] at l1
   ·rintro rfl;exact⟨0,rfl,rfl⟩
  have Rc:Rep w (fun b=>b=c) (fun b=>M b/\b≠c) w [O.oth false q d] (fun _=>⟨some c,0,[]⟩):=by
   refine⟨⟨rfl,TDr.rfl,rfl,Nat.le_refl _,fun _ _ _=>rfl⟩,fun b hb=>⟨R.mlt (by rw [hM];exact hb.1),hb.2⟩,fun b hb=>.inl ((hown b).1 hb),fun o o' b l1 l2 _ _=>?_,fun o=>?_⟩
   ·cases o with
    | zero=>
     cases o' with
     | zero=>rfl
     | succ o'=>simp [getO,live] at l2
    | succ o=>simp [getO,live] at l1
   ·cases o with
    | zero=>
     refine⟨RQ.u ?_,fun h=>by cases h⟩
     unfold RQ
     rw [hq]
     exact⟨c,es,clock,rfl,hbl,hcl,hE.any hk hv9,hlt,hnd⟩
    | succ o=>simp only [getO,List.getD_cons_succ,List.getD_nil];trivial
  have hgA:∀ p∈gs,¬ (p.1=c):=fun p hp e=>by
   have h1:=za.1 hg9 p hp
   obtain⟨-,h2⟩:=hGW p hp
   cases hp2:p.2 with
   | nil=>rw [hp2] at h1;cases h1
   | cons u us=>
    have:=h2 0 u (by rw [hp2];rfl)
    rw [e] at this
    simp [World.cell?,hbl] at this
  have hcall:=S.ro w (fun b=>b=c) (fun b=>M b/\b≠c) (fun _=>⟨some c,0,[]⟩) d y0 [.map (some c)] hGW hgA Rc (by
   show RVs _ _ _ _ [V.ptr 0 1000000] [Value.map (some c)]
   simp only [RVs,RV]
   exact⟨_,_,rfl,⟨c,rfl,rfl,by rw [hq];rfl⟩,rfl⟩) hD
  refine hcall.mono fun e w' ⟨v,σ',he,nx,hx⟩=>⟨v,he,?_⟩
  obtain⟨y1,d'⟩:=y0
  simp only at hd hy
  subst hd
  subst hy
  have nown:∀ b,¬ own [O.oth true q d'] σ' b:=by
   rintro b ⟨o,l1,-⟩
   cases o with
   | zero=>cases l1
   | succ o=>simp [getO,live] at l1
  have ro:=nx.rep.obj 0
  have rq':RQ w' _ (σ' 0) q d':=RU.q ro.1 hun
  have hσ:(σ' 0).a=some c:=(nx.step 0).2
  unfold RQ at rq'
  rw [hq] at rq'
  obtain⟨b1,es',clock',ha1,hbl',hcl',hE',-,-⟩:=rq'
  rw [hσ] at ha1;cases ha1
  have hes:es'=es:=Array.ext' (hE'.det hk hv9 hE)
  have hck:clock'=clock:=by have:=hcl'.trans hcl.symm;omega
  subst hes;subst hck
  have hbelow:Below w.heap.size w w':=⟨nx.goes.os,nx.goes.tape,nx.goes.output,nx.goes.size,fun b hb=>by
   by_cases e:b=c
   ·rw [e,hbl,hbl']
   ·exact nx.goes.block b hb fun ho=>e ((hown b).1 ho)⟩
  refine⟨hbelow,?_⟩
  have hdat:=rv_dat hx
  refine dat_rv ⟨RC.sub (M:=fun b=>mutb (fun b=>M b/\b≠c) [O.oth true q d'] σ' b\/b=c) (fun b hb=>?_) (hdat.1.excl hbl' hs9),hdat.2⟩
  by_cases e:b=c
  ·exact .inr e
  ·exact .inl (.inl ⟨hb,e⟩)
end
end Go.Abs
