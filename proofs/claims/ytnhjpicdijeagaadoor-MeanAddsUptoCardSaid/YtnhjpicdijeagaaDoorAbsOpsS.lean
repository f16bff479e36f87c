import Derived.Test.YtnhjpicdijeagaaDoorAbsOpsR
import Derived.Laws.MakeOwn
namespace Go.Abs
open Go.RowKit
theorem qae{h:List O}{i:Nat}(hne:getO h i≠.none):i<h.length:=by
 rcases zAO i h.length with hh | hh
 ·exact hh
 ·exfalso;apply hne;simp [getO,List.getD,zX hh]
theorem qad{h:List O}{i:Nat}(hi:i<h.length)(o:O)(j:Nat):getO (h.set i o) j=if i=j then o else getO h j:=by
 unfold getO
 simp only [zK,zAc]
 split
 ·rename_i e;subst e;simp
 ·rfl
theorem qbA{h:List O}(o:O)(j:Nat):getO (h ++ [o]) j=if j=h.length then o else getO h j:=by
 unfold getO
 simp only [zK]
 split
 ·rename_i e;subst e;simp
 ·rename_i e
  rcases zAO j h.length with hh | hh
  ·rw [zl hh]
  ·rw [zu hh,zX hh,zX (by simp;omega)]
theorem Rep.ext{w0:World}{A M0:Nat->Prop}{w:World}{h h':List O}{σ:Nat->Loc}(R:Rep w0 A M0 w h σ)(e:∀ o,getO h' o=getO h o):Next w0 A M0 w h σ w h' σ:=by
 have ho:∀ b,own h' σ b->own h σ b:=fun b ⟨o,h1,h2⟩=>⟨o,by rw [<- e];exact h1,by rw [<- e];exact h2⟩
 have k:Keeps w (mutb M0 h σ) w (mutb M0 h' σ):=⟨Nat.le_refl _,fun _ _ _=>rfl,fun b _ hm hm'=>hm (hm'.imp id (ho b))⟩
 have st:OStep h σ h' σ:=fun o=>by have:=OStep.refl h σ o;rw [e o];exact this
 exact⟨⟨R.fr,R.m0,fun b hb=>R.inA b (ho b hb),fun o o' b h1 h2 h3 h4=>R.apart o o' b (by rw [<- e];exact h1) (by rw [<- e];exact h2) (by rw [<- e];exact h3) (by rw [<- e];exact h4),fun o=>by
  rw [e o];exact (R.obj o).keeps k st fun _ _ _=>rfl⟩,⟨rfl,TDr.rfl,rfl,Nat.le_refl _,fun _ _ _=>rfl⟩,k,st⟩
section
variable {w0 : World} {A M0 : Nat -> Prop} {w : World} {h hm : List O} {σ : Nat -> Loc}
theorem frz1(R:Rep w0 A M0 w h σ){o ver:Nat}{fz:Bool}{e:TypeId}{s:Sh}{xs:List s.den}(ho:getO h o=.row fz ver e s xs):Next w0 A M0 w h σ w (h.set o (.row true ver e s xs)) σ:=by
 have hlt:=qae (h:=h) (i:=o) (by rw [ho];simp)
 have hg:=qad hlt (.row true ver e s xs)
 refine Next.upd R o (by rw [ho];trivial) (by rw [hg,zJ rfl];trivial) rfl TDr.rfl rfl (Nat.le_refl _) (fun o' hne=>⟨by rw [hg,zL (fun e=>hne e.symm)],rfl⟩) (fun _ _ _=>rfl)
  (fun b hl ha=>by rw [hg,zJ rfl] at hl;cases hl) (by rw [ho];exact⟨true,ver,e,s,xs,by rw [hg,zJ rfl],Nat.le_refl _,fun _=>⟨rfl,rfl,rfl⟩⟩) (fun k st=>?_)
 rw [hg,zJ rfl]
 have ro:=R.obj o
 rw [ho] at ro
 cases fz with
 | true=>exact RO.keeps k st (fun _ _ _=>rfl) ro
 | false=>
  obtain⟨h1,cs,h2,h3⟩:=ro
  have hnm:∀ b,(σ o).a=some b->¬ mutb M0 (h.set o (.row true ver e s xs)) σ b:=fun b ha hm'=>by
   have hown:own h σ b:=⟨o,by rw [ho];rfl,.of ha⟩
   rcases hm' with hm' | ⟨o',hl',ha'⟩
   ·obtain⟨x1,x2⟩:=R.m0 b hm'
    rcases R.inA b hown with h | h
    ·exact x2 h
    ·omega
   ·rw [hg] at hl' ha'
    split at hl'
    ·cases hl'
    ·rename_i hne
     rw [zL hne] at ha'
     exact hne (R.apart o o' b (by rw [ho];rfl) hl' (.of ha) ha')
  refine⟨h1,?_,fun b ha=>⟨qdi h2 ha,hnm b ha⟩⟩
  refine qje (M:=mutb M0 h σ) h2 h3 (fun b hb=>?_) hnm
  rcases hb with hb | ⟨o',hl',ha'⟩
  ·exact .inl hb
  ·rw [hg] at hl' ha'
   split at hl'
   ·cases hl'
   ·rename_i hne
    rw [zL hne] at ha'
    exact .inr ⟨o',hl',ha'⟩
def SubF(hm h:List O):Prop:=∀ o,getO hm o=.none\/getO hm o=getO h o\/∃ fz ver e s xs,getO hm o=.row fz ver e s xs/\getO h o=.row true ver e s xs
theorem Sub.f(s:Sub hm h):SubF hm h:=fun o=>(s o).imp id .inl
theorem qjW(hs:SubF hm h)(R:Rep w0 A M0 w h σ)(vs:List V):Next w0 A M0 w h σ w (qai (frzL hm vs) h) σ:=by
 induction vs generalizing h with
 | nil=>exact Next.refl R
 | cons v vs ih=>
  cases v with
  | slc o ver=>
   simp only [frzL]
   split
   ·rename_i fz ver' e s xs eo
    cases hv:Nat.beq ver ver' with
    | false=>exact ih hs R
    | true=>
     simp only [cond_true,qai]
     have eh:∃ fz',getO h o=.row fz' ver' e s xs:=by
      rcases hs o with h' | h' | ⟨fz1,ver1,e1,s1,xs1,h1,h2⟩
      ·rw [eo] at h';cases h'
      ·exact⟨fz,by rw [<- h',eo]⟩
      ·rw [eo] at h1;cases h1;exact⟨true,h2⟩
     obtain⟨fz',eh⟩:=eh
     have n1:=frz1 R eh
     have hlt:=qae (h:=h) (i:=o) (by rw [eh];simp)
     refine n1.trans (ih (fun o'=>?_) n1.rep) R
     rw [qad hlt]
     split
     ·rename_i e';subst e';exact .inr (.inr ⟨fz,ver',e,s,xs,eo,rfl⟩)
     ·exact hs o'
   ·exact ih hs R
  | _=>exact ih hs R
theorem qbo(ss:List (Nat×O))(h:List O):(qai ss h).length=h.length:=by
 induction ss generalizing h with
 | nil=>rfl
 | cons p ss ih=>obtain⟨i,o⟩:=p;simp [qai,ih]
theorem qfM(ss:List (Nat×O)){h:List O}(j:Nat):getO (qai ss h) j=getO h j\/∃ o,(j,o)∈ss/\getO (qai ss h) j=o:=by
 induction ss generalizing h with
 | nil=>exact .inl rfl
 | cons p ss ih=>
  obtain⟨i,o⟩:=p
  simp only [qai]
  rcases ih (h:=h.set i o) with h' | ⟨o',h1,h2⟩
  ·by_cases e:i=j
   ·subst e
    by_cases hi:i<h.length
    ·rw [qad hi,zJ rfl] at h'
     exact .inr ⟨o,zAH ..,h'⟩
    ·rw [List.set_eq_of_length_le (by omega)] at h' ⊢
     exact .inl h'
   ·left
    rw [h']
    unfold getO
    simp [zK,e]
  ·exact .inr ⟨o',zb _ h1,h2⟩
theorem qiA{vs:List V}{i:Nat}{o:O}(hmem:(i,o)∈frzL hm vs):∃ fz ver e s xs,getO hm i=.row fz ver e s xs/\o=.row true ver e s xs:=by
 induction vs with
 | nil=>cases hmem
 | cons v vs ih=>
  cases v with
  | slc o' ver=>
   simp only [frzL] at hmem
   split at hmem
   ·rename_i fz ver' e s xs eo
    cases hv:Nat.beq ver ver' with
    | false=>rw [hv] at hmem;exact ih hmem
    | true=>
     rw [hv] at hmem
     simp only [cond_true,zi,zN] at hmem
     rcases hmem with⟨rfl,rfl⟩ | hmem
     ·exact⟨fz,ver',e,s,xs,eo,rfl⟩
     ·exact ih hmem
   ·exact ih hmem
  | _=>exact ih hmem
theorem qtg{vs:List V}{hx:List O}(hlen:∀ i,getO hm i≠.none->i<hx.length){o ver:Nat}(hv:V.slc o ver∈vs){ver':Nat}{e:TypeId}{s:Sh}{xs:List s.den}
  (hg:getO (qai (frzL hm vs) hx) o=.row false ver' e s xs) (hh:∃ fz ver1 e1 s1 xs1,getO hm o=.row fz ver1 e1 s1 xs1/\ver=ver1):False:=by
 obtain⟨fz,ver1,e1,s1,xs1,h1,h2⟩:=hh
 subst h2
 have key:∀ (vs:List V) (hx:List O),o<hx.length->V.slc o ver∈vs->∃ ver e s xs,getO (qai (frzL hm vs) hx) o=.row true ver e s xs:=by
  intro vs
  induction vs with
  | nil=>intro hx _ hv;cases hv
  | cons v vs ih=>
   intro hx hlt hv
   by_cases hin:V.slc o ver∈vs
   ·cases v with
    | slc o' ver'=>
     simp only [frzL]
     split
     ·rename_i fz' ver'' e' s' xs' eo
      cases hvv:Nat.beq ver' ver'' with
      | false=>exact ih hx hlt hin
      | true=>simp only [cond_true,qai];exact ih _ (by simpa using hlt) hin
     ·exact ih hx hlt hin
    | _=>exact ih hx hlt hin
   ·have hveq:v=.slc o ver:=by
     rcases zi.1 hv with h | h
     ·exact h.symm
     ·exact absurd h hin
    subst hveq
    simp only [frzL,h1]
    simp only [Nat.beq_refl,cond_true,qai]
    rcases qfM (frzL hm vs) (h:=hx.set o (.row true ver e1 s1 xs1)) o with h' | ⟨o',h3,h4⟩
    ·rw [h',qad hlt,zJ rfl];exact⟨_,_,_,_,rfl⟩
    ·obtain⟨_,ver2,e2,s2,xs2,_,h6⟩:=qiA h3
     rw [h4,h6];exact⟨_,_,_,_,rfl⟩
 obtain⟨_,_,_,_,h5⟩:=key vs hx (hlen o (by rw [h1];simp)) hv
 rw [h5] at hg
 cases hg
theorem qAu(hs:Sub hm h)(hlen:∀ i,getO hm i≠.none->i<h.length)(vs:List V):Sub (qai (frzL hm vs) hm) (qai (frzL hm vs) h):=by
 have gen:∀ (ss:List (Nat×O)) (a b:List O),(∀ p∈ss,p.1<a.length/\p.1<b.length)->Sub a b->Sub (qai ss a) (qai ss b):=by
  intro ss
  induction ss with
  | nil=>intro a b _ h;exact h
  | cons p ss ih=>
   intro a b hlt hab
   obtain⟨i,o⟩:=p
   simp only [qai]
   obtain⟨l1,l2⟩:=hlt _ (zAH ..)
   refine ih _ _ (fun p hp=>by have:=hlt p (zb _ hp);simpa using this) (fun j=>?_)
   rw [qad l1,qad l2]
   split
   ·exact .inr rfl
   ·exact hab j
 refine gen _ _ _ (fun p hp=>?_) hs
 obtain⟨i,o⟩:=p
 obtain⟨fz,ver,e,s,xs,h1,_⟩:=qiA hp
 have:getO hm i≠.none:=by rw [h1];simp
 exact⟨qae this,hlen i this⟩
end
end Go.Abs
namespace Go.Abs
open Go.RowKit
def qaO(h:List O)(ss:List (Nat×O))(mk:Option O)(nid:Nat)(H:List O):Prop:=
 match mk with
 | none=>H=qai ss h
 | some ob=>getO H nid=ob/\∀ o,o≠nid->getO H o=getO (qai ss h) o
def updL(σ:Nat->Loc)(o:Nat)(l:Loc):Nat->Loc:=fun i=>if i=o then l else σ i
theorem qZ(σ:Nat->Loc)(o:Nat)(l:Loc):updL σ o l o=l:=zJ rfl
theorem qaE(σ:Nat->Loc)(l:Loc){o o':Nat}(h:o'≠o):updL σ o l o'=σ o':=zL h
section
variable {P : Program} {C : Ctx} {r : Option Nat} {n : Nat} {w0 : World} {A M0 : Nat -> Prop} {w w' : World} {h hm H : List O} {σ : Nat -> Loc} {t : Nat -> V} {a : Act} {o : Oper} {ρ : Type} {nid : Nat} {ob : O}
def PostW(w0:World)(A M0:Nat->Prop)(w:World)(h:List O)(σ:Nat->Loc)(H:List O)(v:V)(x:Value)(w':World):Prop:=
 ∃ σ',Next w0 A M0 w h σ w' H σ'/\RV w' (mutb M0 H σ') H σ' v x
theorem qhB(R:Rep w0 A M0 w h σ)(hn:getO h nid=.none)(hH:getO H nid=ob)(hH':∀ o,o≠nid->getO H o=getO h o)(g:Below w.heap.size w w')(l:Loc)
  (hl:∀ b,Oat ob l b->w.heap.size<=b) (hob:Keeps w (mutb M0 h σ) w' (mutb M0 H (updL σ nid l))->OStep h σ H (updL σ nid l)->RO w' (mutb M0 H (updL σ nid l)) H (updL σ nid l) l ob) :
  Next w0 A M0 w h σ w' H (updL σ nid l):=by
 refine Next.updG R nid g.os g.tape g.output g.size (fun o' e=>⟨hH' o' e,qaE σ l e⟩) (fun b hb _=>g.block b hb) (fun b hl' ha=>.inr ?_) (by rw [hn];trivial) (fun k st=>?_)
 ·rw [qZ,hH] at ha;exact hl b ha
 ·rw [qZ,hH];exact hob k st
theorem qeL(w:World)(o:Obj):Below w.heap.size w (w.alloc o):=(Below.refl _ _).alloc (Nat.le_refl _) o
theorem qCX(R:Rep w0 A M0 w h σ)(hn:getO h nid=.none){vs:List V}(hH:getO H nid=.cells vs)(hH':∀ o,o≠nid->getO H o=getO h o){cs:Array Value}(e:TypeId)
  (hr:RVs w (mutb M0 h σ) h σ vs cs.toList) (h1:∀ c∈cs.toList,c.oneCell'=true):PostW w0 A M0 w h σ H (.ptr nid 0) (.pointer (some ⟨w.heap.size,0,none⟩)) (w.alloc (.cells cs e)):=by
 refine⟨updL σ nid ⟨some w.heap.size,0,[]⟩,qhB R hn hH hH' (qeL _ _) ⟨some w.heap.size,0,[]⟩ (fun b hb=>by cases hb;exact Nat.le_refl _) (fun k st=>?_),?_⟩
 ·exact⟨w.heap.size,e,cs,rfl,heap_alloc_new _ _,RVs.keeps k st hr,h1⟩
 ·simp only [RV]
  exact⟨w.heap.size,by rw [qZ],by rw [hH];rfl⟩
theorem qAC(hT:TOk P C.T)(R:Rep w0 A M0 w h σ){e:TypeId}{te:TE}(hte:tlook C.T e=some te)(ho:o.op=.alloc e)(hn:getO h nid=.none)(hH:qaO h [] (some (.cells te.zero)) nid H) :
  Does r n P o a w (PostW w0 A M0 w h σ H (.ptr nid 0)):=by
 obtain⟨i,z,hi⟩:=hT.get hte
 obtain⟨hz1,hz2⟩:=qip (w:=w) (M:=mutb M0 h σ) (h:=h) (σ:=σ) te.zero hi.zv
 refine qaH (by rw [ho];simp) (x:=.pointer (some ⟨w.heap.size,0,none⟩)) (w':=w.alloc (.cells z.cells e)) ?_ (qCX R hn hH.1 hH.2 e hz1 hz2)
 simp only [execOp,ho,Instr.alloc,zeroValue,typeInfo,Sem.run_bind,run_program,Result.andThen_ok,hi.info,Sem.run_pure,hi.zero,newVar,newRow,run_newObj_alloc]
theorem qDM(R:Rep w0 A M0 w h σ)(hrt:∀ i,RV w (mutb M0 h σ) h σ (t i) (a.tmps.getD i undef)){e:TypeId}{x:Operand}(hx:(ev t x).okStore=true)(ho:o.op=.box e x)(hn:getO h nid=.none)
  (hH:qaO h [] (some (.cells (ev t x).cells)) nid H):Does r n P o a w (PostW w0 A M0 w h σ H (.ptr nid 0)):=by
 obtain⟨hz1,hz2⟩:=qxb (qj hrt x) hx
 refine qaH (by rw [ho];simp) (x:=.pointer (some ⟨w.heap.size,0,none⟩)) (w':=w.alloc (.cells (a.eval x).cells e)) ?_ (qCX R hn hH.1 hH.2 e hz1 hz2)
 simp only [execOp,ho,Instr.box,Sem.run_bind,Result.andThen_ok,Sem.run_pure,newVar,newRow,run_newObj_alloc]
theorem qxA(R:Rep w0 A M0 w h σ)(hn:getO h nid=.none){e:TypeId}{s:Sh}{xs:List s.den}(hH:getO H nid=.row false 0 e s xs)(hH':∀ o,o≠nid->getO H o=getO h o)
  (g:Below w.heap.size w w') (hs1:1<=s.n) (l:Loc) (hl:∀ b,l.a=some b->w.heap.size<=b) {cs:List Value} (hown:w'.ownsRow 0 e s.n (rowV l xs.length) xs.length cs) (hr:RL w (mutb M0 h σ) s xs cs) :
  PostW w0 A M0 w h σ H (.slc nid 0) (rowV l xs.length) w':=by
 refine⟨updL σ nid l,qhB R hn hH hH' g l hl (fun k st=>?_),?_⟩
 ·exact⟨hs1,cs,hown,RL.keeps k hr⟩
 ·simp only [RV]
  exact⟨false,0,e,s,xs,hH,Nat.le_refl _,rfl,fun _=>by rw [qZ];rfl⟩
def repL(z:List Value):Nat->List Value
 | 0=>[]
 | n+1=>z++repL z n
theorem qkN(z:List Value)(m:Nat):(repL z m).length=m*z.length:=by
 induction m with
 | zero=>simp [repL]
 | succ m ih=>simp [repL,ih,zAM];omega
theorem qoD(z:List Value)(hz:0<z.length):(m i:Nat)->i<m*z.length->(repL z m)[i]? = z[i % z.length]?
 | 0,i,hi=>by simp at hi
 | m+1,i,hi=>by
  simp only [repL]
  rcases zAO i z.length with h | h
  ·rw [zl h,Nat.mod_eq_of_lt h]
  ·rw [zu h,qoD z hz m (i - z.length) (by rw [zAM] at hi;omega),Nat.mod_eq_sub_mod h]
theorem qkq(z:Array Value)(hz:0<z.size)(m:Nat):(madeCells z (m*z.size)).toList=repL z.toList m:=by
 apply zAY
 intro i
 rcases zAO i (m*z.size) with h | h
 ·rw [qoD z.toList (by simpa using hz) m i (by simpa using h)]
  have hmod:i % z.size<z.size:=zCX _ hz
  simp [madeCells,h,hmod]
 ·rw [zX (by simp [madeCells];exact h),zX (by rw [qkN];simpa using h)]
theorem RL.rep{M:Nat->Prop}{s:Sh}{z:List Value}(hz:RC w M s s.zero z)(m:Nat):RL w M s (List.replicate m s.zero) (repL z m):=by
 induction m with
 | zero=>rfl
 | succ m ih=>exact⟨z,_,rfl,hz,ih⟩
theorem RVs.rep{M:Nat->Prop}{vs:List V}{z:List Value}(hz:RVs w M h σ vs z)(m:Nat):RVs w M h σ (qvW vs m) (repL z m):=by
 induction m with
 | zero=>rfl
 | succ m ih=>exact hz.append ih
theorem qBQ{z:List Value}(hz:∀ c∈z,c.oneCell'=true)(m:Nat):∀ c∈repL z m,c.oneCell'=true:=by
 induction m with
 | zero=>intro c hc;cases hc
 | succ m ih=>
  intro c hc
  rcases zU.1 hc with hc | hc
  ·exact hz c hc
  ·exact ih c hc
theorem qAl{M:Nat->Prop}{ver i:Nat}{e:TypeId}{t:Kt}{hl:Option (Int×V)}{d:List t.sh.den}(hH:getO H nid=.kds ver (.row e) t hl d):RV w M H σ (.rptr nid ver i 2000000) (rowK (σ nid) d.length):=by
 simp only [RV]
 rw [hH]
 exact⟨rfl,Nat.le_refl _,rfl,fun _=>.inl ⟨rfl,rfl⟩⟩
theorem qrc(hT:TOk P C.T)(R:Rep w0 A M0 w h σ)(hrt:∀ i,RV w (mutb M0 h σ) h σ (t i) (a.tmps.getD i undef)){ty:TypeId}{xl xc:Operand}{kt:Kt}(ho:o.op=.makeSlice ty xl xc){K:V->List (Nat×O)->Option O->Option ρ}{res:ρ}
  (hb:qhR C nid ty (ev t xl) (ev t xc) kt K=some res) :
  ∃ v ss mk,K v ss mk=some res/\∀ H,qaO h ss mk nid H->(mk.isSome=true->getO h nid=.none)->Does r n P o a w (PostW w0 A M0 w h σ H v):=by
 unfold qhR at hb;cases hb
theorem qrd(hT:TOk P C.T)(R:Rep w0 A M0 w h σ)(hrt:∀ i,RV w (mutb M0 h σ) h σ (t i) (a.tmps.getD i undef)){ty:TypeId}{xl xc:Operand}(ho:o.op=.makeSlice ty xl xc){K:V->List (Nat×O)->Option O->Option ρ}{res:ρ}
  (hb:qeH C nid ty (ev t xl) (ev t xc) K=some res) :
  ∃ v ss mk,K v ss mk=some res/\∀ H,qaO h ss mk nid H->(mk.isSome=true->getO h nid=.none)->Does r n P o a w (PostW w0 A M0 w h σ H v):=by
 have el:=qj hrt xl
 have ec:=qj hrt xc
 unfold qeH at hb
 split at hb
 ·cases hb
 ·rename_i e ee he
  obtain⟨hu,i,z,hi⟩:=qbV hT he
  split at hb
  ·cases hb
  ·rename_i s hs
   split at hb
   ·rename_i kl l e1
    split at hb
    ·rename_i kc c e2
     rw [e1] at el
     rw [e2] at ec
     simp only [RV] at el ec
     obtain⟨h1,hb⟩:=qc hb
     obtain⟨h2,hb⟩:=qc hb
     simp only [zA,zQ] at h2
     simp only [zA] at h1
     have hb1:=zH h1.2
     have h1:=zH h1.1
     refine⟨_,_,_,hb,fun H hH hn=>?_⟩
     have hzs:=hi.zsize
     obtain⟨hsn,hz⟩:=hi.sh s hs
     have hbytes:(i.bytes:Int)*c<=281474976710656:=by rw [hi.bytes,Int.mul_comm];exact h2.2.2
     have hc0:0<=c:=by omega
     have hcap:c<=9223372036854775807:=by
      have:c*1<=c*ee.bytes:=Int.mul_le_mul_of_nonneg_left (by omega) hc0
      omega
     have hrun:=run_make (P:=P) w ty e i z hu hi.info hi.zero kl kc l c h2.1 h2.2.1 hbytes hcap
     refine qaH (by rw [ho];simp) (x:=rowV ⟨some w.heap.size,c.toNat,[]⟩ l.toNat) (w':=w.alloc (.cells (madeCells z.cells (c.toNat*i.size)) e)) ?_ ?_
     ·simp only [execOp,ho,el,ec,Sem.run_bind,hrun,Result.andThen_ok,Sem.run_pure];rfl
     ·have hlen:(List.replicate l.toNat s.zero).length=l.toNat:=by simp
      have:=qxA (l:=⟨some w.heap.size,c.toNat,[]⟩) (cs:=repL z.cells.toList l.toNat) R (hn rfl) hH.1 hH.2 (qeL w (.cells (madeCells z.cells (c.toNat*i.size)) e)) (by rw [hsn];exact h1) (fun b hb=>by cases hb;exact Nat.le_refl _) (by
       rw [hlen]
       refine⟨by rw [qkN,hsn];simp [hzs],.inr ⟨w.heap.size,c.toNat,_,rfl,zAE _,heap_alloc_new _ _,by omega,by unfold maxLen;omega,by rw [size_madeCells,hi.size,hsn],?_⟩⟩
       have e3:i.size=z.cells.size:=by rw [hi.size,hzs]
       rw [e3,qkq z.cells (by omega),hsn,<- hzs]
       apply zAY
       intro j
       rw [zt]
       split
       ·rename_i hj
        rw [qoD _ (by simp;omega) _ _ (by simp;exact zM hj (zy _ (by omega))),qoD _ (by simp;omega) _ _ (by simpa using hj)]
       ·rename_i hj
        rw [zX (by rw [qkN];simp;omega)]) (RL.rep (hz w _) l.toNat)
      rw [hlen] at this
      exact this
    ·cases hb
   ·cases hb
theorem qti(hT:TOk P C.T)(R:Rep w0 A M0 w h σ)(hrt:∀ i,RV w (mutb M0 h σ) h σ (t i) (a.tmps.getD i undef)){ty:TypeId}{xl xc:Operand}(ho:o.op=.makeSlice ty xl xc){K:V->List (Nat×O)->Option O->Option ρ}{res:ρ}
  (hb:qfN C nid ty (ev t xl) (ev t xc) K=some res) :
  ∃ v ss mk,K v ss mk=some res/\∀ H,qaO h ss mk nid H->(mk.isSome=true->getO h nid=.none)->Does r n P o a w (PostW w0 A M0 w h σ H v):=by
 unfold qfN at hb
 split at hb
 ·exact qrc hT R hrt ho hb
 ·exact qrd hT R hrt ho hb
theorem qre(hT:TOk P C.T)(R:Rep w0 A M0 w h σ)(hs:Sub hm h)(hrt:∀ i,RV w (mutb M0 h σ) h σ (t i) (a.tmps.getD i undef)){ty:TypeId}{m:Nat}{ps:Array (Nat×Operand)}(ho:o.op=.buildSlice ty m ps)
  {K:V->List (Nat×O)->Option O->Option ρ} {res:ρ} (hb:qdS C t hm nid ty m ps.toList K=some res) :
  ∃ v ss mk,K v ss mk=some res/\∀ H,qaO h ss mk nid H->(mk.isSome=true->getO h nid=.none)->Does r n P o a w (PostW w0 A M0 w h σ H v):=by
 unfold qdS at hb
 split at hb
 ·cases hb
 ·rename_i e ee he
  obtain⟨hu,i,z,hi⟩:=qbV hT he
  split at hb
  ·cases hb
  ·rename_i s hsh
   obtain⟨h1,hb⟩:=qc hb
   simp only [zA] at h1
   have h24:=zH h1.1
   have h1:=zH h1.2
   split at hb
   ·cases hb
   ·rename_i vs hfv
    split at hb
    ·cases hb
    ·rename_i xs hxs
     refine⟨_,_,_,hb,fun H hH hn=>?_⟩
     obtain⟨hz1,hz2⟩:=qip (w:=w) (M:=mutb M0 h σ) (h:=h) (σ:=σ) ee.zero hi.zv
     obtain⟨hsn,_⟩:=hi.sh s hsh
     have hzs:=hi.zsize
     have hmc:=qkq z.cells (by omega) m
     obtain⟨ds,hf1,hf2,hf3⟩:=qjX (place':=fun j=>some (j*ee.size,ee.size)) (cs:=madeCells z.cells (m*z.cells.size)) (fun j p hp=>hp) hrt (qj hrt) ps.toList (by rw [hmc];exact hz1.rep m) (by rw [hmc];exact qBQ hz2 m) hfv
     have nf:=qjW hs.f R vs
     have hsub:=qAu hs (fun i hi=>qae (by rcases hs i with h' | h';exact absurd h' hi;rw [<- h'];exact hi)) vs
     have hv2:RVs w (mutb M0 (qai (frzL hm vs) h) σ) (qai (frzL hm vs) h) σ vs ds.toList:=RVs.keeps nf.keeps nf.step hf2
     obtain⟨hrl,hxl⟩:=qeW nf.rep hsub (Mt:=mutb M0 (qai (frzL hm vs) h) σ) (fun b hb=>hb) m hv2 (fun v hv o ver e' ver' ty' s' ys hg hvv b hb hmt=>by
      subst e'
      rcases qfM (frzL hm vs) (h:=hm) o with h' | ⟨ob,h3,h4⟩
      ·exact qtg (hx:=hm) (fun i hi=>qae hi) hv hg ⟨_,_,_,_,_,by rw [<- h'];exact hg,hvv⟩
      ·obtain⟨_,_,_,_,_,_,h6⟩:=qiA h3
       rw [h4,h6] at hg;cases hg) hxs
     have hds:ds.size=m*ee.size:=by
      have:=hrl.length
      simp [hxl,hsn] at this
      exact this
     refine qaH (by rw [ho];simp) (x:=rowV ⟨some w.heap.size,m,[]⟩ m) (w':=w.alloc (.cells ds e)) ?_ ?_
     ·have hfill:Instr.fill (fun i=>some (i*ee.size,ee.size)) (madeCells (if m*ee.size=0 then #[] else z.cells) (m*ee.size)) (ps.map fun x=>(x.1,a.eval x.2)).toList=some ds:=by
       have e5:(ps.map fun x=>(x.1,a.eval x.2)).toList=ps.toList.map fun p=>(p.1,a.eval p.2):=by simp
       rw [e5,<- hf1,hzs]
       by_cases h0:m*ee.size=0
       ·rw [zJ h0,h0,show madeCells #[] 0=madeCells z.cells 0 by simp [madeCells]]
       ·rw [zL h0]
      have h24':¬ (2 ^ 24<m*ee.size):=by omega
      unfold madeCells at hfill
      simp only [execOp,ho,Instr.buildSlice,Sem.run_bind,run_underlying hu,Result.andThen_ok,hi.sizeOf,gt_iff_lt,h24',if_false,Sem.run_pure]
      by_cases h0:m*ee.size=0
      ·rw [zJ h0] at hfill
       simp only [zJ h0,Sem.run_bind,Sem.run_pure,Result.andThen_ok]
       rw [hfill]
       simp only [newRow,Sem.run_bind,run_newObj_alloc,Result.andThen_ok,Sem.run_pure]
       rfl
      ·rw [zL h0] at hfill
       simp only [zL h0,Sem.run_bind,zeroValue,typeInfo,run_program,Result.andThen_ok,hi.info,hi.zero,Sem.run_pure]
       rw [hfill]
       simp only [newRow,Sem.run_bind,run_newObj_alloc,Result.andThen_ok,Sem.run_pure]
       rfl
     ·have hn':getO (qai (frzL hm vs) h) nid=.none:=by
       rcases qfM (frzL hm vs) (h:=h) nid with h' | ⟨ob,h3,h4⟩
       ·rw [h'];exact hn rfl
       ·obtain⟨_,_,_,_,_,h5,_⟩:=qiA h3
        rcases hs nid with h' | h'
        ·rw [h5] at h';cases h'
        ·rw [<- h',h5] at hn;cases hn rfl
      have:=qxA (l:=⟨some w.heap.size,m,[]⟩) (cs:=ds.toList) nf.rep hn' hH.1 hH.2 (qeL w (.cells ds e)) (by rw [hsn];exact h1) (fun b hb=>by cases hb;exact Nat.le_refl _) (by
       rw [hxl]
       exact⟨by simp [hds,hsn],.inr ⟨w.heap.size,m,ds,rfl,zAE _,heap_alloc_new _ _,Nat.le_refl _,by unfold maxLen;have:m*1<=m*ee.size:=zBu _ h1;omega,by rw [hds,hsn],by rw [hsn,<- hds,<- zAt,zAR]⟩⟩) hrl
      rw [hxl] at this
      obtain⟨σ',n2,hv⟩:=this
      exact⟨σ',nf.trans n2 R,hv⟩
end
end Go.Abs
namespace Go.Abs
open Go.RowKit
section
variable {P : Program} {C : Ctx} {r : Option Nat} {n : Nat} {w0 : World} {A M0 : Nat -> Prop} {w w' : World} {h hm H : List O} {σ : Nat -> Loc} {t : Nat -> V} {a : Act} {o : Oper} {ρ : Type} {nid : Nat} {ob : O}
theorem qjP(w:World)(g:Nat)(cs:Array Value):(w.setRow g cs).os=w.os/\TDr w (w.setRow g cs)/\(w.setRow g cs).output=w.output/\(w.setRow g cs).heap.size=w.heap.size /\
  ∀ k,k≠g->(w.setRow g cs).heap[k]? = w.heap[k]?:=⟨rfl,TDr.rfl,rfl,size_setRow w g cs,fun k hk=>setRow_other w g k cs hk⟩
theorem qjd{ty:TypeId}{te:TE}{i:TypeInfo}{z:Value}(hi:TeIs P ty te i z){v:Value}(hv:v.cells.size=te.size){b off:Nat}{cur:Array Value}{e:TypeId}(hb:w.heap[b]? = some (.cells cur e (0,0)))
  (hle:off+te.size<=cur.size) (h1:∀ c∈v.cells.toList,c.oneCell'=true) :
  (Instr.storeAt ty (.pointer (some ⟨b,off,none⟩)) v).run P w=.ok () (w.setRow b (cur.toList.take off++v.cells.toList++cur.toList.drop (off+v.cells.toList.length)).toArray):=by
 have:=run_storeCells_at P b off e v.cells.toList 0 cur w hb (by simp [hv];omega) h1
 simp only [Nat.add_zero] at this
 simp [Instr.storeAt,Instr.sureAddr,storeVar,hi.sizeOf,hv]
 simpa [hv] using this
theorem quV(hT:TOk P C.T)(R:Rep w0 A M0 w h σ)(hs:Sub hm h)(hrt:∀ i,RV w (mutb M0 h σ) h σ (t i) (a.tmps.getD i undef)){ty:TypeId}{xa xv:Operand}{te:TE}(hte:tlook C.T ty=some te)(ho:o.op=.store ty xa xv)
  {ob off:Nat} (ha:ev t xa=.ptr ob off) (hsz:(ev t xv).cells.length=te.size) (hok:(ev t xv).okStore=true) {vs:List V} (hv:getO hm ob=.cells vs) (hle:off+te.size<=vs.length) :
  Does r n P o a w (PostW w0 A M0 w h σ (h.set ob (.cells (vs.take off++(ev t xv).cells++vs.drop (off+te.size)))) .bad):=by
 obtain⟨i,z,hi⟩:=hT.get hte
 have ea:=qj hrt xa
 rw [ha] at ea
 simp only [RV] at ea
 obtain⟨b,hab,hav⟩:=ea
 have eh:=hs.get hv (by simp)
 rw [eh] at hav
 simp only [PtrTo] at hav
 obtain⟨hz1,hz2⟩:=qxb (qj hrt xv) hok
 have ro:=R.obj ob
 rw [eh] at ro
 obtain⟨b',e,cs,hab',hb,hr,h1⟩:=ro
 rw [hab] at hab';cases hab'
 have hcl:vs.length=cs.size:=by rw [hr.length];simp
 have hvl:(a.eval xv).cells.size=te.size:=by have:=hz1.length;simp at this;omega
 have hrun:=qjd (P:=P) (w:=w) hi hvl hb (by omega) hz2 (off:=off)
 have hlt:=qae (h:=h) (i:=ob) (by rw [eh];simp)
 have hg:=qad hlt (.cells (vs.take off++(ev t xv).cells++vs.drop (off+te.size)))
 obtain⟨q1,q2,q3,q4,q5⟩:=qjP w b (cs.toList.take off++(a.eval xv).cells.toList++cs.toList.drop (off+(a.eval xv).cells.toList.length)).toArray
 refine qhY (by rw [ho];simp) (w':=_) (by simp only [execOp,ho,hav,Sem.run_bind,hrun,Result.andThen_ok];rfl) ⟨σ,?_,by simp only [RV]⟩
 refine Next.upd R ob (by rw [eh];trivial) (by rw [hg,zJ rfl];trivial) q1 q2 q3 (by omega) (fun o' hne=>⟨by rw [hg,zL (fun e=>hne e.symm)],rfl⟩) (fun b' hb' hne=>q5 b' (fun e'=>hne (by rw [eh];trivial) (by rw [e',hab])))
  (fun b' hl ha'=>.inl ⟨by rw [eh];trivial,ha'⟩) (by rw [eh];exact⟨_,by rw [hg,zJ rfl],rfl⟩) (fun k st=>?_)
 rw [hg,zJ rfl]
 have hlen2:(a.eval xv).cells.toList.length=te.size:=by simpa using hvl
 refine⟨b,e,_,hab,setRow_heap w b cs _ e _ hb,?_,?_⟩
 ·have hvs:vs.drop (off+(a.eval xv).cells.toList.length)=vs.drop (off+te.size):=by rw [hlen2]
  exact Eq.subst (motive:=fun L=>RVs _ _ _ _ (_++_++L) _) hvs (((RVs.keeps k st (hr.take off)).append (RVs.keeps k st hz1)).append (RVs.keeps k st (hr.drop _)))
 ·intro c hc
  simp only [zU] at hc
  rcases hc with (hc | hc) | hc
  ·exact h1 c (zAU hc)
  ·exact hz2 c hc
  ·exact h1 c (zAy hc)
theorem qjZ{ob ver:Nat}:(s:Sh) -> {x:s.den}->V.slc ob ver∈encL s x->False
 | .int _,x,hx=>by simp [encL] at hx
 | .bool,x,hx=>by simp [encL] at hx
 | .unit,x,hx=>by simp [encL] at hx
 | .pair a b,x,hx=>by
  simp only [encL,zU] at hx
  rcases hx with hx | hx
  ·exact qjZ a hx
  ·exact qjZ b hx
 | .sl _,x,hx=>by simp [encL] at hx
theorem qCf(cs vals:List Value)(i0 m off:Nat)(hle:off+vals.length<=m)(_hl:i0+m<=cs.length) :
  cs.take i0++(((cs.drop i0).take m).take off++vals++((cs.drop i0).take m).drop (off+vals.length))++cs.drop (i0+m)=cs.take (i0+off)++vals++cs.drop (i0+off+vals.length):=by
 have e1:cs.take (i0+off)=cs.take i0++(cs.drop i0).take off:=List.take_add
 have e2:((cs.drop i0).take m).take off=(cs.drop i0).take off:=by rw [List.take_take];congr 1;omega
 have e3:((cs.drop i0).take m).drop (off+vals.length)++cs.drop (i0+m)=cs.drop (i0+off+vals.length):=by
  rw [zCV,zBs]
  have:cs.drop (i0+m)=(cs.drop (i0+(off+vals.length))).drop (m - (off+vals.length)):=by rw [zBs];congr 1;omega
  rw [this,zAe,zAF]
 rw [e1,e2,<- e3]
 simp [zj]
theorem qwV(cur vals:List Value)(p N:Nat)(hp:p+vals.length<=N)(hN:N<=cur.length) :
  (cur.take p++vals++cur.drop (p+vals.length)).take N=(cur.take N).take p++vals++(cur.take N).drop (p+vals.length):=by
 have l1:(cur.take p).length=p:=by simp;omega
 have l2:(cur.take p++vals).length=p+vals.length:=by simp [l1]
 have A:(cur.take p++vals).take N=cur.take p++vals:=zAl (by omega)
 rw [zCK,A,l2,zCV,List.take_take,zBH (by omega)]
theorem quU(hT:TOk P C.T)(R:Rep w0 A M0 w h σ)(hs:Sub hm h)(hrt:∀ i,RV w (mutb M0 h σ) h σ (t i) (a.tmps.getD i undef)){ty:TypeId}{xa xv:Operand}{te:TE}(hte:tlook C.T ty=some te)(ho:o.op=.store ty xa xv)
  {ob ver ver' i off:Nat} {e:TypeId} {s:Sh} {xs:List s.den} (ha:ev t xa=.rptr ob ver i off) (hsz:(ev t xv).cells.length=te.size) (hok:(ev t xv).okStore=true)
  (hv:getO (qai (frzL hm (ev t xv).cells) hm) ob=.row false ver' e s xs) (hver:ver=ver') {y:s.den} (hy:updAt (qai (frzL hm (ev t xv).cells) hm) s (nth s.zero xs i) off (ev t xv).cells=some y) :
  Does r n P o a w (PostW w0 A M0 w h σ (qai (frzL hm (ev t xv).cells ++ [(ob,.row false ver' e s (xs.set i y))]) h) .bad):=by
 obtain⟨ti,z,hi⟩:=hT.get hte
 obtain⟨hz1,hz2⟩:=qxb (qj hrt xv) hok
 have nf:=qjW hs.f R (ev t xv).cells
 have hsub:=qAu hs (fun i hi=>qae (by rcases hs i with h' | h';exact absurd h' hi;rw [<- h'];exact hi)) (ev t xv).cells
 have hsetap:∀ (ss:List (Nat×O)) (p:Nat×O) (h:List O),qai (ss ++ [p]) h=(qai ss h).set p.1 p.2:=by
  intro ss
  induction ss with
  | nil=>intro p h;rfl
  | cons q ss ih=>intro p h;obtain⟨i,o⟩:=q;simp only [List.cons_append,qai];exact ih p _
 rw [hsetap]
 generalize hH1:qai (frzL hm (ev t xv).cells) h=H1 at *
 have ea:RV w (mutb M0 H1 σ) H1 σ (.rptr ob ver i off) (a.eval xa):=by have:=qj hrt xa;rw [ha] at this;exact RV.keeps nf.keeps nf.step this
 have hz1:RVs w (mutb M0 H1 σ) H1 σ (ev t xv).cells (a.eval xv).cells.toList:=RVs.keeps nf.keeps nf.step hz1
 have R1:=nf.rep
 have eh:=hsub.get hv (by simp)
 simp only [RV] at ea
 rw [eh] at ea
 obtain⟨hl,h1c,hx⟩:=ea
 obtain⟨b,hab,hlt,hav⟩:=hx hver
 have ro:=R1.obj ob
 rw [eh] at ro
 obtain⟨hs1,cs,hown,hrl⟩:=ro
 have hrv:rowV (σ ob) xs.length=.slice (some ⟨b,0,none⟩) xs.length (σ ob).cap:=by simp [rowV,Loc.addr,hab]
 rw [hrv] at hown
 have hown':=hown
 rcases hown.2 with⟨hbad,_⟩ | ⟨g,cap,cur,hgv,_,hg,hnc,hcm,hcs,htake⟩
 ·cases hbad
 ·simp only [Value.slice.injEq,zD,Addr.mk.injEq,and_true,true_and] at hgv
  obtain⟨rfl,rfl⟩:=hgv
  unfold updAt at hy
  obtain⟨hle,hy⟩:=qc hy
  have hle:=zH hle
  have hvl:(a.eval xv).cells.size=te.size:=by have:=hz1.length;simp at this;omega
  have hvl2:(a.eval xv).cells.toList.length=te.size:=by simpa using hvl
  have hcsl:=hrl.length
  obtain⟨c,hc1,hc2⟩:=hrl.get (qwb s.zero xs i hlt)
  have hcn:c.length=s.n:=hc1.length
  have hmul:i*s.n+s.n<=xs.length*s.n:=by
   have:(i+1)*s.n<=xs.length*s.n:=zy _ hlt
   rwa [zAM] at this
  have hceq:c=(cs.drop (i*s.n)).take s.n:=by
   apply zAY
   intro j
   rcases zAO j c.length with hj | hj
   ·have:=hc2 j c[j] (by simp [hj])
    rw [zt,zJ (by omega),zAB,this];simp [hj]
   ·rw [zX hj,zX (by simp;omega)]
  have hupd:RC w (mutb M0 H1 σ) s y (c.take off++(a.eval xv).cells.toList++c.drop (off+te.size)):=by
   have hr:RVs w (mutb M0 H1 σ) H1 σ ((encL s (nth s.zero xs i)).take off++(ev t xv).cells++(encL s (nth s.zero xs i)).drop (off+(ev t xv).cells.length)) (c.take off++(a.eval xv).cells.toList++c.drop (off+te.size)):=by
    rw [hsz]
    exact (((qbM s hc1).take off).append hz1).append ((qbM s hc1).drop _)
   refine qcf R1 hsub (fun b hb=>hb) hr (fun v hvm o2 ver2 e2 ver3 ty3 s3 ys hg3 hvv b2 hb2 hmt=>?_) hy
   subst e2
   simp only [zU] at hvm
   rcases hvm with (hvm | hvm) | hvm
   ·exact qjZ s (zAU hvm)
   ·rcases qfM (frzL hm (ev t xv).cells) (h:=hm) o2 with h' | ⟨ob',h3,h4⟩
    ·exact qtg (hx:=hm) (fun i hi=>qae hi) hvm hg3 ⟨_,_,_,_,_,by rw [<- h'];exact hg3,hvv⟩
    ·obtain⟨_,_,_,_,_,_,h6⟩:=qiA h3
     rw [h4,h6] at hg3;cases hg3
   ·exact qjZ s (zAy hvm)
  have hrun:=qjd (P:=P) (w:=w) hi hvl hg (by rw [hcs];have:=zy s.n hnc;omega) hz2 (off:=i*s.n+off)
  have hlt2:=qae (h:=H1) (i:=ob) (by rw [eh];simp)
  have hgs:=qad hlt2 (.row false ver' e s (xs.set i y))
  obtain⟨q1,q2,q3,q4,q5⟩:=qjP w b (cur.toList.take (i*s.n+off)++(a.eval xv).cells.toList++cur.toList.drop (i*s.n+off+(a.eval xv).cells.toList.length)).toArray
  refine qhY (by rw [ho];simp) (w':=_) (by simp only [execOp,ho,hav,Sem.run_bind,hrun,Result.andThen_ok];rfl) ⟨σ,nf.trans ?_ R,by simp only [RV]⟩
  refine Next.upd R1 ob (by rw [eh];trivial) (by rw [hgs,zJ rfl];trivial) q1 q2 q3 (by omega) (fun o' hne=>⟨by rw [hgs,zL (fun e=>hne e.symm)],rfl⟩) (fun b' hb' hne=>q5 b' (fun e'=>hne (by rw [eh];rfl) (by rw [e',hab])))
   (fun b' hl ha'=>.inl ⟨by rw [eh];rfl,ha'⟩) (by rw [eh];exact⟨false,ver',e,s,xs.set i y,by rw [hgs,zJ rfl],Nat.le_refl _,fun _=>⟨rfl,rfl,by simp⟩⟩) (fun k st=>?_)
  rw [hgs,zJ rfl]
  refine⟨hs1,_,?_,RL.keeps k (hrl.set hlt hupd)⟩
  have hrv2:rowV (σ ob) (xs.set i y).length=.slice (some ⟨b,0,none⟩) xs.length (σ ob).cap:=by simp [rowV,Loc.addr,hab]
  rw [hrv2]
  have hlen:(cs.take (i*s.n)++(c.take off++(a.eval xv).cells.toList++c.drop (off+te.size))++cs.drop (i*s.n+s.n)) =
    cs.take (i*s.n+off)++(a.eval xv).cells.toList++cs.drop (i*s.n+off+te.size):=by
   have:=qCf cs (a.eval xv).cells.toList (i*s.n) s.n off (by omega) (by omega)
   rw [hvl2] at this
   rw [hceq];exact this
  rw [hlen]
  refine⟨?_,.inr ⟨b,(σ ob).cap,_,by simp,zAE _,setRow_heap w b cur _ e _ hg,by simpa using hnc,hcm,?_,?_⟩⟩
  ·simp only [zq,zAN,zAI,hvl2,zBK]
   omega
  ·have:=zy s.n hnc
   simp only [List.size_toArray,zq,zAN,zAI,hvl2,zAt]
   omega
  ·have h5:=zy s.n hnc
   have:=qwV cur.toList (a.eval xv).cells.toList (i*s.n+off) (xs.length*s.n) (by omega) (by simp;omega)
   rw [htake,hvl2] at this
   simp only [zBK,hvl2]
   exact this
def hkLoc(o:O)(l:Loc):Loc:=
 match o with
 | .cells _=>l
 | .oth _ _ _=>l
 | _=>⟨none,0,[]⟩
theorem qwp{kt:Kt}{v:V}:qdb kt v .none=none:=by
 cases kt with
 | row e s=>simp only [qdb];split <;> rfl
 | krow e t=>simp only [qdb];split <;> rfl
 | box e t=>cases t <;> first | rfl | (simp only [qdb];split <;> rfl)
 | map q=>simp only [qdb];split <;> rfl
 | _=>rfl
theorem qyx{kt:Kt}{v:V}{o:O}{x:kt.sh.den}(hd:qdb kt v o=some x):kt.n=1:=by
 cases kt <;> first | rfl | (simp [qdb] at hd;done)
theorem qAg:(t:Kt)->∀ e,Kt.krow e t≠t
 | .krow e' t,e,h=>by
  simp only [Kt.krow.injEq] at h
  exact qAg t e' h.2
 | .row _ _,_,h=>by cases h
 | .dat _,_,h=>by cases h
 | .pair _ _,_,h=>by cases h
 | .map _,_,h=>by cases h
 | .box _ _,_,h=>by cases h
theorem qwo{kt:Kt}{v:V}{ver:Nat}{e:TypeId}{hl:Option (Int×V)}{d:List kt.sh.den}:qdb kt v (.kds ver (.row e) kt hl d)=none:=by
 cases kt with
 | row e s=>simp only [qdb];split <;> rfl
 | krow e t=>
  simp only [qdb]
  split
  ·split
   ·rename_i h0
    simp only [O.kds.injEq] at h0
    obtain⟨_,_,h0,_⟩:=h0
    rename_i t' _ _ _ _
    have hne:decide (t'=t)=false:=by
     rw [<- h0];exact zAi (qAg t e)
    rw [hne]
    simp
   ·rfl
  ·rfl
 | box e t=>cases t <;> first | rfl | (simp only [qdb];split <;> rfl)
 | map q=>simp only [qdb];split <;> rfl
 | _=>rfl
theorem qAk(R:Rep w0 A M0 w h σ){kt:Kt}{v:V}{val:Value}{nn:Nat}(hv:RV w (mutb M0 h σ) h σ v val)(hk:qnN v=some nn){x:kt.sh.den}(hd:qdb kt v (getO h nn)=some x)(L:V->Value->Prop) :
  kt.n=1/\val.oneCell'=true/\live (getO h nn)/\qvA (getO h nn) (husk (getO h nn)) (σ nn) (hkLoc (getO h nn) (σ nn))/\∃ bs,KW w (mutb M0 h σ) L kt x [val] none bs/\bs.Nodup/\∀ b,b∈bs->Oat (getO h nn) (σ nn) b:=by
 have rn:=R.obj nn
 cases kt with
 | row e s=>
  simp only [qdb] at hd
  split at hd
  case h_2=>cases hd
  rename_i n' ver
  obtain rfl:n'=nn:=by unfold qnN at hk;split at hk <;> simp_all
  split at hd
  case h_2=>cases hd
  rename_i ver' e' s' xs en
  obtain⟨hc,hd⟩:=qc hd
  rw [zA] at hc
  obtain⟨es,hd⟩:=qau hd
  cases es
  subst hd
  obtain rfl:=zB hc.1
  obtain rfl:=zB hc.2
  rw [en] at rn
  obtain⟨h1,cs,h2,h3⟩:=rn
  simp only [RV] at hv
  obtain⟨fz1,ver1,e1,s1,xs1,en1,_,hone,hx⟩:=hv
  rw [en] at en1
  cases en1
  obtain rfl:=hx rfl
  refine⟨rfl,rfl,by rw [en];rfl,by rw [en];exact⟨true,ver+1,e',s,[],rfl,by omega,fun q=>by omega⟩,(σ n').a.toList,?_,by cases (σ n').a <;> simp,fun b hb=>.of (by simpa using hb)⟩
  simp only [KW]
  exact⟨_,rfl,σ n',cs,rfl,h1,h2,h3,rfl⟩
 | krow e t=>
  simp only [qdb] at hd
  split at hd
  case h_2=>cases hd
  rename_i n' ver i off
  obtain rfl:n'=nn:=by unfold qnN at hk;simp_all
  split at hd
  case h_2=>cases hd
  rename_i ver' e' t' d en
  obtain⟨hc,hd2⟩:=qc hd
  clear hd
  simp only [zA,zQ] at hc
  obtain⟨c1,c2,c3,rfl⟩:=hc
  obtain rfl:=zB c1
  obtain rfl:=zB c2
  obtain rfl:=zB c3
  obtain⟨es,hd2⟩:=qau hd2
  cases es
  subst hd2
  rw [en] at rn
  obtain⟨h1,cs,h2,h3,h4⟩:=rn
  simp only [RV] at hv
  rw [en] at hv
  obtain⟨_,_,hone,hx⟩:=hv
  obtain⟨_,rfl⟩:=(hx rfl).resolve_right (fun q=>q.1 rfl)
  refine⟨rfl,rfl,by rw [en];trivial,?_,(σ n').a.toList++(σ n').ex,?_,h4,fun b hb=>?_⟩
  ·rw [en]
   have:KStep ver (.row e') (kLen (.row e') t' x) t'.n (σ n') .gone ⟨none,0,[]⟩:=by unfold KStep;exact .inr rfl
   exact this
  ·simp only [KW]
   refine⟨σ n',cs,(σ n').ex,rfl,h1,h2,?_,rfl⟩
   exact h3.keeps (f:=id) (L':=L) (fun x c hl bs a1 a2 a3=>KW.keeps (⟨Nat.le_refl _,fun _ _ _=>rfl,fun _ _ h=>h⟩) id t' x c hl bs a1 a2 a3) (fun y c q=>by cases q) (fun _ _ _=>rfl)
  ·rw [en]
   rcases zU.1 hb with hb | hb
   ·exact .inl (by simpa using hb)
   ·exact .inr hb
 | box e t=>
  cases t with
  | dat s=>
   simp only [qdb] at hd
   split at hd
   case h_2=>cases hd
   rename_i n' off
   obtain rfl:n'=nn:=by unfold qnN at hk;simp_all
   split at hd
   case h_2=>cases hd
   rename_i vs en
   obtain⟨hoff,hd2⟩:=qc hd
   clear hd
   obtain rfl:=zB hoff
   split at hd2
   case h_2=>cases hd2
   rename_i y hy
   simp only [zD] at hd2
   subst hd2
   rw [en] at rn
   obtain⟨b,e',cs,ha,hb,hr,hone⟩:=rn
   simp only [RV] at hv
   rw [en] at hv
   obtain⟨b2,ha2,hv⟩:=hv
   rw [ha] at ha2
   cases ha2
   obtain rfl:val=.pointer (some ⟨b,0,none⟩):=hv
   have hrc:RC w (mutb M0 h σ) s y cs.toList:=qcf R (hm:=[]) (fun o=>.inl (by simp [getO])) (fun b hb=>hb) hr (fun v hvm o2 ver2 e2 ver3 ty3 s3 ys hg3=>by simp [getO] at hg3) hy
   refine⟨rfl,rfl,by rw [en];trivial,by rw [en];exact .inr ⟨rfl,rfl⟩,[b],?_,by simp,fun b' hb'=>?_⟩
   ·simp only [KW]
    exact .inr ⟨b,cs,[],e',by first | trivial | rfl,rfl,hb,⟨by first | trivial | rfl,rfl,hrc⟩,rfl⟩
   ·rw [en,zAG.1 hb'];exact ha
  | _=>simp [qdb] at hd
 | map q=>
  simp only [qdb] at hd
  split at hd
  case h_2=>cases hd
  rename_i n' off
  obtain rfl:n'=nn:=by unfold qnN at hk;simp_all
  split at hd
  case h_2=>cases hd
  rename_i q' d en
  obtain⟨hc,hd2⟩:=qc hd
  clear hd
  simp only [zA,zQ,zT] at hc
  obtain⟨c1,rfl,c2,c3⟩:=hc
  obtain rfl:=zB c1
  obtain⟨es,hd2⟩:=qau hd2
  cases es
  subst hd2
  rw [en] at rn
  have hq:=rn.1.q c3
  simp only [RV] at hv
  rw [en] at hv
  obtain⟨b,ha,hv⟩:=hv
  obtain⟨_,hv⟩:=hv
  rw [c2,cond_false] at hv
  subst hv
  have hq2:RQ w (mutb M0 h σ) ⟨some b,0,[]⟩ q' x:=by
   unfold RQ at hq ⊢
   rw [c2] at hq ⊢
   obtain⟨b',es,clock,ha',r⟩:=hq
   rw [ha] at ha'
   cases ha'
   exact⟨b,es,clock,rfl,r⟩
  refine⟨rfl,rfl,by rw [en];rfl,by rw [en];exact⟨.inr rfl,rfl⟩,[b],?_,by simp,fun b' hb'=>?_⟩
  ·simp only [KW]
   exact .inr ⟨b,rfl,c2,c3,hq2,rfl⟩
  ·rw [en,zAG.1 hb'];exact ha
 | _=>simp [qdb] at hd
theorem qAh(R:Rep w0 A M0 w h σ){ob nn ver i:Nat}{e:TypeId}{kt:Kt}{hl:Option (Int×V)}{d:List kt.sh.den}(eo:getO h ob=.kds ver (.row e) kt hl d){v:V}{val:Value}(hv:RV w (mutb M0 h σ) h σ v val)(hk:qnN v=some nn)
  {x:kt.sh.den} (hd:qdb kt v (getO h nn)=some x) (hi:i<d.length) (hh:∀ y,holeR hl=some y->y.1=i) (hne:ob≠nn)
  (hos:w'.os=w.os) (htd:TDr w w') (hout:w'.output=w.output) (hsz:w'.heap.size=w.heap.size) (hblk:∀ b,(σ ob).a≠some b->w'.heap[b]? = w.heap[b]?)
  (hown:∀ cs,OwnK w e 1 (σ ob) d.length cs->OwnK w' e 1 (σ ob) d.length (cs.set i val))
  (hHn:getO H nn=husk (getO h nn)) (hHo:getO H ob=.kds ver (.row e) kt none (d.set i x)) (hH':∀ j,j≠nn->j≠ob->getO H j=getO h j) :
  ∃ τ,Next w0 A M0 w h σ w' H τ:=by
 have ro:=R.obj ob
 rw [eo] at ro
 obtain⟨hn1,cs,hoc,hks,hnd⟩:=ro
 obtain⟨hk1,hone,hln,hst1,bs,hkw,hbn,hbo⟩:=qAk R hv hk hd (RV w (mutb M0 h σ) h σ)
 rw [hk1] at hks hoc
 obtain⟨b0,ex',hput,hperm⟩:=hks.put1 hi hh hkw
 have hnl:∀ b,b∈bs->¬ Oat (getO h ob) (σ ob) b:=fun b hb ho=>hne (R.apart ob nn b (by rw [eo];trivial) hln ho (hbo b hb))
 generalize hτ:updL (updL σ ob ⟨(σ ob).a,(σ ob).cap,ex'⟩) nn (hkLoc (getO h nn) (σ nn))=τ
 have tn:τ nn=hkLoc (getO h nn) (σ nn):=by rw [<- hτ,qZ]
 have to:τ ob=⟨(σ ob).a,(σ ob).cap,ex'⟩:=by rw [<- hτ,qaE _ _ hne,qZ]
 have tj:∀ j,j≠nn->j≠ob->τ j=σ j:=fun j h1 h2=>by rw [<- hτ,qaE _ _ h1,qaE _ _ h2]
 have hhusk:¬ live (getO H nn):=by
  rw [hHn]
  cases getO h nn <;> simp [husk,live]
 have hex:∀ b,b∈ex'->b∈bs\/b∈(σ ob).ex:=fun b hb=>zU.1 (hperm.subset (zf _ hb))
 have hnd3:(bs++(σ ob).ex).Nodup:=za.2 ⟨hbn,(za.1 hnd).2.1,fun b hb c hc e=>hnl b hb (by rw [eo,e];exact .inr hc)⟩
 have hnd2:ex'.Nodup:=(za.1 ((hperm.nodup_iff).2 hnd3)).2.1
 have was:∀ j b',live (getO H j)->Oat (getO H j) (τ j) b'->∃ i,live (getO h i)/\Oat (getO h i) (σ i) b'/\(i=j\/(i=nn/\j=ob)):=fun j b' l1 o1=>by
  by_cases q1:j=nn
  ·subst q1;exact absurd l1 hhusk
  ·by_cases q2:j=ob
   ·subst q2
    rw [hHo,to] at o1
    rcases o1 with o1 | o1
    ·exact⟨j,by rw [eo];trivial,by rw [eo];exact .inl o1,.inl rfl⟩
    ·rcases hex b' o1 with h1 | h1
     ·exact⟨nn,hln,hbo b' h1,.inr ⟨rfl,rfl⟩⟩
     ·exact⟨j,by rw [eo];trivial,by rw [eo];exact .inr h1,.inl rfl⟩
   ·rw [hH' j q1 q2] at l1 o1
    rw [tj j q1 q2] at o1
    exact⟨j,l1,o1,.inl rfl⟩
 have st:OStep h σ H τ:=fun j=>by
  by_cases q1:j=nn
  ·subst q1
   have:qvA (getO h j) (getO H j) (σ j) (τ j):=by rw [hHn,tn];exact hst1
   exact this
  ·by_cases q2:j=ob
   ·subst q2;rw [eo]
    show KStep _ _ _ _ _ _ _
    unfold KStep
    exact .inl ⟨ver,.row e,kt,none,d.set i x,hHo,rfl,Nat.le_refl _,fun _=>⟨by rw [to],by rw [to],by simp [kLen],rfl⟩⟩
   ·have:=OStep.refl h σ j
    rw [hH' j q1 q2,tj j q1 q2]
    exact this
 have hbo':∀ b,(σ ob).a=some b->own h σ b:=fun b hb=>⟨ob,by rw [eo];trivial,by rw [eo];exact .inl hb⟩
 refine⟨τ,Next.gen R hos htd hout (by omega) (fun b' ⟨j,l1,o1⟩=>.inl ?_) (fun b' _ hno=>hblk b' fun q=>hno (hbo' b' q)) (fun j j' b' l1 l2 o1 o2=>?_) st (fun kp j=>?_)⟩
 ·obtain⟨i,i1,i2,_⟩:=was j b' l1 o1
  exact⟨i,i1,i2⟩
 ·obtain⟨i,i1,i2,i3⟩:=was j b' l1 o1
  obtain⟨i',k1,k2,k3⟩:=was j' b' l2 o2
  have:=R.apart i i' b' i1 k1 i2 k2
  subst this
  have nl:∀ j,live (getO H j)->j≠nn:=fun j hl q=>by rw [q] at hl;exact hhusk hl
  rcases i3 with rfl | ⟨rfl,rfl⟩
  ·rcases k3 with rfl | ⟨rfl,rfl⟩
   ·rfl
   ·exact absurd rfl (nl _ l1)
  ·rcases k3 with rfl | ⟨_,rfl⟩
   ·exact absurd rfl (nl _ l2)
   ·rfl
 ·by_cases q1:j=nn
  ·subst q1
   rw [hHn,tn]
   have ro:=R.obj j
   cases en:getO h j with
   | row fz ver2 e3 s3 xs3=>
    rw [en] at ro
    have h1:1<=s3.n:=by cases fz <;> exact ro.1
    exact⟨h1,⟨none,0,rfl,Nat.le_refl _,zAE _,fun q=>absurd rfl q⟩,fun b' q=>by cases q⟩
   | _=>trivial
  ·by_cases q2:j=ob
   ·subst q2
    rw [hHo,to]
    have h1:=hown cs hoc
    rw [<- hk1] at h1
    refine⟨hn1,cs.set i val,?_,?_,za.2 ⟨(za.1 hnd).1,hnd2,fun b hb c hc q=>?_⟩⟩
    ·rw [zBK];exact h1
    ·have:=hput.keeps (f:=id) (L':=RV w' (mutb M0 H τ) H τ) (fun x c hl bs a1 a2 a3=>KW.keeps kp id kt x c hl bs a1 a2 a3) (fun y c q=>by cases q) (fun b hb _=>hblk b fun q=>?_)
     ·rw [<- hk1] at this;exact this
     ·rcases hex b hb with h2 | h2
      ·exact hnl b h2 (by rw [eo];exact .inl q)
      ·exact (za.1 hnd).2.2 b (by simp [q]) b h2 rfl
    ·subst q
     rcases hex b hc with h2 | h2
     ·exact hnl b h2 (by rw [eo];exact .inl (by simpa using hb))
     ·exact (za.1 hnd).2.2 b hb b h2 rfl
   ·rw [hH' j q1 q2,tj j q1 q2]
    refine RO.same R kp st j fun b' hlt=>?_
    by_cases q3:(σ ob).a=some b'
    ·exact .inr ⟨ob,fun q=>q2 q.symm,by rw [eo];trivial,by rw [eo];exact .inl q3⟩
    ·exact .inl (hblk b' q3)
theorem OwnK.upd{e:TypeId}{n m:Nat}{l:Loc}{cs:List Value}(h:OwnK w e n l m cs){b:Nat}(ha:l.a=some b){p:Nat}{vs:List Value}(hp:p+vs.length<=m*n) :
  ∃ cur,w.heap[b]? = some (.cells cur e (0,0))/\l.off+p+vs.length<=cur.size/\OwnK (w.setRow b (cur.toList.take (l.off+p)++vs++cur.toList.drop (l.off+p+vs.length)).toArray) e n l m (cs.take p++vs++cs.drop (p+vs.length)):=by
 obtain⟨h0,⟨q,_⟩ | ⟨g,cur,q,hg,hle,hsz,ht⟩⟩:=h
 ·rw [ha] at q;cases q
 rw [ha] at q;cases q
 have hmn:m*n<=l.cp*n:=zy _ hle
 have hlen:cur.toList.length=cur.size:=by simp
 refine⟨cur,hg,by omega,?_,.inr ⟨b,_,ha,setRow_heap w b cur _ e _ hg,hle,?_,?_⟩⟩
 ·simp only [zq,zAN,zAI];omega
 ·simp only [List.size_toArray,zq,zAN,zAI];omega
 ·rw [List.toList_toArray,zj,zBh,zCV,zAN]
  rw [show min (l.off+p) cur.toList.length=l.off+p by omega,show l.off - (l.off+p)=0 by omega,List.drop_zero,show l.off+p - l.off=p by omega]
  apply zAY
  intro j
  rw [<- ht]
  simp only [zt,zBp,zAB,zAN,zAI,zq]
  have e1:min p (cur.toList.length - l.off)=p:=by omega
  have e2:min p (min (m*n) (cur.toList.length - l.off))=p:=by omega
  rw [e1,e2]
  by_cases c1:j<p
  ·simp [c1,show j<m*n by omega,show j<p+vs.length by omega]
  ·by_cases c2:j<p+vs.length
   ·simp [c1,c2,show j<m*n by omega,show j - p<vs.length by omega]
   ·by_cases c3:j<m*n
    ·simp [c1,c2,c3,show ¬ j - p<vs.length by omega,show p+vs.length+(j - (p+vs.length))=j by omega,show l.off+p+vs.length+(j - p - vs.length)=l.off+j by omega]
    ·simp [c1,c2,c3,show p+vs.length+(j - (p+vs.length))=j by omega]
theorem qtR(hT:TOk P C.T)(R:Rep w0 A M0 w h σ)(hs:Sub hm h)(hrt:∀ i,RV w (mutb M0 h σ) h σ (t i) (a.tmps.getD i undef)){ty:TypeId}{xa xv:Operand}(ho:o.op=.store ty xa xv){ob ver i off:Nat}(ha:ev t xa=.rptr ob ver i off)
  {K:V->List (Nat×O)->Option O->Option ρ} {res:ρ} (hb:qtS C hm ty ob ver i off (ev t xv) K=some res) :
  ∃ v ss mk,K v ss mk=some res/\∀ H,qaO h ss mk nid H->(mk.isSome=true->getO h nid=.none)->Does r n P o a w (PostW w0 A M0 w h σ H v):=by
 unfold qtS at hb;cases hb
theorem qlk(hT:TOk P C.T)(R:Rep w0 A M0 w h σ)(hs:Sub hm h)(hrt:∀ i,RV w (mutb M0 h σ) h σ (t i) (a.tmps.getD i undef)){ty:TypeId}{xa xv:Operand}(ho:o.op=.store ty xa xv)
  {K:V->List (Nat×O)->Option O->Option ρ} {res:ρ} (hb:qkG C hm ty (ev t xa) (ev t xv) K=some res) :
  ∃ v ss mk,K v ss mk=some res/\∀ H,qaO h ss mk nid H->(mk.isSome=true->getO h nid=.none)->Does r n P o a w (PostW w0 A M0 w h σ H v):=by
 unfold qkG at hb
 split at hb
 ·cases hb
 ·rename_i te hte
  obtain⟨hok,hb⟩:=qc hb
  simp only [zA] at hok
  have hsz:=zB hok.1
  split at hb
  ·rename_i ob off ha
   split at hb
   ·rename_i vs hv
    obtain⟨hle,hb⟩:=qc hb
    have hle:=zH hle
    refine⟨_,_,_,hb,fun H hH _=>?_⟩
    simp only [qaO,qai] at hH
    subst hH
    exact quV hT R hs hrt hte ho ha hsz hok.2 hv hle
   ·cases hb
  ·rename_i ob ver i off ha
   split at hb
   ·rename_i fz ver' e s xs hv
    obtain⟨hver,hb2⟩:=qc hb
    clear hb
    simp only [zA,zT] at hver
    obtain⟨hver,rfl⟩:=hver
    have hver:=zB hver
    split at hb2
    ·rename_i y hy
     refine⟨_,_,_,hb2,fun H hH _=>?_⟩
     simp only [qaO] at hH
     subst hH
     exact quU hT R hs hrt hte ho ha hsz hok.2 hv hver hy
    ·cases hb2
   ·cases hb
  ·cases hb
theorem qtT(hT:TOk P C.T)(R:Rep w0 A M0 w h σ)(hs:Sub hm h)(hrt:∀ i,RV w (mutb M0 h σ) h σ (t i) (a.tmps.getD i undef)){ty:TypeId}{xa xv:Operand}(ho:o.op=.store ty xa xv)
  {K:V->List (Nat×O)->Option O->Option ρ} {res:ρ} (hb:qrn C hm ty (ev t xa) (ev t xv) K=some res) :
  ∃ v ss mk,K v ss mk=some res/\∀ H,qaO h ss mk nid H->(mk.isSome=true->getO h nid=.none)->Does r n P o a w (PostW w0 A M0 w h σ H v):=by
 unfold qrn at hb
 split at hb
 ·rename_i ob ver i off ha
  split at hb
  ·exact qtR hT R hs hrt ho ha hb
  ·exact qlk hT R hs hrt ho hb
 ·exact qlk hT R hs hrt ho hb
end
end Go.Abs
namespace Go.Abs
open Go.RowKit
section
variable {P : Program} {C : Ctx} {r : Option Nat} {n : Nat} {w0 : World} {A M0 : Nat -> Prop} {w w' : World} {h hm H : List O} {σ : Nat -> Loc} {t : Nat -> V} {a : Act} {o : Oper} {ρ : Type} {nid : Nat} {ob : O}
theorem qoZ{ty e:TypeId}{i:TypeInfo}(hu:P.underlying ty=some (.slice e))(hi:P.info? e=some i){rt:TypeId}{b ao:Option Addr}{m cap c:Nat}(hle:m<=cap) :
  (Builtin.append_ #[ty,ty] rt #[.slice b m cap,.slice ao 0 c]).run P w=.ok (.slice b m cap) w:=by
 have hf:(Builtin.firstCells i.size 0 (.slice ao 0 c)).run P w=.ok #[] w:=by
  cases ao <;> simp [Builtin.firstCells,loadCells,loadCellsFrom]
 cases b <;> simp [Builtin.append_,run_underlying hu,sizeOf,typeInfo,hi,Builtin.lenOf,hle,hf,storeCells]
theorem qnp{ty e:TypeId}{i:TypeInfo}{z:Value}(hu:P.underlying ty=some (.slice e))(hi:P.info? e=some i)(hz:i.zero=some z)(hzs:z.cells.size=i.size)(hsz:0<i.size){rt:TypeId}{l:Loc}{m:Nat}{cs:List Value}
  (hown:w.ownsRow 0 e i.size (rowV l m) m cs) {ad:Addr} {k c:Nat} {news:List Value} (hl:news.length=k*i.size) (hnews:∀ j u,news[j]? = some u->w.cell? (ad.add j)=some u) (h1:∀ u∈news,u.oneCell'=true)
  (hk:0<k) (hbytes:(m+k)*i.bytes<=140737488355328) (h63:m+k<=maxLen) :
  ∃ l' w',(Builtin.append_ #[ty,ty] rt #[rowV l m,.slice (some ad) k c]).run P w=.ok (rowV l' (m+k)) w'/\w'.ownsRow 0 e i.size (rowV l' (m+k)) (m+k) (cs++news) /\
   ((l'=l/\w.grownBy w' l.a/\w.drawn<=w'.drawn)\/(l'.a=some w.heap.size/\Below w.heap.size w w')):=by
 obtain⟨v',w',hr,ho,hg,_⟩:=run_append_own (P:=P) w 0 ty rt e i z i.size i.bytes hu hi hz rfl rfl hzs hsz (rowV l m) m cs hown ad k c news hl hnews h1 h63 (by omega) (zAE _)
 have below:∀ {cells:Array Value} {b:Value},(Builtin.append_ #[ty,ty] rt #[rowV l m,.slice (some ad) k c]).run P w=.ok (.slice (some ⟨w.heap.size,0,none⟩) (m+k) (grownCap w (m+k) l.cap e)) (w.drew.alloc (.cells cells e)) ->
   ∃ l' w',(Builtin.append_ #[ty,ty] rt #[rowV l m,.slice (some ad) k c]).run P w=.ok (rowV l' (m+k)) w'/\w'.ownsRow 0 e i.size (rowV l' (m+k)) (m+k) (cs++news) /\
   ((l'=l/\w.grownBy w' l.a/\w.drawn<=w'.drawn)\/(l'.a=some w.heap.size/\Below w.heap.size w w')):=fun {cells b} hr2=>by
  rw [hr2] at hr
  cases hr
  exact⟨⟨some w.heap.size,grownCap w (m+k) l.cap e,[]⟩,_,hr2,ho,.inr ⟨rfl,((Below.refl _ w).drew).alloc (Nat.le_refl _) _⟩⟩
 rcases hown.2 with⟨hv,hm⟩ | ⟨g,cap,cur,hv,_,hgc,hle,hcap,hcs,htake⟩
 ·-- nil
  subst hm
  have hcs0:cs = []:=zY (by simpa using hown.1)
  have hcap0:l.cap=0:=by simp only [rowV,Value.slice.injEq] at hv;exact hv.2.2
  have hr2:=run_append_nil (P:=P) w ty rt e i z hu hi hz ad k c news hl hnews hk (by unfold maxLen at h63;omega) (by have:=hbytes;simp only [Nat.zero_add] at this;omega)
  rw [<- hv] at hr2
  refine below (b:=v') (cells:=news.toArray++Builtin.zeroCells z.cells (grownCap w k 0 e - k)) ?_
  rw [Nat.zero_add,hcap0]
  exact hr2
 ·have hl':=hv
  simp only [rowV,Loc.addr,Value.slice.injEq,true_and] at hl'
  obtain⟨hla,hlc⟩:=hl'
  have hla:l.a=some g:=by
   cases h:l.a with
   | none=>rw [h] at hla;cases hla
   | some b=>rw [h] at hla;simp at hla;rw [hla]
  by_cases hroom:m+k<=cap
  ·have hfit:m*i.size+news.length<=cur.size:=by rw [hl,hcs,<- zBd];exact zy _ hroom
   have hr2:=run_append_room (P:=P) w ty rt e i hu hi g m cap cur hgc ad k c news hl hnews h1 hroom hfit
   rw [<- hv,hr] at hr2
   cases hr2
   have hrv:Value.slice (some ⟨g,0,none⟩) (m+k) cap=rowV l (m+k):=by simp [rowV,Loc.addr,hla,hlc]
   rw [hrv] at hr ho
   refine⟨l,_,hr,ho,.inl ⟨rfl,?_,Nat.le_refl _⟩⟩
   rw [hv] at hg
   rw [hla];exact hg
  ·have holds:∀ j u,cs[j]? = some u->w.cell? ((⟨g,0,none⟩:Addr).add j)=some u:=by rw [hv] at hown;exact hown.cells (g:=g) rfl
   have hr2:=run_append_grow (P:=P) w ty rt e i z hu hi hz ⟨g,0,none⟩ m cap cs hown.1 holds ad k c news hl hnews (by omega) (by unfold maxLen at h63;omega) (growslice_fits (by omega) (by omega))
   rw [<- hv] at hr2
   refine below (b:=v') (cells:=cs.toArray++news.toArray++Builtin.zeroCells z.cells (grownCap w (m+k) cap e - (m+k))) ?_
   rw [hlc]
   exact hr2
theorem qwY(R:Rep w0 A M0 w h σ)(hs:Sub hm h){s:Sh}{v:V}{x:Value}(hv:RV w (mutb M0 h σ) h σ v x){ys:List s.den}(hd:decSl hm s v=some ys) :
  ∃ ao c ds,x=.slice ao ys.length c/\RL w (mutb M0 h σ) s ys ds/\(ys = []\/∃ b q,ao=some ⟨b,q,none⟩/\qay w b q ds):=by
 cases v with
 | nil=>
  simp only [decSl,zD] at hd
  subst hd
  simp only [RV] at hv
  exact⟨none,0,[],hv,rfl,.inl rfl⟩
 | sl s' zs=>
  simp only [decSl] at hd
  obtain⟨e,rfl⟩:=qau hd
  cases e
  simp only [RV] at hv
  obtain⟨ao,c,ds,h1,h2,h3⟩:=hv.cellsOf
  exact⟨ao,c,ds,h1,h2,h3.imp id fun ⟨b,q,h4,_,_,h5⟩=>⟨b,q,h4,h5⟩⟩
 | slc o ver=>
  simp only [decSl] at hd
  split at hd
  ·rename_i fz ver' e s' zs eo
   obtain⟨hvv,hd⟩:=qc hd
   obtain⟨ee,rfl⟩:=qau hd
   cases ee
   simp only [RV] at hv
   obtain⟨fz1,ver1,e1,s1,xs1,eo1,hl,_,hx⟩:=hv
   have eh:=hs.get eo (by simp)
   rw [eh] at eo1
   cases eo1
   have ro:=R.obj o
   rw [eh] at ro
   have hx:=hx (zB hvv)
   cases ha:(σ o).a with
   | some b=>
    obtain⟨cs,h1,h2⟩:=qxi ro ha
    exact⟨_,_,cs,hx,h2,.inr ⟨b,0,by simp [Loc.addr,ha],h1⟩⟩
   | none=>
    have h0:zs = []:=by
     cases fz with
     | true=>
      obtain⟨_,r1,_⟩:=ro
      obtain⟨ao,c,ds,h1,h2,h3⟩:=r1.cellsOf
      rcases h3 with h3 | ⟨b,q,rfl,_⟩
      ·exact h3
      ·simp [rowV,Loc.addr,ha] at h1
     | false=>
      obtain⟨_,cs,r1,_⟩:=ro
      rcases r1.2 with⟨_,h0⟩ | ⟨g,cap,cur,hv,_⟩
      ·exact zY h0
      ·simp [rowV,Loc.addr,ha] at hv
    subst h0
    exact⟨_,_,[],hx,rfl,.inl rfl⟩
  ·cases hd
 | _=>simp [decSl] at hd
theorem qwF{tys:Array TypeId}{args:Array Value}{ty ty' rt:TypeId}{u v:Value}(h0:tys[0]? = some ty)(h1:tys[1]? = some ty')(h2:args[0]? = some u)(h3:args[1]? = some v) :
  Builtin.append_ tys rt args=Builtin.append_ #[ty,ty'] rt #[u,v]:=by
 unfold Builtin.append_
 simp only [h0,h1,h2,h3]
 rfl
theorem qBm(R:Rep w0 A M0 w h σ){ty e:TypeId}{ee:TE}{i:TypeInfo}{z:Value}(hu:P.underlying ty=some (.slice e))(hi:TeIs P e ee i z){rt:TypeId}{s:Sh}(hsn:s.n=ee.size)(h1:1<=ee.size){ys:List s.den}{ao:Option Addr}{c:Nat}{ds:List Value}
  (hds:RL w (mutb M0 h σ) s ys ds) (hloc:ys = []\/∃ b q,ao=some ⟨b,q,none⟩/\qay w b q ds) (hby:ys.length*i.bytes<=140737488355328) (hb1:1<=i.bytes) (hn:getO h nid=.none)
  (hH:getO H nid=.row false 0 e s ys) (hH':∀ o,o≠nid->getO H o=getO h o) :
  ∃ val w',(Builtin.append_ #[ty,ty] rt #[.slice none 0 0,.slice ao ys.length c]).run P w=.ok val w'/\PostW w0 A M0 w h σ H (.slc nid 0) val w':=by
 have hsi:i.size=s.n:=by rw [hi.size,hsn]
 have hzs:z.cells.size=i.size:=by rw [hi.zsize,hi.size]
 have hmax:ys.length<=maxLen:=by
  have:ys.length*1<=ys.length*i.bytes:=zBu _ hb1
  unfold maxLen;omega
 have hown0:w.ownsRow 0 e i.size (rowV ⟨none,0,[]⟩ 0) 0 []:=⟨by simp,.inl ⟨rfl,rfl⟩⟩
 by_cases hk:ys = []
 ·subst hk
  have hr0:=qoZ (P:=P) (w:=w) hu hi.info (rt:=rt) (b:=none) (ao:=ao) (m:=0) (cap:=0) (c:=c) (Nat.le_refl _)
  refine⟨_,_,hr0,?_⟩
  exact qxA (l:=⟨none,0,[]⟩) (cs:=[]) (xs:=[]) R hn hH hH' (Below.refl _ _) (by omega) (fun b hb=>by cases hb) (by rw [<- hsi];exact hown0) rfl
 ·have hpos:0<ys.length:=zAk.2 hk
  obtain⟨b,q,rfl,hc⟩:=hloc.resolve_left hk
  obtain⟨l',w',hr,ho,hcase⟩:=qnp (P:=P) (rt:=rt) hu hi.info hi.zero hzs (by omega) hown0 (ad:=⟨b,q,none⟩) (k:=ys.length) (c:=c) (news:=ds) (by rw [hsi];exact hds.length)
   (fun j u hj=>by rw [addr_add];exact (hc j u hj).1) hds.one hpos (by rw [Nat.zero_add];exact hby) (by rw [Nat.zero_add];exact hmax)
  rw [Nat.zero_add,List.nil_append] at ho
  rw [Nat.zero_add] at hr
  refine⟨_,_,hr,?_⟩
  have hbel:Below w.heap.size w w'/\∀ b,l'.a=some b->w.heap.size<=b:=by
   rcases hcase with⟨rfl,hg⟩ | ⟨hla,hg⟩
   ·exact⟨⟨hg.1.os,⟨hg.1.tape,hg.2⟩,hg.1.output,hg.1.size,fun k hk=>hg.1.block k hk (by simp)⟩,fun b hb=>by cases hb⟩
   ·exact⟨hg,fun b hb=>by rw [hla] at hb;cases hb;exact Nat.le_refl _⟩
  exact qxA R hn hH hH' hbel.1 (by omega) l' hbel.2 (by rw [<- hsi];exact ho) hds
theorem qBl(R:Rep w0 A M0 w h σ){ty e:TypeId}{ee:TE}{i:TypeInfo}{z:Value}(hu:P.underlying ty=some (.slice e))(hi:TeIs P e ee i z){rt:TypeId}{s:Sh}(hsn:s.n=ee.size)(h1:1<=ee.size){xs ys:List s.den}{ao:Option Addr}{c:Nat}{ds:List Value}
  (hds:RL w (mutb M0 h σ) s ys ds) (hloc:ys = []\/∃ b q,ao=some ⟨b,q,none⟩/\qay w b q ds) {ob ver:Nat} (eh:getO h ob=.row false ver e s xs)
  (hby:(xs.length+ys.length)*i.bytes<=140737488355328) (hb1:1<=i.bytes) :
  ∃ val w',(Builtin.append_ #[ty,ty] rt #[.slice (σ ob).addr xs.length (σ ob).cap,.slice ao ys.length c]).run P w=.ok val w' /\
   PostW w0 A M0 w h σ (h.set ob (.row false (ver+1) e s (xs++ys))) (.slc ob (ver+1)) val w':=by
 have hsi:i.size=s.n:=by rw [hi.size,hsn]
 have hzs:z.cells.size=i.size:=by rw [hi.zsize,hi.size]
 have hmax:xs.length+ys.length<=maxLen:=by
  have:(xs.length+ys.length)*1<=(xs.length+ys.length)*i.bytes:=zBu _ hb1
  unfold maxLen;omega
 have ro:=R.obj ob
 rw [eh] at ro
 obtain⟨hs1,cs,hown,hrl⟩:=ro
 have hlt:=qae (h:=h) (i:=ob) (by rw [eh];simp)
 have hgs:=qad hlt (.row false (ver+1) e s (xs++ys))
 have fin:∀ (l':Loc) (w':World),(Builtin.append_ #[ty,ty] rt #[rowV (σ ob) xs.length,.slice ao ys.length c]).run P w=.ok (rowV l' (xs.length+ys.length)) w' ->
   w'.ownsRow 0 e i.size (rowV l' (xs.length+ys.length)) (xs.length+ys.length) (cs++ds)->((l'=σ ob/\w.grownBy w' (σ ob).a/\w.drawn<=w'.drawn)\/(l'.a=some w.heap.size/\Below w.heap.size w w')) ->
   ∃ val w',(Builtin.append_ #[ty,ty] rt #[.slice (σ ob).addr xs.length (σ ob).cap,.slice ao ys.length c]).run P w=.ok val w' /\
    PostW w0 A M0 w h σ (h.set ob (.row false (ver+1) e s (xs++ys))) (.slc ob (ver+1)) val w':=fun l' w' hr ho hcase=>by
  refine⟨_,w',hr,updL σ ob l',?_,?_⟩
  ·have hg:w'.os=w.os/\TDr w w'/\w'.output=w.output/\w.heap.size<=w'.heap.size:=by
    rcases hcase with⟨_,hg⟩ | ⟨_,hg⟩
    ·exact⟨hg.1.os,⟨hg.1.tape,hg.2⟩,hg.1.output,hg.1.size⟩
    ·exact⟨hg.os,hg.tape,hg.output,hg.size⟩
   refine Next.upd R ob (by rw [eh];trivial) (by rw [hgs,zJ rfl];trivial) hg.1 hg.2.1 hg.2.2.1 hg.2.2.2 (fun o' hne=>⟨by rw [hgs,zL (fun e=>hne e.symm)],qaE σ l' hne⟩) (fun b hb hne=>?_)
    (fun b hlv ha=>?_) (by rw [eh];exact⟨false,ver+1,e,s,xs++ys,by rw [hgs,zJ rfl],by omega,fun hh=>by omega⟩) (fun k st=>?_)
   ·rcases hcase with⟨_,hg⟩ | ⟨_,hg⟩
    ·exact hg.1.block b hb (fun e=>hne (by rw [eh];rfl) e.symm)
    ·exact hg.block b hb
   ·rw [qZ] at ha
    rcases hcase with⟨rfl,_⟩ | ⟨hla,_⟩
    ·exact .inl ⟨by rw [eh];rfl,ha⟩
    ·rw [hla] at ha;cases ha;exact .inr (Nat.le_refl _)
   ·rw [hgs,zJ rfl,qZ]
    refine⟨hs1,cs++ds,?_,RL.append (RL.keeps k hrl) (RL.keeps k hds)⟩
    rw [zq,<- hsi]
    exact ho
  ·simp only [RV]
   exact⟨false,ver+1,e,s,xs++ys,by rw [hgs,zJ rfl],Nat.le_refl _,rfl,fun _=>by rw [qZ,zq];rfl⟩
 rw [<- hsi] at hown
 have hlecap:xs.length<=(σ ob).cap:=by
  rcases hown.2 with⟨_,hm⟩ | ⟨g,cap,cur,hv,_,_,hle,_⟩
  ·omega
  ·simp only [rowV,Value.slice.injEq] at hv
   rw [hv.2.2];exact hle
 by_cases hk:ys = []
 ·subst hk
  have hd0:ds = []:=by simpa only [RL] using hds
  subst hd0
  refine fin (σ ob) w ?_ (by simpa using hown) (.inl ⟨rfl,⟨rfl,rfl,rfl,Nat.le_refl _,fun _ _ _=>rfl⟩,Nat.le_refl _⟩)
  have:=qoZ (P:=P) (w:=w) hu hi.info (rt:=rt) (b:=(σ ob).addr) (ao:=ao) (m:=xs.length) (cap:=(σ ob).cap) (c:=c) hlecap
  simpa [rowV] using this
 ·have hpos:0<ys.length:=zAk.2 hk
  obtain⟨b,q,rfl,hc⟩:=hloc.resolve_left hk
  obtain⟨l',w',hr,ho,hcase⟩:=qnp (P:=P) (rt:=rt) hu hi.info hi.zero hzs (by omega) hown (ad:=⟨b,q,none⟩) (k:=ys.length) (c:=c) (news:=ds) (by rw [hsi];exact hds.length)
   (fun j u hj=>by rw [addr_add];exact (hc j u hj).1) hds.one hpos hby hmax
  exact fin l' w' hr ho hcase
theorem qmk(hT:TOk P C.T)(R:Rep w0 A M0 w h σ)(hs:Sub hm h)(hrt:∀ i,RV w (mutb M0 h σ) h σ (t i) (a.tmps.getD i undef)){ty rt:TypeId}{x y:Operand}
  {K:V->List (Nat×O)->Option O->Option ρ} {res:ρ} (hb:qnq C hm nid ty (ev t x) (ev t y) K=some res) :
  ∃ v ss mk,K v ss mk=some res/\∀ H,qaO h ss mk nid H->(mk.isSome=true->getO h nid=.none) ->
   ∃ val w',(Builtin.append_ #[ty,ty] rt #[a.eval x,a.eval y]).run P w=.ok val w'/\PostW w0 A M0 w h σ H v val w':=by
 unfold qnq at hb;cases hb
theorem qkv(hT:TOk P C.T)(R:Rep w0 A M0 w h σ)(hs:Sub hm h)(hrt:∀ i,RV w (mutb M0 h σ) h σ (t i) (a.tmps.getD i undef)){ty rt:TypeId}{x y:Operand}
  {K:V->List (Nat×O)->Option O->Option ρ} {res:ρ} (hb:qiG C hm nid ty (ev t x) (ev t y) K=some res) :
  ∃ v ss mk,K v ss mk=some res/\∀ H,qaO h ss mk nid H->(mk.isSome=true->getO h nid=.none) ->
   ∃ val w',(Builtin.append_ #[ty,ty] rt #[a.eval x,a.eval y]).run P w=.ok val w'/\PostW w0 A M0 w h σ H v val w':=by
 have ex:=qj hrt x
 have ey:=qj hrt y
 unfold qiG at hb
 split at hb
 ·cases hb
 ·rename_i e ee he
  obtain⟨hu,i,z,hi⟩:=qbV hT he
  split at hb
  ·cases hb
  ·rename_i s hsh
   obtain⟨hsn,_⟩:=hi.sh s hsh
   obtain⟨h1,hb2⟩:=qc hb
   clear hb
   have h1:=zH h1
   split at hb2
   ·cases hb2
   ·rename_i ys hys
    obtain⟨ao,c,ds,hyv,hds,hloc⟩:=qwY R hs ey hys
    rw [hyv]
    split at hb2
    ·rename_i hx
     rw [hx] at ex
     simp only [RV] at ex
     obtain⟨hok,hb3⟩:=qc hb2
     simp only [zA,zQ] at hok
     refine⟨_,_,_,hb3,fun H hH hn=>?_⟩
     rw [ex]
     exact qBm R hu hi hsn h1 hds hloc (by rw [hi.bytes];exact hok.1) (by rw [hi.bytes];exact zH hok.2) (hn rfl) hH.1 hH.2
    ·rename_i ob ver hx
     rw [hx] at ex
     simp only [RV] at ex
     obtain⟨fz1,ver1,e1,s1,xs1,eo1,hl,h1c,hxx⟩:=ex
     cases eo:getO hm ob with
     | none=>rw [eo] at hb2;cases hb2
     | cells vs=>rw [eo] at hb2;cases hb2
     | oth fz q d=>rw [eo] at hb2;cases hb2
     | nst ver q d=>rw [eo] at hb2;cases hb2
     | kds ver p t h0 d=>rw [eo] at hb2;cases hb2
     | gone=>rw [eo] at hb2;cases hb2
     | row fz ver' e' s' xs=>
      have eh:=hs.get eo (by simp)
      rw [eh] at eo1
      rw [eo] at hb2
      simp only at hb2
      obtain⟨hok,hb3⟩:=qc hb2
      clear hb2
      simp only [zA,zT] at hok
      obtain⟨⟨hver,hfz⟩,hee⟩:=hok
      subst hfz
      have hver:=zB hver
      have hee:=zB hee
      subst hee
      subst hver
      simp only [O.row.injEq] at eo1
      obtain⟨-,q1,-,q2,q3⟩:=eo1
      by_cases ess:s'=s
      ·subst ess
       have hcast:qbn (s:=.sl s') (s':=.sl s') xs=some xs:=by unfold qbn;rw [dif_pos rfl]
       rw [hcast] at hb3
       simp only at hb3
       obtain⟨hok,hb4⟩:=qc hb3
       clear hb3
       simp only [zA,zQ] at hok
       refine⟨_,_,_,hb4,fun H hH _=>?_⟩
       simp only [qaO,qai] at hH
       subst hH
       have hlen:xs1.length=xs.length:=by subst q2;rw [eq_of_heq q3]
       rw [hxx q1,hlen]
       exact qBl R hu hi hsn h1 hds hloc eh (by rw [hi.bytes];exact hok.1) (by rw [hi.bytes];exact zH hok.2)
      ·have hcast:qbn (s:=.sl s') (s':=.sl s) xs=none:=by unfold qbn;rw [dif_neg (fun e=>ess (by cases e;rfl))]
       rw [hcast] at hb3
       cases hb3
    ·cases hb2
theorem qtx(hT:TOk P C.T)(R:Rep w0 A M0 w h σ)(hs:Sub hm h)(hrt:∀ i,RV w (mutb M0 h σ) h σ (t i) (a.tmps.getD i undef)){ty rt:TypeId}{x y:Operand}
  {K:V->List (Nat×O)->Option O->Option ρ} {res:ρ} (hb:qnr C hm nid ty (ev t x) (ev t y) K=some res) :
  ∃ v ss mk,K v ss mk=some res/\∀ H,qaO h ss mk nid H->(mk.isSome=true->getO h nid=.none) ->
   ∃ val w',(Builtin.append_ #[ty,ty] rt #[a.eval x,a.eval y]).run P w=.ok val w'/\PostW w0 A M0 w h σ H v val w':=by
 unfold qnr at hb
 split at hb
 ·exact qmk hT R hs hrt hb
 ·split at hb
  ·exact qmk hT R hs hrt hb
  ·exact qkv hT R hs hrt hb
 ·exact qkv hT R hs hrt hb
theorem RL.take{M:Nat->Prop}{s:Sh}{xs:List s.den}{cs:List Value}(h:RL w M s xs cs)(k:Nat):RL w M s (xs.take k) (cs.take (k*s.n)):=by
 induction xs generalizing cs k with
 | nil=>simp only [RL] at h;subst h;simp [RL]
 | cons x xs ih=>
  simp only [RL] at h
  obtain⟨c,d,rfl,h1,h2⟩:=h
  have hc:=RC.length h1
  cases k with
  | zero=>simp [RL]
  | succ k=>
   simp only [List.take_succ_cons,RL]
   refine⟨c,d.take (k*s.n),?_,h1,ih h2 k⟩
   rw [zCK,zAl (by rw [hc,zAM];omega),hc,zAM,zBJ]
theorem RL.drop{M:Nat->Prop}{s:Sh}{xs:List s.den}{cs:List Value}(h:RL w M s xs cs)(k:Nat):RL w M s (xs.drop k) (cs.drop (k*s.n)):=by
 induction xs generalizing cs k with
 | nil=>simp only [RL] at h;subst h;simp [RL]
 | cons x xs ih=>
  cases k with
  | zero=>simpa using h
  | succ k=>
   simp only [RL] at h
   obtain⟨c,d,rfl,h1,h2⟩:=h
   have hc:=RC.length h1
   rw [List.drop_succ_cons,zBh,zAm (l:=c) (by rw [hc,zAM];omega),hc,zAM,zBJ,List.nil_append]
   exact ih h2 k
theorem qkc{α:Type}(xs ys:List α):(cpy xs ys).length=xs.length:=by simp [cpy];omega
theorem quj{ty e:TypeId}{i:TypeInfo}(hu:P.underlying ty=some (.slice e))(hi:P.info? e=some i){rt:TypeId}{b ao:Option Addr}{m cap k c:Nat}(h0:Nat.min k m=0) :
  (Builtin.copy_ #[ty,ty] rt #[.slice b m cap,.slice ao k c]).run P w=.ok (goInt 0) w:=by
 have hf:(Builtin.firstCells i.size 0 (.slice ao k c)).run P w=.ok #[] w:=by
  cases ao <;> simp [Builtin.firstCells,loadCells,loadCellsFrom]
 cases b <;> simp [Builtin.copy_,run_underlying hu,sizeOf,typeInfo,hi,Builtin.lenOf,h0,hf,storeCells]
theorem qzs{ty e:TypeId}{i:TypeInfo}(hu:P.underlying ty=some (.slice e))(hi:P.info? e=some i){rt:TypeId}{g m cap k c:Nat}{a:Addr}{cur:Array Value}{t:TypeId}{cs:List Value}
  (hg:w.heap[g]? = some (.cells cur t (0,0))) (hn:cs.length=Nat.min k m*i.size) (hsrc:∀ j v,cs[j]? = some v->w.cell? (a.add j)=some v) (hfit:cs.length<=cur.size) (h1:∀ v∈cs,v.oneCell'=true) :
  (Builtin.copy_ #[ty,ty] rt #[.slice (some ⟨g,0,none⟩) m cap,.slice (some a) k c]).run P w=.ok (goInt (Nat.min k m:Nat)) (w.setRow g (cur.toList.take 0++cs++cur.toList.drop (0+cs.length)).toArray):=by
 have hl:=run_loadCells_list (P:=P) w a cs hsrc
 have hst:=run_storeCells_at P g 0 t cs 0 cur w hg (by simpa using hfit) h1
 simp only [Nat.add_zero] at hst
 simp [Builtin.copy_,run_underlying hu,Builtin.lenOf,Builtin.firstCells,sizeOf,typeInfo,hi,<- hn,hl,hst]
theorem qAR{tys:Array TypeId}{args:Array Value}{ty ty' rt:TypeId}{u v:Value}(h0:tys[0]? = some ty)(h1:tys[1]? = some ty')(h2:args[0]? = some u)(h3:args[1]? = some v) :
  Builtin.copy_ tys rt args=Builtin.copy_ #[ty,ty'] rt #[u,v]:=by
 unfold Builtin.copy_
 simp only [h0,h2,h3]
 rfl
theorem qDU(R:Rep w0 A M0 w h σ){ty e:TypeId}{ee:TE}{i:TypeInfo}{z:Value}(hu:P.underlying ty=some (.slice e))(hi:TeIs P e ee i z){rt:TypeId}{s:Sh}(hsn:s.n=ee.size){xs ys:List s.den}{ao:Option Addr}{c:Nat}{ds:List Value}
  (hds:RL w (mutb M0 h σ) s ys ds) (hloc:ys = []\/∃ b q,ao=some ⟨b,q,none⟩/\qay w b q ds) {ob ver:Nat} (eh:getO h ob=.row false ver e s xs) :
  ∃ val w',(Builtin.copy_ #[ty,ty] rt #[.slice (σ ob).addr xs.length (σ ob).cap,.slice ao ys.length c]).run P w=.ok val w' /\
   PostW w0 A M0 w h σ (h.set ob (.row false ver e s (cpy xs ys))) (.int .i64 ((Nat.min ys.length xs.length:Nat):Int)) val w':=by
 have hsi:i.size=s.n:=by rw [hi.size,hsn]
 have ro:=R.obj ob
 rw [eh] at ro
 obtain⟨hs1,cs,hown,hrl⟩:=ro
 have hlt:=qae (h:=h) (i:=ob) (by rw [eh];simp)
 have hgs:=qad hlt (.row false ver e s (cpy xs ys))
 by_cases h0:Nat.min ys.length xs.length=0
 ·have hcp:cpy xs ys=xs:=by
   unfold cpy
   rcases zBI ys.length with h | h
   ·rw [zY h];simp
   ·have:xs.length=0:=by simp only [zCQ] at h0;split at h0 <;> omega
    rw [zY this];simp
  have hset:h.set ob (.row false ver e s (cpy xs ys))=h:=by
   rw [hcp,<- eh]
   apply zAY
   intro j
   rw [zAc]
   split
   ·rename_i e;subst e
    unfold getO
    rw [zK,zW hlt]
    rfl
   ·rfl
  refine⟨_,w,quj hu hi.info h0,σ,?_,?_⟩
  ·rw [hset]
   exact Next.refl R
  ·rw [h0];simp [RV,goInt]
 ·have hpy:ys ≠ []:=fun e=>h0 (by subst e;simp [zCQ])
  have hpx:xs ≠ []:=fun e=>h0 (by subst e;simp [zCQ])
  obtain⟨b',q,rfl,hc⟩:=hloc.resolve_left hpy
  have hown2:=hown
  rcases hown.2 with⟨_,hm⟩ | ⟨g,cap,cur,hgv,_,hg,hnc,hcm,hcs,htake⟩
  ·exact absurd (zY hm) hpx
  have hla:=hgv
  simp only [rowV,Value.slice.injEq,true_and] at hla
  obtain⟨hla,hlc⟩:=hla
  subst hlc
  have hab:(σ ob).a=some g:=by
   cases ha:(σ ob).a with
   | none=>simp [Loc.addr,ha] at hla
   | some b=>simp [Loc.addr,ha] at hla;rw [hla]
  have hdl:=hds.length
  have hmn:Nat.min ys.length xs.length*s.n<=xs.length*s.n:=zy _ (Nat.min_le_right _ _)
  have hnl:(ds.take (xs.length*s.n)).length=Nat.min ys.length xs.length*s.n:=by
   rw [zAN,hdl,Nat.min_comm,<- Nat.mul_min_mul_right]
  have hxc:=zy s.n hnc
  have hrun:=qzs (P:=P) (w:=w) hu hi.info (rt:=rt) (m:=xs.length) (cap:=(σ ob).cap) (k:=ys.length) (c:=c) (a:=⟨b',q,none⟩) hg (cs:=ds.take (xs.length*s.n)) (by rw [hsi];exact hnl)
   (fun j v hj=>by
    rw [addr_add]
    refine (hc j v ?_).1
    rw [zt] at hj
    split at hj
    ·exact hj
    ·cases hj) (by rw [hnl,hcs];omega) (fun v hv=>hds.one v (zAU hv))
  obtain⟨q1,q2,q3,q4,q5⟩:=qjP w g (cur.toList.take 0++ds.take (xs.length*s.n)++cur.toList.drop (0+(ds.take (xs.length*s.n)).length)).toArray
  have haddr:(σ ob).addr=some ⟨g,0,none⟩:=hla
  rw [haddr]
  refine⟨_,_,hrun,σ,?_,by simp [RV,goInt]⟩
  refine Next.upd R ob (by rw [eh];trivial) (by rw [hgs,zJ rfl];trivial) q1 q2 q3 (by omega) (fun o' hne=>⟨by rw [hgs,zL (fun e=>hne e.symm)],rfl⟩) (fun b' hb' hne=>q5 b' (fun e'=>hne (by rw [eh];rfl) (by rw [e',hab])))
   (fun b' hl ha'=>.inl ⟨by rw [eh];rfl,ha'⟩) (by rw [eh];exact⟨false,ver,e,s,cpy xs ys,by rw [hgs,zJ rfl],Nat.le_refl _,fun _=>⟨rfl,rfl,qkc _ _⟩⟩) (fun k st=>?_)
  rw [hgs,zJ rfl]
  have hdrop:cs.drop (ds.take (xs.length*s.n)).length=cs.drop (ys.length*s.n):=by
   have hcl:=hrl.length
   rw [hnl]
   by_cases hle:ys.length<=xs.length
   ·rw [show Nat.min ys.length xs.length=ys.length from zBH hle]
   ·have hle:xs.length<=ys.length:=by omega
    have:=zy s.n hle
    rw [show Nat.min ys.length xs.length=xs.length from zCJ hle,zAm (by omega),zAm (by omega)]
  refine⟨hs1,ds.take (xs.length*s.n)++cs.drop (ys.length*s.n),?_,RL.keeps k ((hds.take _).append (hrl.drop _))⟩
  have hrv2:rowV (σ ob) (cpy xs ys).length=.slice (some ⟨g,0,none⟩) xs.length (σ ob).cap:=by rw [qkc];simp [rowV,haddr]
  rw [hrv2,qkc]
  have hcl:=hown.1
  refine⟨?_,.inr ⟨g,(σ ob).cap,_,rfl,zAE _,setRow_heap w g cur _ e _ hg,by omega,by omega,?_,?_⟩⟩
  ·rw [<- hdrop,zq,zAI,hnl]
   omega
  ·have hcl2:cur.toList.length=(σ ob).cap*s.n:=by rw [<- hcs];rfl
   rw [List.size_toArray,zq,zq,List.take_zero,zAI,hnl,hcl2]
   simp only [List.length_nil]
   omega
  ·have:=qwV cur.toList (ds.take (xs.length*s.n)) 0 (xs.length*s.n) (by rw [hnl];omega) (by simp;omega)
   rw [htake] at this
   simp only [List.take_zero,List.nil_append,Nat.zero_add] at this ⊢
   rw [<- hdrop]
   simpa using this
theorem Sub.nil(h:List O):Sub [] h:=fun o=>.inl (by simp [getO])
theorem qym{ty e:TypeId}{i:TypeInfo}(hu:P.underlying ty=some (.slice e))(hi:P.info? e=some i){rt:TypeId}{g off m cap k c:Nat}{a:Addr}{cur:Array Value}{t:TypeId}{cs:List Value}
  (hg:w.heap[g]? = some (.cells cur t (0,0))) (hn:cs.length=Nat.min k m*i.size) (hsrc:∀ j v,cs[j]? = some v->w.cell? (a.add j)=some v) (hfit:off+cs.length<=cur.size) (h1:∀ v∈cs,v.oneCell'=true) :
  (Builtin.copy_ #[ty,ty] rt #[.slice (some ⟨g,off,none⟩) m cap,.slice (some a) k c]).run P w=.ok (goInt (Nat.min k m:Nat)) (w.setRow g (cur.toList.take off++cs++cur.toList.drop (off+cs.length)).toArray):=by
 have hl:=run_loadCells_list (P:=P) w a cs hsrc
 have hst:=run_storeCells_at P g off t cs 0 cur w hg (by simpa using hfit) h1
 simp only [Nat.add_zero] at hst
 simp [Builtin.copy_,run_underlying hu,Builtin.lenOf,Builtin.firstCells,sizeOf,typeInfo,hi,<- hn,hl,hst]
theorem qCN(s:Sh)(xs:List s.den):(n i:Nat)->i+n<=xs.length->unL s xs n i=((xs.drop i).take n).flatMap (encL s)
 | 0,i,_=>by simp [unL]
 | n+1,i,hl=>by
  have hlt:i<xs.length:=by omega
  rw [unL,qCN s xs n (i+1) (by omega),zBB hlt,List.take_succ_cons,List.flatMap_cons]
  simp [nth,List.getD,hlt]
theorem RL.rvs{h':List O}{σ':Nat->Loc}{M:Nat->Prop}{s:Sh}{xs:List s.den}{cs:List Value}(h:RL w M s xs cs):RVs w M h' σ' (xs.flatMap (encL s)) cs:=by
 induction xs generalizing cs with
 | nil=>simp only [RL] at h;subst h;rfl
 | cons x xs ih=>
  simp only [RL] at h
  obtain⟨c,d,rfl,h1,h2⟩:=h
  rw [List.flatMap_cons]
  exact (qbM s h1).append (ih h2)
theorem qDV(R:Rep w0 A M0 w h σ){ty e:TypeId}{ee:TE}{i:TypeInfo}{z:Value}(hu:P.underlying ty=some (.slice e))(hi:TeIs P e ee i z){rt:TypeId}{s:Sh}(hsn:s.n=ee.size)(hs1:s.n=1){ys:List s.den}{ao:Option Addr}{c:Nat}{ds:List Value}
  (hds:RL w (mutb M0 h σ) s ys ds) (hloc:ys = []\/∃ b q,ao=some ⟨b,q,none⟩/\qay w b q ds) {ob off m:Nat} {us:List V} (eh:getO h ob=.cells us) {b:Nat} (hab:(σ ob).a=some b) (hle:off+m<=us.length) (hm1:1<=m) {old:List s.den} (hold:qfC [] s m ((us.drop off).take m)=some old) :
  ∃ val w',(Builtin.copy_ #[ty,ty] rt #[.slice (some ⟨b,off,none⟩) m m,.slice ao ys.length c]).run P w=.ok val w' /\
   PostW w0 A M0 w h σ (h.set ob (.cells (us.take off++unL s (cpy old ys) m 0++us.drop (off+m)))) (.int .i64 ((Nat.min ys.length old.length:Nat):Int)) val w':=by
 have hsi:i.size=1:=by rw [hi.size,<- hsn,hs1]
 have ro:=R.obj ob
 rw [eh] at ro
 obtain⟨b',ty',cs,hab',hb,hr,h1⟩:=ro
 rw [hab] at hab';cases hab'
 have hcl:us.length=cs.size:=by rw [hr.length];simp
 obtain⟨hrl,hol⟩:=qeW R (Sub.nil h) (Mt:=mutb M0 h σ) (fun b hb=>hb) m ((hr.drop off).take m) (fun v hv o ver e' ver' ty' s' ys hg'=>by simp [getO] at hg') hold
 have hlt:=qae (h:=h) (i:=ob) (by rw [eh];simp)
 have hg:=qad hlt (.cells (us.take off++unL s (cpy old ys) m 0++us.drop (off+m)))
 have hdl:ds.length=ys.length:=by rw [hds.length,hs1,Nat.mul_one]
 have hmin:Nat.min ys.length m=min ys.length m:=rfl
 have hnl:(ds.take m).length=Nat.min ys.length m:=by rw [zAN,hdl,hmin];omega
 have hsrc:ys = []\/∃ b q,ao=some ⟨b,q,none⟩/\qay w b q ds:=hloc
 have hrun:(Builtin.copy_ #[ty,ty] rt #[.slice (some ⟨b,off,none⟩) m m,.slice ao ys.length c]).run P w=.ok (goInt (Nat.min ys.length m:Nat)) (w.setRow b (cs.toList.take off++ds.take m++cs.toList.drop (off+(ds.take m).length)).toArray):=by
  rcases hsrc with rfl | ⟨b2,q2,rfl,hc⟩
  ·simp only [RL] at hds
   subst hds
   have e0:(cs.toList.take off++([]:List Value).take m++cs.toList.drop (off+(([]:List Value).take m).length)).toArray=cs:=by simp
   have hmz:Nat.min ([]:List s.den).length m=0:=by simp [zCQ]
   rw [e0,setRow_self w b cs ty' (0,0) hb,hmz]
   exact quj hu hi.info hmz
  ·exact qym hu hi.info hb (by rw [hsi,Nat.mul_one];exact hnl) (fun j v hj=>by
    rw [addr_add]
    refine (hc j v ?_).1
    rw [zt] at hj
    split at hj
    ·exact hj
    ·cases hj) (by rw [hnl,hmin];omega) (fun v hv=>hds.one v (zAU hv))
 obtain⟨q1,q2,q3,q4,q5⟩:=qjP w b (cs.toList.take off++ds.take m++cs.toList.drop (off+(ds.take m).length)).toArray
 refine⟨_,_,hrun,σ,?_,by rw [hol];simp [RV,goInt]⟩
 refine Next.upd R ob (by rw [eh];trivial) (by rw [hg,zJ rfl];trivial) q1 q2 q3 (by omega) (fun o' hne=>⟨by rw [hg,zL (fun e=>hne e.symm)],rfl⟩) (fun b' hb' hne=>q5 b' (fun e'=>hne (by rw [eh];trivial) (by rw [e',hab])))
  (fun b' hl ha'=>.inl ⟨by rw [eh];trivial,ha'⟩) (by rw [eh];exact⟨_,by rw [hg,zJ rfl],rfl⟩) (fun k st=>?_)
 rw [hg,zJ rfl]
 have hcpl:(cpy old ys).length=m:=by rw [qkc,hol]
 have hsp:cs.toList.drop (off+(ds.take m).length)=((cs.toList.drop off).take m).drop ys.length++cs.toList.drop (off+m):=by
  have hcs:cs.toList.length=cs.size:=by simp
  rw [hnl,hmin]
  apply zAY
  intro j
  rw [zAB,zBp,zAB,zt,zAB,zAB]
  simp only [zAI,zAN]
  by_cases hy:ys.length<=m
  ·rw [show min ys.length m=ys.length by omega]
   by_cases hj:j<min m (cs.toList.length - off) - ys.length
   ·rw [zJ hj,zJ (by omega)];congr 1;omega
   ·rw [zL hj];congr 1;omega
  ·rw [show min ys.length m=m by omega,zL (by omega)];congr 1;omega
 have hmem:RL w (mutb M0 h σ) s (cpy old ys) (ds.take m++((cs.toList.drop off).take m).drop ys.length):=by
  have a1:=hds.take old.length
  have a2:=hrl.drop ys.length
  rw [hs1,Nat.mul_one,hol] at a1
  rw [hs1,Nat.mul_one] at a2
  have:=a1.append a2
  rw [<- hol] at this ⊢
  exact this
 have eL:cs.toList.take off++(ds.take m++((cs.toList.drop off).take m).drop ys.length)++cs.toList.drop (off+m)=cs.toList.take off++ds.take m++cs.toList.drop (off+(ds.take m).length):=by rw [hsp];simp
 have e1:(cpy old ys).flatMap (encL s)=unL s (cpy old ys) m 0:=by
  rw [qCN s _ m 0 (by omega),List.drop_zero,zAl (by omega)]
 refine⟨b,ty',_,hab,setRow_heap w b cs _ ty' _ hb,?_,?_⟩
 ·refine Eq.subst (motive:=fun l=>RVs _ _ _ _ _ l) eL ?_
  refine Eq.subst (motive:=fun l=>RVs _ _ _ _ (_++l++_) _) e1 ?_
  exact ((RVs.keeps k st (hr.take off)).append (RVs.keeps k st hmem.rvs)).append (RVs.keeps k st (hr.drop _))
 ·intro c hc
  have hc:c∈cs.toList.take off++ds.take m++cs.toList.drop (off+(ds.take m).length):=hc
  simp only [zU] at hc
  rcases hc with (hc | hc) | hc
  ·exact h1 c (zAU hc)
  ·exact hds.one c (zAU hc)
  ·exact h1 c (zAy hc)
theorem qwB(hT:TOk P C.T)(R:Rep w0 A M0 w h σ)(hs:Sub hm h)(hrt:∀ i,RV w (mutb M0 h σ) h σ (t i) (a.tmps.getD i undef)){ty rt:TypeId}{x y:Operand}
  {K:V->List (Nat×O)->Option O->Option ρ} {res:ρ} (hb:copyK C hm ty (ev t x) (ev t y) K=some res) :
  ∃ v ss mk,K v ss mk=some res/\∀ H,qaO h ss mk nid H->(mk.isSome=true->getO h nid=.none) ->
   ∃ val w',(Builtin.copy_ #[ty,ty] rt #[a.eval x,a.eval y]).run P w=.ok val w'/\PostW w0 A M0 w h σ H v val w':=by
 have ex:=qj hrt x
 have ey:=qj hrt y
 unfold copyK at hb
 split at hb
 ·cases hb
 ·rename_i e ee he
  obtain⟨hu,i,z,hi⟩:=qbV hT he
  split at hb
  ·cases hb
  ·rename_i s hsh
   obtain⟨hsn,_⟩:=hi.sh s hsh
   split at hb
   ·cases hb
   ·rename_i ys hys
    obtain⟨ao,c,ds,hyv,hds,hloc⟩:=qwY R hs ey hys
    rw [hyv]
    split at hb
    ·rename_i ob ver hx
     rw [hx] at ex
     simp only [RV] at ex
     obtain⟨fz1,ver1,e1,s1,xs1,eo1,hl,h1c,hxx⟩:=ex
     cases eo:getO hm ob with
     | none=>rw [eo] at hb;cases hb
     | cells vs=>rw [eo] at hb;cases hb
     | oth fz q d=>rw [eo] at hb;cases hb
     | nst ver q d=>rw [eo] at hb;cases hb
     | kds ver p t h0 d=>rw [eo] at hb;cases hb
     | gone=>rw [eo] at hb;cases hb
     | row fz ver' e' s' xs=>
      have eh:=hs.get eo (by simp)
      rw [eh] at eo1
      rw [eo] at hb
      simp only at hb
      obtain⟨hok,hb3⟩:=qc hb
      clear hb
      simp only [zA,zT] at hok
      obtain⟨⟨hver,hfz⟩,hee⟩:=hok
      subst hfz
      have hver:=zB hver
      have hee:=zB hee
      subst hee
      subst hver
      simp only [O.row.injEq] at eo1
      obtain⟨-,q1,-,q2,q3⟩:=eo1
      by_cases ess:s'=s
      ·subst ess
       have hcast:qbn (s:=.sl s') (s':=.sl s') xs=some xs:=by unfold qbn;rw [dif_pos rfl]
       rw [hcast] at hb3
       simp only at hb3
       refine⟨_,_,_,hb3,fun H hH _=>?_⟩
       simp only [qaO,qai] at hH
       subst hH
       have hlen:xs1.length=xs.length:=by subst q2;rw [eq_of_heq q3]
       rw [hxx q1,hlen]
       exact qDU R hu hi hsn hds hloc eh
      ·have hcast:qbn (s:=.sl s') (s':=.sl s) xs=none:=by unfold qbn;rw [dif_neg (fun e=>ess (by cases e;rfl))]
       rw [hcast] at hb3
       cases hb3
    ·rename_i ob ver9 a9 hx
     rw [hx] at ex
     simp only [RV] at ex
     split at hb
     case h_2=>cases hb
     rename_i us eo
     obtain⟨hck,hb⟩:=qc hb
     simp only [zA] at hck
     obtain⟨c1,c2,c3⟩:=hck
     split at hb
     ·cases hb
     rename_i old hold
     have eh:=hs.get eo (by simp)
     rw [eh] at ex
     obtain⟨b,hab,hxv⟩:=ex
     refine⟨_,_,_,hb,fun H hH _=>?_⟩
     simp only [qaO,qai] at hH
     subst hH
     rw [hxv]
     exact qDV R hu hi hsn (zB c1) hds hloc eh hab (zH c2) (zH c3) hold
    ·cases hb
open Go.ChangeMaps (setBlock)
theorem qpz(R:Rep w0 A M0 w h σ){oi:Nat}{q:Oth}{d d':q.sh.den}(eo:getO h oi=.oth false q d)(hit:q.it=false){b:Nat}(ha:(σ oi).a=some b){es es':Array MapEntry}{clock clock':Nat}(hb:w.heap[b]? = some (.map es clock))
  (B:MB w (mutb M0 h σ) q.k q.v d' es' clock'):Next w0 A M0 w h σ (setBlock w b (.map es' clock')) (h.set oi (.oth false q d')) σ:=by
 have hlt:=qae (h:=h) (i:=oi) (by rw [eo];simp)
 have hg:=qad hlt (.oth false q d')
 have hbl:b<w.heap.size:=(zI.1 hb).1
 refine Next.upd R oi (by rw [eo];trivial) (by rw [hg,zJ rfl];trivial) rfl TDr.rfl rfl (by simp [setBlock]) (fun o' hne=>⟨by rw [hg,zL (fun e=>hne e.symm)],rfl⟩) (fun b' hb' hne=>?_) (fun b' hl ha'=>.inl ⟨by rw [eo];rfl,ha'⟩)
  (by rw [eo];exact⟨by rw [hg,zJ rfl];rfl,rfl⟩) (fun k st=>?_)
 ·have:b≠b':=fun e=>hne (by rw [eo];rfl) (by rw [<- e];exact ha)
  simp [setBlock,zk,this]
 ·rw [hg,zJ rfl]
  refine⟨RQ.u ?_,fun h=>by cases h⟩
  unfold RQ
  rw [hit]
  exact⟨b,es',clock',ha,by simp [setBlock,hbl],B.clk,B.ents.keeps k,B.lt,B.nd⟩
theorem frzM(R:Rep w0 A M0 w h σ){oi:Nat}{fz:Bool}{q:Oth}{d:q.sh.den}(ho:getO h oi=.oth fz q d):Next w0 A M0 w h σ w (h.set oi (.oth true q d)) σ:=by
 have hlt:=qae (h:=h) (i:=oi) (by rw [ho];simp)
 have hg:=qad hlt (.oth true q d)
 refine Next.upd R oi (by rw [ho];trivial) (by rw [hg,zJ rfl];trivial) rfl TDr.rfl rfl (Nat.le_refl _) (fun o' hne=>⟨by rw [hg,zL (fun e=>hne e.symm)],rfl⟩) (fun _ _ _=>rfl)
  (fun b hl ha=>by rw [hg,zJ rfl] at hl;cases hl) (by rw [ho];exact⟨by rw [hg,zJ rfl];rfl,rfl⟩) (fun k st=>?_)
 rw [hg,zJ rfl]
 have ro:=R.obj oi
 rw [ho] at ro
 have hlt':∀ b,(σ oi).a=some b->b<w.heap.size:=fun b ha=>ro.1.lt ha
 refine⟨ro.1.keeps k (fun _ _ _=>rfl),fun _ b ha=>?_⟩
 cases fz with
 | true=>exact k.out b (hlt' b ha) (ro.2 rfl b ha)
 | false=>
  intro hm'
  have hown:own h σ b:=⟨oi,by rw [ho];rfl,.of ha⟩
  rcases hm' with hm' | ⟨o',hl',ha'⟩
  ·obtain⟨x1,x2⟩:=R.m0 b hm'
   rcases R.inA b hown with h | h
   ·exact x2 h
   ·omega
  ·rw [hg] at hl' ha'
   split at hl'
   ·cases hl'
   ·rename_i hne
    rw [zL hne] at ha'
    exact hne (R.apart oi o' b (by rw [ho];rfl) hl' (.of ha) ha')
theorem run_newObj(w:World)(x:Obj):(newObj x).run P w=.ok w.heap.size (w.alloc x):=run_newObj_alloc P w x
theorem qqX(hT:TOk P C.T)(R:Rep w0 A M0 w h σ)(hrt:∀ i,RV w (mutb M0 h σ) h σ (t i) (a.tmps.getD i undef)){ty:TypeId}{rs:Option Operand}(ho:o.op=.makeMap ty rs){K:V->List (Nat×O)->Option O->Option ρ}{res:ρ}(hb:qjV C nid ty (rs.map (ev t)) K=some res) :
  ∃ v ss mk,K v ss mk=some res/\∀ H,qaO h ss mk nid H->(mk.isSome=true->getO h nid=.none)->Does r n P o a w (PostW w0 A M0 w h σ H v):=by
 unfold qjV at hb
 split at hb
 ·split at hb
  ·cases hb
  ·rename_i q hq
   obtain⟨h1,h2,h3,h4⟩:=qnB hT hq
   cases rs with
   | some x=>cases hb
   | none=>
    refine⟨_,_,_,hb,fun H hH hn=>?_⟩
    refine qaH (by rw [ho];simp) (x:=.map (some w.heap.size)) (w':=w.alloc (.map #[] 0)) (by simp [execOp,ho,Instr.makeMap,run_newObj,Result.andThen]) ?_
    refine⟨updL σ nid ⟨some w.heap.size,0,[]⟩,qhB R (hn rfl) hH.1 hH.2 (qeL _ _) ⟨some w.heap.size,0,[]⟩ (fun b hb=>?_) (fun k st=>?_),?_⟩
    ·rcases hb with hb | hb
     ·cases hb;exact Nat.le_refl _
     ·cases hb
    ·show RN _ _ _ _ _
     unfold RN
     rw [h4]
     exact⟨w.heap.size,#[],0,rfl,heap_alloc_new _ _,rfl,⟨rfl,rfl⟩,(fun x hx=>by cases hx),by simp,by simp⟩
    ·simp only [RV]
     refine⟨w.heap.size,by rw [qZ],?_⟩
     rw [hH.1]
     exact⟨rfl,by rw [h4];rfl⟩
 ·rename_i q hq
  obtain⟨h1,h2,h3,h4⟩:=qiv hT hq
  have fin:(Instr.makeMap ty (rs.map a.eval)).run P w=.ok (.map (some w.heap.size)) (w.alloc (.map #[] 0))->∀ H,qaO h [] (some (.oth false q ((0:Int),[]))) nid H->((some (O.oth false q ((0:Int),[]))).isSome=true->getO h nid=.none)->Does r n P o a w (PostW w0 A M0 w h σ H (.ptr nid 1000000)):=fun hrun H hH hn=>by
   refine qaH (by rw [ho];simp) (x:=.map (some w.heap.size)) (w':=w.alloc (.map #[] 0)) (by simp only [execOp,ho,Sem.run_bind,hrun,Result.andThen_ok];rfl) ?_
   refine⟨updL σ nid ⟨some w.heap.size,0,[]⟩,qhB R (hn rfl) hH.1 hH.2 (qeL _ _) ⟨some w.heap.size,0,[]⟩ (fun b hb=>by cases hb;exact Nat.le_refl _) (fun k st=>?_),?_⟩
   ·refine⟨RQ.u ?_,fun h=>by cases h⟩
    unfold RQ
    rw [h4]
    exact⟨w.heap.size,#[],0,rfl,heap_alloc_new _ _,rfl,rfl,(fun x hx=>by cases hx),by simp⟩
   ·simp only [RV]
    refine⟨w.heap.size,by rw [qZ],?_⟩
    rw [hH.1]
    exact⟨rfl,by rw [h4];rfl⟩
  cases rs with
  | none=>
   simp only [Option.map_none] at hb
   exact⟨_,_,_,hb,fin (by simp [Instr.makeMap,run_newObj])⟩
  | some x=>
   have hx:=qj hrt x
   simp only [Option.map_some] at hb
   split at hb
   ·rename_i he;cases he
   ·rename_i kd m he
    simp only [zD] at he
    rw [he] at hx
    simp only [RV] at hx
    exact⟨_,_,_,hb,fin (by simp [Instr.makeMap,run_newObj,run_underlying h1,hx,asInt,asIntOf])⟩
   ·cases hb
theorem qnM(hT:TOk P C.T){ty kt et:TypeId}{k s:Sh}(h:qxD C.T ty kt et k s=true):P.underlying ty=some (.map kt et)/\keyOk P kt k=true/\zOk P et (.sl s)=true/\1<=s.n:=by
 unfold qxD at h
 split at h
 ·cases h
 ·rename_i q hq
  obtain⟨h1,h2,h3,-⟩:=qiv hT hq
  simp only [zA,zQ] at h
  obtain⟨e0,e1,e2,e3,e4⟩:=h
  have e1:=zB e1
  have e2:=zB e2
  rw [e1,e2] at h1
  rw [e1,e3] at h2
  rw [e2,e4] at h3
  exact⟨h1,h2,h3,zH e0⟩
theorem qDd{et:TypeId}{s:Sh}(hz:zOk P et (.sl s)=true):∀ w:World,(zeroValue et).run P w=.ok (.slice none 0 0) w:=by
 unfold zOk at hz
 split at hz
 ·cases hz
 ·rename_i i hi
  split at hz
  ·cases hz
  ·rename_i z hzz
   simp only [zA] at hz
   have hzv:z=.slice none 0 0:=by
    obtain⟨h1,h2⟩:=hz
    cases z <;> first | (simp [Sh.isAgg] at h1;done) | (simp [Value.cells,qiO] at h2;done) | skip
    all_goals (simp only [Value.cells,qiO] at h2;split at h2 <;> first | (cases h2;done) | (rename_i hq;split at hq <;> simp_all))
   subst hzv
   exact fun w=>by simp [zeroValue,typeInfo,hi,hzz]
theorem qAi(R:Rep w0 A M0 w h σ){ob off ver:Nat}{kt et e:TypeId}{k s:Sh}{hl:Option (k.den×V)}{d:Mp k (.sl s)}(eo:getO h ob=.kds ver (.map kt et k) (.row e s) hl d){p:Value}(hp:RV w (mutb M0 h σ) h σ (.ptr ob off) p) :
  ∃ b es clock,(σ ob).a=some b/\p=.map (some b)/\w.heap[b]? = some (.map es clock)/\(clock:Int)=d.1/\KKs w (mutb M0 h σ) k d.2 es.toList/\KVs w (mutb M0 h σ) (.row e s) (d.2.map (·.2.2)) (es.toList.map (·.val)) (holeM k (.sl s) (hl.map (·.1)) d) (σ ob).ex /\
   (∀ x∈es.toList,x.born<clock)/\(es.toList.map (·.born)).Nodup/\(b :: (σ ob).ex).Nodup:=by
 simp only [RV] at hp
 obtain⟨b,ha,hx⟩:=hp
 rw [eo] at hx
 obtain⟨-,-,rfl⟩:=hx
 have ro:=R.obj ob
 rw [eo] at ro
 obtain⟨b',es,clock,ha',r⟩:=ro
 rw [ha] at ha';cases ha'
 exact⟨b,es,clock,ha,rfl,r⟩
theorem qxo(R:Rep w0 A M0 w h σ){ob nn ver vn:Nat}{kt et e:TypeId}{k s:Sh}{hl:Option (k.den×V)}{d d':Mp k (.sl s)}{xs:List s.den}(eo:getO h ob=.kds ver (.map kt et k) (.row e s) hl d)(en:getO h nn=.row false vn e s xs)
  {b:Nat} (ha:(σ ob).a=some b) {es es':Array MapEntry} {clock clock':Nat} (hb:w.heap[b]? = some (.map es clock)) (hHn:getO H nn=.row true (vn+1) e s []) (hHo:getO H ob=.kds ver (.map kt et k) (.row e s) none d') (hH':∀ j,j≠nn->j≠ob->getO H j=getO h j)
  (ex':List Nat) (hp:ex'.Perm ((σ nn).a.toList++(σ ob).ex))
  (hrk:∀ M' (L:V->Value->Prop),Keeps w (mutb M0 h σ) (setBlock w b (.map es' clock')) M'->RK (setBlock w b (.map es' clock')) M' L ⟨(σ ob).a,(σ ob).cap,ex'⟩ (.map kt et k) (.row e s) none d') :
  Next w0 A M0 w h σ (setBlock w b (.map es' clock')) H (updL (updL σ ob ⟨(σ ob).a,(σ ob).cap,ex'⟩) nn ⟨none,0,[]⟩):=by
 have hne:ob≠nn:=fun q=>by rw [q,en] at eo;cases eo
 generalize hτ:updL (updL σ ob ⟨(σ ob).a,(σ ob).cap,ex'⟩) nn ⟨none,0,[]⟩=τ
 have tn:τ nn=⟨none,0,[]⟩:=by rw [<- hτ,qZ]
 have to:τ ob=⟨(σ ob).a,(σ ob).cap,ex'⟩:=by rw [<- hτ,qaE _ _ hne,qZ]
 have tj:∀ j,j≠nn->j≠ob->τ j=σ j:=fun j h1 h2=>by rw [<- hτ,qaE _ _ h1,qaE _ _ h2]
 have hbo:own h σ b:=⟨ob,by rw [eo];trivial,by rw [eo];exact .inl ha⟩
 have was:∀ j b',live (getO H j)->Oat (getO H j) (τ j) b'->∃ i,live (getO h i)/\Oat (getO h i) (σ i) b'/\(i=j\/(i=nn/\j=ob)):=fun j b' l1 o1=>by
  by_cases q1:j=nn
  ·subst q1;rw [hHn] at l1;cases l1
  ·by_cases q2:j=ob
   ·subst q2
    rw [hHo,to] at o1
    rcases o1 with o1 | o1
    ·exact⟨j,by rw [eo];trivial,by rw [eo];exact .inl o1,.inl rfl⟩
    ·rcases zU.1 (hp.subset o1) with h1 | h1
     ·exact⟨nn,by rw [en];rfl,.of (by simpa using h1),.inr ⟨rfl,rfl⟩⟩
     ·exact⟨j,by rw [eo];trivial,by rw [eo];exact .inr h1,.inl rfl⟩
   ·rw [hH' j q1 q2] at l1 o1
    rw [tj j q1 q2] at o1
    exact⟨j,l1,o1,.inl rfl⟩
 have hblk:∀ b',b'≠b->(setBlock w b (.map es' clock')).heap[b']? = w.heap[b']?:=fun b' hq=>by
  have hq:=Ne.symm hq
  simp [setBlock,zk,hq]
 have st:OStep h σ H τ:=fun j=>by
  by_cases q1:j=nn
  ·subst q1;rw [en]
   exact⟨true,vn+1,e,s,[],hHn,by omega,fun q=>by omega⟩
  ·by_cases q2:j=ob
   ·subst q2;rw [eo]
    show KStep _ _ _ _ _ _ _
    unfold KStep
    exact⟨.inl (by rw [hHo];exact⟨rfl,rfl⟩),by rw [to]⟩
   ·have:=OStep.refl h σ j
    rw [hH' j q1 q2,tj j q1 q2]
    exact this
 refine Next.gen R rfl TDr.rfl rfl (by simp [setBlock]) (fun b' ⟨j,l1,o1⟩=>.inl ?_) (fun b' _ hno=>hblk b' fun q=>hno (by rw [q];exact hbo)) (fun j j' b' l1 l2 o1 o2=>?_) st (fun kp j=>?_)
 ·obtain⟨i,i1,i2,_⟩:=was j b' l1 o1
  exact⟨i,i1,i2⟩
 ·obtain⟨i,i1,i2,i3⟩:=was j b' l1 o1
  obtain⟨i',k1,k2,k3⟩:=was j' b' l2 o2
  have:=R.apart i i' b' i1 k1 i2 k2
  subst this
  have nl:∀ j,live (getO H j)->j≠nn:=fun j hl q=>by rw [q,hHn] at hl;cases hl
  rcases i3 with rfl | ⟨rfl,rfl⟩
  ·rcases k3 with rfl | ⟨rfl,rfl⟩
   ·rfl
   ·exact absurd rfl (nl _ l1)
  ·rcases k3 with rfl | ⟨_,rfl⟩
   ·exact absurd rfl (nl _ l2)
   ·rfl
 ·by_cases q1:j=nn
  ·subst q1
   rw [hHn,tn]
   have ro:=R.obj j
   rw [en] at ro
   exact⟨ro.1,⟨none,0,rfl,Nat.le_refl _,zAE _,fun q=>absurd rfl q⟩,fun b' q=>by cases q⟩
  ·by_cases q2:j=ob
   ·subst q2
    rw [hHo,to]
    exact hrk _ (RV (setBlock w b (.map es' clock')) (mutb M0 H τ) H τ) kp
   ·rw [hH' j q1 q2,tj j q1 q2]
    refine RO.same R kp st j fun b' hlt=>?_
    by_cases q3:b'=b
    ·subst q3
     exact .inr ⟨ob,fun q=>q2 q.symm,by rw [eo];trivial,by rw [eo];exact .inl ha⟩
    ·exact .inl (hblk b' q3)
theorem qmN(hT:TOk P C.T)(R:Rep w0 A M0 w h σ)(hs:Sub hm h)(hrt:∀ i,RV w (mutb M0 h σ) h σ (t i) (a.tmps.getD i undef)){ty:TypeId}{m k x:Operand}(hd:∀ c,o.op≠.defer c)(hex:execOp a.eval o=do Instr.mapUpdate ty (a.eval m) (a.eval k) (a.eval x);pure .skip)
  {K:V->List (Nat×O)->Option O->Option ρ} {res:ρ} (hb:qeG C hm ty (ev t m) (ev t k) (ev t x) K=some res) :
  ∃ v ss mk,K v ss mk=some res/\∀ H,qaO h ss mk nid H->(mk.isSome=true->getO h nid=.none)->Does r n P o a w (PostW w0 A M0 w h σ H v):=by
 unfold qeG at hb
 split at hb
 case h_2=>cases hb
 rename_i ob off hmv
 split at hb
 case h_2=>cases hb
 rename_i ver kt et kS e s hl d eom
 obtain⟨hkm,hb⟩:=qc hb
 obtain⟨h1,h2,h3,hsn1⟩:=qnM hT hkm
 split at hb
 ·cases hb
 rename_i y hy
 split at hb
 case h_2=>cases hb
 rename_i nn vn hxv
 split at hb
 case h_2=>cases hb
 rename_i vn' e' s' xs' enm
 obtain⟨hc,hb2⟩:=qc hb
 clear hb
 simp only [zA] at hc
 obtain⟨c1,c2⟩:=hc
 have c1:=zB c1
 have c2:=zB c2
 subst c1;subst c2
 split at hb2
 ·cases hb2
 rename_i xs hxs
 obtain⟨es1,hxs⟩:=qau hxs
 cases es1
 subst hxs
 obtain⟨hho,hb3⟩:=qc hb2
 clear hb2
 refine⟨_,_,_,hb3,fun H hH _=>?_⟩
 have eo:=hs.get eom (by simp)
 have en:=hs.get enm (by simp)
 have hpv:=qj hrt m
 rw [hmv] at hpv
 obtain⟨b,es,clock,ha,hp,hbl,hcl,hkk,hkv,hlt,hnd,hsep⟩:=qAi R eo hpv
 have hxv':=qj hrt x
 rw [hxv] at hxv'
 simp only [RV] at hxv'
 obtain⟨fz1,ver1,e1,s1,xs1,en1,_,_,hx⟩:=hxv'
 rw [en] at en1
 cases en1
 have hx:=hx rfl
 have hkey:=qcv R (qj hrt k) hy
 have hne:nn≠ob:=fun q=>by rw [q,eo] at en;cases en
 have rn:=R.obj nn
 rw [en] at rn
 obtain⟨hs1,cs,hown,hrl⟩:=rn
 have hH:H=(h.set nn (.row true (vn+1) e s [])).set ob (.kds ver (.map kt et kS) (.row e s) none (mpPut kS (.sl s) d y xs)):=hH
 have ln:=qae (h:=h) (i:=nn) (by rw [en];simp)
 have lo:=qae (h:=h) (i:=ob) (by rw [eo];simp)
 have hg:∀ j,getO H j=if ob=j then .kds ver (.map kt et kS) (.row e s) none (mpPut kS (.sl s) d y xs) else if nn=j then .row true (vn+1) e s [] else getO h j:=fun j=>by
  rw [hH,qad (by simp;omega),qad ln]
 have hHn:getO H nn=.row true (vn+1) e s []:=by rw [hg,zL (fun q=>hne q.symm),zJ rfl]
 have hHo:getO H ob=.kds ver (.map kt et kS) (.row e s) none (mpPut kS (.sl s) d y xs):=by rw [hg,zJ rfl]
 have hH':∀ j,j≠nn->j≠ob->getO H j=getO h j:=fun j q1 q2=>by rw [hg,zL (fun q=>q2 q.symm),zL (fun q=>q1 q.symm)]
 have napart:∀ b',(σ nn).a=some b'->b'≠b/\b' ∉ (σ ob).ex:=fun b' hb'=>by
  have key:¬ Oat (getO h ob) (σ ob) b':=fun ho=>hne (R.apart nn ob b' (by rw [en];rfl) (by rw [eo];trivial) (.of hb') ho)
  rw [eo] at key
  exact⟨fun q=>key (.inl (by rw [q];exact ha)),fun q=>key (.inr q)⟩
 have hkvn:KV w (mutb M0 h σ) (.row e s) xs (a.eval x) (σ nn).a.toList:=⟨σ nn,cs,hx,hs1,by rw [hx];exact hown,hrl,rfl⟩
 have hsep':∀ ex',ex'.Perm ((σ nn).a.toList++(σ ob).ex)->(b :: ex').Nodup:=fun ex' hp=>by
  rw [(hp.cons b).nodup_iff]
  cases hna:(σ nn).a with
  | none=>simpa using hsep
  | some b'=>
   obtain⟨q1,q2⟩:=napart b' hna
   simp only [Option.toList,List.cons_append,List.nil_append]
   rw [zZ] at hsep ⊢
   refine⟨fun q=>?_,zZ.2 ⟨q2,hsep.2⟩⟩
   rcases zi.1 q with q | q
   ·exact q1 q.symm
   ·exact hsep.1 q
 have hbsz:∀ M':Nat->Prop,∀ {es':Array MapEntry} {clock':Nat},(setBlock w b (.map es' clock')).heap[b]? = some (.map es' clock'):=fun _ es' clock'=>by
  simp [setBlock,(zI.1 hbl).1]
 have hoth:∀ {es':Array MapEntry} {clock':Nat} (b':Nat),b'≠b->(setBlock w b (.map es' clock')).heap[b']? = w.heap[b']?:=fun {es' clock'} b' hq=>by
  have hq:=Ne.symm hq
  simp [setBlock,zk,hq]
 rcases qlP (v:=.sl s) (w':=w) h2 hkey hkk with⟨f1,f2⟩ | ⟨j,en9,z,f1,f3,f4,f5⟩
 ·-- a new key
  have hno:mpHas kS (.sl s) d y=false:=by unfold mpHas;rw [f2];rfl
  have hhole:holeM kS (.sl s) (hl.map (·.1)) d=none:=by
   cases hl with
   | none=>rfl
   | some p0=>
    obtain⟨y0,v0⟩:=p0
    have:y=y0:=qfx (by simpa [qrJ] using hho)
    subst this
    simp only [Option.map_some,holeM,hno,cond_false]
  rw [hhole] at hkv
  have hput:mpPut kS (.sl s) d y xs=(d.1+1,d.2 ++ [(d.1,(y,xs))]):=by unfold mpPut;rw [hno];rfl
  rw [hput] at hHo
  have nx:=qxo (es':=es.push ⟨a.eval k,a.eval x,clock⟩) (clock':=clock+1) R eo en ha hbl hHn hHo hH' ((σ ob).ex++(σ nn).a.toList) List.perm_append_comm (fun M' _ kp=>by
   refine⟨b,es.push ⟨a.eval k,a.eval x,clock⟩,clock+1,ha,hbsz M',by simp only;rw [<- hcl];simp,?_,?_,fun q hq=>?_,?_,hsep' _ List.perm_append_comm⟩
   ·rw [zAT]
    exact (KKs.push hkk (x:=(d.1,(y,xs))) (e:=⟨a.eval k,a.eval x,clock⟩) ⟨hcl,qeB hkey⟩).keeps kp
   ·rw [zAT,zAr,zAr]
    refine (KVs.push hkv hkvn).keeps kp fun b' hb' _=>hoth b' fun q=>?_
    rw [q] at hb'
    rcases zU.1 hb' with h | h
    ·exact (zZ.1 hsep).1 h
    ·exact (napart b (by simpa using h)).1 rfl
   ·rw [zAT,zU] at hq
    rcases hq with hq | hq
    ·exact zCF (hlt q hq)
    ·simp at hq;subst hq;exact zBf _
   ·rw [zAT,zAr]
    refine za.2 ⟨hnd,by simp,fun p hp q hq e=>?_⟩
    obtain⟨z,hz,rfl⟩:=zr.1 hp
    simp at hq
    have:=hlt z hz
    omega)
  refine qhY hd (w':=setBlock w b (.map (es.push ⟨a.eval k,a.eval x,clock⟩) (clock+1))) ?_ ⟨_,nx,by simp only [RV]⟩
  rw [hex,hp]
  simp [Instr.mapUpdate,run_underlying h1,MapKept.run_getObj_map hbl,qbg h2 hkey,f1,MapKept.run_setObj_map _ hbl,Result.andThen,setBlock]
 ·-- the key of what is out
  have hhas:mpHas kS (.sl s) d y=true:=by unfold mpHas;rw [f5.ent];rfl
  have hhole:holeM kS (.sl s) (hl.map (·.1)) d=some j:=by
   cases hl with
   | none=>
    simp only [qrJ,hhas] at hho
    cases hho
   | some p0=>
    obtain⟨y0,v0⟩:=p0
    have:y=y0:=qfx (by simpa [qrJ] using hho)
    subst this
    simp only [Option.map_some,holeM,hhas,cond_true,f5.ix]
  rw [hhole] at hkv
  have hput:mpPut kS (.sl s) d y xs=(d.1,d.2.set j (z.1,(z.2.1,xs))):=by unfold mpPut mpHas;rw [f5.ent,f5.turn];rfl
  rw [hput] at hHo
  have hj:es[j]? = some en9:=by simpa using f3
  have hxz:=qfx f5.eq
  have hka:en9.key=a.eval k:=f4.kD.det (qha h2) (by rw [<- hxz];exact hkey)
  have hjl:j<(d.2.map (·.2.2)).length:=by rw [zAS];exact (zS.1 f5.here).1
  obtain⟨ex',g1,g2⟩:=hkv.put hjl hkvn
  have hmod:(es.modify j fun e'=>{ e' with key:=a.eval k,val:=a.eval x }).toList=es.toList.set j { en9 with key:=a.eval k,val:=a.eval x }:=qcs f3 _
  have nx:=qxo (es':=es.modify j fun e'=>{ e' with key:=a.eval k,val:=a.eval x }) (clock':=clock) R eo en ha hbl hHn hHo hH' ex' g2 (fun M' _ kp=>by
   refine⟨b,es.modify j fun e'=>{ e' with key:=a.eval k,val:=a.eval x },clock,ha,hbsz M',hcl,?_,?_,fun q hq=>?_,?_,hsep' _ g2⟩
   ·rw [hmod]
    exact (KKs.set hkk (x:=(z.1,(z.2.1,xs))) (e:={ en9 with key:=a.eval k,val:=a.eval x }) ⟨f4.born,by show RV _ _ _ _ _ (a.eval k);rw [<- hka];exact f4.key⟩).keeps kp
   ·rw [hmod,zCH,zCH]
    refine g1.keeps kp fun b' hb' _=>hoth b' fun q=>?_
    rw [q] at hb'
    rcases zU.1 (g2.subset hb') with h | h
    ·exact (napart b (by simpa using h)).1 rfl
    ·exact (zZ.1 hsep).1 h
   ·rw [hmod] at hq
    rcases List.mem_or_eq_of_mem_set hq with hq | rfl
    ·exact hlt q hq
    ·exact hlt en9 (zh f3)
   ·rw [hmod,zCH]
    have:(es.toList.map (·.born)).set j en9.born=es.toList.map (·.born):=WideElems.set_self _ _ _ (by rw [zAb,f3];rfl)
    rw [show ({ en9 with key:=a.eval k,val:=a.eval x }:MapEntry).born=en9.born from rfl,this]
    exact hnd)
  refine qhY hd (w':=setBlock w b (.map (es.modify j fun e'=>{ e' with key:=a.eval k,val:=a.eval x }) clock)) ?_ ⟨_,nx,by simp only [RV]⟩
  rw [hex,hp]
  simp [Instr.mapUpdate,run_underlying h1,MapKept.run_getObj_map hbl,qbg h2 hkey,f1,hj,hka,qlK (qha h2) hkey,MapKept.run_setObj_map _ hbl,Result.andThen,setBlock]
theorem qtQ(R:Rep w0 A M0 w h σ){ob ver:Nat}{kt et e:TypeId}{k s:Sh}{y:k.den}{d:Mp k (.sl s)}{xs:List s.den}(eo:getO h ob=.kds ver (.map kt et k) (.row e s) none d)(hn:getO h nid=.none)
  (hHn:getO H nid=.row false 0 e s xs) (hHo:getO H ob=.kds ver (.map kt et k) (.row e s) (some (y,.bad)) d) (hH':∀ j,j≠nid->j≠ob->getO H j=getO h j) (l:Loc) (ex':List Nat) (hp:(l.a.toList++ex').Perm (σ ob).ex) {b:Nat} (ha:(σ ob).a=some b) (hsep:(b :: (σ ob).ex).Nodup)
  (hs1:1<=s.n) {cs:List Value} (hown:w.ownsRow 0 e s.n (rowV l xs.length) xs.length cs) (hrl:RL w (mutb M0 h σ) s xs cs) (hrk:RK w (mutb M0 h σ) (fun _ _=>True) ⟨(σ ob).a,(σ ob).cap,ex'⟩ (.map kt et k) (.row e s) (some (y,.bad)) d) :
  PostW w0 A M0 w h σ H (.slc nid 0) (rowV l xs.length) w:=by
 have hne:ob≠nid:=fun q=>by rw [q,hn] at eo;cases eo
 generalize hτ:updL (updL σ ob ⟨(σ ob).a,(σ ob).cap,ex'⟩) nid l=τ
 have tn:τ nid=l:=by rw [<- hτ,qZ]
 have to:τ ob=⟨(σ ob).a,(σ ob).cap,ex'⟩:=by rw [<- hτ,qaE _ _ hne,qZ]
 have tj:∀ j,j≠nid->j≠ob->τ j=σ j:=fun j h1 h2=>by rw [<- hτ,qaE _ _ h1,qaE _ _ h2]
 have was:∀ j b',live (getO H j)->Oat (getO H j) (τ j) b'->∃ i,live (getO h i)/\Oat (getO h i) (σ i) b'/\((i=j/\j≠nid)\/(i=ob/\j=nid/\l.a=some b')):=fun j b' l1 o1=>by
  by_cases q1:j=nid
  ·subst q1
   rw [hHn,tn] at o1
   have o1:l.a=some b':=o1
   exact⟨ob,by rw [eo];trivial,by rw [eo];exact .inr (hp.subset (zo _ (by simp [o1]))),.inr ⟨rfl,rfl,o1⟩⟩
  ·by_cases q2:j=ob
   ·subst q2
    rw [hHo,to] at o1
    rcases o1 with o1 | o1
    ·exact⟨j,by rw [eo];trivial,by rw [eo];exact .inl o1,.inl ⟨rfl,q1⟩⟩
    ·exact⟨j,by rw [eo];trivial,by rw [eo];exact .inr (hp.subset (zf _ o1)),.inl ⟨rfl,q1⟩⟩
   ·rw [hH' j q1 q2] at l1 o1
    rw [tj j q1 q2] at o1
    exact⟨j,l1,o1,.inl ⟨rfl,q1⟩⟩
 have st:OStep h σ H τ:=fun j=>by
  by_cases q1:j=nid
  ·subst q1;rw [hn];trivial
  ·by_cases q2:j=ob
   ·subst q2;rw [eo]
    show KStep _ _ _ _ _ _ _
    unfold KStep
    exact⟨.inl (by rw [hHo];exact⟨rfl,rfl⟩),by rw [to]⟩
   ·have:=OStep.refl h σ j
    rw [hH' j q1 q2,tj j q1 q2]
    exact this
 have hnd2:(l.a.toList++ex').Nodup:=(hp.nodup_iff).2 (zZ.1 hsep).2
 have nob:∀ b',l.a=some b'->live (getO H ob)->¬ Oat (getO H ob) (τ ob) b':=fun b' hl _ ho=>by
  rw [hHo,to] at ho
  rcases ho with ho | ho
  ·have ho:(σ ob).a=some b':=ho
   rw [ha] at ho;cases ho
   exact (zZ.1 hsep).1 (hp.subset (zo _ (by simp [hl])))
  ·exact (za.1 hnd2).2.2 b' (by simp [hl]) b' ho rfl
 refine⟨τ,Next.gen R rfl TDr.rfl rfl (Nat.le_refl _) (fun b' ⟨j,l1,o1⟩=>.inl ?_) (fun _ _ _=>rfl) (fun j j' b' l1 l2 o1 o2=>?_) st (fun kp j=>?_),?_⟩
 ·obtain⟨i,i1,i2,_⟩:=was j b' l1 o1
  exact⟨i,i1,i2⟩
 ·obtain⟨i,i1,i2,i3⟩:=was j b' l1 o1
  obtain⟨i',k1,k2,k3⟩:=was j' b' l2 o2
  have:=R.apart i i' b' i1 k1 i2 k2
  subst this
  rcases i3 with⟨rfl,_⟩ | ⟨rfl,rfl,hl⟩
  ·rcases k3 with⟨rfl,_⟩ | ⟨rfl,rfl,hl⟩
   ·rfl
   ·exact absurd o1 (nob b' hl l1)
  ·rcases k3 with⟨rfl,_⟩ | ⟨_,rfl,_⟩
   ·exact absurd o2 (nob b' hl l2)
   ·rfl
 ·by_cases q1:j=nid
  ·subst q1
   rw [hHn,tn]
   exact⟨hs1,cs,hown,RL.keeps kp hrl⟩
  ·by_cases q2:j=ob
   ·subst q2
    rw [hHo,to]
    exact RK.keeps kp (L':=RV w (mutb M0 H τ) H τ) (fun y c hy _=>by cases hy;simp only [RV]) (fun _ _ _=>rfl) hrk
   ·rw [hH' j q1 q2,tj j q1 q2]
    exact (R.obj j).keeps kp st fun _ _ _=>rfl
 ·simp only [RV]
  exact⟨false,0,e,s,xs,hHn,Nat.le_refl _,rfl,fun _=>by rw [tn];rfl⟩
theorem qDB{M:Nat->Prop}{L:V->Value->Prop}{kt:Kt}{x:kt.sh.den}{c:Value}{bs:List Nat}(hk:KW w M L kt x [c] none bs)(hnd:bs.Nodup){x0:O}(hx:qpH kt x=some x0)(hgo:kidGo kt x=true) :
  kt.n=1/\c.oneCell'=true/\live x0/\∃ l:Loc,(∀ b,Oat x0 l b↔b∈bs)/\(∀ M' (H:List O) (τ:Nat->Loc),Keeps w M w M'->RO w M' H τ l x0)/\∀ M' (H:List O) (τ:Nat->Loc),getO H nid=x0->τ nid=l->RV w M' H τ (refTo nid x0) c:=by
 cases kt with
 | row e s=>
  simp only [qpH,zD] at hx
  subst hx
  simp only [KW] at hk
  obtain⟨c',e1,l,cs,rfl,h1,h2,h3,rfl⟩:=hk
  obtain rfl:c=rowV l x.length:=by simpa using e1
  refine⟨rfl,rfl,rfl,l,fun b=>?_,fun M' H τ kp=>⟨h1,cs,h2,RL.keeps kp h3⟩,fun M' H τ h4 h5=>?_⟩
  ·show l.a=some b↔_
   simp
  ·simp only [refTo,RV]
   exact⟨false,0,e,s,x,h4,Nat.le_refl _,rfl,fun _=>by rw [h5];rfl⟩
 | krow e t=>
  simp only [qpH,zD] at hx
  subst hx
  simp only [KW] at hk
  obtain⟨l,vs,ex,e1,h1,h2,h3,rfl⟩:=hk
  obtain rfl:c=rowK l x.length:=by simpa using e1
  refine⟨rfl,rfl,trivial,⟨l.a,l.cap,ex⟩,fun b=>?_,fun M' H τ kp=>⟨h1,vs,h2,?_,hnd⟩,fun M' H τ h4 h5=>?_⟩
  ·show l.a=some b\/b∈ex↔_
   simp
  ·exact h3.keeps (f:=id) (L':=RV w M' H τ) (fun x c hl bs a1 a2 a3=>KW.keeps kp id t x c hl bs a1 a2 a3) (fun y c q=>by cases q) (fun _ _ _=>rfl)
  ·have:=qAl (w:=w) (M:=M') (σ:=τ) (i:=0) h4
   rw [h5] at this
   exact this
 | box e t=>
  cases t with
  | dat s=>
   simp only [qpH,zD] at hx
   subst hx
   simp only [KW] at hk
   have hgo:x.1=true:=hgo
   rcases hk with⟨q,_⟩ | ⟨c',vs,ex,e',_,e1,h2,⟨_,rfl,h3⟩,rfl⟩
   ·rw [hgo] at q;cases q
   obtain rfl:c=.pointer (some ⟨c',0,none⟩):=by simpa using e1
   refine⟨rfl,rfl,trivial,⟨some c',0,[]⟩,fun b=>?_,fun M' H τ kp=>⟨c',e',vs,rfl,h2,qbM s (RC.keeps kp h3),RC.one1 s h3⟩,fun M' H τ h4 h5=>?_⟩
   ·show some c'=some b↔_
    simp [eq_comm]
   ·simp only [refTo,RV]
    rw [h4,h5]
    exact⟨c',rfl,rfl⟩
  | _=>cases hx
 | map q=>
  simp only [qpH,zD] at hx
  subst hx
  simp only [KW] at hk
  have hgo:0<=x.1:=zV hgo
  rcases hk with⟨q,_⟩ | ⟨c',e1,c2,c3,hq,rfl⟩
  ·rw [q] at hgo;exact absurd hgo (by decide)
  obtain rfl:c=.map (some c'):=by simpa using e1
  refine⟨rfl,rfl,rfl,⟨some c',0,[]⟩,fun b=>?_,fun M' H τ kp=>⟨(RQ.keeps kp (fun _ _ _=>rfl) hq).u,fun q=>by cases q⟩,fun M' H τ h4 h5=>?_⟩
  ·show some c'=some b↔_
   simp [eq_comm]
  ·simp only [refTo,RV]
   rw [h4,h5]
   exact⟨c',rfl,rfl,by rw [c2];rfl⟩
 | _=>cases hx
theorem qyv(R:Rep w0 A M0 w h σ){ob ver i:Nat}{e:TypeId}{kt:Kt}{d:List kt.sh.den}(eo:getO h ob=.kds ver (.row e) kt none d)(hn:getO h nid=.none){x:kt.sh.den}(hx:d[i]? = some x){x0:O}(hk:qpH kt x=some x0)(hgo:kidGo kt x=true)
  (hHn:getO H nid=x0) (hHo:getO H ob=.kds ver (.row e) kt (some ((i:Int),refTo nid x0)) d) (hH':∀ j,j≠nid->j≠ob->getO H j=getO h j) :
  kt.n=1/\∃ b cs c,(σ ob).a=some b/\qay w b (σ ob).off cs/\cs[i]? = some c/\c.oneCell'=true/\PostW w0 A M0 w h σ H (refTo nid x0) c w:=by
 have hne:ob≠nid:=fun q=>by rw [q,hn] at eo;cases eo
 have ro:=R.obj ob
 rw [eo] at ro
 obtain⟨hn1,cs,hown,hks,hnd⟩:=ro
 have hlt:i<d.length:=(zS.1 hx).1
 obtain⟨b,hab⟩:=hown.one_ (by omega)
 have hn0:kt.n=1:=by cases kt <;> first | rfl | (cases hk;done)
 have hks1:=hks
 rw [hn0] at hks1
 have hks1:KLs 1 (KW w (mutb M0 h σ) (RV w (mutb M0 h σ) h σ) kt) d cs none (σ ob).ex:=hks1
 obtain⟨c,b1,b2,g1,g2,g3,g4⟩:=KLs.take1 hks1 hx
 have hb1:b1.Nodup:=(za.1 ((g3.nodup_iff).2 (za.1 hnd).2.1)).1
 obtain⟨_,hone,hlx,l,hl,hro,hrv⟩:=qDB (nid:=nid) g2 hb1 hk hgo
 refine⟨hn0,b,cs,c,hab,hown.cells hab,g1,hone,?_⟩
 generalize hτ:updL (updL σ ob ⟨(σ ob).a,(σ ob).cap,b2⟩) nid l=τ
 have tn:τ nid=l:=by rw [<- hτ,qZ]
 have to:τ ob=⟨(σ ob).a,(σ ob).cap,b2⟩:=by rw [<- hτ,qaE _ _ hne,qZ]
 have tj:∀ j,j≠nid->j≠ob->τ j=σ j:=fun j h1 h2=>by rw [<- hτ,qaE _ _ h1,qaE _ _ h2]
 have hin:∀ b',b'∈b1\/b'∈b2->b'∈(σ ob).ex:=fun b' q=>g3.subset (zU.2 q)
 have was:∀ j b',live (getO H j)->Oat (getO H j) (τ j) b'->∃ i,live (getO h i)/\Oat (getO h i) (σ i) b'/\((i=j/\j≠nid)\/(i=ob/\j=nid/\b'∈b1)):=fun j b' l1 o1=>by
  by_cases q1:j=nid
  ·subst q1
   rw [hHn,tn] at o1
   have o1:=(hl b').1 o1
   exact⟨ob,by rw [eo];trivial,by rw [eo];exact .inr (hin b' (.inl o1)),.inr ⟨rfl,rfl,o1⟩⟩
  ·by_cases q2:j=ob
   ·subst q2
    rw [hHo,to] at o1
    rcases o1 with o1 | o1
    ·exact⟨j,by rw [eo];trivial,by rw [eo];exact .inl o1,.inl ⟨rfl,q1⟩⟩
    ·exact⟨j,by rw [eo];trivial,by rw [eo];exact .inr (hin b' (.inr o1)),.inl ⟨rfl,q1⟩⟩
   ·rw [hH' j q1 q2] at l1 o1
    rw [tj j q1 q2] at o1
    exact⟨j,l1,o1,.inl ⟨rfl,q1⟩⟩
 have st:OStep h σ H τ:=fun j=>by
  by_cases q1:j=nid
  ·subst q1;rw [hn];trivial
  ·by_cases q2:j=ob
   ·subst q2;rw [eo]
    show KStep _ _ _ _ _ _ _
    unfold KStep
    exact .inl ⟨ver,.row e,kt,_,d,hHo,rfl,Nat.le_refl _,fun _=>⟨by rw [to],by rw [to],rfl,rfl⟩⟩
   ·have:=OStep.refl h σ j
    rw [hH' j q1 q2,tj j q1 q2]
    exact this
 have hnd2:(b1++b2).Nodup:=(g3.nodup_iff).2 (za.1 hnd).2.1
 have nob:∀ b',b'∈b1->live (getO H ob)->¬ Oat (getO H ob) (τ ob) b':=fun b' hl _ ho=>by
  rw [hHo,to] at ho
  rcases ho with ho | ho
  ·exact (za.1 hnd).2.2 b' (by have ho:(σ ob).a=some b':=ho;simp [ho]) b' (hin b' (.inl hl)) rfl
  ·exact (za.1 hnd2).2.2 b' hl b' ho rfl
 refine⟨τ,Next.gen R rfl TDr.rfl rfl (Nat.le_refl _) (fun b' ⟨j,l1,o1⟩=>.inl ?_) (fun _ _ _=>rfl) (fun j j' b' l1 l2 o1 o2=>?_) st (fun kp j=>?_),hrv _ H τ hHn tn⟩
 ·obtain⟨i,i1,i2,_⟩:=was j b' l1 o1
  exact⟨i,i1,i2⟩
 ·obtain⟨i,i1,i2,i3⟩:=was j b' l1 o1
  obtain⟨i',k1,k2,k3⟩:=was j' b' l2 o2
  have:=R.apart i i' b' i1 k1 i2 k2
  subst this
  rcases i3 with⟨rfl,_⟩ | ⟨rfl,rfl,hl⟩
  ·rcases k3 with⟨rfl,_⟩ | ⟨rfl,rfl,hl⟩
   ·rfl
   ·exact absurd o1 (nob b' hl l1)
  ·rcases k3 with⟨rfl,_⟩ | ⟨_,rfl,_⟩
   ·exact absurd o2 (nob b' hl l2)
   ·rfl
 ·by_cases q1:j=nid
  ·subst q1
   rw [hHn,tn]
   exact hro _ H τ kp
  ·by_cases q2:j=ob
   ·subst q2
    rw [hHo,to]
    have hlink:=hrv (mutb M0 H τ) H τ hHn tn
    have hout:KW w (mutb M0 H τ) (RV w (mutb M0 H τ) H τ) kt x [c] (some (0,refTo nid x0)) []:=by
     cases kt <;> first | (simp only [KW];exact⟨rfl,rfl,c,rfl,hone,hlink⟩) | (cases hk;done)
    have h5:=g4 (KW w (mutb M0 H τ) (RV w (mutb M0 H τ) H τ) kt) (fun x c b h=>KW.keeps kp id kt x c none b (fun y c q=>by cases q) (fun _ _ _=>rfl) h) _ hout
    refine⟨hn1,cs,hown,by rw [hn0];exact h5,?_⟩
    exact za.2 ⟨(za.1 hnd).1,(za.1 hnd2).2.1,fun p hp q hq e=>(za.1 hnd).2.2 p hp q (hin q (.inr hq)) e⟩
   ·rw [hH' j q1 q2,tj j q1 q2]
    exact (R.obj j).keeps kp st fun _ _ _=>rfl
theorem qqj(hT:TOk P C.T)(R:Rep w0 A M0 w h σ)(hs:Sub hm h)(hrt:∀ i,RV w (mutb M0 h σ) h σ (t i) (a.tmps.getD i undef)){v:V}{ob:Nat}{x:O}(hb:dropO C o.op t hm=some (true,v,ob,x)) :
  Does r n P o a w (PostW w0 A M0 w h σ (h.set ob x) v):=by
 unfold dropO at hb;cases hb
theorem qoN(hT:TOk P C.T)(R:Rep w0 A M0 w h σ)(hs:Sub hm h)(hrt:∀ i,RV w (mutb M0 h σ) h σ (t i) (a.tmps.getD i undef)){ss:List (Nat×O)}{x:O}(hb:takeO C o.op t hm nid=some (true,ss,x)) :
  ∀ H,qaO h ss (some x) nid H->getO h nid=.none->Does r n P o a w (PostW w0 A M0 w h σ H (refTo nid x)):=by
 intro H hH hn
 unfold takeO at hb
 split at hb
 case h_3=>cases hb
 case h_2=>
  rename_i ty m ho
  split at hb
  case h_2=>cases hb
  rename_i ob ver i hmv
  split at hb
  case h_2=>cases hb
  rename_i ver' e kt d eom
  obtain⟨hver,hb⟩:=qc hb
  obtain rfl:=zB hver
  split at hb
  ·cases hb
  rename_i te hte
  obtain⟨hsz,hb⟩:=qc hb
  simp only [zA,zT] at hsz
  obtain⟨hsz,hagg⟩:=hsz
  have hsz:=zB hsz
  split at hb
  case h_2=>cases hb
  rename_i x1 hkn
  simp only [zD,zN] at hb
  obtain⟨hgo,rfl,rfl⟩:=hb
  have eo:=hs.get eom (by simp)
  have hpv:=qj hrt m
  rw [hmv] at hpv
  simp only [RV] at hpv
  rw [eo] at hpv
  obtain⟨_,_,_,hx⟩:=hpv
  obtain⟨_,b,hab,hlt,hx⟩:=(hx rfl).resolve_left (fun q=>by omega)
  have hlt:i<d.length:=hlt
  have lo:=qae (h:=h) (i:=ob) (by rw [eo];simp)
  have hne:ob≠nid:=fun q=>by rw [q,hn] at eo;cases eo
  have hgs:∀ j,getO (qai [(ob,O.kds ver (.row e) kt (some ((i:Int),refTo nid x1)) d)] h) j=if ob=j then .kds ver (.row e) kt (some ((i:Int),refTo nid x1)) d else getO h j:=fun j=>qad lo _ j
  obtain⟨hn0,b',cs,c,hab',hcl,hci,hone,hpost⟩:=qyv (nid:=nid) (H:=H) R eo hn (qwb kt.sh.zero d i hlt) hkn hgo hH.1 (by rw [hH.2 ob hne,hgs,zJ rfl]) (fun j q1 q2=>by rw [hH.2 j q1,hgs,zL (fun q=>q2 q.symm)])
  rw [hab] at hab';cases hab'
  obtain⟨ti,z,hi⟩:=hT.get hte
  have hcell:qay w b ((σ ob).off+i) [c]:=fun j v hj=>by
   cases j with
   | zero=>
    simp only [List.getElem?_cons_zero,zD] at hj
    subst hj
    exact hcl i c hci
   | succ j=>simp at hj
  have hload:=qhA (P:=P) (w:=w) hi hcell.g (off:=0) (by rw [hsz,hagg];rfl)
  rw [hagg,cond_false] at hload
  have hx:a.eval m=.pointer (some ⟨b,(σ ob).off+i,none⟩):=by rw [hx,hn0];simp
  rw [Nat.add_zero] at hload
  exact qaH (by rw [ho];simp) (x:=c) (w':=w) (by simp [execOp,ho,hx,Instr.loadAt,Instr.sureAddr,hload]) hpost
 rename_i ty m i ho
 split at hb
 case h_2=>cases hb
 rename_i ob off hmv
 split at hb
 case h_2=>cases hb
 rename_i ver kt et k e s d eom
 obtain⟨hkm,hb2⟩:=qc hb
 clear hb
 obtain⟨h1,h2,h3,hsn1⟩:=qnM hT hkm
 split at hb2
 case h_2=>cases hb2
 rename_i y hy
 simp only [zD,zN,true_and] at hb2
 obtain⟨rfl,rfl⟩:=hb2
 have eo:=hs.get eom (by simp)
 have hpv:=qj hrt m
 rw [hmv] at hpv
 obtain⟨b,es,clock,ha,hp,hbl,hcl,hkk,hkv,hlt,hnd,hsep⟩:=qAi R eo hpv
 have hkey:=qcv R (qj hrt i) hy
 have lo:=qae (h:=h) (i:=ob) (by rw [eo];simp)
 have hne:ob≠nid:=fun q=>by rw [q,hn] at eo;cases eo
 have hgs:∀ j,getO (qai [(ob,O.kds ver (.map kt et k) (.row e s) (some (y,.bad)) d)] h) j=if ob=j then .kds ver (.map kt et k) (.row e s) (some (y,.bad)) d else getO h j:=fun j=>qad lo _ j
 have hHo:getO H ob=.kds ver (.map kt et k) (.row e s) (some (y,.bad)) d:=by rw [hH.2 ob hne,hgs,zJ rfl]
 have hH':∀ j,j≠nid->j≠ob->getO H j=getO h j:=fun j q1 q2=>by rw [hH.2 j q1,hgs,zL (fun q=>q2 q.symm)]
 simp only [refTo]
 have hkv0:KVs w (mutb M0 h σ) (.row e s) (d.2.map (·.2.2)) (es.toList.map (·.val)) none (σ ob).ex:=hkv
 rcases qlP (v:=.sl s) (w':=w) h2 hkey hkk with⟨f1,f2⟩ | ⟨j,en9,z,f1,f3,f4,f5⟩
 ·have hno:mpHas k (.sl s) d y=false:=by unfold mpHas;rw [f2];rfl
  have hget:mpGet k (.sl s) d y = []:=by unfold mpGet;rw [f2];rfl
  have hs1:=hsn1
  have hz1:=qDd h3
  rw [hget] at hH
  refine qaH (by rw [ho];simp) (x:=.slice none 0 0) (w':=w) ?_ (qtQ R eo hn hH.1 hHo hH' ⟨none,0,[]⟩ (σ ob).ex (.refl _) ha hsep hs1 (cs:=[]) (World.ownsRow_nil _ _ _ _) rfl
   ⟨b,es,clock,ha,hbl,hcl,hkk,by simpa only [Option.map_some,holeM,hno,cond_false] using hkv0,hlt,hnd,hsep⟩)
  simp [execOp,ho,hp,Instr.lookup,run_underlying h1,MapKept.run_getObj_map hbl,qbg h2 hkey,f1,hz1,Result.andThen]
 ·have hhas:mpHas k (.sl s) d y=true:=by unfold mpHas;rw [f5.ent];rfl
  have hget:mpGet k (.sl s) d y=z.2.2:=by unfold mpGet;rw [f5.ent]
  obtain⟨b2,ex',g1,g2,g3⟩:=hkv0.take (j:=j) (x:=z.2.2) (v:=en9.val) (by rw [zAb,f5.here];rfl) (by rw [zAb,f3];rfl)
  obtain⟨l,cs,e1,hs1,hown,hrl,rfl⟩:=g1
  rw [hget] at hH
  rw [e1] at hown f1
  refine qaH (by rw [ho];simp) (x:=rowV l (z.2.2).length) (w':=w) ?_ (qtQ R eo hn hH.1 hHo hH' l ex' g3 ha hsep hs1 hown hrl
   ⟨b,es,clock,ha,hbl,hcl,hkk,by simpa only [Option.map_some,holeM,hhas,cond_true,f5.ix] using g2,hlt,hnd,zZ.2 ⟨fun q=>(zZ.1 hsep).1 (g3.subset (zf _ q)),(za.1 ((g3.nodup_iff).2 (zZ.1 hsep).2)).2.1⟩⟩)
  simp [execOp,ho,hp,Instr.lookup,run_underlying h1,MapKept.run_getObj_map hbl,qbg h2 hkey,f1,Result.andThen]
theorem qiR(hT:TOk P C.T)(R:Rep w0 A M0 w h σ)(hs:Sub hm h)(hrt:∀ i,RV w (mutb M0 h σ) h σ (t i) (a.tmps.getD i undef)){ty:TypeId}{m k x:Operand}(hd:∀ c,o.op≠.defer c)(hex:execOp a.eval o=do Instr.mapUpdate ty (a.eval m) (a.eval k) (a.eval x);pure .skip)
  {K:V->List (Nat×O)->Option O->Option ρ} {res:ρ} (hb:qeF C hm ty (ev t m) (ev t k) (ev t x) K=some res) :
  ∃ v ss mk,K v ss mk=some res/\∀ H,qaO h ss mk nid H->(mk.isSome=true->getO h nid=.none)->Does r n P o a w (PostW w0 A M0 w h σ H v):=by
 unfold qeF at hb
 split at hb
 ·exact qmN hT R hs hrt hd hex hb
 ·rename_i oi fz q d hat
  obtain⟨h1,h2,h3,h4,-,eo,b,es,clock,ha,hp,hbl,B⟩:=qda hT R hs (qj hrt m) hat
  cases fz with
  | true=>cases hb
  | false=>
   simp only [cond_false] at hb
   split at hb
   ·cases hb
   ·rename_i y hy
    split at hb
    ·cases hb
    ·rename_i z hz
     refine⟨_,_,_,hb,fun H hH _=>?_⟩
     obtain⟨es',clock',hrun,B'⟩:=qqP h1 h2 hbl B (qcv R (qj hrt k) hy) (qcv R (qj hrt x) hz)
     rw [show H=h.set oi (.oth false q (mpPut q.k q.v d y z)) from hH]
     exact qhY hd (w':=setBlock w b (.map es' clock')) (by rw [hex,hp];simp only [Sem.run_bind,hrun,Result.andThen_ok,Sem.run_pure]) ⟨σ,qpz R eo h4 ha hbl B',by simp only [RV]⟩
theorem qmM(hT:TOk P C.T)(R:Rep w0 A M0 w h σ)(hs:Sub hm h)(hrt:∀ i,RV w (mutb M0 h σ) h σ (t i) (a.tmps.getD i undef)){ty:TypeId}{m k x:Operand}(hd:∀ c,o.op≠.defer c)(hex:execOp a.eval o=do Instr.mapUpdate ty (a.eval m) (a.eval k) (a.eval x);pure .skip)
  {K:V->List (Nat×O)->Option O->Option ρ} {res:ρ} (hb:qgc C hm ty (ev t m) (ev t k) (ev t x) K=some res) :
  ∃ v ss mk,K v ss mk=some res/\∀ H,qaO h ss mk nid H->(mk.isSome=true->getO h nid=.none)->Does r n P o a w (PostW w0 A M0 w h σ H v):=by
 unfold qgc at hb;cases hb
theorem qpA(hT:TOk P C.T)(R:Rep w0 A M0 w h σ)(hs:Sub hm h)(hrt:∀ i,RV w (mutb M0 h σ) h σ (t i) (a.tmps.getD i undef)){ty:TypeId}{m k:Operand}(ho:o.op=.mapEntry ty m k)
  {K:V->List (Nat×O)->Option O->Option ρ} {res:ρ} (hb:qgd C hm ty (ev t m) (ev t k) K=some res) :
  ∃ v ss mk,K v ss mk=some res/\∀ H,qaO h ss mk nid H->(mk.isSome=true->getO h nid=.none)->Does r n P o a w (PostW w0 A M0 w h σ H v):=by
 unfold qgd at hb
 split at hb
 ·cases hb
 ·rename_i oi fz q d hat
  obtain⟨h1,h2,h3,h4,-,eo,b,es,clock,ha,hp,hbl,B⟩:=qda hT R hs (qj hrt m) hat
  cases fz with
  | true=>cases hb
  | false=>
   simp only [cond_false] at hb
   split at hb
   ·cases hb
   ·rename_i y hy
    refine⟨_,_,_,hb,fun H hH _=>?_⟩
    obtain⟨c,es',clock',hrun,hc,B'⟩:=qsx h1 h2 h3 hbl B (qcv R (qj hrt k) hy)
    rw [show H=h.set oi (.oth false q (mpEnt q.k q.v d y)) from hH]
    have hN:=qpz R eo h4 ha hbl B'
    refine qaH (by rw [ho];simp) (x:=.tuple #[c,goInt (qfk q.k q.v d y)]) (w':=setBlock w b (.map es' clock')) (by simp only [execOp,ho,hp,Sem.run_bind,hrun,Result.andThen_ok];rfl) ⟨σ,hN,?_⟩
    simp only [RV]
    exact⟨_,rfl,⟨_,_,rfl,RV.keeps hN.keeps hN.step (qeB hc),⟨_,_,rfl,qfW,rfl⟩⟩⟩
theorem qmX(hT:TOk P C.T)(R:Rep w0 A M0 w h σ)(hs:Sub hm h)(hrt:∀ i,RV w (mutb M0 h σ) h σ (t i) (a.tmps.getD i undef)){ty:TypeId}{m s x:Operand}(ho:o.op=.entryStore ty m s x)
  {K:V->List (Nat×O)->Option O->Option ρ} {res:ρ} (hb:qeK C hm ty (ev t m) (ev t s) (ev t x) K=some res) :
  ∃ v ss mk,K v ss mk=some res/\∀ H,qaO h ss mk nid H->(mk.isSome=true->getO h nid=.none)->Does r n P o a w (PostW w0 A M0 w h σ H v):=by
 unfold qeK at hb
 split at hb
 ·cases hb
 ·rename_i oi fz q d hat
  obtain⟨h1,h2,h3,h4,-,eo,b,es,clock,ha,hp,hbl,B⟩:=qda hT R hs (qj hrt m) hat
  cases fz with
  | true=>cases hb
  | false=>
   simp only [cond_false] at hb
   split at hb
   ·rename_i kd nn hsv
    have hsv':=qj hrt s
    rw [hsv] at hsv'
    simp only [RV] at hsv'
    split at hb
    ·cases hb
    ·rename_i z hz
     obtain⟨hst,hb⟩:=qc hb
     refine⟨_,_,_,hb,fun H hH _=>?_⟩
     obtain⟨es',clock',hrun,B'⟩:=qsw (P:=P) (ty:=ty) (kd:=kd) hbl B hst (qcv R (qj hrt x) hz)
     rw [show H=h.set oi (.oth false q (mpAt q.k q.v d nn z)) from hH]
     exact qhY (by rw [ho];simp) (w':=setBlock w b (.map es' clock')) (by simp only [execOp,ho,hp,hsv',Sem.run_bind,hrun,Result.andThen_ok];rfl) ⟨σ,qpz R eo h4 ha hbl B',by simp only [RV]⟩
   ·cases hb
theorem qtq{rt:TypeId}(hT:TOk P C.T)(R:Rep w0 A M0 w h σ)(hs:Sub hm h)(hrt:∀ i,RV w (mutb M0 h σ) h σ (t i) (a.tmps.getD i undef)){ty:TypeId}{m k:Operand}
  {K:V->List (Nat×O)->Option O->Option ρ} {res:ρ} (hb:qnf C hm ty (ev t m) (ev t k) K=some res) :
  ∃ v ss mk,K v ss mk=some res/\∀ H,qaO h ss mk nid H->(mk.isSome=true->getO h nid=.none)->∃ val w',(Builtin.delete_ #[ty,ty] rt #[a.eval m,a.eval k]).run P w=.ok val w'/\PostW w0 A M0 w h σ H v val w':=by
 unfold qnf at hb
 split at hb
 ·cases hb
 ·rename_i oi fz q d hat
  obtain⟨h1,h2,h3,h4,-,eo,b,es,clock,ha,hp,hbl,B⟩:=qda hT R hs (qj hrt m) hat
  cases fz with
  | true=>cases hb
  | false=>
   simp only [cond_false] at hb
   split at hb
   ·cases hb
   ·rename_i y hy
    refine⟨_,_,_,hb,fun H hH _=>?_⟩
    obtain⟨es',clock',hrun,B'⟩:=qqR (rt:=rt) (kt':=ty) h1 h2 hbl B (qcv R (qj hrt k) hy)
    rw [show H=h.set oi (.oth false q (mpDel q.k q.v d y)) from hH,hp]
    exact⟨_,_,hrun,σ,qpz R eo h4 ha hbl B',by simp only [RV];exact⟨_,rfl,rfl⟩⟩
theorem qvk{rt:TypeId}(hT:TOk P C.T)(R:Rep w0 A M0 w h σ)(hs:Sub hm h)(hrt:∀ i,RV w (mutb M0 h σ) h σ (t i) (a.tmps.getD i undef)){ty:TypeId}{m:Operand}
  {K:V->List (Nat×O)->Option O->Option ρ} {res:ρ} (hb:qrZ C hm ty (ev t m) K=some res) :
  ∃ v ss mk,K v ss mk=some res/\∀ H,qaO h ss mk nid H->(mk.isSome=true->getO h nid=.none)->∃ val w',(Builtin.clear_ #[ty] rt #[a.eval m]).run P w=.ok val w'/\PostW w0 A M0 w h σ H v val w':=by
 unfold qrZ at hb
 split at hb
 ·cases hb
 ·rename_i oi fz q d hat
  obtain⟨h1,h2,h3,h4,-,eo,b,es,clock,ha,hp,hbl,B⟩:=qda hT R hs (qj hrt m) hat
  cases fz with
  | true=>cases hb
  | false=>
   simp only [cond_false] at hb
   refine⟨_,_,_,hb,fun H hH _=>?_⟩
   obtain⟨hrun,B'⟩:=qsy (rt:=rt) h1 hbl B
   rw [show H=h.set oi (.oth false q (d.1,[])) from hH,hp]
   exact⟨_,_,hrun,σ,qpz R eo h4 ha hbl B',by simp only [RV];exact⟨_,rfl,rfl⟩⟩
theorem qqn{rt:TypeId}(hT:TOk P C.T)(R:Rep w0 A M0 w h σ)(hs:Sub hm h)(hrt:∀ i,RV w (mutb M0 h σ) h σ (t i) (a.tmps.getD i undef)){ty:TypeId}{m:Operand}
  {K:V->List (Nat×O)->Option O->Option ρ} {res:ρ} (hb:qjG C hm ty (ev t m) K=some res) :
  ∃ v ss mk,K v ss mk=some res/\∀ H,qaO h ss mk nid H->(mk.isSome=true->getO h nid=.none)->∃ val w',(Builtin.clear_ #[ty] rt #[a.eval m]).run P w=.ok val w'/\PostW w0 A M0 w h σ H v val w':=by
 unfold qjG at hb;cases hb
theorem qsC(hT:TOk P C.T)(R:Rep w0 A M0 w h σ)(hs:Sub hm h)(hrt:∀ i,RV w (mutb M0 h σ) h σ (t i) (a.tmps.getD i undef)){ty:TypeId}{x:Operand}(ho:o.op=.range ty x)
  {K:V->List (Nat×O)->Option O->Option ρ} {res:ρ} (hb:qpi C hm nid ty (ev t x) K=some res) :
  ∃ v ss mk,K v ss mk=some res/\∀ H,qaO h ss mk nid H->(mk.isSome=true->getO h nid=.none)->Does r n P o a w (PostW w0 A M0 w h σ H v):=by
 unfold qpi at hb;cases hb
theorem qur(hT:TOk P C.T)(R:Rep w0 A M0 w h σ)(hs:Sub hm h)(hrt:∀ i,RV w (mutb M0 h σ) h σ (t i) (a.tmps.getD i undef)){ty:TypeId}{x:Operand}(ho:o.op=.range ty x)
  {K:V->List (Nat×O)->Option O->Option ρ} {res:ρ} (hb:qrw C hm nid ty (ev t x) K=some res) :
  ∃ v ss mk,K v ss mk=some res/\∀ H,qaO h ss mk nid H->(mk.isSome=true->getO h nid=.none)->Does r n P o a w (PostW w0 A M0 w h σ H v):=by
 unfold qrw at hb
 split at hb
 ·cases hb
 ·rename_i oi fz q d hat
  obtain⟨h1,h2,h3,h4,-,eo,b,es,clock,ha,hp,hbl,B⟩:=qda hT R hs (qj hrt x) hat
  refine⟨_,_,_,hb,fun H hH hn=>?_⟩
  have hn:=hn rfl
  have n1:=frzM R eo
  have hlt:=qae (h:=h) (i:=oi) (by rw [eo];simp)
  have hg:=qad hlt (.oth true q d)
  have hno:oi≠nid:=fun e=>by rw [e,hn] at eo;cases eo
  have hn1:getO (h.set oi (.oth true q d)) nid=.none:=by rw [hg,zL hno];exact hn
  have hfz:=n1.rep.obj oi
  rw [hg,zJ rfl] at hfz
  have hnm:¬ mutb M0 (h.set oi (.oth true q d)) σ b:=hfz.2 rfl b ha
  have hblt:b<w.heap.size:=(zI.1 hbl).1
  have n2:=qhB (H:=H) (ob:=.oth false ⟨true,q.kt,q.et,q.k,q.v,false⟩ ((0:Int),d.2)) n1.rep hn1 hH.1 hH.2 (qeL w (.mapIter (some b) clock #[] clock)) ⟨some w.heap.size,0,[]⟩ (fun b hb=>by cases hb;exact Nat.le_refl _) (fun k st=>by
   refine⟨RQ.u ?_,fun h=>by cases h⟩
   refine⟨w.heap.size,b,clock,clock,#[],es,clock,rfl,heap_alloc_new _ _,zM hblt k.size,k.out b hblt hnm,by rw [k.block b hblt hnm];exact hbl,B.lt,⟨Nat.le_refl _,Nat.le_refl _⟩,B.nd,?_,fun h=>by cases h⟩
   have hl:leftL es #[]=es.toList:=by simp [leftL]
   rw [hl]
   have e0:=(MEs.keeps (w:=w) (M:=mutb M0 h σ) n1.keeps B.ents).keeps k
   exact e0)
  have hN:=n1.trans n2 R
  refine qaH (by rw [ho];simp) (x:=.pointer (some ⟨w.heap.size,0,none⟩)) (w':=w.alloc (.mapIter (some b) clock #[] clock)) ?_ ⟨_,hN,?_⟩
  ·simp [execOp,ho,hp,Instr.range,run_underlying h1,MapKept.run_getObj_map hbl,run_newObj,Result.andThen]
  ·simp only [RV]
   refine⟨w.heap.size,by rw [qZ],?_⟩
   rw [hH.1]
   exact⟨rfl,rfl⟩
theorem qwz{tys:Array TypeId}{rt ty:TypeId}{args:Array Value}{p k:Value}(h1:tys[0]? = some ty)(h2:args[0]? = some p)(h3:args[1]? = some k):Builtin.delete_ tys rt args=Builtin.delete_ #[ty,ty] rt #[p,k]:=by
 simp [Builtin.delete_,h1,h2,h3]
theorem qyM{tys:Array TypeId}{rt ty:TypeId}{args:Array Value}{p:Value}(h1:tys[0]? = some ty)(h2:args[0]? = some p):Builtin.clear_ tys rt args=Builtin.clear_ #[ty] rt #[p]:=by
 simp [Builtin.clear_,h1,h2]
theorem qpZ(hT:TOk P C.T)(R:Rep w0 A M0 w h σ)(hs:Sub hm h)(hrt:∀ i,RV w (mutb M0 h σ) h σ (t i) (a.tmps.getD i undef))(hS:isS o.op=true){K:V->List (Nat×O)->Option O->Option ρ}{res:ρ}(hb:evS C o.op t hm nid K=some res) :
  ∃ v ss mk,K v ss mk=some res/\∀ H,qaO h ss mk nid H->(mk.isSome=true->getO h nid=.none)->Does r n P o a w (PostW w0 A M0 w h σ H v):=by
 unfold evS at hb
 split at hb
 ·rename_i e ho
  split at hb
  ·cases hb
  ·rename_i te hte
   exact⟨_,_,_,hb,fun H hH hn=>qAC hT R hte ho (hn rfl) hH⟩
 ·rename_i e x ho
  obtain⟨hx,hb⟩:=qc hb
  exact⟨_,_,_,hb,fun H hH hn=>qDM R hrt hx ho (hn rfl) hH⟩
 ·rename_i ty m ps ho
  exact qre hT R hs hrt ho hb
 ·rename_i ty l c ho
  exact qti hT R hrt ho hb
 ·rename_i ty x y ho
  exact qtT hT R hs hrt ho hb
 ·rename_i ty rs ho
  exact qqX hT R hrt ho hb
 ·rename_i ty m k x ho
  split at hb
  ·exact qmM hT R hs hrt (by rw [ho];simp) (by simp only [execOp,ho]) hb
  ·exact qiR hT R hs hrt (by rw [ho];simp) (by simp only [execOp,ho]) hb
 ·rename_i ty m k x ho
  exact qiR hT R hs hrt (by rw [ho];simp) (by simp only [execOp,ho]) hb
 ·rename_i ty m k ho
  exact qpA hT R hs hrt ho hb
 ·rename_i ty m s x ho
  exact qmX hT R hs hrt ho hb
 ·rename_i ty x ho
  split at hb
  ·exact qsC hT R hs hrt ho hb
  ·exact qur hT R hs hrt ho hb
 ·rename_i c ho
  rw [ho] at hS
  cases hdl:isDel c with
  | true=>
   rw [hdl,cond_true] at hb
   split at hb
   ·rename_i x y ty hx hy hty
    obtain⟨v,ss,mk,h1,h2⟩:=qtq (P:=P) (nid:=nid) (rt:=o.type) hT R hs hrt hb
    refine⟨v,ss,mk,h1,fun H hH hn=>?_⟩
    obtain⟨val,w',h3,h4⟩:=h2 H hH hn
    have hcal:c.callee=.builtin .delete:=by
     unfold isDel at hdl
     split at hdl
     ·split at hdl
      ·assumption
      ·cases hdl
     ·cases hdl
    have hargs:∀ (cs:Array Bool),builtin .delete c.argTypes o.type cs (c.args.map a.eval)=(Builtin.delete_ #[ty,ty] o.type #[a.eval x,a.eval y] >>= fun v=>pure (Next.value v)):=fun cs=>by
     have:Builtin.delete_ c.argTypes o.type (c.args.map a.eval)=Builtin.delete_ #[ty,ty] o.type #[a.eval x,a.eval y]:=qwz hty (by simp [hx]) (by simp [hy])
     show (Builtin.delete_ c.argTypes o.type (c.args.map a.eval) >>= fun v=>pure (Next.value v))=_
     rw [this]
    refine qaH (by rw [ho];simp) (x:=val) (w':=w') ?_ h4
    simp only [execOp,ho,resolve,hcal,invoke,Sem.run_bind,Sem.run_pure,Result.andThen_ok]
    rw [hargs]
    simp only [Sem.run_bind,h3,Result.andThen_ok,Sem.run_pure]
   ·cases hb
  | false=>
  rw [hdl,cond_false] at hb
  cases hcl:isClr c with
  | true=>
   rw [hcl,cond_true] at hb
   split at hb
   ·rename_i x ty hx hty
    obtain⟨v,ss,mk,h1,h2⟩:∃ v ss mk,K v ss mk=some res/\∀ H,qaO h ss mk nid H->(mk.isSome=true->getO h nid=.none)->∃ val w',(Builtin.clear_ #[ty] o.type #[a.eval x]).run P w=.ok val w'/\PostW w0 A M0 w h σ H v val w':=by
     split at hb
     ·exact qvk (P:=P) (nid:=nid) (rt:=o.type) hT R hs hrt hb
     ·exact qqn (P:=P) (nid:=nid) (rt:=o.type) hT R hs hrt hb
    refine⟨v,ss,mk,h1,fun H hH hn=>?_⟩
    obtain⟨val,w',h3,h4⟩:=h2 H hH hn
    have hcal:c.callee=.builtin .clear:=by
     unfold isClr at hcl
     split at hcl
     ·split at hcl
      ·assumption
      ·cases hcl
     ·cases hcl
    have hargs:∀ (cs:Array Bool),builtin .clear c.argTypes o.type cs (c.args.map a.eval)=(Builtin.clear_ #[ty] o.type #[a.eval x] >>= fun v=>pure (Next.value v)):=fun cs=>by
     have:Builtin.clear_ c.argTypes o.type (c.args.map a.eval)=Builtin.clear_ #[ty] o.type #[a.eval x]:=qyM hty (by simp [hx])
     show (Builtin.clear_ c.argTypes o.type (c.args.map a.eval) >>= fun v=>pure (Next.value v))=_
     rw [this]
    refine qaH (by rw [ho];simp) (x:=val) (w':=w') ?_ h4
    simp only [execOp,ho,resolve,hcal,invoke,Sem.run_bind,Sem.run_pure,Result.andThen_ok]
    rw [hargs]
    simp only [Sem.run_bind,h3,Result.andThen_ok,Sem.run_pure]
   ·cases hb
  | false=>
  rw [hcl,cond_false] at hb
  split at hb
  ·rename_i x y ty ty' hx hy hty hty'
   obtain⟨heq,hb2⟩:=qc hb
   clear hb
   have heq:=zB heq
   subst heq
   by_cases hcp:qxF c=true
   ·rw [hcp] at hb2
    obtain⟨v,ss,mk,h1,h2⟩:=qwB (P:=P) (rt:=o.type) hT R hs hrt hb2
    refine⟨v,ss,mk,h1,fun H hH hn=>?_⟩
    obtain⟨val,w',h3,h4⟩:=h2 H hH hn
    have hcal:c.callee=.builtin .copy:=by
     unfold qxF at hcp
     split at hcp
     ·split at hcp
      ·assumption
      ·cases hcp
     ·cases hcp
    have hargs:∀ (cs:Array Bool),builtin .copy c.argTypes o.type cs (c.args.map a.eval)=(Builtin.copy_ #[ty,ty] o.type #[a.eval x,a.eval y] >>= fun v=>pure (Next.value v)):=fun cs=>by
     have:Builtin.copy_ c.argTypes o.type (c.args.map a.eval)=Builtin.copy_ #[ty,ty] o.type #[a.eval x,a.eval y]:=qAR hty hty' (by simp [hx]) (by simp [hy])
     show (Builtin.copy_ c.argTypes o.type (c.args.map a.eval) >>= fun v=>pure (Next.value v))=_
     rw [this]
    refine qaH (by rw [ho];simp) (x:=val) (w':=w') ?_ h4
    simp only [execOp,ho,resolve,hcal,invoke,Sem.run_bind,Sem.run_pure,Result.andThen_ok]
    rw [hargs]
    simp only [Sem.run_bind,h3,Result.andThen_ok,Sem.run_pure]
   rw [zCM] at hcp
   rw [hcp] at hb2
   obtain⟨v,ss,mk,h1,h2⟩:=qtx (P:=P) (rt:=o.type) hT R hs hrt hb2
   refine⟨v,ss,mk,h1,fun H hH hn=>?_⟩
   obtain⟨val,w',h3,h4⟩:=h2 H hH hn
   have hcal:c.callee=.builtin .append:=by
    unfold isS at hS
    simp only at hS
    unfold qxF at hcp
    split at hS
    ·rename_i hcal
     rw [hcal] at hcp
     split at hS
     ·exact hcal
     ·cases hcp
     ·exfalso;unfold isDel at hdl;rw [hcal] at hdl;cases hdl
     ·exfalso;unfold isClr at hcl;rw [hcal] at hcl;cases hcl
     ·cases hS
    ·cases hS
   have hargs:∀ (cs:Array Bool),builtin .append c.argTypes o.type cs (c.args.map a.eval)=(Builtin.append_ #[ty,ty] o.type #[a.eval x,a.eval y] >>= fun v=>pure (Next.value v)):=fun cs=>by
    have:Builtin.append_ c.argTypes o.type (c.args.map a.eval)=Builtin.append_ #[ty,ty] o.type #[a.eval x,a.eval y]:=qwF hty hty' (by simp [hx]) (by simp [hy])
    show (Builtin.append_ c.argTypes o.type (c.args.map a.eval) >>= fun v=>pure (Next.value v))=_
    rw [this]
   refine qaH (by rw [ho];simp) (x:=val) (w':=w') ?_ h4
   simp only [execOp,ho,resolve,hcal,invoke,Sem.run_bind,Sem.run_pure,Result.andThen_ok]
   rw [hargs]
   simp only [Sem.run_bind,h3,Result.andThen_ok,Sem.run_pure]
  ·cases hb
 ·cases hb
end
end Go.Abs
namespace Go.Abs
mutual
theorem quT{w:World}{M:Nat->Prop}{h H:List O}{σ τ:Nat->Loc}(hg:∀ o,getO h o≠.none->getO H o=getO h o)(hs:∀ o,getO h o≠.none->τ o=σ o):{v:V} -> {x:Value}->RV w M h σ v x->RV w M H τ v x
 | .bad,_,_=>by simp only [RV]
 | .undef,_,hv=>by simp only [RV] at hv ⊢;exact hv
 | .int _ _,_,hv=>by simp only [RV] at hv ⊢;exact hv
 | .bool _,_,hv=>by simp only [RV] at hv ⊢;exact hv
 | .nl _,_,hv=>by simp only [RV] at hv ⊢;exact hv
 | .ifc _ _,_,hv=>by
  simp only [RV] at hv ⊢
  obtain⟨u,rfl,hr⟩:=hv
  exact⟨u,rfl,quT hg hs hr⟩
 | .nil,_,hv=>by simp only [RV] at hv ⊢;exact hv
 | .nlt _ _,_,hv=>by simp only [RV] at hv ⊢;exact hv
 | .sl _ _,_,hv=>by simp only [RV] at hv ⊢;exact hv
 | .fptr _ _,_,hv=>by simp only [RV] at hv ⊢;exact hv
 | .pptr _ _,_,hv=>by simp only [RV] at hv ⊢;exact hv
 | .yld _,_,hv=>by simp only [RV] at hv ⊢;exact hv
 | .slc o ver,x,hv=>by
  simp only [RV] at hv ⊢
  obtain⟨fz,ver',e,s,xs,eo,h1,h2,h3⟩:=hv
  have hn:getO h o≠.none:=by rw [eo];simp
  exact⟨fz,ver',e,s,xs,by rw [hg o hn,eo],h1,h2,fun e=>by rw [hs o hn];exact h3 e⟩
 | .ptr o off,x,hv=>by
  simp only [RV] at hv ⊢
  obtain⟨b,h1,h2⟩:=hv
  have hn:getO h o≠.none:=by intro e;rw [e] at h2;exact h2
  exact⟨b,by rw [hs o hn];exact h1,by rw [hg o hn];exact h2⟩
 | .rptr o ver i off,x,hv=>by
  simp only [RV] at hv ⊢
  have hn:getO h o≠.none:=by intro e;rw [e] at hv;exact hv
  rw [hg o hn,hs o hn];exact hv
 | .tl o ver i,x,hv=>by
  simp only [RV] at hv ⊢
  have hn:getO h o≠.none:=by intro e;rw [e] at hv;exact hv
  rw [hg o hn,hs o hn];exact hv
 | .clo f vs,x,hv=>by
  simp only [RV] at hv ⊢
  obtain⟨us,h1,h2⟩:=hv
  exact⟨us,h1,qpY hg hs h2⟩
 | .agg vs,x,hv=>by
  simp only [RV] at hv ⊢
  obtain⟨us,h1,h2,h3⟩:=hv
  exact⟨us,h1,h2,qpY hg hs h3⟩
 | .tup vs,x,hv=>by
  simp only [RV] at hv ⊢
  obtain⟨us,h1,h3⟩:=hv
  exact⟨us,h1,qpY hg hs h3⟩
theorem qpY{w:World}{M:Nat->Prop}{h H:List O}{σ τ:Nat->Loc}(hg:∀ o,getO h o≠.none->getO H o=getO h o)(hs:∀ o,getO h o≠.none->τ o=σ o):{vs:List V} -> {xs:List Value}->RVs w M h σ vs xs->RVs w M H τ vs xs
 | [],_,hv=>by simp only [RVs] at hv ⊢;exact hv
 | v :: vs,_,hv=>by
  simp only [RVs] at hv ⊢
  obtain⟨x,xs,e,h1,h2⟩:=hv
  exact⟨x,xs,e,quT hg hs h1,qpY hg hs h2⟩
end
theorem qEA{w:World}{M:Nat->Prop}{h H:List O}{σ τ:Nat->Loc}(hg:∀ o,getO h o≠.none->getO H o=getO h o)(hs:∀ o,getO h o≠.none->τ o=σ o){l:Loc}{o:O}(r:RO w M h σ l o):RO w M H τ l o:=by
 cases o with
 | none=>trivial
 | nst ver q d=>exact r
 | kds ver p t h0 d=>exact RK.keeps ⟨Nat.le_refl _,fun _ _ _=>rfl,fun _ _ h=>h⟩ (fun y c _=>quT hg hs) (fun _ _ _=>rfl) r
 | gone=>trivial
 | cells vs=>
  obtain⟨b,e,cs,h1,h2,h3,h4⟩:=r
  exact⟨b,e,cs,h1,h2,qpY hg hs h3,h4⟩
 | row fz ver e s xs=>cases fz <;> exact r
 | oth fz q d=>exact r
mutual
theorem qCW{w:World}{M:Nat->Prop}{h H:List O}{σ τ:Nat->Loc}{p:Nat}(hg:∀ o,o≠p->getO h o≠.none->getO H o=getO h o)(hs:∀ o,o≠p->getO h o≠.none->τ o=σ o):{v:V} -> {x:Value}->noRef p p v=true->RV w M h σ v x->RV w M H τ v x
 | .bad,_,_,_=>by simp only [RV]
 | .undef,_,hp,hv=>by simp only [RV] at hv ⊢;exact hv
 | .int _ _,_,hp,hv=>by simp only [RV] at hv ⊢;exact hv
 | .bool _,_,hp,hv=>by simp only [RV] at hv ⊢;exact hv
 | .nl _,_,hp,hv=>by simp only [RV] at hv ⊢;exact hv
 | .ifc _ _,_,hp,hv=>by
  simp only [RV] at hv ⊢
  obtain⟨u,rfl,hr⟩:=hv
  exact⟨u,rfl,qCW hg hs (by simpa only [noRef] using hp) hr⟩
 | .nil,_,hp,hv=>by simp only [RV] at hv ⊢;exact hv
 | .nlt _ _,_,hp,hv=>by simp only [RV] at hv ⊢;exact hv
 | .sl _ _,_,hp,hv=>by simp only [RV] at hv ⊢;exact hv
 | .fptr _ _,_,hp,hv=>by simp only [RV] at hv ⊢;exact hv
 | .pptr _ _,_,hp,hv=>by simp only [RV] at hv ⊢;exact hv
 | .yld _,_,hp,hv=>by simp only [RV] at hv ⊢;exact hv
 | .slc o ver,x,hp,hv=>by
  simp only [RV] at hv ⊢
  obtain⟨fz,ver',e,s,xs,eo,h1,h2,h3⟩:=hv
  have np:o≠p:=zAD (by simp only [noRef,zA,zT] at hp;exact hp.1)
  have hn:getO h o≠.none:=by rw [eo];simp
  exact⟨fz,ver',e,s,xs,by rw [hg o np hn,eo],h1,h2,fun e=>by rw [hs o np hn];exact h3 e⟩
 | .ptr o off,x,hp,hv=>by
  simp only [RV] at hv ⊢
  obtain⟨b,h1,h2⟩:=hv
  have np:o≠p:=zAD (by simp only [noRef,zA,zT] at hp;exact hp.1)
  have hn:getO h o≠.none:=by intro e;rw [e] at h2;exact h2
  exact⟨b,by rw [hs o np hn];exact h1,by rw [hg o np hn];exact h2⟩
 | .rptr o ver i off,x,hp,hv=>by
  simp only [RV] at hv ⊢
  have np:o≠p:=zAD (by simp only [noRef,zA,zT] at hp;exact hp.1)
  have hn:getO h o≠.none:=by intro e;rw [e] at hv;exact hv
  rw [hg o np hn,hs o np hn];exact hv
 | .tl o ver i,x,hp,hv=>by
  simp only [RV] at hv ⊢
  have np:o≠p:=zAD (by simp only [noRef,zA,zT] at hp;exact hp.1)
  have hn:getO h o≠.none:=by intro e;rw [e] at hv;exact hv
  rw [hg o np hn,hs o np hn];exact hv
 | .clo f vs,x,hp,hv=>by
  simp only [RV] at hv ⊢
  obtain⟨us,h1,h2⟩:=hv
  exact⟨us,h1,qsJ hg hs (by simpa only [noRef] using hp) h2⟩
 | .agg vs,x,hp,hv=>by
  simp only [RV] at hv ⊢
  obtain⟨us,h1,h2,h3⟩:=hv
  exact⟨us,h1,h2,qsJ hg hs (by simpa only [noRef] using hp) h3⟩
 | .tup vs,x,hp,hv=>by
  simp only [RV] at hv ⊢
  obtain⟨us,h1,h3⟩:=hv
  exact⟨us,h1,qsJ hg hs (by simpa only [noRef] using hp) h3⟩
theorem qsJ{w:World}{M:Nat->Prop}{h H:List O}{σ τ:Nat->Loc}{p:Nat}(hg:∀ o,o≠p->getO h o≠.none->getO H o=getO h o)(hs:∀ o,o≠p->getO h o≠.none->τ o=σ o):{vs:List V} -> {xs:List Value}->qko p p vs=true->RVs w M h σ vs xs->RVs w M H τ vs xs
 | [],_,_,hv=>by simp only [RVs] at hv ⊢;exact hv
 | v :: vs,_,hp,hv=>by
  simp only [qko,zA] at hp
  simp only [RVs] at hv ⊢
  obtain⟨x,xs,e,h1,h2⟩:=hv
  exact⟨x,xs,e,qCW hg hs hp.1 h1,qsJ hg hs hp.2 h2⟩
end
open Go.RowKit
section
variable {P : Program} {C : Ctx} {r : Option Nat} {n : Nat} {w0 : World} {A M0 : Nat -> Prop} {w w' : World} {h hm H : List O} {σ : Nat -> Loc} {t : Nat -> V} {a : Act} {o : Oper} {ρ : Type} {nid : Nat} {ob : O}
theorem PostR.toW(R:Rep w0 A M0 w h σ){v:V}{x:Value}(hp:PostR M0 w h σ v x w'):PostW w0 A M0 w h σ h v x w':=⟨σ,Next.grow R hp.1,hp.2⟩
theorem qlO(h:List O):getO h h.length=.none:=by simp [getO,List.getD]
theorem qsI{M M':Nat->Prop}(hM:∀ b,M b↔M' b):M=M':=funext fun b=>propext (hM b)
theorem qwn{h:List O}{vs:List V}{k:Nat×Nat×(Σ q:Nst,q.sh.den)×Nat}{r:List V}(e:qAj h vs=some (k,r)):∃ v,vs=v :: r/\kidAt h v=some k:=by
 cases vs with
 | nil=>cases e
 | cons v vs=>
  simp only [qAj] at e
  split at e
  ·cases e
  ·rename_i k' hk
   simp only [zD,zN] at e
   obtain⟨rfl,rfl⟩:=e
   exact⟨v,rfl,hk⟩
theorem qvn(hG:GOk P C)(hL:Gl C.gs w0 A)(R:Rep w0 A M0 w h σ){f oi ver i:Nat}{q:Nst}{d:q.sh.den}{kv:V}{rs:List V}(hat:kidAt h kv=some (oi,ver,⟨q,d⟩,i)){K:V->List O->Option ρ}{res:ρ}(hb:qvo C h f oi ver q d i rs K=some res) :
  ∃ p,C.G f (.ptr h.length 1000000 :: rs) (h.set oi .none ++ [kidO q.kd (kidL q.k q.kd.sh d.2 i)])=some p/\∀ vs,RVs w (mutb M0 h σ) h σ (kv :: rs) vs->∃ v H,K v H=some res/\Calls P f vs.toArray w fun e w'=>∃ x,e=.returned x/\PostW w0 A M0 w h σ H v x w':=by
 unfold qvo at hb;cases hb
theorem qCq(R:Rep w0 A M0 w h σ){ob:Nat}{us:List V}(eo:getO h ob=.cells us){s:Sh}{x:s.den}(hd:qea [] s us=some x) :
  Next w0 A M0 w h σ w (h.set ob .gone) σ/\∀ v,RV w (mutb M0 h σ) h σ (.ptr ob 0) v->RV w (mutb M0 (h.set ob .gone) σ) (h.set ob .gone) σ (.fptr s x) v:=by
 have hlt:=qae (h:=h) (i:=ob) (by rw [eo];simp)
 have hg:=qad hlt .gone
 refine⟨?_,fun v hv=>?_⟩
 ·refine Next.updG R ob rfl TDr.rfl rfl (Nat.le_refl _) (fun o' hne=>⟨by rw [hg,zL (fun e=>hne e.symm)],rfl⟩) (fun _ _ _=>rfl) (fun b hl ha=>by rw [hg,zJ rfl] at hl;exact hl.elim)
   (by rw [eo];exact .inr ⟨by rw [hg,zJ rfl],rfl⟩) (fun k st=>by rw [hg,zJ rfl];trivial)
 simp only [RV] at hv ⊢
 obtain⟨b,hab,hpx⟩:=hv
 rw [eo] at hpx
 have hpx:v=.pointer (some ⟨b,0,none⟩):=hpx
 have ro:=R.obj ob
 rw [eo] at ro
 obtain⟨b',cs,ha',hc,hr,h1⟩:=qxW ro
 rw [hab] at ha';cases ha'
 have hblt:b<w.heap.size:=(R.obj ob).lt (by rw [eo];trivial) (by rw [eo];exact hab)
 have hnb:¬ mutb M0 (h.set ob .gone) σ b:=by
  have hown:own h σ b:=⟨ob,by rw [eo];trivial,.of hab⟩
  rintro (hm' | ⟨o',hl',ha'⟩)
  ·exact R.own_m0 hown hm'
  ·rw [hg] at hl' ha'
   split at hl'
   ·exact hl'
   ·rename_i hne
    rw [zL hne] at ha'
    exact hne (R.apart ob o' b (by rw [eo];trivial) hl' (.of hab) ha')
 have hsub:∀ b,mutb M0 (h.set ob .gone) σ b->mutb M0 h σ b:=fun b' hb'=>by
  rcases hb' with hb' | ⟨o',hl',ha'⟩
  ·exact .inl hb'
  ·rw [hg] at hl' ha'
   split at hl'
   ·exact hl'.elim
   ·rename_i hne
    rw [zL hne] at ha'
    exact .inr ⟨o',hl',ha'⟩
 have hx:=qcf R (Sub.nil h) (Mt:=mutb M0 (h.set ob .gone) σ) hsub hr (fun v hv o ver e' ver' ty' s' ys hg'=>by simp [getO] at hg') hd
 exact⟨b,0,cs,hpx,hblt,hnb,fun j u hj=>by have:=hc _ u hj;rwa [Nat.zero_add] at this ⊢,hx⟩
theorem qvr(hT:TOk P C.T)(R:Rep w0 A M0 w h σ)(hrt:∀ i,RV w (mutb M0 h σ) h σ (t i) (a.tmps.getD i undef)){K:V->List O->Option ρ}{K':Option ρ}{res:ρ}(hb:qsd C o.op t h K K'=some res) :
  K'=some res\/∃ v H,K v H=some res/\Does r n P o a w (PostW w0 A M0 w h σ H v):=.inl hb
theorem qAB(hT:TOk P C.T)(hG:GOk P C)(hL:Gl C.gs w0 A)(R:Rep w0 A M0 w h σ)(hrt:∀ i,RV w (mutb M0 h σ) h σ (t i) (a.tmps.getD i undef)){K:V->List O->Option ρ}{res:ρ}(hb:evW C o.op t h K=some res) :
  ∃ v H,K v H=some res/\Does r n P o a w (PostW w0 A M0 w h σ H v):=by
 unfold evW at hb
 cases hS:isS o.op with
 | true=>
  rw [hS] at hb
  simp only [cond_true] at hb
  obtain⟨v,ss,mk,h1,h2⟩:=qpZ (r:=r) (n:=n) hT R (Sub.refl h) hrt hS hb
  refine⟨v,_,h1,h2 _ ?_ (fun _=>qlO h)⟩
  cases mk with
  | none=>simp [qaO]
  | some ob=>
   simp only [qaO,Option.toList]
   refine⟨by rw [qbA,zJ (by rw [qbo])],fun o' hne=>by rw [qbA,zL (by rw [qbo];exact hne)]⟩
 | false=>
  rw [hS] at hb
  simp only [cond_false] at hb
  split at hb
  ·rename_i pc hc
   obtain⟨f,args⟩:=pc
   unfold qvl at hb
   split at hb
   ·rename_i g caps e
    simp only at e hb
    subst e
    split at hb
    ·rename_i p hp
     cases hpr:p.r with
     | none=>rw [hpr] at hb;cases hb
     | some y=>
      rw [hpr] at hb
      simp only [Option.bind_some,p.spOk] at hb
      obtain⟨fn,code,h1,h2,h3⟩:=hG.fn (tgtF g) _ _ _ hp
      obtain⟨vs,hargs,hd⟩:=qgz (r:=r) (n:=n) hT hrt hc h1 h2 h3
      cases hph:p.h with
      | none=>
       rw [hph] at hb
       have:=hG.rd (tgtF g) _ h h p y (Sub.refl h) hp hph hpr w0 A M0 w σ hL R _ hargs
       rw [Array.toArray_toList] at this
       refine⟨_,_,hb,hd _ (this.mono fun e w' ⟨x,h1,h2,h3⟩=>⟨x,h1,PostR.toW R ⟨h2,h3⟩⟩)⟩
      | some u=>
       rw [hph] at hb
       have:=hG.wr (tgtF g) _ h p u y hp hph hpr w0 A M0 w σ hL R _ hargs
       rw [Array.toArray_toList] at this
       refine⟨_,_,hb,hd _ (this.mono fun e w' ⟨x,σ',h1,h2,h3⟩=>⟨x,h1,σ',h2,h3⟩)⟩
    ·split at hb
     ·rename_i o9 ver9 q9 d9 i9 r9 hk9
      obtain⟨kv,e9,hk9⟩:=qwn hk9
      obtain⟨p9,hp9,hK9⟩:=qvn hG hL R hk9 hb
      obtain⟨fn,code,h1,h2,h3⟩:=hG.fn (tgtF g) _ _ _ hp9
      obtain⟨vs,hargs,hd⟩:=qgz (r:=r) (n:=n) hT hrt hc h1 h2 h3
      rw [e9] at hargs
      obtain⟨v,H,hr,hcall⟩:=hK9 _ hargs
      rw [Array.toArray_toList] at hcall
      exact⟨v,H,hr,hd _ hcall⟩
     ·cases hb
   ·cases hb
  split at hb
  ·rename_i p hp
   obtain⟨g,ss,x⟩:=p
   obtain⟨hg,hb⟩:=qc hb
   have hg:g=true:=hg
   subst hg
   refine⟨_,_,hb,qoN (nid:=h.length) hT R (Sub.refl h) hrt hp _ ⟨by rw [qbA,zJ (by rw [qbo])],fun o' hne=>by rw [qbA,zL (by rw [qbo];exact hne)]⟩ (qlO h)⟩
  split at hb
  ·rename_i p hp
   obtain⟨g,v,ob,x⟩:=p
   obtain⟨hg,hb⟩:=qc hb
   have hg:g=true:=hg
   subst hg
   exact⟨_,_,hb,qqj hT R (Sub.refl h) hrt hp⟩
  ·rcases qvr hT R hrt hb with hb | hb
   ·obtain⟨v,h1,h2⟩:=qqb (r:=r) (n:=n) hT hG hL R (Sub.refl h) hrt hb
    exact⟨v,h,h1,h2.mono fun x w' hp=>PostR.toW R hp⟩
   ·exact hb
theorem qfi(p:Nat->Bool):(i:Nat)->(h:List O)->(j:Nat)->getO (onlyF p i h) j=if p (i+j) then getO h j else .none
 | i,[],j=>by simp [onlyF,getO]
 | i,x :: h,j=>by
  cases j with
  | zero=>
   simp only [onlyF,Nat.add_zero]
   cases p i <;> simp [getO]
  | succ j=>
   have:=qfi p (i+1) h j
   simp only [onlyF]
   show getO (onlyF p (i+1) h) j=if p (i+(j+1)) then getO h j else .none
   rw [this,show i+1+j=i+(j+1) by omega]
theorem qlA(ids:List Nat)(h:List O):Sub (onlyF (memN ids) 0 h) h:=fun o=>by
 rw [qfi]
 split
 ·exact .inr rfl
 ·exact .inl rfl
mutual
theorem qxq{w:World}{M:Nat->Prop}{h h':List O}{σ σ':Nat->Loc}:{v:V} -> {x:Value}->qjg v=true->RV w M h σ v x->RV w M h' σ' v x
 | .bad,_,_,h=>by simp only [RV] at h ⊢
 | .undef,_,_,h=>by simp only [RV] at h ⊢;exact h
 | .int _ _,_,_,h=>by simp only [RV] at h ⊢;exact h
 | .bool _,_,_,h=>by simp only [RV] at h ⊢;exact h
 | .nlt _ _,_,_,h=>by simp only [RV] at h ⊢;exact h
 | .nl _,_,_,hv=>by simp only [RV] at hv ⊢;exact hv
 | .ifc _ _,_,hs,hv=>by
  simp only [RV] at hv ⊢
  simp only [qjg] at hs
  obtain⟨u,rfl,hr⟩:=hv
  exact⟨u,rfl,qxq hs hr⟩
 | .nil,_,_,h=>by simp only [RV] at h ⊢;exact h
 | .sl _ _,_,_,h=>by simp only [RV] at h ⊢;exact h
 | .fptr _ _,_,_,h=>by simp only [RV] at h ⊢;exact h
 | .pptr _ _,_,_,h=>by simp only [RV] at h ⊢;exact h
 | .yld _,_,_,h=>by simp only [RV] at h ⊢;exact h
 | .slc _ _,_,hp,_=>by simp [qjg] at hp
 | .ptr _ _,_,hp,_=>by simp [qjg] at hp
 | .rptr _ _ _ _,_,hp,_=>by simp [qjg] at hp
 | .tl _ _ _,_,hp,_=>by simp [qjg] at hp
 | .clo f vs,_,hp,h=>by
  simp only [qjg] at hp
  simp only [RV] at h ⊢
  obtain⟨us,h1,h2⟩:=h
  exact⟨us,h1,qhK hp h2⟩
 | .agg vs,_,hp,h=>by
  simp only [qjg] at hp
  simp only [RV] at h ⊢
  obtain⟨us,h1,h2,h3⟩:=h
  exact⟨us,h1,h2,qhK hp h3⟩
 | .tup vs,_,hp,h=>by
  simp only [qjg] at hp
  simp only [RV] at h ⊢
  obtain⟨us,h1,h3⟩:=h
  exact⟨us,h1,qhK hp h3⟩
theorem qhK{w:World}{M:Nat->Prop}{h h':List O}{σ σ':Nat->Loc}:{vs:List V} -> {xs:List Value}->qkO vs=true->RVs w M h σ vs xs->RVs w M h' σ' vs xs
 | [],_,_,h=>by simp only [RVs] at h ⊢;exact h
 | v :: vs,_,hp,h=>by
  simp only [qkO,zA] at hp
  simp only [RVs] at h ⊢
  obtain⟨x,xs,h1,h2,h3⟩:=h
  exact⟨x,xs,h1,qxq hp.1 h2,qhK hp.2 h3⟩
end
theorem quv{M:Nat->Prop}{b:Nat}:mutb M [] σ0 b↔M b:=by
 constructor
 ·rintro (h | ⟨o,hl,_⟩)
  ·exact h
  ·simp [getO,live] at hl
 ·exact .inl
theorem Rep.bare(R:Rep w0 A M0 w h σ):Rep w (fun _=>False) (mutb M0 h σ) w [] σ0 where
 fr:=⟨rfl,TDr.rfl,rfl,Nat.le_refl _,fun _ _ _=>rfl⟩
 m0:=fun b hb=>⟨R.mlt hb,fun h=>h⟩
 inA:=fun b hb=>by obtain⟨o,hl,_⟩:=hb;simp [getO,live] at hl
 apart:=fun o o' b hl=>by simp [getO,live] at hl
 obj:=fun o=>by simp only [getO,List.getD_nil,RO]
theorem qlD(p:Nat->Bool):(i:Nat)->(as bs:List O)->as.length=bs.length->(j:Nat)->getO (mixF p i as bs) j=if p (i+j) then getO as j else getO bs j
 | i,[],[],_,j=>by simp [mixF,getO]
 | i,[],_ :: _,hl,_=>by simp at hl
 | i,_ :: _,[],hl,_=>by simp at hl
 | i,a :: as,b :: bs,hl,0=>by
  simp only [mixF,Nat.add_zero]
  cases p i <;> simp [getO]
 | i,a :: as,b :: bs,hl,j+1=>by
  have:=qlD p (i+1) as bs (by simpa using hl) j
  simp only [mixF]
  show getO (mixF p (i+1) as bs) j=if p (i+(j+1)) then getO as j else getO bs j
  rw [this,show i+1+j=i+(j+1) by omega]
theorem qpr(p:Nat->Bool):(i:Nat)->(as bs:List O)->as.length=bs.length->(mixF p i as bs).length=bs.length
 | i,[],[],_=>rfl
 | i,[],_ :: _,hl=>by simp at hl
 | i,_ :: _,[],hl=>by simp at hl
 | i,a :: as,b :: bs,hl=>by simp [mixF,qpr p (i+1) as bs (by simpa using hl)]
section
variable {ids : List Nat}
abbrev hid(ids:List Nat)(h:List O):List O:=onlyF (memN ids) 0 h
theorem qgf(ids:List Nat)(h:List O)(o:Nat):getO (hid ids h) o=if memN ids o then getO h o else .none:=by
 rw [hid,qfi,Nat.zero_add]
mutual
theorem qxG{w:World}{M:Nat->Prop}{h:List O}{σ:Nat->Loc}:{v:V} -> {x:Value}->qcu ids v=true->RV w M h σ v x->RV w M (hid ids h) σ v x
 | .bad,_,_,_=>by simp only [RV]
 | .undef,_,_,hv=>by simp only [RV] at hv ⊢;exact hv
 | .int _ _,_,_,hv=>by simp only [RV] at hv ⊢;exact hv
 | .bool _,_,_,hv=>by simp only [RV] at hv ⊢;exact hv
 | .nl _,_,_,hv=>by simp only [RV] at hv ⊢;exact hv
 | .ifc _ _,_,hs,hv=>by
  simp only [RV] at hv ⊢
  simp only [qcu] at hs
  obtain⟨u,rfl,hr⟩:=hv
  exact⟨u,rfl,qxG hs hr⟩
 | .nil,_,_,hv=>by simp only [RV] at hv ⊢;exact hv
 | .nlt _ _,_,_,hv=>by simp only [RV] at hv ⊢;exact hv
 | .sl _ _,_,_,hv=>by simp only [RV] at hv ⊢;exact hv
 | .fptr _ _,_,_,hv=>by simp only [RV] at hv ⊢;exact hv
 | .pptr _ _,_,_,hv=>by simp only [RV] at hv ⊢;exact hv
 | .yld _,_,_,hv=>by simp only [RV] at hv ⊢;exact hv
 | .slc o ver,x,hr,hv=>by
  simp only [qcu] at hr
  simp only [RV] at hv ⊢
  rw [qgf,zJ hr];exact hv
 | .ptr o off,x,hr,hv=>by
  simp only [qcu] at hr
  simp only [RV] at hv ⊢
  rw [qgf,zJ hr];exact hv
 | .rptr o ver i off,x,hr,hv=>by
  simp only [qcu] at hr
  simp only [RV] at hv ⊢
  rw [qgf,zJ hr];exact hv
 | .tl o ver i,x,hr,hv=>by
  simp only [qcu] at hr
  simp only [RV] at hv ⊢
  rw [qgf,zJ hr];exact hv
 | .clo f vs,x,hr,hv=>by
  simp only [qcu] at hr
  simp only [RV] at hv ⊢
  obtain⟨us,h1,h2⟩:=hv
  exact⟨us,h1,qmW hr h2⟩
 | .agg vs,x,hr,hv=>by
  simp only [qcu] at hr
  simp only [RV] at hv ⊢
  obtain⟨us,h1,h2,h3⟩:=hv
  exact⟨us,h1,h2,qmW hr h3⟩
 | .tup vs,x,hr,hv=>by
  simp only [qcu] at hr
  simp only [RV] at hv ⊢
  obtain⟨us,h1,h3⟩:=hv
  exact⟨us,h1,qmW hr h3⟩
theorem qmW{w:World}{M:Nat->Prop}{h:List O}{σ:Nat->Loc}:{vs:List V} -> {xs:List Value}->qbs ids vs=true->RVs w M h σ vs xs->RVs w M (hid ids h) σ vs xs
 | [],_,_,hv=>by simp only [RVs] at hv ⊢;exact hv
 | v :: vs,_,hr,hv=>by
  simp only [qbs,zA] at hr
  simp only [RVs] at hv ⊢
  obtain⟨x,xs,e,h1,h2⟩:=hv
  exact⟨x,xs,e,qxG hr.1 h1,qmW hr.2 h2⟩
end
theorem qkW{h:List O}{σ:Nat->Loc}{b:Nat}(ho:own (hid ids h) σ b):own h σ b:=by
 obtain⟨o,h1,h2⟩:=ho
 rw [qgf] at h1 h2
 split at h1
 ·rename_i hm
  rw [zJ hm] at h2
  exact⟨o,h1,h2⟩
 ·exact h1.elim
def restS(M0:Nat->Prop)(ids:List Nat)(h:List O)(σ:Nat->Loc)(b:Nat):Prop:=mutb M0 h σ b/\¬ own (hid ids h) σ b
theorem qtd{M0:Nat->Prop}{h:List O}{σ:Nat->Loc}:mutb (restS M0 ids h σ) (hid ids h) σ=mutb M0 h σ:=by
 classical
 refine qsI fun b=>⟨?_,fun hb=>?_⟩
 ·rintro (h | h)
  ·exact h.1
  ·exact .inr (qkW h)
 ·by_cases ho:own (hid ids h) σ b
  ·exact .inr ho
  ·exact .inl ⟨hb,ho⟩
theorem qDD(R:Rep w0 A M0 w h σ)(hc:clsd ids (hid ids h)=true):Rep w (own (hid ids h) σ) (restS M0 ids h σ) w (hid ids h) σ where
 fr:=⟨rfl,TDr.rfl,rfl,Nat.le_refl _,fun _ _ _=>rfl⟩
 m0:=fun b hb=>⟨R.mlt hb.1,hb.2⟩
 inA:=fun b hb=>.inl hb
 apart:=fun o o' b h1 h2 h3 h4=>by
  rw [qgf] at h1 h2 h3 h4
  split at h1
  ·rename_i hm
   rw [zJ hm] at h3
   split at h2
   ·rename_i hm'
    rw [zJ hm'] at h4
    exact R.apart o o' b h1 h2 h3 h4
   ·exact h2.elim
  ·exact h1.elim
 obj:=fun o=>by
  rw [qtd]
  have hm:getO (hid ids h) o∈hid ids h\/getO (hid ids h) o=.none:=by
   unfold getO
   rw [zK]
   cases q:(hid ids h)[o]? with
   | none=>exact .inr rfl
   | some x=>exact .inl (zh q)
  cases q:memN ids o with
  | false=>rw [qgf,zL (by rw [q];simp)];trivial
  | true=>
   have hg:getO (hid ids h) o=getO h o:=by rw [qgf,zJ q]
   rw [hg] at hm ⊢
   have r:=R.obj o
   cases e:getO h o with
   | none=>trivial
   | cells vs=>
    rw [e] at r hm
    have hcl:qbs ids vs=true:=by
     rcases hm with hm | hm
     ·exact zm.1 hc _ hm
     ·cases hm
    obtain⟨b,ty,cs,h1,h2,h3,h4⟩:=r
    exact⟨b,ty,cs,h1,h2,qmW hcl h3,h4⟩
   | row fz ver ty s xs=>rw [e] at r;cases fz <;> exact r
   | oth fz q d=>rw [e] at r;exact r
   | nst ver q d=>rw [e] at r;exact r
   | kds ver p t h0 d=>
    rw [e] at r hm
    refine RK.keeps ⟨Nat.le_refl _,fun _ _ _=>rfl,fun _ _ h=>h⟩ (fun y c hy hv=>qxG ?_ hv) (fun _ _ _=>rfl) r
    subst hy
    rcases hm with hm | hm
    ·exact zm.1 hc _ hm
    ·cases hm
   | gone=>trivial
theorem qpo(p:Nat->Bool):(i:Nat)->(h:List O)->qkQ p i h=true->∀ j,p (i+j)=false->getO h j=.none
 | i,[],_,j,_=>by simp [getO]
 | i,o :: r,hn,0,hp=>by
  simp only [qkQ,zA,zx] at hn
  rcases hn.1 with h | h
  ·rw [Nat.add_zero] at hp;rw [hp] at h;cases h
  ·cases o <;> first | rfl | cases h
 | i,o :: r,hn,j+1,hp=>by
  simp only [qkQ,zA] at hn
  exact qpo p (i+1) r hn.2 j (by rw [show i+1+j=i+(j+1) by omega];exact hp)
theorem qCm{h':List O}{σ':Nat->Loc}(R:Rep w0 A M0 w h σ)(nx:Next w (own (hid ids h) σ) (restS M0 ids h σ) w (hid ids h) σ w' h' σ')(hl:h'.length=h.length)(hno:qkQ (memN ids) 0 h'=true){H:List O}
  (hH:∀ j,getO H j=if memN ids j then getO h' j else getO h j):∃ τ,Next w0 A M0 w h σ w' H τ/\∀ {v:V} {x:Value},RV w' (mutb (restS M0 ids h σ) h' σ') h' σ' v x->RV w' (mutb M0 H τ) H τ v x:=by
 classical
 refine⟨fun j=>if memN ids j then σ' j else σ j,?_⟩
 generalize hτ:(fun j=>if memN ids j then σ' j else σ j)=τ
 have ht:∀ j,τ j=if memN ids j then σ' j else σ j:=fun j=>by rw [<- hτ]
 have hin:∀ j,getO h' j≠.none->memN ids j=true:=fun j hj=>by
  cases q:memN ids j with
  | true=>rfl
  | false=>exact absurd (qpo _ 0 h' hno j (by rw [Nat.zero_add];exact q)) hj
 have hg:∀ o,getO h' o≠.none->getO H o=getO h' o:=fun o ho=>by rw [hH,zJ (hin o ho)]
 have hs:∀ o,getO h' o≠.none->τ o=σ' o:=fun o ho=>by rw [ht,zJ (hin o ho)]
 have ownB:∀ b,own H τ b->own h' σ' b\/∃ j,memN ids j=false/\live (getO h j)/\Oat (getO h j) (σ j) b:=by
  rintro b ⟨j,h1,h2⟩
  rw [hH] at h1 h2
  rw [ht] at h2
  cases q:memN ids j with
  | true=>rw [q] at h1 h2;exact .inl ⟨j,h1,h2⟩
  | false=>rw [q] at h1 h2;exact .inr ⟨j,q,h1,h2⟩
 have apartB:∀ j b,memN ids j=false->live (getO h j)->Oat (getO h j) (σ j) b->¬ own (hid ids h) σ b:=by
  rintro j b hj hlv ha ⟨o,h1,h2⟩
  rw [qgf] at h1 h2
  split at h1
  ·rename_i ho
   rw [zJ ho] at h2
   have:=R.apart o j b h1 hlv h2 ha
   subst this
   rw [hj] at ho;cases ho
  ·exact h1.elim
 have apartB':∀ j b,memN ids j=false->live (getO h j)->Oat (getO h j) (σ j) b->¬ own h' σ' b:=by
  intro j b hj hlv ha ho
  rcases nx.rep.inA b ho with h | h
  ·exact apartB j b hj hlv ha h
  ·have:=R.lt ⟨j,hlv,ha⟩
   omega
 have msub:∀ b,mutb M0 H τ b->mutb (restS M0 ids h σ) h' σ' b:=by
  rintro b (hb | hb)
  ·exact .inl ⟨.inl hb,fun ho=>by
    rcases R.inA b (qkW ho) with h | h
    ·exact (R.m0 b hb).2 h
    ·have:=(R.m0 b hb).1;omega⟩
  ·rcases ownB b hb with hb | ⟨j,hj,hlv,ha⟩
   ·exact .inr hb
   ·exact .inl ⟨.inr ⟨j,hlv,ha⟩,apartB j b hj hlv ha⟩
 have k1:=nx.keeps
 rw [qtd] at k1
 have keeps:Keeps w (mutb M0 h σ) w' (mutb M0 H τ):=⟨k1.size,k1.block,fun b h1 h2 h3=>k1.out b h1 h2 (msub b h3)⟩
 have goes:Goes w h σ w':=⟨nx.goes.os,nx.goes.tape,nx.goes.output,nx.goes.size,fun b h1 h2=>nx.goes.block b h1 fun ho=>h2 (qkW ho)⟩
 have step:OStep h σ H τ:=fun j=>by
  cases q:memN ids j with
  | true=>
   have hst:=nx.step j
   rw [qgf,zJ q] at hst
   rw [hH,zJ q,ht,zJ q]
   exact hst
  | false=>
   have:=OStep.refl h σ j
   rw [hH,zL (by rw [q];simp),ht,zL (by rw [q];simp)]
   exact this
 have low:Keeps w' (mutb (restS M0 ids h σ) h' σ') w' (mutb M0 H τ):=⟨Nat.le_refl _,fun _ _ _=>rfl,fun b _ h1 h2=>h1 (msub b h2)⟩
 refine⟨⟨⟨Fr.goes R goes,R.m0,fun b hb=>?_,fun j j' b h1 h2 h3 h4=>?_,fun j=>?_⟩,goes,keeps,step⟩,fun {v x} hv=>quT hg hs (RV.keeps low (OStep.refl h' σ') hv)⟩
 ·rcases ownB b hb with hb | ⟨j,hj,hlv,ha⟩
  ·rcases nx.rep.inA b hb with h | h
   ·exact R.inA b (qkW h)
   ·exact .inr (zn R.fr.size h)
  ·exact R.inA b ⟨j,hlv,ha⟩
 ·rw [hH] at h1 h2 h3 h4
  rw [ht] at h3 h4
  cases q:memN ids j with
  | true=>
   rw [q] at h1 h3
   cases q':memN ids j' with
   | true=>rw [q'] at h2 h4;exact nx.rep.apart j j' b h1 h2 h3 h4
   | false=>rw [q'] at h2 h4;exact absurd ⟨j,h1,h3⟩ (apartB' j' b q' h2 h4)
  | false=>
   rw [q] at h1 h3
   cases q':memN ids j' with
   | true=>rw [q'] at h2 h4;exact absurd ⟨j',h2,h4⟩ (apartB' j b q h1 h3)
   | false=>rw [q'] at h2 h4;exact R.apart j j' b h1 h2 h3 h4
 ·rw [hH,ht]
  cases q:memN ids j with
  | true=>
   simp only [if_true]
   exact qEA hg hs (RO.keeps low (OStep.refl h' σ') (fun _ _ _=>rfl) (nx.rep.obj j))
  | false=>
   simp only [zAC,if_false]
   have r:=R.obj j
   cases e:getO h j with
   | none=>trivial
   | cells vs=>
    rw [e] at r
    refine RO.keeps keeps step (fun b ha hb=>?_) r
    exact nx.goes.block b hb (apartB j b q (by rw [e];trivial) (.of ha))
   | gone=>trivial
   | nst ver z d=>
    rw [e] at r
    refine RO.keeps keeps step (fun b ha hb=>?_) r
    exact nx.goes.block b hb (apartB j b q (by rw [e];trivial) (by rw [e];exact ha))
   | kds ver p t h0 d=>
    rw [e] at r
    refine RO.keeps keeps step (fun b ha hb=>?_) r
    exact nx.goes.block b hb (apartB j b q (by rw [e];trivial) (by rw [e];exact ha))
   | row fz ver ty s xs=>
    rw [e] at r
    refine RO.keeps keeps step (fun b ha hb=>?_) r
    cases fz with
    | false=>exact nx.goes.block b hb (apartB j b q (by rw [e];rfl) (.of ha))
    | true=>exact nx.goes.block b hb fun ho=>(r.2.2 b ha).2 (.inr (qkW ho))
   | oth fz z d=>
    rw [e] at r
    refine RO.keeps keeps step (fun b ha hb=>?_) r
    cases fz with
    | false=>exact nx.goes.block b hb (apartB j b q (by rw [e];rfl) (.of ha))
    | true=>exact nx.goes.block b hb fun ho=>r.2 rfl b ha (.inr (qkW ho))
end
theorem qAD(hT:TOk P C.T)(hG:GOk P C)(hL:Gl C.gs w0 A)(R:Rep w0 A M0 w h σ)(hrt:∀ i,RV w (mutb M0 h σ) h σ (t i) (a.tmps.getD i undef)){md:Md}{K:V->List O->Option ρ}{res:ρ}(hb:evM C o.op t h md K=some res) :
  ∃ v H,K v H=some res/\Does r n P o a w (PostW w0 A M0 w h σ H v):=by
 unfold evM at hb
 cases md with
 | pure=>
  simp only at hb
  obtain⟨v,h1,h2⟩:=qqb (r:=r) (n:=n) hT hG hL R (Sub.nil h) hrt hb
  exact⟨v,h,h1,h2.mono fun x w' hp=>PostR.toW R hp⟩
 | rd ids=>
  simp only at hb
  obtain⟨v,h1,h2⟩:=qqb (r:=r) (n:=n) hT hG hL R (qlA ids h) hrt hb
  exact⟨v,h,h1,h2.mono fun x w' hp=>PostR.toW R hp⟩
 | wr ids=>
  simp only at hb
  cases hS:isS o.op with
  | false=>
   rw [hS,cond_false] at hb
   split at hb
   ·rename_i pc hc
    obtain⟨f,args⟩:=pc
    unfold callS at hb
    split at hb
    ·rename_i g caps e
     simp only at e hb
     subst e
     obtain⟨hcl,hb⟩:=qc hb
     rw [zA] at hcl
     split at hb
     ·cases hb
     ·rename_i p hp
      obtain⟨fn,code,h1,h2,h3⟩:=hG.fn (tgtF g) _ _ _ hp
      obtain⟨vs,hargs,hdo⟩:=qgz (r:=r) (n:=n) hT hrt hc h1 h2 h3
      split at hb
      ·cases hb
      ·rename_i u hph
       cases hpr:p.r with
       | none=>rw [hpr] at hb;cases hb
       | some y=>
        rw [hpr] at hb
        simp only [Option.bind_some,p.spOk] at hb
        obtain⟨hl,hb⟩:=qc hb
        rw [zA] at hl
        have hl1:=zB hl.1
        have:=hG.wr (tgtF g) _ (hid ids h) p u y hp hph hpr w _ _ w σ ⟨(hL.now R),fun q hq ho=>by
         rcases R.inA q.1 (qkW ho) with h | h
         ·exact hL.out q hq h
         ·have:=(hL.at_ q hq).1;omega⟩ (qDD R hcl.2) _ (by rw [qtd];exact qmW hcl.1 hargs)
        rw [Array.toArray_toList] at this
        refine⟨_,_,hb,hdo _ (this.mono fun e w' ⟨x,σ',he,hn,hx⟩=>⟨x,he,?_⟩)⟩
        obtain⟨τ,n1,n2⟩:=qCm R hn hl1 hl.2 (H:=mixF (memN ids) 0 (u y (hid ids h)) h) (fun j=>by rw [qlD _ _ _ _ hl1,Nat.zero_add])
        exact⟨τ,n1,n2 hx⟩
    ·cases hb
   ·split at hb
    ·rename_i p hp
     obtain⟨g,ss,x⟩:=p
     split at hb
     ·rename_i hg
      obtain⟨hi,hb1⟩:=qc hb
      obtain⟨hgt,hb2⟩:=qc hb1
      have hgt:g=true:=hgt
      subst hgt
      simp only [zA] at hi
      have hlt:ids.headD 0<h.length:=zH hi.2.1
      have hgs:=qad (h:=qai ss h) (i:=ids.headD 0) (by rw [qbo];exact hlt) x
      exact⟨_,_,hb2,qoN (nid:=ids.headD 0) hT R (qlA ids h) hrt hp _ ⟨by rw [hgs,zJ rfl],fun o' hne=>by rw [hgs,zL (fun e=>hne e.symm)]⟩ hg⟩
     ·cases hb
    ·split at hb
     ·rename_i p hp
      obtain⟨g,v,ob,x⟩:=p
      obtain⟨hg,hb⟩:=qc hb
      rw [zA] at hg
      have hg:g=true:=hg.2
      subst hg
      exact⟨_,_,hb,qqj hT R (qlA ids h) hrt hp⟩
     ·cases hb
  | true=>
  rw [hS,cond_true] at hb
  obtain⟨v,ss,mk,h1,h2⟩:=qpZ (r:=r) (n:=n) hT R (qlA ids h) hrt hS hb
  cases mk with
  | some x=>cases h1
  | none=>
   simp only at h1
   obtain⟨_,h1⟩:=qc h1
   exact⟨v,_,h1,h2 _ rfl (fun hh=>by cases hh)⟩
 | new id=>
  simp only at hb
  cases hS:isS o.op with
  | true=>
   rw [hS,cond_true] at hb
   obtain⟨v,ss,mk,h1,h2⟩:=qpZ (r:=r) (n:=n) hT R (Sub.nil h) hrt hS hb
   cases ss with
   | cons p ss=>cases h1
   | nil=>
    cases mk with
    | none=>cases h1
    | some x=>
     simp only at h1
     cases hg:getO h id with
     | none=>
      rw [hg] at h1
      simp only at h1
      obtain⟨hlt,h1⟩:=qc h1
      have hlt:id<h.length:=zH hlt
      have hgs:=qad hlt x
      refine⟨v,_,h1,h2 _ ⟨by rw [hgs,zJ rfl],fun o' hne=>by rw [hgs,zL (fun e=>hne e.symm)];rfl⟩ (fun _=>hg)⟩
     | cells vs=>rw [hg] at h1;cases h1
     | nst _ _ _=>rw [hg] at h1;cases h1
     | kds _ _ _ _ _=>rw [hg] at h1;cases h1
     | gone=>rw [hg] at h1;cases h1
     | oth fz q d=>rw [hg] at h1;cases h1
     | row fz ver e s xs=>rw [hg] at h1;cases h1
  | false=>
   rw [hS,cond_false] at hb
   split at hb
   ·rename_i pc hc
    obtain⟨f,args⟩:=pc
    unfold callN at hb
    split at hb
    ·rename_i g caps e
     simp only at e hb
     subst e
     obtain⟨hpl,hb⟩:=qc hb
     split at hb
     ·cases hb
     ·rename_i p hp
      obtain⟨fn,code,h1,h2,h3⟩:=hG.fn (tgtF g) _ _ _ hp
      obtain⟨vs,hargs,hdo⟩:=qgz (r:=r) (n:=n) hT hrt hc h1 h2 h3
      split at hb
      ·cases hb
      ·rename_i u hph
       cases hpr:p.r with
       | none=>rw [hpr] at hb;cases hb
       | some y=>
        rw [hpr] at hb
        simp only [Option.bind_some,p.spOk] at hb
        split at hb
        case h_1 e9 s xs hu hpv=>
         cases hg:getO h id with
         | none=>
          rw [hg] at hb
          simp only at hb
          obtain⟨hlt,hb⟩:=qc hb
          have hlt:id<h.length:=zH hlt
          have hgs:=qad hlt (.row false 0 e9 s xs)
          have hm:mutb (mutb M0 h σ) [] σ0=mutb M0 h σ:=qsI fun b=>quv
          have:=hG.wr (tgtF g) _ [] p u y hp hph hpr w _ _ w σ0 (hL.now R).gl R.bare _ (by rw [hm];exact qhK hpl hargs)
          rw [Array.toArray_toList] at this
          refine⟨_,_,hb,hdo _ (this.mono fun e w' ⟨x,σ',he,hn,hx⟩=>⟨x,he,updL σ id (σ' 0),?_⟩)⟩
          rw [hu] at hn hx
          rw [hpv] at hx
          have hlv:∀ b,(σ' 0).a=some b->own [.row false 0 e9 s xs] σ' b:=fun b hb=>⟨0,rfl,.of hb⟩
          have hbl:Below w.heap.size w w':=⟨hn.goes.os,hn.goes.tape,hn.goes.output,hn.goes.size,fun b hb=>hn.goes.block b hb fun ⟨o,hl,_⟩=>by simp [getO,live] at hl⟩
          have hsub:∀ b,mutb M0 (h.set id (.row false 0 e9 s xs)) (updL σ id (σ' 0)) b->mutb (mutb M0 h σ) [.row false 0 e9 s xs] σ' b:=fun b hb=>by
           rcases hb with hb | ⟨o',hl,ha⟩
           ·exact .inl (.inl hb)
           ·by_cases hq:o'=id
            ·subst hq
             rw [qZ,hgs,zJ rfl] at ha
             exact .inr (hlv b ha)
            ·rw [hgs,zL (fun e=>hq e.symm)] at hl ha
             rw [qaE σ _ hq] at ha
             exact .inl (.inr ⟨o',hl,ha⟩)
          have hob:=hn.rep.obj 0
          refine⟨qhB R hg (by rw [hgs,zJ rfl]) (fun o' hne=>by rw [hgs,zL (fun e=>hne e.symm)]) hbl (σ' 0) (fun b hb=>?_) (fun _ _=>?_),?_⟩
          ·rcases hn.rep.inA b (hlv b hb) with h | h
           ·exact h.elim
           ·exact h
          ·simp only [getO,List.getD_cons_zero,RO] at hob ⊢
           obtain⟨q1,cs,q2,q3⟩:=hob
           exact⟨q1,cs,q2,RL.keeps ⟨Nat.le_refl _,fun _ _ _=>rfl,fun b _ hm h'=>hm (hsub b h')⟩ q3⟩
          ·simp only [RV,getO,List.getD_cons_zero] at hx
           obtain⟨fz,ver',e',s',xs',hrow,hv1,hv2,hv3⟩:=hx
           cases hrow
           simp only [refTo,RV]
           exact⟨false,0,e9,s,xs,by rw [hgs,zJ rfl],Nat.le_refl _,hv2,fun _=>by rw [qZ];exact hv3 rfl⟩
         | cells vs=>rw [hg] at hb;cases hb
         | nst _ _ _=>rw [hg] at hb;cases hb
         | kds _ _ _ _ _=>rw [hg] at hb;cases hb
         | gone=>rw [hg] at hb;cases hb
         | oth fz q d=>rw [hg] at hb;cases hb
         | row fz ver e s xs=>rw [hg] at hb;cases hb
        case h_2 q d hu hpv=>
         cases hg:getO h id with
         | none=>
          rw [hg] at hb
          simp only at hb
          obtain⟨hlt,hb⟩:=qc hb
          have hlt:id<h.length:=zH hlt
          have hgs:=qad hlt (.oth false q d)
          have hm:mutb (mutb M0 h σ) [] σ0=mutb M0 h σ:=qsI fun b=>quv
          have:=hG.wr (tgtF g) _ [] p u y hp hph hpr w _ _ w σ0 (hL.now R).gl R.bare _ (by rw [hm];exact qhK hpl hargs)
          rw [Array.toArray_toList] at this
          refine⟨_,_,hb,hdo _ (this.mono fun e w' ⟨x,σ',he,hn,hx⟩=>⟨x,he,updL σ id (σ' 0),?_⟩)⟩
          rw [hu] at hn hx
          rw [hpv] at hx
          have hlv:∀ b,(σ' 0).a=some b->own [.oth false q d] σ' b:=fun b hb=>⟨0,rfl,.of hb⟩
          have hbl:Below w.heap.size w w':=⟨hn.goes.os,hn.goes.tape,hn.goes.output,hn.goes.size,fun b hb=>hn.goes.block b hb fun ⟨o,hl,_⟩=>by simp [getO,live] at hl⟩
          have hsub:∀ b,mutb M0 (h.set id (.oth false q d)) (updL σ id (σ' 0)) b->mutb (mutb M0 h σ) [.oth false q d] σ' b:=fun b hb=>by
           rcases hb with hb | ⟨o',hl,ha⟩
           ·exact .inl (.inl hb)
           ·by_cases hq:o'=id
            ·subst hq
             rw [qZ,hgs,zJ rfl] at ha
             exact .inr (hlv b ha)
            ·rw [hgs,zL (fun e=>hq e.symm)] at hl ha
             rw [qaE σ _ hq] at ha
             exact .inl (.inr ⟨o',hl,ha⟩)
          have hob:=hn.rep.obj 0
          refine⟨qhB R hg (by rw [hgs,zJ rfl]) (fun o' hne=>by rw [hgs,zL (fun e=>hne e.symm)]) hbl (σ' 0) (fun b hb=>?_) (fun _ _=>?_),?_⟩
          ·rcases hn.rep.inA b (hlv b hb) with h | h
           ·exact h.elim
           ·exact h
          ·simp only [getO,List.getD_cons_zero,RO] at hob ⊢
           exact⟨RU.keeps ⟨Nat.le_refl _,fun _ _ _=>rfl,fun b _ hm h'=>hm (hsub b h')⟩ (fun _ _ _=>rfl) hob.1,fun h=>by cases h⟩
          ·simp only [RV,getO,List.getD_cons_zero] at hx
           obtain⟨b9,hv1,hv2⟩:=hx
           simp only [refTo,RV]
           exact⟨b9,by rw [qZ];exact hv1,by rw [hgs,zJ rfl];exact hv2⟩
         | cells vs=>rw [hg] at hb;cases hb
         | nst _ _ _=>rw [hg] at hb;cases hb
         | kds _ _ _ _ _=>rw [hg] at hb;cases hb
         | gone=>rw [hg] at hb;cases hb
         | oth fz q d=>rw [hg] at hb;cases hb
         | row fz ver e s xs=>rw [hg] at hb;cases hb
        case h_3=>cases hb
    ·cases hb
   ·cases hb
 | full=>exact qAB hT hG hL R hrt hb
end
end Go.Abs
