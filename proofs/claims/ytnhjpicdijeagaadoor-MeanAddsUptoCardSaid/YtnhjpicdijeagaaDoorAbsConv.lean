import Derived.Test.YtnhjpicdijeagaaDoorAbsOpsS
namespace Go.Abs
section
variable {w0 : World} {A M0 : Nat -> Prop} {w : World} {h : List O} {σ : Nat -> Loc} {fx : List Nat} {base : Nat}
theorem qxT(g:List O):(n i:Nat)->(l:List O)->(j:Nat)->getO (cvHs fx base g n i l) j=if j<n then cvO fx base g (i+j) (getO l j) else .none
 | 0,i,l,j=>by simp [cvHs,getO]
 | n+1,i,[],j=>by
  have:getO ([]:List O) j=.none:=by simp [getO]
  rw [this]
  simp [cvHs,cvO,getO]
 | n+1,i,o :: r,0=>by simp [cvHs,getO]
 | n+1,i,o :: r,j+1=>by
  have:=qxT g n (i+1) r j
  simp only [cvHs]
  show getO (cvHs fx base g n (i+1) r) j=if j+1<n+1 then cvO fx base g (i+(j+1)) (getO r j) else .none
  rw [this,show i+1+j=i+(j+1) by omega]
  by_cases hj:j<n <;> simp [hj]
theorem qet(o:Nat):getO (cvH fx base h) o=if o<base then cvO fx base h o (getO h o) else .none:=by
 unfold cvH
 rw [qxT,Nat.zero_add]
theorem PtrTo.cv{i:Nat}{o:O}{b off:Nat}{v:Value}(hx:PtrTo o b off v):PtrTo (cvO fx base h i o) b off v:=by
 cases o <;> exact hx
theorem qmQ{o:Nat}(hl:live (getO (cvH fx base h) o)):o<base/\live (getO h o):=by
 rw [qet] at hl
 split at hl
 ·refine⟨‹_›,?_⟩
  cases e:getO h o with
  | none=>rw [e] at hl;exact hl
  | cells vs=>trivial
  | row fz ver t s xs=>rw [e] at hl;exact hl
  | nst ver q d=>trivial
  | kds ver p t h0 d=>trivial
  | gone=>rw [e] at hl;exact hl
  | oth fz q d=>
   rw [e] at hl
   simp only [cvO,live,Bool.or_eq_false_iff] at hl ⊢
   exact hl.1
 ·exact hl.elim
theorem Oat.cv{i:Nat}{o:O}{l:Loc}{b:Nat}:Oat (cvO fx base h i o) l b↔Oat o l b:=by
 cases o <;> exact Iff.rfl
theorem quu{o b:Nat}(hl:live (getO (cvH fx base h) o))(ha:Oat (getO (cvH fx base h) o) (σ o) b):Oat (getO h o) (σ o) b:=by
 rw [qet,zJ (qmQ hl).1] at ha
 exact Oat.cv.1 ha
theorem qzD{b:Nat}(ho:own (cvH fx base h) σ b):own h σ b:=by
 obtain⟨o,hl,ha⟩:=ho
 exact⟨o,(qmQ hl).2,quu hl ha⟩
theorem qcC{b:Nat}(ho:mutb M0 (cvH fx base h) σ b):mutb M0 h σ b:=ho.imp id qzD
theorem qbW{M M':Nat->Prop}(hs:∀ b,M' b->M b):Keeps w M w M':=⟨Nat.le_refl _,fun _ _ _=>rfl,fun b _ hm h'=>hm (hs b h')⟩
theorem qxg(R:Rep w0 A M0 w h σ){o:Nat}(hb:¬ o<base){b:Nat}(hl:live (getO h o))(ha:(σ o).a=some b):¬ mutb M0 (cvH fx base h) σ b:=by
 rintro (hm | ⟨o',hl',ha'⟩)
 ·have:=R.m0 b hm
  rcases R.inA b ⟨o,hl,.of ha⟩ with h | h
  ·exact this.2 h
  ·omega
 ·obtain⟨h1,h2⟩:=qmQ hl'
  have:=R.apart o o' b hl h2 (.of ha) (quu hl' ha')
  omega
mutual
theorem cv_rv(R:Rep w0 A M0 w h σ):{v:V} -> {x:Value}->RV w (mutb M0 h σ) h σ v x->RV w (mutb M0 (cvH fx base h) σ) (cvH fx base h) σ (cvV fx base h v) x
 | .bad,_,_=>by simp only [cvV,RV]
 | .undef,_,hv=>by simp only [cvV,RV] at hv ⊢;exact hv
 | .int _ _,_,hv=>by simp only [cvV,RV] at hv ⊢;exact hv
 | .bool _,_,hv=>by simp only [cvV,RV] at hv ⊢;exact hv
 | .nl _,_,hv=>by simp only [cvV,RV] at hv ⊢;exact hv
 | .ifc _ _,_,hv=>by
  simp only [cvV,RV] at hv ⊢
  obtain⟨u,rfl,hr⟩:=hv
  exact⟨u,rfl,cv_rv R hr⟩
 | .nil,_,hv=>by simp only [cvV,RV] at hv ⊢;exact hv
 | .nlt _ _,_,hv=>by simp only [cvV,RV] at hv ⊢;exact hv
 | .sl _ _,_,hv=>by simp only [cvV,RV] at hv ⊢;exact RC.sub (fun b=>qcC) hv
 | .slc o ver,x,hv=>by
  simp only [RV] at hv
  obtain⟨fz,ver',e,s,xs,eo,hl,h1,hx⟩:=hv
  simp only [cvV,eo]
  cases hb:Nat.beq ver ver' with
  | false=>simp only [cond_false,RV]
  | true=>
   have hver:=zB hb
   subst hver
   have hx:=hx rfl
   simp only [cond_true]
   cases hlt:Nat.blt o base with
   | true=>
    have hlt:o<base:=zH hlt
    simp only [cond_true,RV]
    refine⟨fz,ver0 fx o ver,e,s,xs,?_,Nat.le_refl _,h1,fun _=>hx⟩
    rw [qet,zJ hlt,eo];rfl
   | false=>
    have hlt:¬ o<base:=fun h=>by have:=zAn h;rw [show (o+1).ble base=Nat.blt o base from rfl,hlt] at this;cases this
    simp only [cond_false,RV]
    have ro:=R.obj o
    rw [eo] at ro
    cases fz with
    | true=>
     obtain⟨_,r,_⟩:=ro
     rw [hx]
     exact RC.sub (fun b=>qcC) r
    | false=>
     obtain⟨_,cs,r1,r2⟩:=ro
     rw [hx]
     exact qje r1 r2 (fun b=>qcC) fun b ha=>qxg R hlt (by rw [eo];rfl) ha
 | .ptr o off,x,hv=>by
  simp only [RV] at hv
  obtain⟨b,ha,hx⟩:=hv
  simp only [cvV]
  cases hlt:Nat.blt o base with
  | true=>
   have hlt:o<base:=zH hlt
   simp only [cond_true,RV]
   refine⟨b,ha,?_⟩
   rw [qet,zJ hlt];exact hx.cv
  | false=>simp only [cond_false,RV]
 | .rptr o ver i off,x,hv=>by
  simp only [RV] at hv
  simp only [cvV]
  split
  ·rename_i fz ver' e s xs eo
   rw [eo] at hv
   obtain⟨hl,h1,hx⟩:=hv
   cases hb:Nat.beq ver ver'&&Nat.blt o base with
   | false=>simp only [cond_false,RV]
   | true=>
    rw [zA] at hb
    have hver:=zB hb.1
    have hlt:o<base:=zH hb.2
    subst hver
    simp only [cond_true,RV]
    rw [qet,zJ hlt,eo]
    exact⟨Nat.le_refl _,h1,fun _=>hx rfl⟩
  ·rename_i ver' e t h0 d eo
   rw [eo] at hv
   obtain⟨hp,hl,h1,hx⟩:=hv
   cases hb:Nat.beq ver ver'&&Nat.blt o base with
   | false=>simp only [cond_false,RV]
   | true=>
    rw [zA] at hb
    have hver:=zB hb.1
    have hlt:o<base:=zH hb.2
    subst hver
    simp only [cond_true,RV]
    rw [qet,zJ hlt,eo]
    exact⟨rfl,Nat.le_refl _,h1,fun _=>hx rfl⟩
  ·simp only [RV]
 | .tl o ver i,x,hv=>by
  simp only [RV] at hv
  simp only [cvV]
  split
  ·rename_i fz ver' e s xs eo
   rw [eo] at hv
   obtain⟨hl,h1,hx⟩:=hv
   cases hb:Nat.beq ver ver' with
   | false=>simp only [cond_false,RV]
   | true=>
    have hver:=zB hb
    subst hver
    have hx:=hx rfl
    simp only [cond_true]
    cases hlt:Nat.blt o base with
    | true=>
     have hlt:o<base:=zH hlt
     simp only [cond_true,RV]
     rw [qet,zJ hlt,eo]
     exact⟨Nat.le_refl _,h1,fun _=>hx⟩
    | false=>
     have hlt:¬ o<base:=fun h=>by have:=zAn h;rw [show (o+1).ble base=Nat.blt o base from rfl,hlt] at this;cases this
     simp only [cond_false,RV]
     have ro:=R.obj o
     rw [eo] at ro
     cases fz with
     | true=>
      obtain⟨_,r,_⟩:=ro
      exact RC.tl (RC.sub (fun b=>qcC) r) hx
     | false=>
      obtain⟨_,cs,r1,r2⟩:=ro
      exact RC.tl (qje r1 r2 (fun b=>qcC) fun b ha=>qxg R hlt (by rw [eo];rfl) ha) hx
  ·simp only [RV]
 | .fptr _ _,_,hv=>by
  simp only [cvV,RV] at hv ⊢
  obtain⟨b,q,cs,h1,h2,h3,h4,h5⟩:=hv
  exact⟨b,q,cs,h1,h2,fun hm=>h3 (qcC hm),h4,RC.sub (fun b=>qcC) h5⟩
 | .yld _,_,hv=>by simp only [cvV,RV] at hv ⊢;exact hv
 | .pptr _ _,_,hv=>by
  simp only [cvV,RV] at hv ⊢
  obtain⟨b,q,b',q',cs,h1,h2,h3,h4,h6,h7,h8,h5⟩:=hv
  exact⟨b,q,b',q',cs,h1,h2,fun hm=>h3 (qcC hm),h4,h6,fun hm=>h7 (qcC hm),h8,RC.sub (fun b=>qcC) h5⟩
 | .clo _ _,_,hv=>by
  simp only [cvV,RV] at hv ⊢
  obtain⟨vs,rfl,hr⟩:=hv
  exact⟨vs,rfl,qvg R hr⟩
 | .agg _,_,hv=>by
  simp only [cvV,RV] at hv ⊢
  obtain⟨vs,rfl,h1,hr⟩:=hv
  exact⟨vs,rfl,h1,qvg R hr⟩
 | .tup _,_,hv=>by
  simp only [cvV,RV] at hv ⊢
  obtain⟨vs,rfl,hr⟩:=hv
  exact⟨vs,rfl,qvg R hr⟩
theorem qvg(R:Rep w0 A M0 w h σ):{vs:List V} -> {xs:List Value}->RVs w (mutb M0 h σ) h σ vs xs->RVs w (mutb M0 (cvH fx base h) σ) (cvH fx base h) σ (cvV.cvL fx base h vs) xs
 | [],_,hv=>by simp only [cvV.cvL,RVs] at hv ⊢;exact hv
 | _ :: _,_,hv=>by
  simp only [cvV.cvL,RVs] at hv ⊢
  obtain⟨x,xs,rfl,h1,h2⟩:=hv
  exact⟨x,xs,rfl,cv_rv R h1,qvg R h2⟩
end
theorem qDT(vs:List V):cvV.cvL fx base h vs=vs.map (cvV fx base h):=by
 induction vs with
 | nil=>rfl
 | cons v vs ih=>simp only [cvV.cvL,List.map_cons,ih]
theorem cv_ro(R:Rep w0 A M0 w h σ){l:Loc}{i:Nat}{o:O}(hib:i<base)(hio:getO h i=o)(hil:l=σ i)(ho:RO w (mutb M0 h σ) h σ l o):RO w (mutb M0 (cvH fx base h) σ) (cvH fx base h) σ l (cvO fx base h i o):=by
 cases o with
 | none=>trivial
 | cells vs=>
  obtain⟨b,e,cs,h1,h2,h3,h4⟩:=ho
  exact⟨b,e,cs,h1,h2,qDT (fx:=fx) vs▸qvg R h3,h4⟩
 | row fz ver e s xs=>
  cases fz with
  | true=>
   obtain⟨h1,h2,h3⟩:=ho
   exact⟨h1,RC.sub (fun b=>qcC) h2,fun b hb=>⟨(h3 b hb).1,fun hm=>(h3 b hb).2 (qcC hm)⟩⟩
  | false=>
   obtain⟨h1,cs,h2,h3⟩:=ho
   exact⟨h1,cs,h2,RL.keeps (qbW fun b=>qcC) h3⟩
 | gone=>trivial
 | nst ver q d=>exact RN.keeps (qbW fun b=>qcC) (fun _ _ _=>rfl) ho
 | kds ver p t h0 d=>exact RK.link (qbW fun b=>qcC) (fun _=>.bad) (fun _ _ _ _=>by simp only [RV]) (fun _ _ _=>rfl) ho
 | oth fz q d=>
  refine⟨ho.1.keeps (qbW fun b=>qcC) (fun _ _ _=>rfl),fun hf b hb hm=>?_⟩
  cases fz with
  | true=>exact ho.2 rfl b hb (qcC hm)
  | false=>
   rw [Bool.false_or] at hf
   have hown:own h σ b:=⟨i,by rw [hio];rfl,.of (by rw [<- hil];exact hb)⟩
   rcases hm with hm | ⟨o',hl',ha'⟩
   ·obtain⟨x1,x2⟩:=R.m0 b hm
    rcases R.inA b hown with h | h
    ·exact x2 h
    ·omega
   ·have hne:o'≠i:=fun e=>by
     subst e
     rw [qet,zJ hib,hio] at hl'
     simp only [cvO,hf,live,Bool.or_true] at hl'
     cases hl'
    exact hne (R.apart o' i b (qmQ hl').2 (by rw [hio];rfl) (quu hl' ha') (.of (by rw [<- hil];exact hb)))
theorem qqm(R:Rep w0 A M0 w h σ):Rep w0 A M0 w (cvH fx base h) σ:=
 ⟨R.fr,R.m0,fun b hb=>R.inA b (qzD hb),fun o o' b h1 h2 h3 h4=>R.apart o o' b (qmQ h1).2 (qmQ h2).2 (quu h1 h3) (quu h2 h4),fun o=>by
  rw [qet]
  split
  ·rename_i hlt
   exact cv_ro R hlt rfl rfl (R.obj o)
  ·trivial⟩
mutual
theorem qzo{base':Nat}(hle:base<=base'){M M':Nat->Prop}(hm:∀ b,M' b->M b):{v:V} -> {x:Value}->stbV fx base v=true->RV w M h σ v x->RV w M' (cvH fx base' h) σ v x
 | .bad,_,_,_=>by simp only [RV]
 | .undef,_,_,hv=>by simp only [RV] at hv ⊢;exact hv
 | .int _ _,_,_,hv=>by simp only [RV] at hv ⊢;exact hv
 | .bool _,_,_,hv=>by simp only [RV] at hv ⊢;exact hv
 | .nl _,_,_,hv=>by simp only [RV] at hv ⊢;exact hv
 | .ifc _ _,_,hs,hv=>by
  simp only [RV] at hv ⊢
  simp only [stbV] at hs
  obtain⟨u,rfl,hr⟩:=hv
  exact⟨u,rfl,qzo hle hm hs hr⟩
 | .nil,_,_,hv=>by simp only [RV] at hv ⊢;exact hv
 | .nlt _ _,_,_,hv=>by simp only [RV] at hv ⊢;exact hv
 | .sl _ _,_,_,hv=>by simp only [RV] at hv ⊢;exact RC.sub hm hv
 | .slc o ver,x,hs,hv=>by
  simp only [RV] at hv ⊢
  simp only [stbV,zA] at hs
  have hlt:o<base:=zH hs.1
  obtain⟨fz,ver',e,s,xs,eo,hl,h1,hx⟩:=hv
  refine⟨fz,ver',e,s,xs,?_,hl,h1,hx⟩
  rw [qet,zJ (by omega),eo]
  simp only [cvO,ver0]
  cases hf:memN fx o with
  | true=>rw [hf] at hs;simp at hs
  | false=>rfl
 | .ptr o off,x,hs,hv=>by
  simp only [RV] at hv ⊢
  simp only [stbV] at hs
  have hlt:o<base:=zH hs
  obtain⟨b,ha,hx⟩:=hv
  refine⟨b,ha,?_⟩
  rw [qet,zJ (by omega)];exact hx.cv
 | .rptr o ver i off,x,hs,hv=>by
  simp only [RV] at hv ⊢
  simp only [stbV,zA] at hs
  have hlt:o<base:=zH hs.1
  rw [qet,zJ (by omega)]
  have hf:memN fx o=false:=by simpa using hs.2
  cases eo:getO h o with
  | row fz ver' e s xs=>rw [eo] at hv;simp only [cvO,ver0,hf,cond_false];exact hv
  | nst ver' q d=>rw [eo] at hv;simp only [cvO,ver0,hf,cond_false];exact hv
  | kds ver' p t h0 d=>rw [eo] at hv;simp only [cvO,ver0,hf,cond_false];exact hv
  | gone=>rw [eo] at hv;exact hv
  | _=>rw [eo] at hv;exact hv.elim
 | .tl o ver i,x,hs,hv=>by
  simp only [RV] at hv ⊢
  simp only [stbV,zA] at hs
  have hlt:o<base:=zH hs.1
  rw [qet,zJ (by omega)]
  have hf:memN fx o=false:=by simpa using hs.2
  cases eo:getO h o with
  | row fz ver' e s xs=>rw [eo] at hv;simp only [cvO,ver0,hf,cond_false];exact hv
  | cells vs=>rw [eo] at hv;exact hv
  | gone=>rw [eo] at hv;exact hv
  | _=>rw [eo] at hv;exact hv.elim
 | .fptr _ _,_,_,hv=>by
  simp only [RV] at hv ⊢
  obtain⟨b,q,cs,h1,h2,h3,h4,h5⟩:=hv
  exact⟨b,q,cs,h1,h2,fun h'=>h3 (hm b h'),h4,RC.sub hm h5⟩
 | .yld _,_,_,hv=>by simp only [RV] at hv ⊢;exact hv
 | .pptr _ _,_,_,hv=>by
  simp only [RV] at hv ⊢
  obtain⟨b,q,b',q',cs,h1,h2,h3,h4,h6,h7,h8,h5⟩:=hv
  exact⟨b,q,b',q',cs,h1,h2,fun h'=>h3 (hm b h'),h4,h6,fun h'=>h7 (hm b' h'),h8,RC.sub hm h5⟩
 | .clo _ _,_,hs,hv=>by
  simp only [RV] at hv ⊢
  simp only [stbV] at hs
  obtain⟨vs,rfl,hr⟩:=hv
  exact⟨vs,rfl,qsj hle hm hs hr⟩
 | .agg _,_,hs,hv=>by
  simp only [RV] at hv ⊢
  simp only [stbV] at hs
  obtain⟨vs,rfl,h1,hr⟩:=hv
  exact⟨vs,rfl,h1,qsj hle hm hs hr⟩
 | .tup _,_,hs,hv=>by
  simp only [RV] at hv ⊢
  simp only [stbV] at hs
  obtain⟨vs,rfl,hr⟩:=hv
  exact⟨vs,rfl,qsj hle hm hs hr⟩
theorem qsj{base':Nat}(hle:base<=base'){M M':Nat->Prop}(hm:∀ b,M' b->M b):{vs:List V} -> {xs:List Value}->stbV.stbL fx base vs=true->RVs w M h σ vs xs->RVs w M' (cvH fx base' h) σ vs xs
 | [],_,_,hv=>by simp only [RVs] at hv ⊢;exact hv
 | _ :: _,_,hs,hv=>by
  simp only [RVs] at hv ⊢
  simp only [stbV.stbL,zA] at hs
  obtain⟨x,xs,rfl,h1,h2⟩:=hv
  exact⟨x,xs,rfl,qzo hle hm hs.1 h1,qsj hle hm hs.2 h2⟩
end
theorem qCd{ks:List Nat}{t:Slots}(i:Nat):look (cvT fx ks base t h) i=.bad\/look (cvT fx ks base t h) i=cvV fx base h (look t i):=by
 unfold cvT
 induction ks with
 | nil=>exact .inl rfl
 | cons k ks ih=>
  simp only [List.map_cons,look]
  cases hb:Nat.beq k i with
  | true=>have:=zB hb;subst this;exact .inr rfl
  | false=>exact ih
end
end Go.Abs
namespace Go.Abs
def CStep(fx:List Nat)(fl:Nat)(h:List O)(σ:Nat->Loc)(h':List O)(σ':Nat->Loc):Prop:=
 ∀ o,o<fl->match getO h o with
  | .none=>True
  | .cells _=>(∃ vs',getO h' o=.cells vs'/\σ' o=σ o)\/(getO h' o=.gone/\(σ' o).a=(σ o).a)
  | .row _ ver _ s xs=>memN fx o=false->∃ fz' ver' e' s' xs',getO h' o=.row fz' ver' e' s' xs'/\ver<=ver'/\(ver=ver'->σ' o=σ o/\s'=s/\xs'.length=xs.length)
  | .oth _ q _=>(mapLk q.it (getO h' o)\/getO h' o=.gone)/\(σ' o).a=(σ o).a
  | .kds ver p t _ d=>(p.isMap=true\/memN fx o=false)->KStep ver p (kLen p t d) t.n (σ o) (getO h' o) (σ' o)
  | .nst ver q _=>(∃ ver' xs',getO h' o=.nst ver' q xs'/\(σ' o).a=(σ o).a/\(memN fx o=false->ver<=ver'/\(ver=ver'->∀ i c:Nat,(σ o).ex[i]? = some c->(σ' o).ex[i]? = some c)))\/(getO h' o=.gone/\(σ' o).a=(σ o).a)
  | .gone=>getO h' o=.gone/\(σ' o).a=(σ o).a
structure Far (fx:List Nat) (fl:Nat) (M0:Nat->Prop) (w:World) (h:List O) (σ:Nat->Loc) (M1:Nat->Prop) (w':World) (h':List O) (σ':Nat->Loc):Prop where
 goes:Goes w h σ w'
 keeps:Keeps w (mutb M0 h σ) w' (mutb M1 h' σ')
 step:CStep fx fl h σ h' σ'
section
variable {w0 : World} {A M0 M1 M2 : Nat -> Prop} {w w' w'' : World} {h h' h'' : List O} {σ σ' σ'' : Nat -> Loc} {fx : List Nat} {fl base : Nat}
theorem OStep.c(s:OStep h σ h' σ'):CStep fx fl h σ h' σ':=fun o _=>by
 have:=s o
 cases e:getO h o with
 | none=>trivial
 | cells vs=>rw [e] at this;exact this
 | row fz ver t s xs=>rw [e] at this;exact fun _=>this
 | oth fz q d=>rw [e] at this;exact this
 | kds ver p t h0 d=>rw [e] at this;exact fun _=>this
 | nst ver q d=>rw [e] at this;exact this.imp (fun ⟨ver',d',h1,h2,h3,h4⟩=>⟨ver',d',h1,h3,fun _=>⟨h2,h4⟩⟩) id
 | gone=>rw [e] at this;exact this
theorem Far.of_next(n:Next w0 A M0 w h σ w' h' σ'):Far fx fl M0 w h σ M0 w' h' σ':=⟨n.goes,n.keeps,n.step.c⟩
theorem Goes.refl:Goes w h σ w:=⟨rfl,TDr.rfl,rfl,Nat.le_refl _,fun _ _ _=>rfl⟩
theorem Far.refl:Far fx fl M0 w h σ M0 w h σ:=⟨Goes.refl,qbW fun _ h=>h,(OStep.refl h σ).c⟩
theorem Far.conv(hle:fl<=base):Far fx fl M0 w h σ M0 w (cvH fx base h) σ:=by
 refine⟨Goes.refl,qbW fun b=>qcC,fun o ho=>?_⟩
 have:getO (cvH fx base h) o=cvO fx base h o (getO h o):=by rw [qet,zJ (by omega)]
 rw [this]
 cases e:getO h o with
 | none=>trivial
 | cells vs=>exact .inl ⟨_,rfl,rfl⟩
 | row fz ver t s xs=>
  intro hf
  exact⟨fz,ver,t,s,xs,by simp only [cvO,ver0,hf,cond_false],Nat.le_refl _,fun _=>⟨rfl,rfl,rfl⟩⟩
 | oth fz q d=>exact⟨.inl rfl,rfl⟩
 | kds ver p t h0 d=>
  intro hf
  show KStep _ _ _ _ _ (O.kds (ver0 fx o ver) p t (hmap _ h0) d) _
  unfold KStep
  split
  ·exact⟨.inl ⟨rfl,‹_›⟩,rfl⟩
  ·rename_i hp
   have hf:=hf.resolve_left (by rw [hp];simp)
   exact .inl ⟨_,p,t,_,d,rfl,hp,by simp only [ver0,hf,cond_false];exact Nat.le_refl _,fun _=>⟨rfl,rfl,rfl,rfl⟩⟩
 | nst ver q d=>exact .inl ⟨ver0 fx o ver,d,rfl,rfl,fun hf=>⟨by simp only [ver0,hf,cond_false];exact Nat.le_refl _,fun _ _ _ h=>h⟩⟩
 | gone=>exact⟨rfl,rfl⟩
def qBv(f:Bool)(o o':O)(l l':Loc):Prop:=match o with
  | .none=>True
  | .cells _=>(∃ vs',o'=.cells vs'/\l'=l)\/(o'=.gone/\l'.a=l.a)
  | .row _ ver _ s xs=>f=false->∃ fz' ver' e' s' xs',o'=.row fz' ver' e' s' xs'/\ver<=ver'/\(ver=ver'->l'=l/\s'=s/\xs'.length=xs.length)
  | .oth _ q _=>(mapLk q.it o'\/o'=.gone)/\l'.a=l.a
  | .kds ver p t _ d=>(p.isMap=true\/f=false)->KStep ver p (kLen p t d) t.n l o' l'
  | .nst ver q _=>(∃ ver' xs',o'=.nst ver' q xs'/\l'.a=l.a/\(f=false->ver<=ver'/\(ver=ver'->∀ i c:Nat,l.ex[i]? = some c->l'.ex[i]? = some c)))\/(o'=.gone/\l'.a=l.a)
  | .gone=>o'=.gone/\l'.a=l.a
theorem mapLk.cstep{f it:Bool}{o o':O}{l l':Loc}(h:mapLk it o)(hb:qBv f o o' l l'):(mapLk it o'\/o'=.gone)/\l'.a=l.a:=by
 cases o with
 | oth fz q d=>obtain rfl:q.it=it:=h;exact hb
 | kds ver p t hl d=>
  obtain⟨rfl,hp⟩:=h
  have hb:KStep ver p (kLen p t d) t.n l o' l':=hb (.inl hp)
  unfold KStep at hb
  rw [hp] at hb
  exact hb
 | _=>exact h.elim
theorem qrY{f it:Bool}{o o':O}{l l' l'':Loc}(ha:(mapLk it o\/o=.gone)/\l'.a=l.a)(hb:qBv f o o' l' l''):(mapLk it o'\/o'=.gone)/\l''.a=l.a:=by
 obtain⟨h | h,hl⟩:=ha
 ·obtain⟨h1,h2⟩:=h.cstep hb
  exact⟨h1,h2.trans hl⟩
 ·subst h
  exact⟨.inr hb.1,hb.2.trans hl⟩
theorem KStep.ctrans{f:Bool}{ver n tn:Nat}{p:Kp}{o o':O}{l l' l'':Loc}(hf:p.isMap=true\/f=false)(ha:KStep ver p n tn l o l')(hb:qBv f o o' l' l''):KStep ver p n tn l o' l'':=by
 unfold KStep at ha ⊢
 split at ha
 ·exact qrY ha hb
 ·rename_i hp0
  have hf:=hf.resolve_left (by rw [hp0];simp)
  rcases ha with⟨ver',p',t',hl',d',rfl,hp,hv,hc⟩ | rfl
  ·have hb:KStep ver' p' (kLen p' t' d') t'.n l' o' l'':=hb (.inr hf)
   unfold KStep at hb
   rw [hp] at hb
   rcases hb with⟨ver2,p2,t2,hl2,d2,e2,hp2,hv2,hc2⟩ | e2
   ·refine .inl ⟨ver2,p2,t2,hl2,d2,e2,hp2,zn hv hv2,fun h=>?_⟩
    obtain⟨x1,x2,x3,x4⟩:=hc (by omega)
    obtain⟨y1,y2,y3,y4⟩:=hc2 (by omega)
    exact⟨y1.trans x1,y2.trans x2,y3.trans x3,y4.trans x4⟩
   ·exact .inr e2
  ·exact .inr hb.1
theorem CStep.trans(a:CStep fx fl h σ h' σ')(b:CStep fx fl h' σ' h'' σ''):CStep fx fl h σ h'' σ'':=fun o ho=>by
 have ha:=a o ho
 have hb:=b o ho
 cases e:getO h o with
 | none=>trivial
 | cells vs=>
  simp only [e] at ha
  rcases ha with⟨vs',e',s'⟩ | ⟨e',s'⟩
  ·simp only [e'] at hb
   rcases hb with⟨vs'',e'',s''⟩ | ⟨e'',s''⟩
   ·exact .inl ⟨vs'',e'',s''.trans s'⟩
   ·exact .inr ⟨e'',by rw [s'',s']⟩
  ·simp only [e'] at hb
   exact .inr ⟨hb.1,hb.2.trans s'⟩
 | row fz ver ty s xs=>
  simp only [e] at ha
  intro hf
  obtain⟨fz',ver',ty',t',xs',e',l',c'⟩:=ha hf
  simp only [e'] at hb
  obtain⟨fz'',ver'',ty'',t'',xs'',e'',l'',c''⟩:=hb hf
  refine⟨fz'',ver'',ty'',t'',xs'',e'',by omega,fun hv=>?_⟩
  obtain⟨x1,x2,x3⟩:=c' (by omega)
  obtain⟨y1,y2,y3⟩:=c'' (by omega)
  exact⟨y1.trans x1,y2.trans x2,y3.trans x3⟩
 | oth fz q xs=>
  simp only [e] at ha
  exact qrY ha hb
 | kds ver p t h0 d=>
  simp only [e] at ha
  intro hf
  exact KStep.ctrans hf (ha hf) hb
 | nst ver q xs=>
  simp only [e] at ha
  rcases ha with⟨ver',xs',e',s',c'⟩ | ⟨e',s'⟩
  ·simp only [e'] at hb
   rcases hb with⟨ver'',xs'',e'',s'',c''⟩ | ⟨e'',s''⟩
   ·refine .inl ⟨ver'',xs'',e'',s''.trans s',fun hf=>?_⟩
    obtain⟨l1,d1⟩:=c' hf
    obtain⟨l2,d2⟩:=c'' hf
    exact⟨by omega,fun hv i c hc=>d2 (by omega) i c (d1 (by omega) i c hc)⟩
   ·exact .inr ⟨e'',by rw [s'',s']⟩
  ·simp only [e'] at hb
   exact .inr ⟨hb.1,hb.2.trans s'⟩
 | gone=>
  simp only [e] at ha
  simp only [ha.1] at hb
  exact⟨hb.1,hb.2.trans ha.2⟩
def qEj(M0:Nat->Prop)(w:World)(h:List O)(σ:Nat->Loc):Prop:=∀ b,M0 b->b<w.heap.size/\¬ own h σ b
theorem Rep.foreign(R:Rep w0 A M0 w h σ):qEj M0 w h σ:=fun b hb=>
 ⟨R.mlt (.inl hb),fun ho=>by
  have:=R.m0 b hb
  rcases R.inA b ho with h | h
  ·exact this.2 h
  ·omega⟩
theorem Far.trans(a:Far fx fl M0 w h σ M1 w' h' σ')(b:Far fx fl M1 w' h' σ' M2 w'' h'' σ'')(F:∀ b,M0 b->¬ own h' σ' b):Far fx fl M0 w h σ M2 w'' h'' σ'':=by
 refine⟨⟨b.goes.os.trans a.goes.os,b.goes.tape.trans a.goes.tape,b.goes.output.trans a.goes.output,zn a.goes.size b.goes.size,fun k hk ho=>?_⟩,
  ⟨zn a.keeps.size b.keeps.size,fun k hk hm=>?_,fun k hk hm=>b.keeps.out k (zM hk a.keeps.size) (a.keeps.out k hk hm)⟩,a.step.trans b.step⟩
 ·rw [b.goes.block k (zM hk a.goes.size) (fun e=>?_),a.goes.block k hk ho]
  by_cases hM:M0 k
  ·exact F k hM e
  ·exact a.keeps.out k hk (fun e=>e.elim hM ho) (.inr e)
 ·rw [b.keeps.block k (zM hk a.keeps.size) (a.keeps.out k hk hm),a.keeps.block k hk hm]
theorem Far.mono{fl':Nat}(hle:fl'<=fl)(a:Far fx fl M0 w h σ M1 w' h' σ'):Far fx fl' M0 w h σ M1 w' h' σ':=⟨a.goes,a.keeps,fun o ho=>a.step o (by omega)⟩
mutual
theorem Far.rv(f:Far fx fl M0 w h σ M1 w' h' σ'):{v:V} -> {x:Value}->stbV fx fl v=true->RV w (mutb M0 h σ) h σ v x->RV w' (mutb M1 h' σ') h' σ' v x
 | .bad,_,_,_=>by simp only [RV]
 | .undef,_,_,hv=>by simp only [RV] at hv ⊢;exact hv
 | .int _ _,_,_,hv=>by simp only [RV] at hv ⊢;exact hv
 | .bool _,_,_,hv=>by simp only [RV] at hv ⊢;exact hv
 | .nl _,_,_,hv=>by simp only [RV] at hv ⊢;exact hv
 | .ifc _ _,_,hs,hv=>by
  simp only [RV] at hv ⊢
  simp only [stbV] at hs
  obtain⟨u,rfl,hr⟩:=hv
  exact⟨u,rfl,Far.rv f hs hr⟩
 | .nil,_,_,hv=>by simp only [RV] at hv ⊢;exact hv
 | .nlt _ _,_,_,hv=>by simp only [RV] at hv ⊢;exact hv
 | .sl _ _,_,_,hv=>by simp only [RV] at hv ⊢;exact RC.keeps f.keeps hv
 | .slc o ver,_,hs,hv=>by
  simp only [RV] at hv ⊢
  simp only [stbV,zA,zT] at hs
  obtain⟨fz,ver1,ty,t,xs,e,hl,h1c,hx⟩:=hv
  have hs':=f.step o (zH hs.1)
  simp only [e] at hs'
  obtain⟨fz',ver',ty',t',xs',e',l',c'⟩:=hs' hs.2
  refine⟨fz',ver',ty',t',xs',e',by omega,h1c,fun hv=>?_⟩
  obtain⟨x1,x2,x3⟩:=c' (by omega)
  rw [x1,x3];exact hx (by omega)
 | .ptr o off,_,hs,hv=>by
  simp only [RV] at hv ⊢
  simp only [stbV] at hs
  obtain⟨b,ha,hx⟩:=hv
  have hs':=f.step o (zH hs)
  cases e:getO h o with
  | none=>rw [e] at hx;exact hx.elim
  | row fz ver ty t xs=>rw [e] at hx;exact hx.elim
  | cells vs=>
   rw [e] at hx
   simp only [e] at hs'
   rcases hs' with⟨vs',e',s'⟩ | ⟨e',s'⟩
   ·exact⟨b,by rw [s'];exact ha,by rw [e'];exact hx⟩
   ·exact⟨b,by rw [s'];exact ha,by rw [e'];exact PtrTo.gone hx⟩
  | oth fz q xs=>
   rw [e] at hx
   simp only [e] at hs'
   exact PtrTo.mstep (it:=q.it) (show mapLk q.it (.oth fz q xs) from rfl) hs' ha hx
  | kds ver p t h0 d=>
   rw [e] at hx
   simp only [e] at hs'
   have hp:=hx.1
   have hs':=hs' (.inl hp)
   unfold KStep at hs'
   rw [hp] at hs'
   exact PtrTo.mstep (it:=false) (show mapLk false (.kds ver p t h0 d) from⟨rfl,hp⟩) hs' ha hx
  | nst ver q xs=>
   rw [e] at hx
   simp only [e] at hs'
   rcases hs' with⟨ver',xs',e',s',_⟩ | ⟨e',s'⟩
   ·exact⟨b,by rw [s'];exact ha,by rw [e'];exact hx⟩
   ·exact⟨b,by rw [s'];exact ha,by rw [e'];exact PtrTo.gone hx⟩
  | gone=>
   rw [e] at hx
   simp only [e] at hs'
   exact⟨b,by rw [hs'.2];exact ha,by rw [hs'.1];exact hx⟩
 | .rptr o ver i off,_,hs,hv=>by
  simp only [RV] at hv ⊢
  simp only [stbV,zA,zT] at hs
  have hs':=f.step o (zH hs.1)
  cases e:getO h o with
  | none=>rw [e] at hv;exact hv.elim
  | cells vs=>rw [e] at hv;exact hv.elim
  | oth fz q xs=>rw [e] at hv;exact hv.elim
  | row fz ver1 ty t xs=>
   rw [e] at hv
   obtain⟨hl,h1c,hx⟩:=hv
   simp only [e] at hs'
   obtain⟨fz',ver',ty',t',xs',e',l',c'⟩:=hs' hs.2
   rw [e']
   refine⟨by omega,h1c,fun hv=>?_⟩
   obtain⟨x1,x2,x3⟩:=c' (by omega)
   obtain⟨b,h1,h2,h3⟩:=hx (by omega)
   exact⟨b,by rw [x1];exact h1,by omega,by rw [x2];exact h3⟩
  | nst ver1 q xs=>
   rw [e] at hv
   obtain⟨hl,h1c,hx⟩:=hv
   simp only [e] at hs'
   rcases hs' with⟨ver',xs',e',s',c'⟩ | ⟨e',s'⟩
   ·obtain⟨l',c'⟩:=c' hs.2
    rw [e']
    refine⟨by omega,h1c,fun hv=>?_⟩
    obtain⟨h1,c,h2,h3⟩:=hx (by omega)
    exact⟨h1,c,c' (by omega) i c h2,h3⟩
   ·rw [e'];exact h1c
  | kds ver1 p t h0 d=>
   rw [e] at hv
   simp only [e] at hs'
   exact RefTo.kstep (hs' (.inr hs.2)) hv
  | gone=>
   rw [e] at hv
   simp only [e] at hs'
   rw [hs'.1];exact hv
 | .tl o ver i,_,hs,hv=>by
  simp only [RV] at hv ⊢
  simp only [stbV,zA,zT] at hs
  have hs':=f.step o (zH hs.1)
  cases e:getO h o with
  | none=>rw [e] at hv;exact hv.elim
  | oth fz q xs=>rw [e] at hv;exact hv.elim
  | nst ver1 q xs=>rw [e] at hv;exact hv.elim
  | kds ver1 p t h0 d=>rw [e] at hv;exact hv.elim
  | cells vs=>
   rw [e] at hv
   simp only [e] at hs'
   have h1:=hv.one
   obtain⟨b,ha,hx⟩:=hv
   rcases hs' with⟨vs',e',s'⟩ | ⟨e',_⟩
   ·rw [e',s'];exact⟨b,ha,hx⟩
   ·rw [e'];exact h1
  | row fz ver1 ty t xs=>
   rw [e] at hv
   obtain⟨hl,h1c,hx⟩:=hv
   simp only [e] at hs'
   obtain⟨fz',ver',ty',t',xs',e',l',c'⟩:=hs' hs.2
   rw [e']
   refine⟨by omega,h1c,fun hv=>?_⟩
   obtain⟨x1,x2,x3⟩:=c' (by omega)
   rw [x1,x3,x2];exact hx (by omega)
  | gone=>
   rw [e] at hv
   simp only [e] at hs'
   rw [hs'.1];exact hv
 | .fptr _ _,_,_,hv=>by
  simp only [RV] at hv ⊢
  obtain⟨b,q,cs,rfl,hb,hm,hc,hr⟩:=hv
  exact⟨b,q,cs,rfl,zM hb f.keeps.size,f.keeps.out b hb hm,f.keeps.cells hb hm hc,RC.keeps f.keeps hr⟩
 | .yld _,_,_,hv=>by simp only [RV] at hv ⊢;exact hv
 | .pptr _ _,_,_,hv=>by
  simp only [RV] at hv ⊢
  obtain⟨b,q,b',q',cs,rfl,hb,hm,hc,hb2,hm2,hc2,hr⟩:=hv
  exact⟨b,q,b',q',cs,rfl,zM hb f.keeps.size,f.keeps.out b hb hm,f.keeps.cells hb hm hc,zM hb2 f.keeps.size,f.keeps.out b' hb2 hm2,f.keeps.cells hb2 hm2 hc2,RC.keeps f.keeps hr⟩
 | .clo _ _,_,hs,hv=>by
  simp only [RV] at hv ⊢
  simp only [stbV] at hs
  obtain⟨vs,rfl,hr⟩:=hv
  exact⟨vs,rfl,Far.rvs f hs hr⟩
 | .agg _,_,hs,hv=>by
  simp only [RV] at hv ⊢
  simp only [stbV] at hs
  obtain⟨vs,rfl,h1,hr⟩:=hv
  exact⟨vs,rfl,h1,Far.rvs f hs hr⟩
 | .tup _,_,hs,hv=>by
  simp only [RV] at hv ⊢
  simp only [stbV] at hs
  obtain⟨vs,rfl,hr⟩:=hv
  exact⟨vs,rfl,Far.rvs f hs hr⟩
theorem Far.rvs(f:Far fx fl M0 w h σ M1 w' h' σ'):{vs:List V} -> {xs:List Value}->stbV.stbL fx fl vs=true->RVs w (mutb M0 h σ) h σ vs xs->RVs w' (mutb M1 h' σ') h' σ' vs xs
 | [],_,_,hv=>by simp only [RVs] at hv ⊢;exact hv
 | _ :: _,_,hs,hv=>by
  simp only [RVs] at hv ⊢
  simp only [stbV.stbL,zA] at hs
  obtain⟨x,xs,rfl,h1,h2⟩:=hv
  exact⟨x,xs,rfl,Far.rv f hs.1 h1,Far.rvs f hs.2 h2⟩
end
theorem Far.less(a:Far fx fl M0 w h σ M1 w' h' σ')(hs:∀ b,M2 b->M1 b):Far fx fl M0 w h σ M2 w' h' σ':=
 ⟨a.goes,⟨a.keeps.size,a.keeps.block,fun b hb hm h'=>a.keeps.out b hb hm (h'.imp (hs b) id)⟩,a.step⟩
theorem RV.less{M M':Nat->Prop}(hs:∀ b,M' b->M b){v:V}{x:Value}(hv:RV w M h σ v x):RV w M' h σ v x:=RV.keeps (qbW hs) (OStep.refl h σ) hv
theorem RO.less{M M':Nat->Prop}(hs:∀ b,M' b->M b){l:Loc}{o:O}(ho:RO w M h σ l o):RO w M' h σ l o:=ho.keeps (qbW hs) (OStep.refl h σ) fun _ _ _=>rfl
theorem Keeps.turn{M:Nat->Prop}{l:Nat}(hl:M l)(o:Obj):Keeps w M (w.putObj l o) M:=
 ⟨by simp,fun b _ hb=>World.putObj_heap_other (fun e=>hb (e▸hl)),fun _ _ h=>h⟩
theorem Goes.turn{l:Nat}(hm:∀ b,b<w.heap.size->b≠l)(o:Obj):Goes w h σ (w.putObj l o):=
 ⟨rfl,TDr.rfl,rfl,by simp,fun b hb _=>World.putObj_heap_other (hm b hb)⟩
theorem Rep.turn(R:Rep w0 A M0 w h σ){l:Nat}(hl:M0 l)(o:Obj):Rep (w0.putObj l o) A M0 (w.putObj l o) h σ:=
 ⟨⟨R.fr.os,R.fr.tape,R.fr.output,by simpa using R.fr.size,fun b hb hA=>by
   replace hb:b<w0.heap.size:=by simpa using hb
   by_cases e:b=l
   ·subst e
    rw [World.putObj_heap_same (w:=w0) hb,World.putObj_heap_same (w:=w) (zM hb R.fr.size)]
   ·rw [World.putObj_heap_other e,World.putObj_heap_other e];exact R.fr.block b hb hA⟩,
  fun b hb=>by simpa using R.m0 b hb,fun b hb=>by simpa using R.inA b hb,R.apart,fun i=>by
  have r:=R.obj i
  cases eo:getO h i with
  | none=>trivial
  | cells vs=>
   rw [eo] at r
   exact r.keeps (Keeps.turn (.inl hl) o) (OStep.refl h σ) fun b ha hb=>World.putObj_heap_other fun e=>by
    subst e
    exact (R.foreign b hl).2 ⟨i,by rw [eo];trivial,.of ha⟩
  | gone=>trivial
  | nst ver q d=>
   rw [eo] at r
   exact r.keeps (Keeps.turn (.inl hl) o) (OStep.refl h σ) fun b ha hb=>World.putObj_heap_other fun e=>by
    subst e
    exact (R.foreign b hl).2 ⟨i,by rw [eo];trivial,by rw [eo];exact ha⟩
  | kds ver p t h0 d=>
   rw [eo] at r
   exact r.keeps (Keeps.turn (.inl hl) o) (OStep.refl h σ) fun b ha hb=>World.putObj_heap_other fun e=>by
    subst e
    exact (R.foreign b hl).2 ⟨i,by rw [eo];trivial,by rw [eo];exact ha⟩
  | row fz ver t s xs=>
   rw [eo] at r
   refine r.keeps (Keeps.turn (.inl hl) o) (OStep.refl h σ) fun b ha hb=>World.putObj_heap_other fun e=>?_
   subst e
   cases fz with
   | false=>exact (R.foreign b hl).2 ⟨i,by rw [eo];rfl,.of ha⟩
   | true=>exact (r.2.2 b ha).2 (.inl hl)
  | oth fz q d=>
   rw [eo] at r
   refine r.keeps (Keeps.turn (.inl hl) o) (OStep.refl h σ) fun b ha hb=>World.putObj_heap_other fun e=>?_
   subst e
   cases fz with
   | false=>exact (R.foreign b hl).2 ⟨i,by rw [eo];rfl,.of ha⟩
   | true=>exact r.2 rfl b ha (.inl hl)⟩
end
def mvσ(i n:Nat)(σ:Nat->Loc)(o:Nat):Loc:=if o=i then σ n else σ o
section
variable {w0 w : World} {A M0 M M' : Nat -> Prop} {h : List O} {σ : Nat -> Loc} {i n : Nat} {ob : O}
theorem qjr(c2:i<n)(c3:n+1=h.length)(o:Nat):getO (mvH i n ob h) o=if o=i then ob else if o<n then getO h o else .none:=by
 unfold getO mvH
 rw [zK,zK,zt,zAc]
 by_cases e:o=i
 ·subst e
  rw [zJ c2,zJ rfl,zJ (by omega),zJ rfl];rfl
 ·by_cases hl:o<n
  ·rw [zJ hl,zL (fun h=>e h.symm),zL e,zJ hl]
  ·rw [zL hl,zL e,zL hl];rfl
mutual
theorem mv_rv(c2:i<n)(c3:n+1=h.length)(hm:∀ b,M' b->M b):{v:V} -> {x:Value}->noRef i n v=true->RV w M h σ v x->RV w M' (mvH i n ob h) (mvσ i n σ) v x
 | .bad,_,_,_=>by simp only [RV]
 | .undef,_,_,hv=>by simp only [RV] at hv ⊢;exact hv
 | .int _ _,_,_,hv=>by simp only [RV] at hv ⊢;exact hv
 | .bool _,_,_,hv=>by simp only [RV] at hv ⊢;exact hv
 | .nl _,_,_,hv=>by simp only [RV] at hv ⊢;exact hv
 | .ifc _ _,_,hs,hv=>by
  simp only [RV] at hv ⊢
  simp only [noRef] at hs
  obtain⟨u,rfl,hr⟩:=hv
  exact⟨u,rfl,mv_rv c2 c3 hm hs hr⟩
 | .nil,_,_,hv=>by simp only [RV] at hv ⊢;exact hv
 | .nlt _ _,_,_,hv=>by simp only [RV] at hv ⊢;exact hv
 | .sl _ _,_,_,hv=>by simp only [RV] at hv ⊢;exact RC.sub hm hv
 | .slc o ver,x,hs,hv=>by
  simp only [RV] at hv ⊢
  simp only [noRef,zA,zT] at hs
  have h1:o≠i:=zAD hs.1
  have h2:o≠n:=zAD hs.2
  obtain⟨fz,ver',e,s,xs,eo,hv⟩:=hv
  have hlt:o<h.length:=qae (by rw [eo];simp)
  exact⟨fz,ver',e,s,xs,by rw [qjr c2 c3,zL h1,zJ (by omega)];exact eo,by simpa only [mvσ,zL h1] using hv⟩
 | .ptr o off,x,hs,hv=>by
  simp only [RV] at hv ⊢
  simp only [noRef,zA,zT] at hs
  have h1:o≠i:=zAD hs.1
  have h2:o≠n:=zAD hs.2
  obtain⟨b,ha,hx⟩:=hv
  have hlt:o<h.length:=qae (by intro e;rw [e] at hx;exact hx)
  exact⟨b,by simpa only [mvσ,zL h1] using ha,by rw [qjr c2 c3,zL h1,zJ (by omega)];exact hx⟩
 | .rptr o ver j off,x,hs,hv=>by
  simp only [RV] at hv ⊢
  simp only [noRef,zA,zT] at hs
  have h1:o≠i:=zAD hs.1
  have h2:o≠n:=zAD hs.2
  have hlt:o<h.length:=qae (by intro e;rw [e] at hv;exact hv)
  rw [qjr c2 c3,zL h1,zJ (by omega)]
  simpa only [mvσ,zL h1] using hv
 | .tl o ver j,x,hs,hv=>by
  simp only [RV] at hv ⊢
  simp only [noRef,zA,zT] at hs
  have h1:o≠i:=zAD hs.1
  have h2:o≠n:=zAD hs.2
  have hlt:o<h.length:=qae (by intro e;rw [e] at hv;exact hv)
  rw [qjr c2 c3,zL h1,zJ (by omega)]
  simpa only [mvσ,zL h1] using hv
 | .fptr _ _,_,_,hv=>by
  simp only [RV] at hv ⊢
  obtain⟨b,q,cs,h1,h2,h3,h4,h5⟩:=hv
  exact⟨b,q,cs,h1,h2,fun h'=>h3 (hm b h'),h4,RC.sub hm h5⟩
 | .yld _,_,_,hv=>by simp only [RV] at hv ⊢;exact hv
 | .pptr _ _,_,_,hv=>by
  simp only [RV] at hv ⊢
  obtain⟨b,q,b',q',cs,h1,h2,h3,h4,h6,h7,h8,h5⟩:=hv
  exact⟨b,q,b',q',cs,h1,h2,fun h'=>h3 (hm b h'),h4,h6,fun h'=>h7 (hm b' h'),h8,RC.sub hm h5⟩
 | .clo _ _,_,hs,hv=>by
  simp only [RV] at hv ⊢
  simp only [noRef] at hs
  obtain⟨us,rfl,hr⟩:=hv
  exact⟨us,rfl,qrD c2 c3 hm hs hr⟩
 | .agg _,_,hs,hv=>by
  simp only [RV] at hv ⊢
  simp only [noRef] at hs
  obtain⟨us,rfl,h1,hr⟩:=hv
  exact⟨us,rfl,h1,qrD c2 c3 hm hs hr⟩
 | .tup _,_,hs,hv=>by
  simp only [RV] at hv ⊢
  simp only [noRef] at hs
  obtain⟨us,rfl,hr⟩:=hv
  exact⟨us,rfl,qrD c2 c3 hm hs hr⟩
theorem qrD(c2:i<n)(c3:n+1=h.length)(hm:∀ b,M' b->M b):{us:List V} -> {xs:List Value}->qko i n us=true->RVs w M h σ us xs->RVs w M' (mvH i n ob h) (mvσ i n σ) us xs
 | [],_,_,hv=>by simp only [RVs] at hv ⊢;exact hv
 | _ :: _,_,hs,hv=>by
  simp only [RVs] at hv ⊢
  simp only [qko,zA] at hs
  obtain⟨x,xs,rfl,h1,h2⟩:=hv
  exact⟨x,xs,rfl,mv_rv c2 c3 hm hs.1 h1,qrD c2 c3 hm hs.2 h2⟩
end
theorem qxy(hn:getO h n=ob)(c2:i<n)(c3:n+1=h.length){o b:Nat}(hl:live (getO (mvH i n ob h) o))(ha:Oat (getO (mvH i n ob h) o) (mvσ i n σ o) b) :
  ∃ o',(o'=if o=i then n else o)/\(o=i\/o<n)/\live (getO h o')/\Oat (getO h o') (σ o') b:=by
 rw [qjr c2 c3] at hl ha
 unfold mvσ at ha
 by_cases e:o=i
 ·rw [zJ e,zJ e] at ha
  rw [zJ e] at hl
  exact⟨n,by rw [zJ e],.inl e,by rw [hn];exact hl,by rw [hn];exact ha⟩
 ·rw [zL e] at hl
  rw [zL e,zL e] at ha
  by_cases hlt:o<n
  ·rw [zJ hlt] at hl ha
   exact⟨o,by rw [zL e],.inr hlt,hl,ha⟩
  ·rw [zL hlt] at hl
   exact hl.elim
theorem qen(hn:getO h n=ob)(c2:i<n)(c3:n+1=h.length){b:Nat}(hb:mutb M0 (mvH i n ob h) (mvσ i n σ) b):mutb M0 h σ b:=by
 rcases hb with hb | ⟨o,hl,ha⟩
 ·exact .inl hb
 ·obtain⟨o',-,-,h1,h2⟩:=qxy hn c2 c3 hl ha
  exact .inr ⟨o',h1,h2⟩
theorem qEr(R:Rep w0 A M0 w h σ)(hn:getO h n=ob)(c2:i<n)(c3:n+1=h.length)(c4:(mvH i n ob h).all (qxv i n)=true):Rep w0 A M0 w (mvH i n ob h) (mvσ i n σ):=by
 have hmem:∀ o us,getO (mvH i n ob h) o=.cells us->qko i n us=true:=fun o us e=>by
  have hlt:=qae (h:=mvH i n ob h) (i:=o) (by rw [e];simp)
  have e2:(mvH i n ob h)[o]=.cells us:=by
   rw [<- e]
   unfold getO
   rw [zK,zW hlt];rfl
  have:=zm.1 c4 _ (zAu hlt)
  rw [e2] at this
  exact this
 have hmemK:∀ o ver p t (y:p.ix.den×V) d,getO (mvH i n ob h) o=.kds ver p t (some y) d->noRef i n y.2=true:=fun o ver p t y d e=>by
  have hlt:=qae (h:=mvH i n ob h) (i:=o) (by rw [e];simp)
  have e2:(mvH i n ob h)[o]=.kds ver p t (some y) d:=by
   rw [<- e]
   unfold getO
   rw [zK,zW hlt];rfl
  have:=zm.1 c4 _ (zAu hlt)
  rw [e2] at this
  exact this
 refine⟨R.fr,R.m0,fun b hb=>?_,fun o o' b h1 h2 h3 h4=>?_,fun o=>?_⟩
 ·obtain⟨o,hl,ha⟩:=hb
  obtain⟨o',-,-,h1,h2⟩:=qxy hn c2 c3 hl ha
  exact R.inA b ⟨o',h1,h2⟩
 ·obtain⟨p,p1,p2,p3,p4⟩:=qxy hn c2 c3 h1 h3
  obtain⟨q,q1,q2,q3,q4⟩:=qxy hn c2 c3 h2 h4
  have:=R.apart p q b p3 q3 p4 q4
  subst this
  split at p1 <;> split at q1 <;> omega
 ·have hg:=qjr (ob:=ob) c2 c3 o
  by_cases e:o=i
  ·rw [zJ e] at hg
   rw [hg]
   have:=R.obj n
   rw [hn] at this
   have hsi:mvσ i n σ o=σ n:=by simp only [mvσ,zJ e]
   rw [hsi]
   cases ob with
   | none=>trivial
   | gone=>trivial
   | cells vs=>
    obtain⟨b,t,cs,h1,h2,h3,h4⟩:=this
    exact⟨b,t,cs,h1,h2,qrD c2 c3 (fun b=>qen hn c2 c3) (hmem o vs hg) h3,h4⟩
   | row fz ver t s xs=>cases fz <;> exact RO.less (M':=mutb M0 (mvH i n _ h) (mvσ i n σ)) (fun b=>qen hn c2 c3) this
   | oth fz q d=>exact RO.less (M':=mutb M0 (mvH i n _ h) (mvσ i n σ)) (fun b=>qen hn c2 c3) this
   | nst ver q d=>exact RO.less (M':=mutb M0 (mvH i n _ h) (mvσ i n σ)) (fun b=>qen hn c2 c3) this
   | kds ver p t h0 d=>exact RK.keeps (qbW fun b=>qen hn c2 c3) (fun y c hy hv=>mv_rv c2 c3 (fun b=>qen hn c2 c3) (hmemK o _ _ _ _ _ (by rw [hg,hy])) hv) (fun _ _ _=>rfl) this
  ·rw [zL e] at hg
   by_cases hlt:o<n
   ·rw [zJ hlt] at hg
    have hσ:mvσ i n σ o=σ o:=by simp only [mvσ,zL e]
    rw [hσ]
    cases eo:getO h o with
    | none=>rw [eo] at hg;rw [hg];trivial
    | cells us=>
     rw [eo] at hg
     rw [hg]
     have:=R.obj o
     rw [eo] at this
     obtain⟨b,t,cs,h1,h2,h3,h4⟩:=this
     exact⟨b,t,cs,h1,h2,qrD c2 c3 (fun b=>qen hn c2 c3) (hmem o us hg) h3,h4⟩
    | row fz ver t s xs=>
     rw [eo] at hg
     rw [hg]
     have:=R.obj o
     rw [eo] at this
     have:=RO.less (M':=mutb M0 (mvH i n ob h) (mvσ i n σ)) (fun b=>qen hn c2 c3) this
     cases fz <;> exact this
    | oth fz q d=>
     rw [eo] at hg
     rw [hg]
     have:=R.obj o
     rw [eo] at this
     exact RO.less (M':=mutb M0 (mvH i n ob h) (mvσ i n σ)) (fun b=>qen hn c2 c3) this
    | nst ver q d=>
     rw [eo] at hg
     rw [hg]
     have:=R.obj o
     rw [eo] at this
     exact RO.less (M':=mutb M0 (mvH i n ob h) (mvσ i n σ)) (fun b=>qen hn c2 c3) this
    | kds ver p t h0 d=>
     rw [eo] at hg
     rw [hg]
     have:=R.obj o
     rw [eo] at this
     exact RK.keeps (qbW fun b=>qen hn c2 c3) (fun y c hy hv=>mv_rv c2 c3 (fun b=>qen hn c2 c3) (hmemK o _ _ _ _ _ (by rw [hg,hy])) hv) (fun _ _ _=>rfl) this
    | gone=>rw [eo] at hg;rw [hg];trivial
   ·rw [zL hlt] at hg
    rw [hg];trivial
theorem Far.mv{fx:List Nat}{fl:Nat}(c1:fl<=i)(c2:i<n)(c3:n+1=h.length)(hn:getO h n=ob):Far fx fl M0 w h σ M0 w (mvH i n ob h) (mvσ i n σ):=by
 refine⟨Goes.refl,qbW fun b=>qen hn c2 c3,fun o ho=>?_⟩
 have hσ:mvσ i n σ o=σ o:=by simp only [mvσ,zL (show o≠i by omega)]
 have hg:getO (mvH i n ob h) o=getO h o:=by rw [qjr c2 c3,zL (by omega),zJ (by omega)]
 rw [hσ,hg]
 cases e:getO h o with
 | none=>trivial
 | cells us=>exact .inl ⟨_,rfl,rfl⟩
 | row fz ver t s xs=>exact fun _=>⟨fz,ver,t,s,xs,rfl,Nat.le_refl _,fun _=>⟨rfl,rfl,rfl⟩⟩
 | oth fz q d=>exact⟨.inl rfl,rfl⟩
 | kds ver p t h0 d=>exact fun _=>KStep.refl ..
 | nst ver q d=>exact .inl ⟨ver,d,rfl,rfl,fun _=>⟨Nat.le_refl _,fun _ _ _ h=>h⟩⟩
 | gone=>exact⟨rfl,rfl⟩
end
end Go.Abs
