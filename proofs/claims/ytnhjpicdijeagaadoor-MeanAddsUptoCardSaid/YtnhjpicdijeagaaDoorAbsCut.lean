import Derived.Test.YtnhjpicdijeagaaDoorAbsConv
namespace Go.Abs
theorem Lf.enc_dec{l:Lf}{d:Dy}{x:l.den}(h:l.dec d=some x):l.enc x=d:=by
 cases l <;> cases d <;> simp only [Lf.dec,zD,reduceCtorEq] at h
 ·subst h;rfl
 ·subst h;rfl
 ·obtain⟨e,h⟩:=qau h
  cases e;subst h;rfl
 ·obtain⟨e,h⟩:=qau h
  cases e;subst h;rfl
 ·subst h;rfl
theorem qkb:(l:List Lf) -> {ds:List Dy} -> {s:Tup l}->decT l ds=some s->encT l s=ds
 | [],ds,s,h=>by
  cases ds with
  | nil=>rfl
  | cons d ds=>simp [decT] at h
 | [a],ds,s,h=>by
  cases ds with
  | nil=>simp [decT] at h
  | cons d ds=>
   cases ds with
   | nil=>simp only [decT] at h;simp only [encT,Lf.enc_dec h]
   | cons d' ds=>simp [decT] at h
 | a :: b :: r,ds,s,h=>by
  cases ds with
  | nil=>simp [decT] at h
  | cons d ds=>
   rw [decT] at h
   split at h
   ·cases h
   ·rename_i x hx
    split at h
    ·cases h
    ·rename_i y hy
     cases h
     rw [encT]
     rw [Lf.enc_dec hx,qkb (b :: r) hy]
mutual
theorem qph:(p:VP) -> {v:V} -> {xs:List Dy}->rdV p v=some xs->∀ r,mkV p (xs++r)=(v,r)
 | .bad,v,xs,h,r=>by cases v <;> simp only [rdV,zD,reduceCtorEq] at h;subst h;rfl
 | .undef,v,xs,h,r=>by cases v <;> simp only [rdV,zD,reduceCtorEq] at h;subst h;rfl
 | .nl k,v,xs,h,r=>by
  cases v <;> simp only [rdV,reduceCtorEq] at h
  obtain⟨h1,h2⟩:=qc h
  cases h2
  rw [zV h1];rfl
 | .ifc ty p,v,xs,h,r=>by
  cases v <;> simp only [rdV,reduceCtorEq] at h
  obtain⟨h1,h2⟩:=qc h
  rw [zB h1]
  simp only [mkV,qph p h2 r]
 | .nil,v,xs,h,r=>by cases v <;> simp only [rdV,zD,reduceCtorEq] at h;subst h;rfl
 | .int k,v,xs,h,r=>by
  cases v <;> simp only [rdV,reduceCtorEq] at h
  split at h
  ·rename_i e;subst e;cases h;rfl
  ·cases h
 | .bool,v,xs,h,r=>by cases v <;> simp only [rdV,zD,reduceCtorEq] at h;subst h;rfl
 | .sl s,v,xs,h,r=>by
  cases v <;> simp only [rdV,reduceCtorEq] at h
  split at h
  ·rename_i hc
   obtain⟨e,hc⟩:=qau hc
   cases e;subst hc;cases h;rfl
  ·cases h
 | .fptr s,v,xs,h,r=>by
  cases v <;> simp only [rdV,reduceCtorEq] at h
  split at h
  ·rename_i hc
   obtain⟨e,hc⟩:=qau hc
   cases e;subst hc;cases h;rfl
  ·cases h
 | .slc o ver,v,xs,h,r=>by
  cases v <;> simp only [rdV,reduceCtorEq] at h
  obtain⟨h1,h2⟩:=qc h
  cases h2
  rw [zA] at h1
  rw [zB h1.1,zB h1.2];rfl
 | .ptr o off,v,xs,h,r=>by
  cases v <;> simp only [rdV,reduceCtorEq] at h
  obtain⟨h1,h2⟩:=qc h
  cases h2
  rw [zA] at h1
  rw [zB h1.1,zB h1.2];rfl
 | .rptr o ver off,v,xs,h,r=>by
  cases v <;> simp only [rdV,reduceCtorEq] at h
  obtain⟨h1,h2⟩:=qc h
  cases h2
  rw [zA,zA] at h1
  rw [zB h1.1,zB h1.2.1,zB h1.2.2];rfl
 | .tl o ver,v,xs,h,r=>by
  cases v <;> simp only [rdV,reduceCtorEq] at h
  obtain⟨h1,h2⟩:=qc h
  cases h2
  rw [zA] at h1
  rw [zB h1.1,zB h1.2];rfl
 | .clo f ps,v,xs,h,r=>by
  cases v <;> simp only [rdV,reduceCtorEq] at h
  obtain⟨h1,h2⟩:=qc h
  rw [zB h1]
  simp only [mkV,qpg ps h2 r]
 | .agg ps,v,xs,h,r=>by
  cases v <;> simp only [rdV,reduceCtorEq] at h
  simp only [mkV,qpg ps h r]
 | .tup ps,v,xs,h,r=>by
  cases v <;> simp only [rdV,reduceCtorEq] at h
  simp only [mkV,qpg ps h r]
theorem qpg:(ps:List VP) -> {vs:List V} -> {xs:List Dy}->rdVs ps vs=some xs->∀ r,mkVs ps (xs++r)=(vs,r)
 | [],vs,xs,h,r=>by
  cases vs with
  | nil=>simp only [rdVs,zD] at h;subst h;rfl
  | cons _ _=>simp [rdVs] at h
 | p :: ps,vs,xs,h,r=>by
  cases vs with
  | nil=>simp [rdVs] at h
  | cons v vs=>
   simp only [rdVs] at h
   split at h
   ·cases h
   ·rename_i ys hy
    split at h
    ·cases h
    ·rename_i zs hz
     cases h
     simp only [mkVs,zj,qph p hy,qpg ps hz]
end
theorem qCT{p:OP}{o:O}{xs:List Dy}(h:rdO p o=some xs)(r:List Dy):mkO p (xs++r)=(o,r):=by
 cases p with
 | none=>cases o <;> simp only [rdO,zD,reduceCtorEq] at h;subst h;rfl
 | cells ps=>
  cases o <;> simp only [rdO,reduceCtorEq] at h
  simp only [mkO,qpg ps h r]
 | row fz ver e s=>
  cases o <;> simp only [rdO,reduceCtorEq] at h
  obtain⟨h1,h2⟩:=qc h
  rw [zA,zA] at h1
  split at h2
  ·rename_i hc
   obtain⟨es,hc⟩:=qau hc
   cases es;subst hc;cases h2
   rw [beq_iff_eq.1 h1.1,zB h1.2.1,zB h1.2.2];rfl
  ·cases h2
 | gone=>cases o <;> simp only [rdO,zD,reduceCtorEq] at h;subst h;rfl
 | nst ver q=>
  cases o <;> simp only [rdO,reduceCtorEq] at h
  obtain⟨h1,h2⟩:=qc h
  rw [zA] at h1
  have h3:=zV h1.2
  subst h3
  split at h2
  ·rename_i hc
   obtain⟨es,hc⟩:=qau hc
   subst hc;cases h2
   rw [zB h1.1]
   simp only [List.cons_append,List.nil_append,mkO,qbn,dif_pos]
  ·cases h2
 | kds ver p t=>
  cases o <;> simp only [rdO,reduceCtorEq] at h
  split at h
  ·cases h
  ·obtain⟨h1,h2⟩:=qc h
   rw [zA,zA] at h1
   have h3:=zV h1.2.1
   have h4:=zV h1.2.2
   subst h3;subst h4
   split at h2
   ·rename_i hc
    obtain⟨es,hc⟩:=qau hc
    subst hc;cases h2
    rw [zB h1.1]
    simp only [List.cons_append,List.nil_append,mkO,qbn,dif_pos]
   ·cases h2
 | oth fz q=>
  cases o <;> simp only [rdO,reduceCtorEq] at h
  obtain⟨h1,h2⟩:=qc h
  rw [zA] at h1
  have h3:=zV h1.2
  subst h3
  split at h2
  ·rename_i hc
   obtain⟨es,hc⟩:=qau hc
   subst hc;cases h2
   rw [beq_iff_eq.1 h1.1]
   simp only [List.cons_append,List.nil_append,mkO,qbn,dif_pos]
  ·cases h2
theorem qCS:(ps:List (Nat×VP)) -> {t:Slots} -> {xs:List Dy}->rdT ps t=some xs->∀ r,mkT ps (xs++r)=(t,r)
 | [],t,xs,h,r=>by
  cases t with
  | nil=>simp only [rdT,zD] at h;subst h;rfl
  | cons _ _=>simp [rdT] at h
 | p :: ps,t,xs,h,r=>by
  cases t with
  | nil=>simp [rdT] at h
  | cons u t=>
   simp only [rdT] at h
   obtain⟨h1,h⟩:=qc h
   split at h
   ·cases h
   ·rename_i ys hy
    split at h
    ·cases h
    ·rename_i zs hz
     cases h
     simp only [mkT,zj,qph p.2 hy,qCS ps hz,zB h1]
theorem qzw:(ps:List OP) -> {h:List O} -> {xs:List Dy}->rdH ps h=some xs->∀ r,mkH ps (xs++r)=(h,r)
 | [],t,xs,h,r=>by
  cases t with
  | nil=>simp only [rdH,zD] at h;subst h;rfl
  | cons _ _=>simp [rdH] at h
 | p :: ps,t,xs,h,r=>by
  cases t with
  | nil=>simp [rdH] at h
  | cons u t=>
   simp only [rdH] at h
   split at h
   ·cases h
   ·rename_i ys hy
    split at h
    ·cases h
    ·rename_i zs hz
     cases h
     simp only [mkH,zj,qCT hy,qzw ps hz]
theorem qwg{vs:List Nat}:(ds:List Dy)->(i:Nat)->mixL vs ds.length i (selL vs false i ds) (selL vs true i ds)=ds
 | [],_=>rfl
 | d :: ds,i=>by
  simp only [List.length_cons,mixL,selL]
  cases memN vs i with
  | true=>simp only [cond_true,zAZ,show (true==false)=false from rfl,cond_false,qwg ds]
  | false=>simp only [cond_false,zAZ,show (false==true)=false from rfl,cond_true,qwg ds]
theorem qCU{P:Pat}{t:Slots}{h:List O}{ds:List Dy}(hd:rdD P t h=some ds):mkD2 P ds=(t,h):=by
 unfold rdD at hd
 split at hd
 ·cases hd
 ·rename_i xs hx
  split at hd
  ·cases hd
  ·rename_i ys hy
   cases hd
   have:=qzw P.o hy []
   rw [List.append_nil] at this
   simp only [mkD2,qCS P.t hx,this]
theorem qmJ{P:Pat}{vs:List Nat}{t:Slots}{h:List O}{s:P.C vs×P.S vs}(hr:rdSt P vs t h=some s):mkSt P vs s=(t,h):=by
 unfold rdSt at hr
 split at hr
 ·cases hr
 ·rename_i ds hd
  split at hr
  ·cases hr
  ·rename_i c hc
   split at hr
   ·cases hr
   ·rename_i u hu
    obtain⟨hl,hr⟩:=qc hr
    cases hr
    simp only [mkSt,qkb _ hc,qkb _ hu,<- zB hl,qwg,qCU hd]
theorem qEq{P:Pat}{t:Slots}{h:List O}{s:Tup P.lf}(hr:rdJ P t h=some s):mkJ P s=(t,h):=by
 unfold rdJ at hr
 split at hr
 ·cases hr
 ·rename_i ds hd
  simp only [mkJ,qkb _ hr,qCU hd]
section
variable {R C S : Type}
theorem qaq(c:C)(kn:S->Option R)(s:S):backE c kn (c,s)=kn s:=by unfold backE;exact zJ rfl
theorem qsf{c:C}{kn:S->Option R}{x:C×S}{r:R}(h:backE c kn x=some r):x.1=c/\kn x.2=some r:=by
 classical
 unfold backE at h
 by_cases e:x.1=c
 ·rw [zJ e] at h;exact⟨e,h⟩
 ·rw [zL e] at h;cases h
end
end Go.Abs
