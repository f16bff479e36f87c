import Derived.Test.YtcjecibocjbdmaaAbsConv
namespace Go.Abs
theorem Lf.enc_dec{l:Lf}{d:Dy}{x:l.den}(h:l.dec d=some x):l.enc x=d:=by
 cases l <;> cases d <;> simp only [Lf.dec,zC,reduceCtorEq] at h
 ·subst h;rfl
 ·subst h;rfl
 ·obtain⟨e,h⟩:=qE h
  cases e;subst h;rfl
 ·obtain⟨e,h⟩:=qE h
  cases e;subst h;rfl
 ·subst h;rfl
theorem qdg:(l:List Lf) -> {ds:List Dy} -> {s:Tup l}->decT l ds=some s->encT l s=ds
 | [],ds,s,h=>by
  cases ds with
  | nil=>rfl
  | cons d ds=>simp [decT] at h
 | [a],ds,s,h=>by
  cases ds with
  | nil=>simp [decT] at h
  | cons d ds=>
   cases ds with
   | nil=>simp only [decT] at h;simp only [encT,Lf.enc_dec h]
   | cons d' ds=>simp [decT] at h
 | a :: b :: r,ds,s,h=>by
  cases ds with
  | nil=>simp [decT] at h
  | cons d ds=>
   rw [decT] at h
   split at h
   ·cases h
   ·rename_i x hx
    split at h
    ·cases h
    ·rename_i y hy
     cases h
     rw [encT]
     rw [Lf.enc_dec hx,qdg (b :: r) hy]
mutual
theorem qfv:(p:VP) -> {v:V} -> {xs:List Dy}->rdV p v=some xs->∀ r,mkV p (xs++r)=(v,r)
 | .bad,v,xs,h,r=>by cases v <;> simp only [rdV,zC,reduceCtorEq] at h;subst h;rfl
 | .undef,v,xs,h,r=>by cases v <;> simp only [rdV,zC,reduceCtorEq] at h;subst h;rfl
 | .nl k,v,xs,h,r=>by
  cases v <;> simp only [rdV,reduceCtorEq] at h
  obtain⟨h1,h2⟩:=qc h
  cases h2
  rw [zp h1];rfl
 | .ifc ty p,v,xs,h,r=>by
  cases v <;> simp only [rdV,reduceCtorEq] at h
  obtain⟨h1,h2⟩:=qc h
  rw [zA h1]
  simp only [mkV,qfv p h2 r]
 | .nil,v,xs,h,r=>by cases v <;> simp only [rdV,zC,reduceCtorEq] at h;subst h;rfl
 | .int k,v,xs,h,r=>by
  cases v <;> simp only [rdV,reduceCtorEq] at h
  split at h
  ·rename_i e;subst e;cases h;rfl
  ·cases h
 | .bool,v,xs,h,r=>by cases v <;> simp only [rdV,zC,reduceCtorEq] at h;subst h;rfl
 | .sl s,v,xs,h,r=>by
  cases v <;> simp only [rdV,reduceCtorEq] at h
  split at h
  ·rename_i hc
   obtain⟨e,hc⟩:=qE hc
   cases e;subst hc;cases h;rfl
  ·cases h
 | .fptr s,v,xs,h,r=>by
  cases v <;> simp only [rdV,reduceCtorEq] at h
  split at h
  ·rename_i hc
   obtain⟨e,hc⟩:=qE hc
   cases e;subst hc;cases h;rfl
  ·cases h
 | .slc o ver,v,xs,h,r=>by
  cases v <;> simp only [rdV,reduceCtorEq] at h
  obtain⟨h1,h2⟩:=qc h
  cases h2
  rw [zB] at h1
  rw [zA h1.1,zA h1.2];rfl
 | .ptr o off,v,xs,h,r=>by
  cases v <;> simp only [rdV,reduceCtorEq] at h
  obtain⟨h1,h2⟩:=qc h
  cases h2
  rw [zB] at h1
  rw [zA h1.1,zA h1.2];rfl
 | .rptr o ver off,v,xs,h,r=>by
  cases v <;> simp only [rdV,reduceCtorEq] at h
  obtain⟨h1,h2⟩:=qc h
  cases h2
  rw [zB,zB] at h1
  rw [zA h1.1,zA h1.2.1,zA h1.2.2];rfl
 | .tl o ver,v,xs,h,r=>by
  cases v <;> simp only [rdV,reduceCtorEq] at h
  obtain⟨h1,h2⟩:=qc h
  cases h2
  rw [zB] at h1
  rw [zA h1.1,zA h1.2];rfl
 | .clo f ps,v,xs,h,r=>by
  cases v <;> simp only [rdV,reduceCtorEq] at h
  obtain⟨h1,h2⟩:=qc h
  rw [zA h1]
  simp only [mkV,qfu ps h2 r]
 | .agg ps,v,xs,h,r=>by
  cases v <;> simp only [rdV,reduceCtorEq] at h
  simp only [mkV,qfu ps h r]
 | .tup ps,v,xs,h,r=>by
  cases v <;> simp only [rdV,reduceCtorEq] at h
  simp only [mkV,qfu ps h r]
theorem qfu:(ps:List VP) -> {vs:List V} -> {xs:List Dy}->rdVs ps vs=some xs->∀ r,mkVs ps (xs++r)=(vs,r)
 | [],vs,xs,h,r=>by
  cases vs with
  | nil=>simp only [rdVs,zC] at h;subst h;rfl
  | cons _ _=>simp [rdVs] at h
 | p :: ps,vs,xs,h,r=>by
  cases vs with
  | nil=>simp [rdVs] at h
  | cons v vs=>
   simp only [rdVs] at h
   split at h
   ·cases h
   ·rename_i ys hy
    split at h
    ·cases h
    ·rename_i zs hz
     cases h
     simp only [mkVs,zN,qfv p hy,qfu ps hz]
end
theorem qop{p:OP}{o:O}{xs:List Dy}(h:rdO p o=some xs)(r:List Dy):mkO p (xs++r)=(o,r):=by
 cases p with
 | none=>cases o <;> simp only [rdO,zC,reduceCtorEq] at h;subst h;rfl
 | cells ps=>
  cases o <;> simp only [rdO,reduceCtorEq] at h
  simp only [mkO,qfu ps h r]
 | row fz ver e s=>
  cases o <;> simp only [rdO,reduceCtorEq] at h
  obtain⟨h1,h2⟩:=qc h
  rw [zB,zB] at h1
  split at h2
  ·rename_i hc
   obtain⟨es,hc⟩:=qE hc
   cases es;subst hc;cases h2
   rw [beq_iff_eq.1 h1.1,zA h1.2.1,zA h1.2.2];rfl
  ·cases h2
 | gone=>cases o <;> simp only [rdO,zC,reduceCtorEq] at h;subst h;rfl
 | nst ver q=>
  cases o <;> simp only [rdO,reduceCtorEq] at h
  obtain⟨h1,h2⟩:=qc h
  rw [zB] at h1
  have h3:=zp h1.2
  subst h3
  split at h2
  ·rename_i hc
   obtain⟨es,hc⟩:=qE hc
   subst hc;cases h2
   rw [zA h1.1]
   simp only [List.cons_append,List.nil_append,mkO,qN,dif_pos]
  ·cases h2
 | kds ver p t=>
  cases o <;> simp only [rdO,reduceCtorEq] at h
  split at h
  ·cases h
  ·obtain⟨h1,h2⟩:=qc h
   rw [zB,zB] at h1
   have h3:=zp h1.2.1
   have h4:=zp h1.2.2
   subst h3;subst h4
   split at h2
   ·rename_i hc
    obtain⟨es,hc⟩:=qE hc
    subst hc;cases h2
    rw [zA h1.1]
    simp only [List.cons_append,List.nil_append,mkO,qN,dif_pos]
   ·cases h2
 | oth fz q=>
  cases o <;> simp only [rdO,reduceCtorEq] at h
  obtain⟨h1,h2⟩:=qc h
  rw [zB] at h1
  have h3:=zp h1.2
  subst h3
  split at h2
  ·rename_i hc
   obtain⟨es,hc⟩:=qE hc
   subst hc;cases h2
   rw [beq_iff_eq.1 h1.1]
   simp only [List.cons_append,List.nil_append,mkO,qN,dif_pos]
  ·cases h2
theorem qoo:(ps:List (Nat×VP)) -> {t:Slots} -> {xs:List Dy}->rdT ps t=some xs->∀ r,mkT ps (xs++r)=(t,r)
 | [],t,xs,h,r=>by
  cases t with
  | nil=>simp only [rdT,zC] at h;subst h;rfl
  | cons _ _=>simp [rdT] at h
 | p :: ps,t,xs,h,r=>by
  cases t with
  | nil=>simp [rdT] at h
  | cons u t=>
   simp only [rdT] at h
   obtain⟨h1,h⟩:=qc h
   split at h
   ·cases h
   ·rename_i ys hy
    split at h
    ·cases h
    ·rename_i zs hz
     cases h
     simp only [mkT,zN,qfv p.2 hy,qoo ps hz,zA h1]
theorem qmu:(ps:List OP) -> {h:List O} -> {xs:List Dy}->rdH ps h=some xs->∀ r,mkH ps (xs++r)=(h,r)
 | [],t,xs,h,r=>by
  cases t with
  | nil=>simp only [rdH,zC] at h;subst h;rfl
  | cons _ _=>simp [rdH] at h
 | p :: ps,t,xs,h,r=>by
  cases t with
  | nil=>simp [rdH] at h
  | cons u t=>
   simp only [rdH] at h
   split at h
   ·cases h
   ·rename_i ys hy
    split at h
    ·cases h
    ·rename_i zs hz
     cases h
     simp only [mkH,zN,qop hy,qmu ps hz]
theorem qkf{vs:List Nat}:(ds:List Dy)->(i:Nat)->mixL vs ds.length i (selL vs false i ds) (selL vs true i ds)=ds
 | [],_=>rfl
 | d :: ds,i=>by
  simp only [List.length_cons,mixL,selL]
  cases memN vs i with
  | true=>simp only [cond_true,zAf,show (true==false)=false from rfl,cond_false,qkf ds]
  | false=>simp only [cond_false,zAf,show (false==true)=false from rfl,cond_true,qkf ds]
theorem qoq{P:Pat}{t:Slots}{h:List O}{ds:List Dy}(hd:rdD P t h=some ds):mkD2 P ds=(t,h):=by
 unfold rdD at hd
 split at hd
 ·cases hd
 ·rename_i xs hx
  split at hd
  ·cases hd
  ·rename_i ys hy
   cases hd
   have:=qmu P.o hy []
   rw [List.append_nil] at this
   simp only [mkD2,qoo P.t hx,this]
theorem qem{P:Pat}{vs:List Nat}{t:Slots}{h:List O}{s:P.C vs×P.S vs}(hr:rdSt P vs t h=some s):mkSt P vs s=(t,h):=by
 unfold rdSt at hr
 split at hr
 ·cases hr
 ·rename_i ds hd
  split at hr
  ·cases hr
  ·rename_i c hc
   split at hr
   ·cases hr
   ·rename_i u hu
    obtain⟨hl,hr⟩:=qc hr
    cases hr
    simp only [mkSt,qdg _ hc,qdg _ hu,<- zA hl,qkf,qoq hd]
theorem qpb{P:Pat}{t:Slots}{h:List O}{s:Tup P.lf}(hr:rdJ P t h=some s):mkJ P s=(t,h):=by
 unfold rdJ at hr
 split at hr
 ·cases hr
 ·rename_i ds hd
  simp only [mkJ,qdg _ hr,qoq hd]
section
variable {R C S : Type}
theorem qbK(c:C)(kn:S->Option R)(s:S):backE c kn (c,s)=kn s:=by unfold backE;exact zG rfl
theorem qhv{c:C}{kn:S->Option R}{x:C×S}{r:R}(h:backE c kn x=some r):x.1=c/\kn x.2=some r:=by
 classical
 unfold backE at h
 by_cases e:x.1=c
 ·rw [zG e] at h;exact⟨e,h⟩
 ·rw [zP e] at h;cases h
end
end Go.Abs
