import Derived.Test.YtgnnhemoocfclaaGreatDoorAbsConv
namespace Go.Abs
theorem Lf.enc_dec{l:Lf}{d:Dy}{x:l.den}(h:l.dec d=some x):l.enc x=d:=by
 cases l <;> cases d <;> simp only [Lf.dec,zF,reduceCtorEq] at h
 ·subst h;rfl
 ·subst h;rfl
 ·obtain⟨e,h⟩:=qaq h
  cases e;subst h;rfl
 ·obtain⟨e,h⟩:=qaq h
  cases e;subst h;rfl
 ·subst h;rfl
theorem qlP:(l:List Lf) -> {ds:List Dy} -> {s:Tup l}->decT l ds=some s->encT l s=ds
 | [],ds,s,h=>by
  cases ds with
  | nil=>rfl
  | cons d ds=>simp [decT] at h
 | [a],ds,s,h=>by
  cases ds with
  | nil=>simp [decT] at h
  | cons d ds=>
   cases ds with
   | nil=>simp only [decT] at h;simp only [encT,Lf.enc_dec h]
   | cons d' ds=>simp [decT] at h
 | a :: b :: r,ds,s,h=>by
  cases ds with
  | nil=>simp [decT] at h
  | cons d ds=>
   rw [decT] at h
   split at h
   ·cases h
   ·rename_i x hx
    split at h
    ·cases h
    ·rename_i y hy
     cases h
     rw [encT]
     rw [Lf.enc_dec hx,qlP (b :: r) hy]
mutual
theorem qqK:(p:VP) -> {v:V} -> {xs:List Dy}->rdV p v=some xs->∀ r,mkV p (xs++r)=(v,r)
 | .bad,v,xs,h,r=>by cases v <;> simp only [rdV,zF,reduceCtorEq] at h;subst h;rfl
 | .undef,v,xs,h,r=>by cases v <;> simp only [rdV,zF,reduceCtorEq] at h;subst h;rfl
 | .nl k,v,xs,h,r=>by
  cases v <;> simp only [rdV,reduceCtorEq] at h
  obtain⟨h1,h2⟩:=qc h
  cases h2
  rw [zr h1];rfl
 | .ifc ty p,v,xs,h,r=>by
  cases v <;> simp only [rdV,reduceCtorEq] at h
  obtain⟨h1,h2⟩:=qc h
  rw [zB h1]
  simp only [mkV,qqK p h2 r]
 | .nil,v,xs,h,r=>by cases v <;> simp only [rdV,zF,reduceCtorEq] at h;subst h;rfl
 | .int k,v,xs,h,r=>by
  cases v <;> simp only [rdV,reduceCtorEq] at h
  split at h
  ·rename_i e;subst e;cases h;rfl
  ·cases h
 | .bool,v,xs,h,r=>by cases v <;> simp only [rdV,zF,reduceCtorEq] at h;subst h;rfl
 | .sl s,v,xs,h,r=>by
  cases v <;> simp only [rdV,reduceCtorEq] at h
  split at h
  ·rename_i hc
   obtain⟨e,hc⟩:=qaq hc
   cases e;subst hc;cases h;rfl
  ·cases h
 | .fptr s,v,xs,h,r=>by
  cases v <;> simp only [rdV,reduceCtorEq] at h
  split at h
  ·rename_i hc
   obtain⟨e,hc⟩:=qaq hc
   cases e;subst hc;cases h;rfl
  ·cases h
 | .slc o ver,v,xs,h,r=>by
  cases v <;> simp only [rdV,reduceCtorEq] at h
  obtain⟨h1,h2⟩:=qc h
  cases h2
  rw [zA] at h1
  rw [zB h1.1,zB h1.2];rfl
 | .ptr o off,v,xs,h,r=>by
  cases v <;> simp only [rdV,reduceCtorEq] at h
  obtain⟨h1,h2⟩:=qc h
  cases h2
  rw [zA] at h1
  rw [zB h1.1,zB h1.2];rfl
 | .rptr o ver off,v,xs,h,r=>by
  cases v <;> simp only [rdV,reduceCtorEq] at h
  obtain⟨h1,h2⟩:=qc h
  cases h2
  rw [zA,zA] at h1
  rw [zB h1.1,zB h1.2.1,zB h1.2.2];rfl
 | .tl o ver,v,xs,h,r=>by
  cases v <;> simp only [rdV,reduceCtorEq] at h
  obtain⟨h1,h2⟩:=qc h
  cases h2
  rw [zA] at h1
  rw [zB h1.1,zB h1.2];rfl
 | .clo f ps,v,xs,h,r=>by
  cases v <;> simp only [rdV,reduceCtorEq] at h
  obtain⟨h1,h2⟩:=qc h
  rw [zB h1]
  simp only [mkV,qqJ ps h2 r]
 | .agg ps,v,xs,h,r=>by
  cases v <;> simp only [rdV,reduceCtorEq] at h
  simp only [mkV,qqJ ps h r]
 | .tup ps,v,xs,h,r=>by
  cases v <;> simp only [rdV,reduceCtorEq] at h
  simp only [mkV,qqJ ps h r]
theorem qqJ:(ps:List VP) -> {vs:List V} -> {xs:List Dy}->rdVs ps vs=some xs->∀ r,mkVs ps (xs++r)=(vs,r)
 | [],vs,xs,h,r=>by
  cases vs with
  | nil=>simp only [rdVs,zF] at h;subst h;rfl
  | cons _ _=>simp [rdVs] at h
 | p :: ps,vs,xs,h,r=>by
  cases vs with
  | nil=>simp [rdVs] at h
  | cons v vs=>
   simp only [rdVs] at h
   split at h
   ·cases h
   ·rename_i ys hy
    split at h
    ·cases h
    ·rename_i zs hz
     cases h
     simp only [mkVs,zT,qqK p hy,qqJ ps hz]
end
theorem qDY{p:OP}{o:O}{xs:List Dy}(h:rdO p o=some xs)(r:List Dy):mkO p (xs++r)=(o,r):=by
 cases p with
 | none=>cases o <;> simp only [rdO,zF,reduceCtorEq] at h;subst h;rfl
 | cells ps=>
  cases o <;> simp only [rdO,reduceCtorEq] at h
  simp only [mkO,qqJ ps h r]
 | row fz ver e s=>
  cases o <;> simp only [rdO,reduceCtorEq] at h
  obtain⟨h1,h2⟩:=qc h
  rw [zA,zA] at h1
  split at h2
  ·rename_i hc
   obtain⟨es,hc⟩:=qaq hc
   cases es;subst hc;cases h2
   rw [beq_iff_eq.1 h1.1,zB h1.2.1,zB h1.2.2];rfl
  ·cases h2
 | gone=>cases o <;> simp only [rdO,zF,reduceCtorEq] at h;subst h;rfl
 | nst ver q=>
  cases o <;> simp only [rdO,reduceCtorEq] at h
  obtain⟨h1,h2⟩:=qc h
  rw [zA] at h1
  have h3:=zr h1.2
  subst h3
  split at h2
  ·rename_i hc
   obtain⟨es,hc⟩:=qaq hc
   subst hc;cases h2
   rw [zB h1.1]
   simp only [List.cons_append,List.nil_append,mkO,qbu,dif_pos]
  ·cases h2
 | kds ver p t=>
  cases o <;> simp only [rdO,reduceCtorEq] at h
  split at h
  ·cases h
  ·obtain⟨h1,h2⟩:=qc h
   rw [zA,zA] at h1
   have h3:=zr h1.2.1
   have h4:=zr h1.2.2
   subst h3;subst h4
   split at h2
   ·rename_i hc
    obtain⟨es,hc⟩:=qaq hc
    subst hc;cases h2
    rw [zB h1.1]
    simp only [List.cons_append,List.nil_append,mkO,qbu,dif_pos]
   ·cases h2
 | oth fz q=>
  cases o <;> simp only [rdO,reduceCtorEq] at h
  obtain⟨h1,h2⟩:=qc h
  rw [zA] at h1
  have h3:=zr h1.2
  subst h3
  split at h2
  ·rename_i hc
   obtain⟨es,hc⟩:=qaq hc
   subst hc;cases h2
   rw [beq_iff_eq.1 h1.1]
   simp only [List.cons_append,List.nil_append,mkO,qbu,dif_pos]
  ·cases h2
theorem qDX:(ps:List (Nat×VP)) -> {t:Slots} -> {xs:List Dy}->rdT ps t=some xs->∀ r,mkT ps (xs++r)=(t,r)
 | [],t,xs,h,r=>by
  cases t with
  | nil=>simp only [rdT,zF] at h;subst h;rfl
  | cons _ _=>simp [rdT] at h
 | p :: ps,t,xs,h,r=>by
  cases t with
  | nil=>simp [rdT] at h
  | cons u t=>
   simp only [rdT] at h
   obtain⟨h1,h⟩:=qc h
   split at h
   ·cases h
   ·rename_i ys hy
    split at h
    ·cases h
    ·rename_i zs hz
     cases h
     simp only [mkT,zT,qqK p.2 hy,qDX ps hz,zB h1]
theorem qAR:(ps:List OP) -> {h:List O} -> {xs:List Dy}->rdH ps h=some xs->∀ r,mkH ps (xs++r)=(h,r)
 | [],t,xs,h,r=>by
  cases t with
  | nil=>simp only [rdH,zF] at h;subst h;rfl
  | cons _ _=>simp [rdH] at h
 | p :: ps,t,xs,h,r=>by
  cases t with
  | nil=>simp [rdH] at h
  | cons u t=>
   simp only [rdH] at h
   split at h
   ·cases h
   ·rename_i ys hy
    split at h
    ·cases h
    ·rename_i zs hz
     cases h
     simp only [mkH,zT,qDY hy,qAR ps hz]
theorem qxH{vs:List Nat}:(ds:List Dy)->(i:Nat)->mixL vs ds.length i (selL vs false i ds) (selL vs true i ds)=ds
 | [],_=>rfl
 | d :: ds,i=>by
  simp only [List.length_cons,mixL,selL]
  cases memN vs i with
  | true=>simp only [cond_true,zAk,show (true==false)=false from rfl,cond_false,qxH ds]
  | false=>simp only [cond_false,zAk,show (false==true)=false from rfl,cond_true,qxH ds]
theorem qDZ{P:Pat}{t:Slots}{h:List O}{ds:List Dy}(hd:rdD P t h=some ds):mkD2 P ds=(t,h):=by
 unfold rdD at hd
 split at hd
 ·cases hd
 ·rename_i xs hx
  split at hd
  ·cases hd
  ·rename_i ys hy
   cases hd
   have:=qAR P.o hy []
   rw [List.append_nil] at this
   simp only [mkD2,qDX P.t hx,this]
theorem qou{P:Pat}{vs:List Nat}{t:Slots}{h:List O}{s:P.C vs×P.S vs}(hr:rdSt P vs t h=some s):mkSt P vs s=(t,h):=by
 unfold rdSt at hr
 split at hr
 ·cases hr
 ·rename_i ds hd
  split at hr
  ·cases hr
  ·rename_i c hc
   split at hr
   ·cases hr
   ·rename_i u hu
    obtain⟨hl,hr⟩:=qc hr
    cases hr
    simp only [mkSt,qlP _ hc,qlP _ hu,<- zB hl,qxH,qDZ hd]
theorem qFs{P:Pat}{t:Slots}{h:List O}{s:Tup P.lf}(hr:rdJ P t h=some s):mkJ P s=(t,h):=by
 unfold rdJ at hr
 split at hr
 ·cases hr
 ·rename_i ds hd
  simp only [mkJ,qlP _ hr,qDZ hd]
section
variable {R C S : Type}
theorem qK(c:C)(kn:S->Option R)(s:S):backE c kn (c,s)=kn s:=by unfold backE;exact zH rfl
theorem qtG{c:C}{kn:S->Option R}{x:C×S}{r:R}(h:backE c kn x=some r):x.1=c/\kn x.2=some r:=by
 classical
 unfold backE at h
 by_cases e:x.1=c
 ·rw [zH e] at h;exact⟨e,h⟩
 ·rw [zJ e] at h;cases h
end
end Go.Abs
