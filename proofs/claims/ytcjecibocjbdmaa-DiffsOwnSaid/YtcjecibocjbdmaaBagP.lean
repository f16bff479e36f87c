import Derived.Test.YtcjecibocjbdmaaAbsOrd
import Derived.Test.YtcjecibocjbdmaaAbsSort
namespace Go.Bag
open Go.Abs
abbrev Row:=Int×Int×Int
abbrev Key:=Int×Int
def ky(r:Row):Key:=(r.1,r.2.1)
def w(n:Int):Int:=IntKind.i64.wrap n
theorem w_def(n:Int):w n=(n+9223372036854775808) % 18446744073709551616 - 9223372036854775808:=by
 unfold w
 rw [IntKind.wrap_i64]
 try omega
def Cg(a b:Int):Prop:=w a=w b
theorem cg_iff{a b:Int}:Cg a b↔∃ t,a=b+18446744073709551616*t:=by
 unfold Cg
 rw [w_def,w_def]
 constructor
 ·intro h
  refine⟨(a+9223372036854775808) / 18446744073709551616 - (b+9223372036854775808) / 18446744073709551616,?_⟩
  omega
 ·rintro⟨t,rfl⟩
  omega
theorem Cg.rfl{a:Int}:Cg a a:=Eq.refl _
theorem Cg.symm{a b:Int}(h:Cg a b):Cg b a:=Eq.symm h
theorem Cg.trans{a b c:Int}(h:Cg a b)(h':Cg b c):Cg a c:=Eq.trans h h'
theorem Cg.of_eq{a b:Int}(h:a=b):Cg a b:=h▸Cg.rfl
theorem cg_w(a:Int):Cg (w a) a:=by
 rw [cg_iff]
 rw [w_def]
 exact⟨-((a+9223372036854775808) / 18446744073709551616),by omega⟩
theorem Cg.add{a b c d:Int}(h:Cg a b)(h':Cg c d):Cg (a+c) (b+d):=by
 obtain⟨t,rfl⟩:=cg_iff.1 h
 obtain⟨u,rfl⟩:=cg_iff.1 h'
 exact cg_iff.2 ⟨t+u,by rw [Int.mul_add];omega⟩
theorem Cg.mul{a b c d:Int}(h:Cg a b)(h':Cg c d):Cg (a*c) (b*d):=by
 obtain⟨t,rfl⟩:=cg_iff.1 h
 obtain⟨u,rfl⟩:=cg_iff.1 h'
 refine cg_iff.2 ⟨t*d+b*u+t*(18446744073709551616*u),?_⟩
 simp only [Int.add_mul,Int.mul_add,Int.mul_assoc,Int.mul_left_comm b 18446744073709551616 u,Int.mul_left_comm t 18446744073709551616 u]
 omega
theorem w_eq{a b:Int}(h:Cg a b):w a=w b:=h
theorem w_zero:w 0=0:=by decide
def amt:List Row->Key->Int
 | [],_=>0
 | r :: l,e=>(if ky r=e then r.2.2 else 0)+amt l e
def tot:List Row->Int
 | []=>0
 | r :: l=>r.2.2+tot l
theorem amt_append(a b:List Row)(e:Key):amt (a++b) e=amt a e+amt b e:=by
 induction a with
 | nil=>simp [amt]
 | cons r a ih=>simp only [List.cons_append,amt,ih];omega
theorem tot_append(a b:List Row):tot (a++b)=tot a+tot b:=by
 induction a with
 | nil=>simp [tot]
 | cons r a ih=>simp only [List.cons_append,tot,ih];omega
theorem amt_perm{a b:List Row}(h:a.Perm b)(e:Key):amt a e=amt b e:=by
 induction h with
 | nil=>rfl
 | cons x _ ih=>simp only [amt,ih]
 | swap x y l=>simp only [amt];omega
 | trans _ _ ih1 ih2=>rw [ih1,ih2]
theorem amt_filter_ne(l:List Row)(k e:Key):amt (l.filter fun r=>decide (ky r≠k)) e=if e=k then 0 else amt l e:=by
 induction l with
 | nil=>simp [amt]
 | cons r l ih=>
  by_cases h:ky r=k
  ·rw [zAQ (by simp [h]),ih]
   by_cases he:e=k
   ·rw [zG he,zG he]
   ·rw [zJ he,zJ he];simp only [amt];rw [zJ (by rw [h];exact fun h=>he h.symm)];omega
  ·rw [zAT (by simp [h])]
   simp only [amt,ih]
   by_cases he:e=k
   ·rw [zG he,zG he,zJ (by rw [he];exact h)];omega
   ·rw [zJ he,zJ he]
theorem tot_filter(l:List Row)(k:Key):tot l=amt l k+tot (l.filter fun r=>decide (ky r≠k)):=by
 induction l with
 | nil=>simp [amt,tot]
 | cons r l ih=>
  by_cases h:ky r=k
  ·rw [zAQ (by simp [h])];simp only [amt,tot,zG h];omega
  ·rw [zAT (by simp [h])];simp only [amt,tot,zJ h];omega
theorem tot_zero:∀ n (l:List Row),l.length<=n->(∀ e,Cg (amt l e) 0)->Cg (tot l) 0
 | 0,l,hl,_=>by
  have:l = []:=zV (by omega)
  subst this;exact Cg.rfl
 | n+1,[],_,_=>Cg.rfl
 | n+1,r :: l,hl,h=>by
  rw [tot_filter (r :: l) (ky r)]
  have h1:=h (ky r)
  have h2:Cg (tot ((r :: l).filter fun s=>decide (ky s≠ky r))) 0:=by
   refine tot_zero n _ ?_ fun e=>?_
   ·rw [zAQ (by simp)]
    have:=zAb (fun s=>decide (ky s≠ky r)) l
    simp only [List.length_cons] at hl
    omega
   ·rw [amt_filter_ne]
    by_cases he:e=ky r
    ·rw [zG he];exact Cg.rfl
    ·rw [zJ he];exact h e
  simpa using h1.add h2
def negR(l:List Row):List Row:=l.map fun r=>(r.1,r.2.1,-r.2.2)
theorem amt_neg(l:List Row)(e:Key):amt (negR l) e = -amt l e:=by
 induction l with
 | nil=>simp [negR,amt]
 | cons r l ih=>
  have:ky (r.1,r.2.1,-r.2.2)=ky r:=rfl
  simp only [negR,List.map_cons,amt,this] at ih ⊢
  rw [ih]
  split <;> omega
theorem tot_neg(l:List Row):tot (negR l) = -tot l:=by
 induction l with
 | nil=>simp [negR,tot]
 | cons r l ih=>
  simp only [negR,List.map_cons,tot] at ih ⊢
  rw [ih];omega
theorem tot_cg{a b:List Row}(h:∀ e,Cg (amt a e) (amt b e)):Cg (tot a) (tot b):=by
 have h1:=tot_zero _ (a++negR b) (Nat.le_refl _) fun e=>by
  rw [amt_append,amt_neg]
  have:=(h e).add (Cg.rfl (a:=-amt b e))
  rwa [Int.add_right_neg] at this
 rw [tot_append,tot_neg] at h1
 have h2:=h1.add (Cg.rfl (a:=tot b))
 rw [Int.zero_add,show tot a + -tot b+tot b=tot a by omega] at h2
 exact h2
def rlt(a b:Row):Prop:=a.1<b.1\/(a.1=b.1/\a.2.1<b.2.1)
instance (a b:Row):Decidable (rlt a b):=by unfold rlt;infer_instance
theorem rlt_irrefl(a:Row):¬ rlt a a:=by unfold rlt;omega
theorem rlt_trans{a b c:Row}(h:rlt a b)(h':rlt b c):rlt a c:=by unfold rlt at *;omega
theorem rlt_total{a b:Row}(h:¬ rlt a b)(h':¬ rlt b a):ky a=ky b:=by
 unfold rlt at *
 unfold ky
 exact Prod.ext (by simp only;omega) (by simp only;omega)
theorem rlt_ne{a b:Row}(h:rlt a b):ky a≠ky b:=fun e=>by
 unfold ky at e
 unfold rlt at h
 simp only [zL] at e
 omega
theorem amt_notin{l:List Row}{e:Key}(h:∀ r∈l,ky r≠e):amt l e=0:=by
 induction l with
 | nil=>rfl
 | cons r l ih=>
  simp only [amt]
  rw [zJ (h r (by simp)),ih fun s hs=>h s (by simp [hs])];rfl
theorem amt_mem{l:List Row}(hn:(l.map ky).Nodup){r:Row}(hr:r∈l):amt l (ky r)=r.2.2:=by
 induction l with
 | nil=>cases hr
 | cons s l ih=>
  simp only [List.map_cons,zT] at hn
  simp only [amt]
  rcases zf.1 hr with rfl | hr
  ·rw [zG rfl,amt_notin fun s hs e=>hn.1 (zi.2 ⟨s,hs,e⟩)];omega
  ·rw [zJ (fun e=>hn.1 (zi.2 ⟨r,hr,e.symm⟩)),ih hn.2 hr];omega
theorem rise_nodup{l:List Row}(h:l.Pairwise rlt):(l.map ky).Nodup:=by
 unfold List.Nodup
 rw [zAq]
 exact h.imp fun h=>rlt_ne h
structure IsBag (f:Key->Int) (l:List Row):Prop where
 rise:l.Pairwise rlt
 nz:∀ r∈l,r.2.2≠0
 val:∀ e,amt l e=w (f e)
theorem IsBag.cg{f g:Key->Int}{l:List Row}(h:IsBag f l)(hg:∀ e,Cg (f e) (g e)):IsBag g l:=⟨h.rise,h.nz,fun e=>(h.val e).trans (hg e)⟩
theorem IsBag.mem{f:Key->Int}{l:List Row}(h:IsBag f l){r:Row}:r∈l↔r.2.2≠0/\w (f (ky r))=r.2.2:=by
 constructor
 ·intro hr
  exact⟨h.nz r hr,by rw [<- h.val,amt_mem (rise_nodup h.rise) hr]⟩
 ·rintro⟨h1,h2⟩
  refine Classical.byContradiction fun hno=>?_
  by_cases hk:∃ s∈l,ky s=ky r
  ·obtain⟨s,hs,e⟩:=hk
   have:=amt_mem (rise_nodup h.rise) hs
   rw [e,h.val,h2] at this
   have e':s=r:=by
    unfold ky at e
    simp only [zL] at e
    exact Prod.ext e.1 (Prod.ext e.2 this.symm)
   exact hno (e'▸hs)
  ·have:=amt_notin (l:=l) (e:=ky r) fun s hs e=>hk ⟨s,hs,e⟩
   rw [h.val,h2] at this
   exact h1 this
theorem IsBag.uniq{f:Key->Int}{l m:List Row}(h:IsBag f l)(h':IsBag f m):l=m:=by
 have nd:∀ {l:List Row},l.Pairwise rlt->l.Nodup:=fun {l} hp=>List.Pairwise.imp (fun {a b} (h:rlt a b) (e:a=b)=>rlt_irrefl b (by rw [e] at h;exact h)) hp
 refine sorted_uniq (r:=fun a b=>rlt a b) l m (fun a _ b _ h1 h2=>absurd (rlt_trans h1 h2) (rlt_irrefl a)) ?_ h.rise h'.rise
 exact (zBv (nd h.rise) (nd h'.rise)).2 fun r=>h.mem.trans h'.mem.symm
theorem IsBag.same{f g:Key->Int}{l m:List Row}(h:IsBag f l)(h':IsBag g m)(hg:∀ e,Cg (f e) (g e)):l=m:=(h.cg hg).uniq h'
theorem IsBag.amt_cg{f:Key->Int}{l:List Row}(h:IsBag f l)(e:Key):Cg (amt l e) (f e):=by rw [h.val];exact cg_w _
theorem IsBag.nil_iff{f:Key->Int}{l:List Row}(h:IsBag f l)(hf:∀ e,Cg (f e) 0):l = []:=by
 cases l with
 | nil=>rfl
 | cons r l=>
  obtain⟨h1,h2⟩:=h.mem.1 (zAM ..)
  rw [hf (ky r),w_zero] at h2
  exact absurd h2.symm h1
theorem keys_le:∀ (n:Nat) (m:List Row),m.length<=n->∀ (ks:List Key),ks.Nodup->(∀ e∈ks,∃ r∈m,ky r=e)->ks.length<=m.length
 | 0,m,hm,ks,_,h=>by
  have:m = []:=zV (by omega)
  subst this
  cases ks with
  | nil=>exact Nat.le_refl _
  | cons e ks=>obtain⟨r,hr,-⟩:=h e (by simp);cases hr
 | n+1,[],_,ks,_,h=>by
  cases ks with
  | nil=>exact Nat.le_refl _
  | cons e ks=>obtain⟨r,hr,-⟩:=h e (by simp);cases hr
 | n+1,r :: m,hm,ks,hn,h=>by
  have h1:=keys_le n m (by simp at hm;omega) (ks.filter fun e=>decide (e≠ky r)) (hn.sublist List.filter_sublist) fun e he=>by
   simp only [zr,zK] at he
   obtain⟨s,hs,e1⟩:=h e he.1
   rcases zf.1 hs with rfl | hs
   ·exact absurd e1.symm he.2
   ·exact⟨s,hs,e1⟩
  have h2:ks.length<=(ks.filter fun e=>decide (e≠ky r)).length+1:=by
   have key:∀ ks:List Key,ks.Nodup->ks.length<=(ks.filter fun e=>decide (e≠ky r)).length+1:=by
    intro ks
    induction ks with
    | nil=>intro _;simp
    | cons e ks ih=>
     intro hn
     rw [zT] at hn
     by_cases q:e=ky r
     ·rw [zAQ (by simp [q])]
      have:ks.filter (fun e=>decide (e≠ky r))=ks:=zAP.2 fun x hx=>by
       rw [zK];exact fun e1=>hn.1 (by rw [q,<- e1];exact hx)
      rw [this];simp
     ·rw [zAT (by simp [q])]
      have:=ih hn.2
      simp only [List.length_cons];omega
   exact key ks hn
  simp only [List.length_cons];omega
theorem IsBag.len_le'{f:Key->Int}{l m:List Row}(h:IsBag f l)(hm:∀ e,(∀ r∈m,ky r≠e)->Cg (f e) 0):l.length<=m.length:=by
 have:=keys_le m.length m (Nat.le_refl _) (l.map ky) (rise_nodup h.rise) fun e he=>by
  obtain⟨r,hr,rfl⟩:=zi.1 he
  refine Classical.byContradiction fun hno=>?_
  have h0:=hm (ky r) fun s hs e=>hno ⟨s,hs,e⟩
  obtain⟨h1,h2⟩:=h.mem.1 hr
  rw [w_eq h0,w_zero] at h2
  exact h1 h2.symm
 simpa using this
theorem IsBag.len_le{f:Key->Int}{l m:List Row}(h:IsBag f l)(hm:∀ e,Cg (f e) (amt m e)):l.length<=m.length:=
 h.len_le' fun e he=>(hm e).trans (.of_eq (amt_notin he))
def Tld(F:Key->Int)(lim:Prop)(out:List Row)(c:Int):Prop:=(c=0/\out.length<=128/\¬ lim/\IsBag F out)\/(c=1/\out = []/\(lim\/∃ l,IsBag F l/\128<l.length))
theorem Tld.ok{F:Key->Int}{lim:Prop}{out:List Row}{c:Int}(h:Tld F lim out c)(hc:c=0):out.length<=128/\¬ lim/\IsBag F out:=by
 rcases h with h | h
 ·exact h.2
 ·omega
theorem Tld.is0{F:Key->Int}{lim:Prop}{out:List Row}{c:Int}(h:Tld F lim out c)(hl:¬ lim){m:List Row}(hm:m.length<=128)(hF:∀ e,(∀ r∈m,ky r≠e)->Cg (F e) 0):c=0:=by
 rcases h with h | ⟨-,-,h | ⟨l,h1,h2⟩⟩
 ·exact h.1
 ·exact absurd h hl
 ·have:=h1.len_le' hF;omega
theorem Tld.same{F G:Key->Int}{lim lim':Prop}{out out':List Row}{c c':Int}(h:Tld F lim out c)(h':Tld G lim' out' c')(hg:∀ e,Cg (F e) (G e))(hl:lim↔lim'):out=out'/\c=c':=by
 rcases h with⟨c0,h1,h2,h3⟩ | ⟨c1,h1,h2⟩
 ·rcases h' with⟨c0',h1',h2',h3'⟩ | ⟨c1',h1',h2'⟩
  ·exact⟨h3.same h3' hg,by omega⟩
  ·rcases h2' with h2' | ⟨l,p1,p2⟩
   ·exact absurd (hl.2 h2') h2
   ·have:=h3.same p1 hg;subst this;omega
 ·rcases h' with⟨c0',h1',h2',h3'⟩ | ⟨c1',h1',h2'⟩
  ·rcases h2 with h2 | ⟨l,p1,p2⟩
   ·exact absurd (hl.1 h2) h2'
   ·have:=p1.same h3' hg;subst this;omega
  ·exact⟨by rw [h1,h1'],by omega⟩
end Go.Bag
