import Derived.Test.YtcjecibocjbdmaaBagP
import Derived.Test.YtcjecibocjbdmaaTimesP
import Derived.Test.YtcjecibocjbdmaaAbsMp
namespace Go.His
open Go.Abs Go.Bag
abbrev Dif:=List Int×List Row
def sel(p:List Int->Bool)(h:List Dif):List Row:=h.flatMap fun d=>if p d.1=true then d.2 else []
def rowsAt(h:List Dif)(t:List Int):List Row:=sel (fun u=>decide (u=t)) h
theorem sel_cons(p:List Int->Bool)(d:Dif)(h:List Dif):sel p (d :: h)=(if p d.1=true then d.2 else [])++sel p h:=by unfold sel;rw [List.flatMap_cons]
theorem sel_map(p:List Int->Bool)(g:List Int->List Int)(h:List Dif):sel p (h.map fun d=>(g d.1,d.2))=sel (fun u=>p (g u)) h:=by
 unfold sel;rw [List.flatMap_map]
def less(t:List Int)(h:List Dif):List Dif:=h.filter fun d=>decide (d.1≠t)
theorem less_pos{t:List Int}{d:Dif}{h:List Dif}(q:d.1≠t):less t (d :: h)=d :: less t h:=zBH (by simp [q])
theorem less_neg{t:List Int}{d:Dif}{h:List Dif}(q:d.1=t):less t (d :: h)=less t h:=zBI (by simp [q])
theorem sel_split(p:List Int->Bool)(t:List Int)(h:List Dif)(z:Key):amt (sel p h) z=(if p t=true then amt (rowsAt h t) z else 0)+amt (sel p (less t h)) z:=by
 induction h with
 | nil=>simp [sel,rowsAt,less,amt]
 | cons d h ih=>
  unfold rowsAt at ih ⊢
  rw [sel_cons,amt_append,ih,sel_cons,amt_append]
  by_cases q:d.1=t
  ·rw [less_neg q]
   cases hp:p t <;> simp [q,hp,amt] <;> omega
  ·rw [less_pos q,sel_cons,amt_append]
   simp only [q,decide_false,zn,if_false,amt,Int.zero_add]
   omega
theorem less_rows(t u:List Int)(h:List Dif)(z:Key):amt (rowsAt (less t h) u) z=if u=t then 0 else amt (rowsAt h u) z:=by
 unfold rowsAt
 induction h with
 | nil=>simp [less,sel,amt]
 | cons d h ih=>
  by_cases q:d.1=t
  ·rw [less_neg q,ih,sel_cons,amt_append]
   by_cases hu:u=t
   ·rw [zF hu,zF hu]
   ·rw [zH hu,zH hu,zH (by rw [zI,q];exact fun e=>hu e.symm)];simp [amt]
  ·rw [less_pos q,sel_cons,amt_append,ih,sel_cons,amt_append]
   by_cases hu:u=t
   ·rw [zF hu,zF hu,zH (by rw [zI,hu];exact q)];simp [amt]
   ·rw [zH hu,zH hu]
theorem less_lt{t:List Int}{h:List Dif}:(less t h).length<=h.length:=zAs _ _
theorem sel_cg:∀ (n:Nat) (a b:List Dif),a.length+b.length<=n->∀ (p:List Int->Bool) (z:Key),(∀ t,p t=true->Cg (amt (rowsAt a t) z) (amt (rowsAt b t) z))->Cg (amt (sel p a) z) (amt (sel p b) z)
 | n,[],[],_,p,z,_=>Cg.rfl
 | 0,_ :: _,_,hl,_,_,_=>by simp at hl
 | 0,[],_ :: _,hl,_,_,_=>by simp at hl
 | n+1,d :: a,b,hl,p,z,h=>by
  rw [sel_split p d.1 (d :: a),sel_split p d.1 b]
  refine Cg.add ?_ (sel_cg n _ _ ?_ p z fun t ht=>?_)
  ·split
   ·rename_i hp;exact h _ hp
   ·exact Cg.rfl
  ·rw [less_neg rfl]
   have h1:=less_lt (t:=d.1) (h:=a)
   have h2:=less_lt (t:=d.1) (h:=b)
   simp only [List.length_cons] at hl
   omega
  ·rw [less_rows,less_rows]
   split
   ·exact Cg.rfl
   ·exact h _ ht
 | n+1,[],d :: b,hl,p,z,h=>by
  rw [sel_split p d.1 [],sel_split p d.1 (d :: b)]
  refine Cg.add ?_ (sel_cg n _ _ ?_ p z fun t ht=>?_)
  ·split
   ·rename_i hp;exact h _ hp
   ·exact Cg.rfl
  ·rw [less_neg rfl]
   have h1:=less_lt (t:=d.1) (h:=b)
   have h2:=less_lt (t:=d.1) (h:=[])
   simp only [List.length_cons,List.length_nil] at hl h2
   omega
  ·rw [less_rows,less_rows]
   split
   ·exact Cg.rfl
   ·exact h _ ht
def HEq(a b:List Dif):Prop:=∀ t z,Cg (amt (rowsAt a t) z) (amt (rowsAt b t) z)
theorem HEq.rfl{a:List Dif}:HEq a a:=fun _ _=>Cg.rfl
theorem HEq.symm{a b:List Dif}(h:HEq a b):HEq b a:=fun t z=>(h t z).symm
theorem HEq.trans{a b c:List Dif}(h:HEq a b)(h':HEq b c):HEq a c:=fun t z=>(h t z).trans (h' t z)
theorem HEq.sel{a b:List Dif}(h:HEq a b)(p:List Int->Bool)(z:Key):Cg (amt (sel p a) z) (amt (sel p b) z):=sel_cg _ a b (Nat.le_refl _) p z fun t _=>h t z
theorem HEq.map{a b:List Dif}(h:HEq a b)(g:List Int->List Int):HEq (a.map fun d=>(g d.1,d.2)) (b.map fun d=>(g d.1,d.2)):=fun t z=>by
 unfold rowsAt;rw [sel_map,sel_map];exact h.sel _ z
theorem rowsAt_no{h:List Dif}{t:List Int}(hn:∀ d∈h,d.1≠t):rowsAt h t = []:=by
 unfold rowsAt
 induction h with
 | nil=>rfl
 | cons d h ih=>rw [sel_cons,zH (by simpa using hn d (by simp)),ih fun x hx=>hn x (by simp [hx])];rfl
theorem rowsAt_mem{h:List Dif}(hn:(h.map Prod.fst).Nodup){d:Dif}(hd:d∈h):rowsAt h d.1=d.2:=by
 induction h with
 | nil=>cases hd
 | cons e h ih=>
  simp only [List.map_cons,zT] at hn
  have e1:rowsAt (e :: h) d.1=(if e.1=d.1 then e.2 else [])++rowsAt h d.1:=by unfold rowsAt;rw [sel_cons];simp
  rw [e1]
  rcases zb.1 hd with rfl | hd
  ·rw [zF rfl,rowsAt_no fun x hx e=>hn.1 (zt.2 ⟨x,hx,e⟩),List.append_nil]
  ·rw [zH (fun e=>hn.1 (zt.2 ⟨d,hd,e.symm⟩)),ih hn.2 hd];rfl
structure IsHis (G:List Int->Key->Int) (l:List Dif):Prop where
 rise:l.Pairwise fun a b=>lexc a.1 b.1<0
 bag:∀ d∈l,IsBag (G d.1) d.2
 ne:∀ d∈l,d.2 ≠ []
 rest:∀ t,(∀ d∈l,d.1≠t)->∀ z,Cg (G t z) 0
theorem lexc_irrefl(t:List Int):¬ lexc t t<0:=by rw [lexc_self];omega
theorem IsHis.nd{G:List Int->Key->Int}{l:List Dif}(h:IsHis G l):(l.map Prod.fst).Nodup:=by
 unfold List.Nodup
 rw [zBe]
 exact h.rise.imp fun {a b} hab e=>by rw [e] at hab;exact lexc_irrefl _ hab
theorem IsHis.cg{G G':List Int->Key->Int}{l:List Dif}(h:IsHis G l)(hg:∀ t z,Cg (G t z) (G' t z)):IsHis G' l:=
 ⟨h.rise,fun d hd=>(h.bag d hd).cg (hg d.1),h.ne,fun t ht z=>(hg t z).symm.trans (h.rest t ht z)⟩
theorem IsHis.has{G:List Int->Key->Int}{l:List Dif}(h:IsHis G l)(t:List Int):(∃ d∈l,d.1=t)↔∃ z,¬ Cg (G t z) 0:=by
 constructor
 ·rintro⟨d,hd,rfl⟩
  refine Classical.byContradiction fun hno=>h.ne d hd ((h.bag d hd).nil_iff fun z=>?_)
  exact Classical.byContradiction fun hz=>hno ⟨z,hz⟩
 ·rintro⟨z,hz⟩
  refine Classical.byContradiction fun hno=>hz (h.rest t (fun d hd e=>hno ⟨d,hd,e⟩) z)
theorem IsHis.mem{G:List Int->Key->Int}{l:List Dif}(h:IsHis G l){d:Dif}:d∈l↔IsBag (G d.1) d.2/\d.2 ≠ []:=by
 constructor
 ·exact fun hd=>⟨h.bag d hd,h.ne d hd⟩
 ·rintro⟨h1,h2⟩
  have hz:∃ z,¬ Cg (G d.1 z) 0:=Classical.byContradiction fun hno=>h2 (h1.nil_iff fun z=>Classical.byContradiction fun hz=>hno ⟨z,hz⟩)
  obtain⟨e,he,he1⟩:=(h.has d.1).2 hz
  have hb:=h.bag e he
  rw [he1] at hb
  have:e=d:=Prod.ext he1 (hb.uniq h1)
  exact this▸he
theorem IsHis.uniq{G:List Int->Key->Int}{l m:List Dif}(h:IsHis G l)(h':IsHis G m):l=m:=by
 have nd:∀ {l:List Dif},IsHis G l->l.Nodup:=fun {l} hl=>List.Pairwise.imp (fun {a b} hab e=>by rw [e] at hab;exact lexc_irrefl _ hab) hl.rise
 refine sorted_uniq (r:=fun a b=>lexc a.1 b.1<0) l m (fun a _ b _ h1 h2=>absurd (lexc_trans h1 h2) (lexc_irrefl _)) ?_ h.rise h'.rise
 exact (zBp (nd h) (nd h')).2 fun r=>h.mem.trans h'.mem.symm
theorem IsHis.same{G G':List Int->Key->Int}{l m:List Dif}(h:IsHis G l)(h':IsHis G' m)(hg:∀ t z,Cg (G t z) (G' t z)):l=m:=(h.cg hg).uniq h'
theorem IsHis.rows{G:List Int->Key->Int}{l:List Dif}(h:IsHis G l)(t:List Int)(z:Key):Cg (amt (rowsAt l t) z) (G t z):=by
 by_cases q:∃ d∈l,d.1=t
 ·obtain⟨d,hd,rfl⟩:=q
  rw [rowsAt_mem h.nd hd]
  exact (h.bag d hd).amt_cg z
 ·have hn:∀ d∈l,d.1≠t:=fun d hd e=>q ⟨d,hd,e⟩
  rw [rowsAt_no hn]
  exact (h.rest t hn z).symm
theorem IsHis.times{k l:List Dif}(h:IsHis (fun t=>amt (rowsAt k t)) l):∀ d∈l,∃ e∈k,e.1=d.1:=fun d hd=>by
 refine Classical.byContradiction fun hno=>?_
 obtain⟨z,hz⟩:=(h.has d.1).1 ⟨d,hd,rfl⟩
 refine hz ?_
 have:rowsAt k d.1 = []:=rowsAt_no fun e he he1=>hno ⟨e,he,he1⟩
 show Cg (amt (rowsAt k d.1) z) 0
 rw [this]
 exact Cg.rfl
end Go.His
namespace Go.Abs
section
variable {k v : Sh}
end
end Go.Abs
