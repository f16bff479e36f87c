import Derived.Test.YtcjecibocjbdmaaBagP
import Derived.Test.YtcjecibocjbdmaaTimesP
import Derived.Test.YtcjecibocjbdmaaAbsMp
namespace Go.His
open Go.Abs Go.Bag
abbrev Dif:=List Int×List Row
def sel(p:List Int->Bool)(h:List Dif):List Row:=h.flatMap fun d=>if p d.1=true then d.2 else []
def rowsAt(h:List Dif)(t:List Int):List Row:=sel (fun u=>decide (u=t)) h
theorem sel_cons(p:List Int->Bool)(d:Dif)(h:List Dif):sel p (d :: h)=(if p d.1=true then d.2 else [])++sel p h:=by unfold sel;rw [List.flatMap_cons]
theorem sel_app(p:List Int->Bool)(h k:List Dif):sel p (h++k)=sel p h++sel p k:=by unfold sel;rw [List.flatMap_append]
theorem sel_snoc(p:List Int->Bool)(h:List Dif)(d:Dif):sel p (h ++ [d])=sel p h++if p d.1=true then d.2 else []:=by rw [sel_app];unfold sel;simp
theorem sel_map(p:List Int->Bool)(g:List Int->List Int)(h:List Dif):sel p (h.map fun d=>(g d.1,d.2))=sel (fun u=>p (g u)) h:=by
 unfold sel;rw [List.flatMap_map]
def less(t:List Int)(h:List Dif):List Dif:=h.filter fun d=>decide (d.1≠t)
theorem less_pos{t:List Int}{d:Dif}{h:List Dif}(q:d.1≠t):less t (d :: h)=d :: less t h:=zAT (by simp [q])
theorem less_neg{t:List Int}{d:Dif}{h:List Dif}(q:d.1=t):less t (d :: h)=less t h:=zAQ (by simp [q])
theorem sel_split(p:List Int->Bool)(t:List Int)(h:List Dif)(z:Key):amt (sel p h) z=(if p t=true then amt (rowsAt h t) z else 0)+amt (sel p (less t h)) z:=by
 induction h with
 | nil=>simp [sel,rowsAt,less,amt]
 | cons d h ih=>
  unfold rowsAt at ih ⊢
  rw [sel_cons,amt_append,ih,sel_cons,amt_append]
  by_cases q:d.1=t
  ·rw [less_neg q]
   cases hp:p t <;> simp [q,hp,amt] <;> omega
  ·rw [less_pos q,sel_cons,amt_append]
   simp only [q,decide_false,zu,if_false,amt,Int.zero_add]
   omega
theorem less_rows(t u:List Int)(h:List Dif)(z:Key):amt (rowsAt (less t h) u) z=if u=t then 0 else amt (rowsAt h u) z:=by
 unfold rowsAt
 induction h with
 | nil=>simp [less,sel,amt]
 | cons d h ih=>
  by_cases q:d.1=t
  ·rw [less_neg q,ih,sel_cons,amt_append]
   by_cases hu:u=t
   ·rw [zG hu,zG hu]
   ·rw [zJ hu,zJ hu,zJ (by rw [zK,q];exact fun e=>hu e.symm)];simp [amt]
  ·rw [less_pos q,sel_cons,amt_append,ih,sel_cons,amt_append]
   by_cases hu:u=t
   ·rw [zG hu,zG hu,zJ (by rw [zK,hu];exact q)];simp [amt]
   ·rw [zJ hu,zJ hu]
theorem less_lt{t:List Int}{h:List Dif}:(less t h).length<=h.length:=zAb _ _
theorem sel_cg:∀ (n:Nat) (a b:List Dif),a.length+b.length<=n->∀ (p:List Int->Bool) (z:Key),(∀ t,p t=true->Cg (amt (rowsAt a t) z) (amt (rowsAt b t) z))->Cg (amt (sel p a) z) (amt (sel p b) z)
 | n,[],[],_,p,z,_=>Cg.rfl
 | 0,_ :: _,_,hl,_,_,_=>by simp at hl
 | 0,[],_ :: _,hl,_,_,_=>by simp at hl
 | n+1,d :: a,b,hl,p,z,h=>by
  rw [sel_split p d.1 (d :: a),sel_split p d.1 b]
  refine Cg.add ?_ (sel_cg n _ _ ?_ p z fun t ht=>?_)
  ·split
   ·rename_i hp;exact h _ hp
   ·exact Cg.rfl
  ·rw [less_neg rfl]
   have h1:=less_lt (t:=d.1) (h:=a)
   have h2:=less_lt (t:=d.1) (h:=b)
   simp only [List.length_cons] at hl
   omega
  ·rw [less_rows,less_rows]
   split
   ·exact Cg.rfl
   ·exact h _ ht
 | n+1,[],d :: b,hl,p,z,h=>by
  rw [sel_split p d.1 [],sel_split p d.1 (d :: b)]
  refine Cg.add ?_ (sel_cg n _ _ ?_ p z fun t ht=>?_)
  ·split
   ·rename_i hp;exact h _ hp
   ·exact Cg.rfl
  ·rw [less_neg rfl]
   have h1:=less_lt (t:=d.1) (h:=b)
   have h2:=less_lt (t:=d.1) (h:=[])
   simp only [List.length_cons,List.length_nil] at hl h2
   omega
  ·rw [less_rows,less_rows]
   split
   ·exact Cg.rfl
   ·exact h _ ht
def HEq(a b:List Dif):Prop:=∀ t z,Cg (amt (rowsAt a t) z) (amt (rowsAt b t) z)
theorem HEq.rfl{a:List Dif}:HEq a a:=fun _ _=>Cg.rfl
theorem HEq.symm{a b:List Dif}(h:HEq a b):HEq b a:=fun t z=>(h t z).symm
theorem HEq.trans{a b c:List Dif}(h:HEq a b)(h':HEq b c):HEq a c:=fun t z=>(h t z).trans (h' t z)
theorem HEq.sel{a b:List Dif}(h:HEq a b)(p:List Int->Bool)(z:Key):Cg (amt (sel p a) z) (amt (sel p b) z):=sel_cg _ a b (Nat.le_refl _) p z fun t _=>h t z
theorem HEq.map{a b:List Dif}(h:HEq a b)(g:List Int->List Int):HEq (a.map fun d=>(g d.1,d.2)) (b.map fun d=>(g d.1,d.2)):=fun t z=>by
 unfold rowsAt;rw [sel_map,sel_map];exact h.sel _ z
def tots(h:List Dif):Int:=tot (sel (fun _=>true) h)
theorem tots_snoc(h:List Dif)(d:Dif):tots (h ++ [d])=tots h+tot d.2:=by unfold tots;rw [sel_snoc,zG rfl,tot_append]
theorem HEq.tots{a b:List Dif}(h:HEq a b):Cg (tots a) (tots b):=tot_cg fun z=>h.sel _ z
theorem rowsAt_no{h:List Dif}{t:List Int}(hn:∀ d∈h,d.1≠t):rowsAt h t = []:=by
 unfold rowsAt
 induction h with
 | nil=>rfl
 | cons d h ih=>rw [sel_cons,zJ (by simpa using hn d (by simp)),ih fun x hx=>hn x (by simp [hx])];rfl
theorem rowsAt_mem{h:List Dif}(hn:(h.map Prod.fst).Nodup){d:Dif}(hd:d∈h):rowsAt h d.1=d.2:=by
 induction h with
 | nil=>cases hd
 | cons e h ih=>
  simp only [List.map_cons,zT] at hn
  have e1:rowsAt (e :: h) d.1=(if e.1=d.1 then e.2 else [])++rowsAt h d.1:=by unfold rowsAt;rw [sel_cons];simp
  rw [e1]
  rcases zf.1 hd with rfl | hd
  ·rw [zG rfl,rowsAt_no fun x hx e=>hn.1 (zi.2 ⟨x,hx,e⟩),List.append_nil]
  ·rw [zJ (fun e=>hn.1 (zi.2 ⟨d,hd,e.symm⟩)),ih hn.2 hd];rfl
structure IsHis (G:List Int->Key->Int) (l:List Dif):Prop where
 rise:l.Pairwise fun a b=>lexc a.1 b.1<0
 bag:∀ d∈l,IsBag (G d.1) d.2
 ne:∀ d∈l,d.2 ≠ []
 rest:∀ t,(∀ d∈l,d.1≠t)->∀ z,Cg (G t z) 0
theorem lexc_irrefl(t:List Int):¬ lexc t t<0:=by rw [lexc_self];omega
theorem IsHis.nd{G:List Int->Key->Int}{l:List Dif}(h:IsHis G l):(l.map Prod.fst).Nodup:=by
 unfold List.Nodup
 rw [zAq]
 exact h.rise.imp fun {a b} hab e=>by rw [e] at hab;exact lexc_irrefl _ hab
theorem IsHis.cg{G G':List Int->Key->Int}{l:List Dif}(h:IsHis G l)(hg:∀ t z,Cg (G t z) (G' t z)):IsHis G' l:=
 ⟨h.rise,fun d hd=>(h.bag d hd).cg (hg d.1),h.ne,fun t ht z=>(hg t z).symm.trans (h.rest t ht z)⟩
theorem IsHis.has{G:List Int->Key->Int}{l:List Dif}(h:IsHis G l)(t:List Int):(∃ d∈l,d.1=t)↔∃ z,¬ Cg (G t z) 0:=by
 constructor
 ·rintro⟨d,hd,rfl⟩
  refine Classical.byContradiction fun hno=>h.ne d hd ((h.bag d hd).nil_iff fun z=>?_)
  exact Classical.byContradiction fun hz=>hno ⟨z,hz⟩
 ·rintro⟨z,hz⟩
  refine Classical.byContradiction fun hno=>hz (h.rest t (fun d hd e=>hno ⟨d,hd,e⟩) z)
theorem IsHis.mem{G:List Int->Key->Int}{l:List Dif}(h:IsHis G l){d:Dif}:d∈l↔IsBag (G d.1) d.2/\d.2 ≠ []:=by
 constructor
 ·exact fun hd=>⟨h.bag d hd,h.ne d hd⟩
 ·rintro⟨h1,h2⟩
  have hz:∃ z,¬ Cg (G d.1 z) 0:=Classical.byContradiction fun hno=>h2 (h1.nil_iff fun z=>Classical.byContradiction fun hz=>hno ⟨z,hz⟩)
  obtain⟨e,he,he1⟩:=(h.has d.1).2 hz
  have hb:=h.bag e he
  rw [he1] at hb
  have:e=d:=Prod.ext he1 (hb.uniq h1)
  exact this▸he
theorem IsHis.uniq{G:List Int->Key->Int}{l m:List Dif}(h:IsHis G l)(h':IsHis G m):l=m:=by
 have nd:∀ {l:List Dif},IsHis G l->l.Nodup:=fun {l} hl=>List.Pairwise.imp (fun {a b} hab e=>by rw [e] at hab;exact lexc_irrefl _ hab) hl.rise
 refine sorted_uniq (r:=fun a b=>lexc a.1 b.1<0) l m (fun a _ b _ h1 h2=>absurd (lexc_trans h1 h2) (lexc_irrefl _)) ?_ h.rise h'.rise
 exact (zBv (nd h) (nd h')).2 fun r=>h.mem.trans h'.mem.symm
theorem IsHis.same{G G':List Int->Key->Int}{l m:List Dif}(h:IsHis G l)(h':IsHis G' m)(hg:∀ t z,Cg (G t z) (G' t z)):l=m:=(h.cg hg).uniq h'
theorem IsHis.rows{G:List Int->Key->Int}{l:List Dif}(h:IsHis G l)(t:List Int)(z:Key):Cg (amt (rowsAt l t) z) (G t z):=by
 by_cases q:∃ d∈l,d.1=t
 ·obtain⟨d,hd,rfl⟩:=q
  rw [rowsAt_mem h.nd hd]
  exact (h.bag d hd).amt_cg z
 ·have hn:∀ d∈l,d.1≠t:=fun d hd e=>q ⟨d,hd,e⟩
  rw [rowsAt_no hn]
  exact (h.rest t hn z).symm
theorem IsHis.self{G:List Int->Key->Int}{l:List Dif}(h:IsHis G l):IsHis (fun t=>amt (rowsAt l t)) l:=h.cg fun t z=>(h.rows t z).symm
theorem sub_len{α:Type} [DecidableEq α]:∀ {a b:List α},a.Nodup->(∀ x∈a,x∈b)->a.length<=b.length
 | [],_,_,_=>zw _
 | x :: a,b,hn,h=>by
  rw [zT] at hn
  have h1:=sub_len (a:=a) (b:=b.erase x) hn.2 fun y hy=>by
   have hne:y≠x:=fun e=>hn.1 (e▸hy)
   exact (List.mem_erase_of_ne hne).2 (h y (by simp [hy]))
  have hx:x∈b:=h x (by simp)
  have h2:=List.length_erase_of_mem hx
  have h3:=zBU hx
  simp only [List.length_cons]
  omega
theorem IsHis.times{k l:List Dif}(h:IsHis (fun t=>amt (rowsAt k t)) l):∀ d∈l,∃ e∈k,e.1=d.1:=fun d hd=>by
 refine Classical.byContradiction fun hno=>?_
 obtain⟨z,hz⟩:=(h.has d.1).1 ⟨d,hd,rfl⟩
 refine hz ?_
 have:rowsAt k d.1 = []:=rowsAt_no fun e he he1=>hno ⟨e,he,he1⟩
 show Cg (amt (rowsAt k d.1) z) 0
 rw [this]
 exact Cg.rfl
theorem IsHis.len_le{k l:List Dif}(h:IsHis (fun t=>amt (rowsAt k t)) l):l.length<=k.length:=by
 have:=sub_len (a:=l.map Prod.fst) (b:=k.map Prod.fst) h.nd fun t ht=>by
  obtain⟨d,hd,rfl⟩:=zi.1 ht
  obtain⟨e,he,he1⟩:=h.times d hd
  exact zi.2 ⟨e,he,he1⟩
 simpa using this
end Go.His
namespace Go.Abs
section
variable {k v : Sh}
theorem kid_get{x:k.den}:(es:Ents k v) -> {e:Int×(k.den×v.den)}->entOf k v x es=some e->kidL k v es (ixL k v x es)=e.2.2
 | [],_,h=>by cases h
 | f :: r,e,h=>by
  simp only [entOf] at h
  simp only [ixL]
  cases q:eqD k x f.2.1 with
  | true=>rw [q] at h;cases h;rfl
  | false=>rw [q] at h;exact kid_get r h
theorem put_kid{x:k.den}(y:v.den):(es:Ents k v) -> {e:Int×(k.den×v.den)}->entOf k v x es=some e->putL k v es (ixL k v x es) y=turnL k v x (fun _=>y) es
 | [],_,h=>by cases h
 | f :: r,e,h=>by
  simp only [entOf] at h
  simp only [ixL,turnL]
  cases q:eqD k x f.2.1 with
  | true=>rfl
  | false=>rw [q] at h;simp only [cond_false,putL];rw [put_kid y r h]
theorem mp_kid{d:Mp k v}{x:k.den}(h:mpHas k v d x=true):kidL k v d.2 (ixL k v x d.2)=mpGet k v d x:=by
 unfold mpHas at h
 unfold mpGet
 cases q:entOf k v x d.2 with
 | none=>rw [q] at h;cases h
 | some e=>exact kid_get _ q
theorem mp_putL{d:Mp k v}{x:k.den}(h:mpHas k v d x=true)(y:v.den):(d.1,putL k v d.2 (ixL k v x d.2) y)=mpPut k v d x y:=by
 have h':=h
 unfold mpHas at h'
 unfold mpPut
 rw [h,cond_true]
 cases q:entOf k v x d.2 with
 | none=>rw [q] at h';cases h'
 | some e=>rw [put_kid y _ q]
def sumE(f:v.den->Nat)(es:Ents k v):Nat:=(es.map fun e=>f e.2.2).sum
theorem sum_turn{x:k.den}(f:v.den->Nat)(y:v.den):(es:Ents k v) -> {e:Int×(k.den×v.den)}->entOf k v x es=some e->sumE f (turnL k v x (fun _=>y) es)+f e.2.2=sumE f es+f y
 | [],_,h=>by cases h
 | g :: r,e,h=>by
  simp only [entOf] at h
  simp only [turnL]
  cases q:eqD k x g.2.1 with
  | true=>rw [q] at h;cases h;simp [sumE];omega
  | false=>
   rw [q] at h
   have:=sum_turn f y r h
   simp only [cond_false,sumE,List.map_cons,zBG] at this ⊢
   omega
theorem sum_put{d:Mp k v}{x:k.den}(h:mpHas k v d x=true)(f:v.den->Nat)(y:v.den):sumE f (mpPut k v d x y).2+f (mpGet k v d x)=sumE f d.2+f y:=by
 have h':=h
 unfold mpHas at h'
 unfold mpPut mpGet
 rw [h,cond_true]
 cases q:entOf k v x d.2 with
 | none=>rw [q] at h';cases h'
 | some e=>exact sum_turn f y _ q
theorem sum_new{d:Mp k v}{x:k.den}(h:mpHas k v d x=false)(f:v.den->Nat)(y:v.den):sumE f (mpPut k v d x y).2=sumE f d.2+f y:=by
 unfold mpPut
 rw [h,cond_false]
 simp [sumE]
theorem put_len_has{d:Mp k v}{x:k.den}(h:mpHas k v d x=true)(y:v.den):(mpPut k v d x y).2.length=d.2.length:=by
 have:=congrArg List.length (turn_keys (k:=k) (v:=v) (x:=x) (fun _=>y) d.2).2
 simp only [zAO] at this
 unfold mpPut
 rw [h,cond_true]
 exact this
theorem le_sumE(f:v.den->Nat){es:Ents k v}{e:Int×(k.den×v.den)}(he:e∈es):f e.2.2<=sumE f es:=by
 induction es with
 | nil=>cases he
 | cons g es ih=>
  simp only [sumE,List.map_cons,zBG] at ih ⊢
  rcases zf.1 he with rfl | he
  ·omega
  ·have:=ih he;omega
end
end Go.Abs
