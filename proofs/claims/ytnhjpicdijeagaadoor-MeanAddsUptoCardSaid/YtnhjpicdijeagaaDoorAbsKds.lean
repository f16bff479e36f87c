import Derived.Test.YtnhjpicdijeagaaDoorAbsNst
namespace Go.Abs
open Go.RowKit
open Go.ChangeMaps (setBlock)
section
variable {P : Program} {t : TypeId} {k v : Sh} {w : World} {M : Nat -> Prop}
structure KE (w:World) (M:Nat->Prop) (k:Sh) {α:Type} (x:Int×(k.den×α)) (e:MapEntry):Prop where
 born:(e.born:Int)=x.1
 key:RV w M [] σ0 (enc k x.2.1) e.key
theorem KE.kD{α:Type}{x:Int×(k.den×α)}{e:MapEntry}(h:KE w M k x e):Dat w M k x.2.1 e.key:=qxc h.key
theorem qnS{w' w1:World}{M':Nat->Prop}(hk:keyOk P t k=true){x:k.den}{a:Value}(ha:Dat w1 M' k x a):(xs:Ents k v)->(es:List MapEntry)->(i:Nat)->KKs w M k xs es ->
  ((Instr.findAsking t a es i).run P w'=.ok none w'/\entOf k v x xs=none)\/∃ j e y,(Instr.findAsking t a es i).run P w'=.ok (some (i+j,e.val)) w'/\es[j]? = some e/\KE w M k y e/\At1 k v x xs j y
 | [],es,i,h=>by obtain rfl:es = []:=h;exact .inl ⟨by simp [Instr.findAsking],rfl⟩
 | y :: xs,es,i,h=>by
  obtain⟨e,r,rfl,g1,g2,h2⟩:=h
  have h1:KE w M k y e:=⟨g1,g2⟩
  have he:=qpI (w:=w') hk ha h1.kD
  cases q:eqD k x y.2.1 with
  | true=>
   rw [q] at he
   exact .inr ⟨0,e,y,by simp [Instr.findAsking,he],rfl,h1,⟨rfl,q,fun i z hi _=>by omega⟩⟩
  | false=>
   rw [q] at he
   rcases qnS (w':=w') hk ha xs r (i+1) h2 with⟨r1,r2⟩ | ⟨j,e',y',r1,r2,r3,r4⟩
   ·exact .inl ⟨by simp [Instr.findAsking,he,r1],by simp only [entOf,q,cond_false];exact r2⟩
   ·refine .inr ⟨j+1,e',y',by simp [Instr.findAsking,he,r1,zAF,zBO 1 j],by simpa using r2,r3,⟨by simpa using r4.here,r4.eq,fun i' z hi hz=>?_⟩⟩
    cases i' with
    | zero=>simp at hz;subst hz;exact q
    | succ i'=>exact r4.ahead i' z (by omega) (by simpa using hz)
theorem quO{w1:World}{M':Nat->Prop}{d:TypeDesc}(hsame:∀ (y:k.den) (b:Value),Dat w M k y b->∀ (x:k.den) (a:Value),Dat w1 M' k x a->Instr.sameNow d a b=some (eqD k x y)){x:k.den}{a:Value}(ha:Dat w1 M' k x a) :
  (xs:Ents k v)->(es:List MapEntry)->(i:Nat)->KKs w M k xs es ->
  (Instr.findNow d a es i=some none/\entOf k v x xs=none)\/∃ j e y,Instr.findNow d a es i=some (some (i+j,e.val))/\es[j]? = some e/\KE w M k y e/\At1 k v x xs j y
 | [],es,i,h=>by obtain rfl:es = []:=h;exact .inl ⟨by simp [Instr.findNow],rfl⟩
 | y :: xs,es,i,h=>by
  obtain⟨e,r,rfl,g1,g2,h2⟩:=h
  have h1:KE w M k y e:=⟨g1,g2⟩
  have he:=hsame y.2.1 e.key h1.kD x a ha
  cases q:eqD k x y.2.1 with
  | true=>
   rw [q] at he
   exact .inr ⟨0,e,y,by simp [Instr.findNow,he],rfl,h1,⟨rfl,q,fun i z hi _=>by omega⟩⟩
  | false=>
   rw [q] at he
   rcases quO hsame ha xs r (i+1) h2 with⟨r1,r2⟩ | ⟨j,e',y',r1,r2,r3,r4⟩
   ·exact .inl ⟨by simp [Instr.findNow,he,r1],by simp only [entOf,q,cond_false];exact r2⟩
   ·refine .inr ⟨j+1,e',y',by simp [Instr.findNow,he,r1,zAF,zBO 1 j],by simpa using r2,r3,⟨by simpa using r4.here,r4.eq,fun i' z hi hz=>?_⟩⟩
    cases i' with
    | zero=>simp at hz;subst hz;exact q
    | succ i'=>exact r4.ahead i' z (by omega) (by simpa using hz)
theorem qlP{w' w1:World}{M':Nat->Prop}(hk:keyOk P t k=true){x:k.den}{a:Value}(ha:Dat w1 M' k x a){xs:Ents k v}{es:List MapEntry}(h:KKs w M k xs es) :
  ((Instr.findKey t a es).run P w'=.ok none w'/\entOf k v x xs=none)\/∃ j e y,(Instr.findKey t a es).run P w'=.ok (some (j,e.val)) w'/\es[j]? = some e/\KE w M k y e/\At1 k v x xs j y:=by
 rcases qsX (w:=w) (M:=M) (w1:=w1) (M':=M') hk with⟨fs,hu⟩ | ⟨d,hd,hsame⟩
 ·rw [run_findKey_eq w' (by rw [hu])]
  simpa using qnS (w':=w') hk ha xs es 0 h
 ·rcases quO hsame ha xs es 0 h with⟨r1,r2⟩ | ⟨j,e,y,r1,r2,r3,r4⟩
  ·exact .inl ⟨MapKept.run_findKey hd r1,r2⟩
  ·refine .inr ⟨j,e,y,?_,r2,r3,r4⟩
   have:=MapKept.run_findKey (P:=P) (w:=w') hd r1
   simpa using this
theorem KKs.length{α:Type}:{xs:List (Int×(k.den×α))} -> {es:List MapEntry}->KKs w M k xs es->xs.length=es.length
 | [],es,h=>by obtain rfl:es = []:=h;rfl
 | _ :: _,_,h=>by
  obtain⟨e,r,rfl,_,_,h⟩:=h
  simp [KKs.length h]
theorem KKs.set{α:Type}:{xs:List (Int×(k.den×α))} -> {es:List MapEntry}->KKs w M k xs es -> {j:Nat} -> {x:Int×(k.den×α)} -> {e:MapEntry}->KE w M k x e->KKs w M k (xs.set j x) (es.set j e)
 | [],es,h,j,x,e,_=>by obtain rfl:es = []:=h;exact rfl
 | _ :: _,_,h,j,x,e,hx=>by
  obtain⟨e',r,rfl,h1,h2,h⟩:=h
  cases j with
  | zero=>exact⟨e,r,rfl,hx.born,hx.key,h⟩
  | succ j=>exact⟨e',_,rfl,h1,h2,KKs.set h hx⟩
theorem KKs.push{α:Type}:{xs:List (Int×(k.den×α))} -> {es:List MapEntry}->KKs w M k xs es -> {x:Int×(k.den×α)} -> {e:MapEntry}->KE w M k x e->KKs w M k (xs ++ [x]) (es ++ [e])
 | [],es,h,x,e,hx=>by obtain rfl:es = []:=h;exact⟨e,[],rfl,hx.born,hx.key,rfl⟩
 | _ :: _,_,h,x,e,hx=>by
  obtain⟨e',r,rfl,h1,h2,h⟩:=h
  exact⟨e',_,rfl,h1,h2,KKs.push h hx⟩
end
section
variable {w : World} {M : Nat -> Prop} {t : Kt}
theorem KVs.length:{xs:List t.sh.den} -> {vs:List Value} -> {hl:Option Nat} -> {bs:List Nat}->KVs w M t xs vs hl bs->xs.length=vs.length
 | [],_,_,_,h=>by obtain⟨rfl,_⟩:=h;rfl
 | _ :: _,_,_,_,h=>by
  obtain⟨v,r,b1,b2,rfl,rfl,_,h⟩:=h
  simp [KVs.length h]
theorem KVs.take:{xs:List t.sh.den} -> {vs:List Value} -> {bs:List Nat}->KVs w M t xs vs none bs -> {j:Nat} -> {x:t.sh.den} -> {v:Value}->xs[j]? = some x->vs[j]? = some v ->
  ∃ b2 r,KV w M t x v b2/\KVs w M t xs vs (some j) r/\(b2++r).Perm bs
 | [],_,_,_,j,x,v,hx,_=>by simp at hx
 | y :: xs,_,_,h,j,x,v,hx,hv=>by
  obtain⟨u,r,b1,b2,rfl,rfl,h1,h⟩:=h
  have h1:=h1.resolve_left (fun q=>by cases q.1)
  cases j with
  | zero=>
   simp only [List.getElem?_cons_zero,zD] at hx hv
   subst hx;subst hv
   exact⟨b1,b2,h1.2,⟨_,r,[],b2,rfl,rfl,.inl ⟨rfl,rfl⟩,h⟩,.refl _⟩
  | succ j=>
   simp only [List.getElem?_cons_succ] at hx hv
   obtain⟨c2,r2,g1,g2,g3⟩:=KVs.take h hx hv
   refine⟨c2,b1++r2,g1,⟨u,r,b1,r2,rfl,rfl,.inr ⟨by simp,h1.2⟩,g2⟩,?_⟩
   have p1:(c2++(b1++r2)).Perm (b1++(c2++r2)):=by
    rw [<- zj,<- zj]
    exact List.perm_append_comm.append_right r2
   exact p1.trans (g3.append_left b1)
theorem KVs.put:{xs:List t.sh.den} -> {vs:List Value} -> {j:Nat} -> {bs:List Nat}->KVs w M t xs vs (some j) bs -> {x:t.sh.den} -> {v:Value} -> {b2:List Nat}->j<xs.length->KV w M t x v b2 ->
  ∃ r,KVs w M t (xs.set j x) (vs.set j v) none r/\r.Perm (b2++bs)
 | [],_,j,_,_,x,v,b2,hj,_=>by simp at hj
 | y :: xs,_,j,_,h,x,v,b2,hj,hk=>by
  obtain⟨u,r,b1,b3,rfl,rfl,h1,h⟩:=h
  cases j with
  | zero=>
   rcases h1 with⟨_,rfl⟩ | ⟨q,_⟩
   ·exact⟨b2++b3,⟨v,r,b2,b3,rfl,rfl,.inr ⟨by simp,hk⟩,h⟩,by rw [List.nil_append]⟩
   ·exact absurd rfl q
  | succ j=>
   have h1:=h1.resolve_left (fun q=>by simp at q)
   obtain⟨r2,g1,g2⟩:=KVs.put h (by simpa using hj) hk
   refine⟨b1++r2,⟨u,r.set j v,b1,r2,rfl,rfl,.inr ⟨by simp,h1.2⟩,g1⟩,?_⟩
   have p1:(b1++(b2++b3)).Perm (b2++(b1++b3)):=by
    rw [<- zj,<- zj]
    exact List.perm_append_comm.append_right b3
   exact (g2.append_left b1).trans p1
theorem KVs.push:{xs:List t.sh.den} -> {vs:List Value} -> {bs:List Nat}->KVs w M t xs vs none bs -> {x:t.sh.den} -> {v:Value} -> {b2:List Nat}->KV w M t x v b2->KVs w M t (xs ++ [x]) (vs ++ [v]) none (bs++b2)
 | [],_,_,h,x,v,b2,hk=>by
  obtain⟨rfl,rfl⟩:=h
  exact⟨v,[],b2,[],rfl,by simp,.inr ⟨by simp,hk⟩,rfl,rfl⟩
 | y :: xs,_,_,h,x,v,b2,hk=>by
  obtain⟨u,r,b1,b3,rfl,rfl,h1,h⟩:=h
  have h1:=h1.resolve_left (fun q=>by cases q.1)
  exact⟨u,r ++ [v],b1,b3++b2,rfl,by simp,.inr ⟨by simp,h1.2⟩,KVs.push h hk⟩
end
section
variable {w : World} {M : Nat -> Prop} {α : Type}
theorem hloS(i:Nat)(v:V):hlo 1 (some (i+1,v))=none:=by
 have:Nat.blt (i+1) 1=false:=zAJ.2 fun h=>by have:=zH h;omega
 simp only [hlo,this,cond_false]
theorem hhiS(i:Nat)(v:V):hhi 1 (some (i+1,v))=some (i,v):=by
 have:Nat.blt (i+1) 1=false:=zAJ.2 fun h=>by have:=zH h;omega
 simp only [hhi,this,cond_false,zBJ]
theorem KLs.take1{R:α->List Value->Option (Nat×V)->List Nat->Prop}:{xs:List α} -> {cs:List Value} -> {bs:List Nat}->KLs 1 R xs cs none bs -> {i:Nat} -> {x:α}->xs[i]? = some x ->
  ∃ c b1 b2,cs[i]? = some c/\R x [c] none b1/\(b1++b2).Perm bs/\∀ (R':α->List Value->Option (Nat×V)->List Nat->Prop),(∀ x c b,R x c none b->R' x c none b)->∀ v,R' x [c] (some (0,v)) []->KLs 1 R' xs cs (some (i,v)) b2
 | [],_,_,_,i,x,hx=>by simp at hx
 | y :: xs,_,_,h,i,x,hx=>by
  obtain⟨c,r,b1,b2,rfl,rfl,hc,h1,h⟩:=h
  obtain⟨u,rfl⟩:∃ u,c = [u]:=zBl.1 hc
  cases i with
  | zero=>
   simp only [List.getElem?_cons_zero,zD] at hx
   subst hx
   exact⟨u,b1,b2,rfl,h1,.refl _,fun R' hR v hv=>⟨[u],r,[],b2,rfl,rfl,rfl,hv,KLs.none_imp (P:=fun _=>True) (fun x c b _=>hR x c b) (fun _ _=>trivial) h⟩⟩
  | succ i=>
   simp only [List.getElem?_cons_succ] at hx
   obtain⟨c,c1,c2,g1,g2,g3,g4⟩:=KLs.take1 h hx
   refine⟨c,c1,b1++c2,by simpa using g1,g2,?_,fun R' hR v hv=>⟨[u],r,b1,c2,rfl,rfl,rfl,by rw [hloS];exact hR _ _ _ h1,by rw [hhiS];exact g4 R' hR v hv⟩⟩
   have p1:(c1++(b1++c2)).Perm (b1++(c1++c2)):=by
    rw [<- zj,<- zj]
    exact List.perm_append_comm.append_right c2
   exact p1.trans (g3.append_left b1)
theorem KLs.put1{R:α->List Value->Option (Nat×V)->List Nat->Prop}:{xs:List α} -> {cs:List Value} -> {hl:Option (Nat×V)} -> {bs:List Nat}->KLs 1 R xs cs hl bs -> {i:Nat}->i<xs.length->(∀ y,hl=some y->y.1=i) -> {x:α} -> {c:Value} -> {b1:List Nat}->R x [c] none b1 ->
  ∃ b0 b2,KLs 1 R (xs.set i x) (cs.set i c) none b2/\(b0++b2).Perm (b1++bs)
 | [],_,_,_,_,i,hi,_,_,_,_,_=>by simp at hi
 | y :: xs,_,hl,_,h,i,hi,hh,x,c,b1,hx=>by
  obtain⟨d,r,c1,c2,rfl,rfl,hc,h1,h⟩:=h
  obtain⟨u,rfl⟩:∃ u,d = [u]:=zBl.1 hc
  cases i with
  | zero=>
   have hn:hhi 1 hl=none:=by
    cases hl with
    | none=>rfl
    | some y=>obtain⟨j,v⟩:=y;obtain rfl:=hh _ rfl;rfl
   rw [hn] at h
   refine⟨c1,b1++c2,⟨[c],r,b1,c2,rfl,rfl,rfl,hx,h⟩,?_⟩
   rw [<- zj,<- zj]
   exact List.perm_append_comm.append_right c2
  | succ i=>
   have hn:hlo 1 hl=none:=by
    cases hl with
    | none=>rfl
    | some y=>obtain⟨j,v⟩:=y;obtain rfl:=hh _ rfl;exact hloS i v
   have hm:∀ y,hhi 1 hl=some y->y.1=i:=fun y hy=>by
    cases hl with
    | none=>cases hy
    | some z=>
     obtain⟨j,v⟩:=z
     obtain rfl:=hh _ rfl
     rw [hhiS] at hy
     cases hy;rfl
   rw [hn] at h1
   obtain⟨b0,b2,g1,g2⟩:=KLs.put1 h (by simpa using hi) hm hx
   refine⟨b0,c1++b2,⟨[u],r.set i c,c1,b2,rfl,rfl,rfl,h1,g1⟩,?_⟩
   have p1:(b0++(c1++b2)).Perm (c1++(b0++b2)):=by
    rw [<- zj,<- zj]
    exact List.perm_append_comm.append_right b2
   have p2:(c1++(b1++c2)).Perm (b1++(c1++c2)):=by
    rw [<- zj,<- zj]
    exact List.perm_append_comm.append_right c2
   exact p1.trans ((g2.append_left c1).trans p2)
theorem KLs.link{R:α->List Value->Option (Nat×V)->List Nat->Prop}{L:V->Value->Prop}(hR:∀ x c hl bs,R x c (some hl) bs->outK L hl c bs):{xs:List α} -> {cs:List Value} -> {y:Nat×V} -> {bs:List Nat}->KLs 1 R xs cs (some y) bs ->
  ∃ c,cs[y.1]? = some c/\y.1<xs.length/\L y.2 c
 | [],_,_,_,h=>by obtain⟨_,h,_⟩:=h;cases h
 | x :: xs,_,y,_,h=>by
  obtain⟨c,r,b1,b2,rfl,rfl,hc,h1,h⟩:=h
  obtain⟨u,rfl⟩:∃ u,c = [u]:=zBl.1 hc
  obtain⟨i,v⟩:=y
  cases i with
  | zero=>
   obtain⟨_,_,c',e1,_,h3⟩:=hR _ _ _ _ h1
   obtain rfl:u=c':=by simpa using e1
   exact⟨u,rfl,Nat.zero_lt_succ _,h3⟩
  | succ i=>
   rw [hhiS] at h
   obtain⟨c,g1,g2,g3⟩:=KLs.link hR h
   exact⟨c,by simpa using g1,Nat.succ_lt_succ g2,g3⟩
theorem OwnK.det{w:World}{e:TypeId}{n:Nat}{l:Loc}{m:Nat}{cs cs':List Value}(h:OwnK w e n l m cs)(h':OwnK w e n l m cs'):cs'=cs:=by
 obtain⟨h0,⟨q,hm,_⟩ | ⟨g,cur,q,hg,_,_,ht⟩⟩:=h
 ·rw [zY (by rw [h0,hm,Nat.zero_mul]:cs.length=0),zY (by rw [h'.1,hm,Nat.zero_mul]:cs'.length=0)]
 ·obtain⟨_,⟨q',_⟩ | ⟨g',cur',q',hg',_,_,ht'⟩⟩:=h'
  ·rw [q] at q';cases q'
  ·rw [q] at q';cases q'
   rw [hg] at hg'
   cases hg'
   rw [<- ht,<- ht']
theorem KLs.drop{n:Nat}{R:α->List Value->Option (Nat×V)->List Nat->Prop}:(k:Nat) -> {xs:List α} -> {cs:List Value} -> {bs:List Nat}->KLs n R xs cs none bs->∃ b0 b2,KLs n R (xs.drop k) (cs.drop (k*n)) none b2/\b0++b2=bs
 | 0,xs,cs,bs,h=>⟨[],bs,by simpa using h,rfl⟩
 | k+1,[],_,_,h=>by obtain⟨rfl,_,rfl⟩:=h;exact⟨[],[],by simp [KLs],rfl⟩
 | k+1,_ :: xs,_,_,h=>by
  obtain⟨c,r,b1,b2,rfl,rfl,hc,_,h⟩:=h
  obtain⟨b0,b3,g1,rfl⟩:=KLs.drop k h
  refine⟨b1++b0,b3,?_,by rw [zj]⟩
  rw [List.drop_succ_cons,zAM,zBh,zAm (l:=c) (by omega),List.nil_append,hc,zBJ]
  exact g1
theorem KLs.one{n:Nat}{R:α->List Value->Option (Nat×V)->List Nat->Prop}(hR:∀ x c hl bs,R x c hl bs->∀ u∈c,u.oneCell'=true):{xs:List α} -> {cs:List Value} -> {hl:Option (Nat×V)} -> {bs:List Nat}->KLs n R xs cs hl bs->∀ u∈cs,u.oneCell'=true
 | [],_,_,_,h,u,hu=>by obtain⟨rfl,_⟩:=h;cases hu
 | _ :: _,_,_,_,h,u,hu=>by
  obtain⟨c,r,b1,b2,rfl,rfl,_,h1,h⟩:=h
  rcases zU.1 hu with hu | hu
  ·exact hR _ _ _ _ h1 u hu
  ·exact KLs.one hR h u hu
theorem KLs.rep{n:Nat}{R:α->List Value->Option (Nat×V)->List Nat->Prop}{x:α}{c:List Value}(hc:c.length=n)(h:R x c none []):(m:Nat) -> {cs:List Value}->cs=(List.replicate m c).flatten->KLs n R (List.replicate m x) cs none []
 | 0,_,e=>⟨e,rfl,rfl⟩
 | m+1,_,e=>⟨c,_,[],[],by rw [e,List.replicate_succ,zBZ],rfl,hc,h,KLs.rep hc h m rfl⟩
theorem KW.comap{L:V->Value->Prop}(f:V->V):(t:Kt)->(x:t.sh.den)->(cs:List Value)->(hl:Option (Nat×V))->(bs:List Nat)->KW w M L t x cs (hmap f hl) bs->KW w M (fun v=>L (f v)) t x cs hl bs
 | .dat s,x,cs,hl,bs,h=>by
  simp only [KW] at h ⊢
  obtain⟨h0,h1⟩:=h
  refine⟨?_,h1⟩
  cases hl with
  | none=>rfl
  | some y=>cases h0
 | .pair a b,x,cs,hl,bs,h=>by
  simp only [KW] at h ⊢
  obtain⟨c,d,b1,b2,h1,h2,h3,h4,h5⟩:=h
  rw [qtc] at h4
  rw [qtf] at h5
  exact⟨c,d,b1,b2,h1,h2,h3,KW.comap f a _ _ _ _ h4,KW.comap f b _ _ _ _ h5⟩
 | .row e s,x,cs,hl,bs,h=>by
  simp only [KW] at h ⊢
  cases hl <;> exact h
 | .krow e t,x,cs,hl,bs,h=>by
  simp only [KW] at h ⊢
  cases hl with
  | some y=>exact h
  | none=>
   obtain⟨l,vs,ex,h1,h2,h3,h4,h5⟩:=h
   exact⟨l,vs,ex,h1,h2,h3,KLs.none_imp (P:=fun _=>True) (fun x c bs _ q=>KW.comap f t x c none bs q) (fun _ _=>trivial) h4,h5⟩
 | .map q,x,cs,hl,bs,h=>by
  simp only [KW] at h ⊢
  cases hl <;> exact h
 | .box e t,x,cs,hl,bs,h=>by
  simp only [KW] at h ⊢
  cases hl with
  | some y=>exact h
  | none=>exact h.imp id fun ⟨c,vs,ex,e',h1,h2,h3,h4,h5⟩=>⟨c,vs,ex,e',h1,h2,h3,KW.comap f t _ _ none _ h4,h5⟩
theorem KLs.comap{L:V->Value->Prop}(f:V->V){t:Kt}:{xs:List t.sh.den} -> {cs:List Value} -> {hl:Option (Nat×V)} -> {bs:List Nat}->KLs t.n (KW w M L t) xs cs (hmap f hl) bs->KLs t.n (KW w M (fun v=>L (f v)) t) xs cs hl bs
 | [],_,hl,_,h=>by
  obtain⟨h1,h2,h3⟩:=h
  refine⟨h1,?_,h3⟩
  cases hl with
  | none=>rfl
  | some y=>cases h2
 | _ :: _,_,_,_,h=>by
  obtain⟨c,r,b1,b2,h1,h2,h3,h4,h5⟩:=h
  rw [qtc] at h4
  rw [qtf] at h5
  exact⟨c,r,b1,b2,h1,h2,h3,KW.comap f t _ _ _ _ h4,KLs.comap f h5⟩
theorem RK.comap{L:V->Value->Prop}(f:V->V){l:Loc}{p:Kp}{t:Kt}{h0:Option (p.ix.den×V)}{d:(p.sh t).den}(r:RK w M L l p t (hmap f h0) d):RK w M (fun v=>L (f v)) l p t h0 d:=by
 cases p with
 | map kt et k=>
  cases h0 <;> exact r
 | row e=>
  obtain⟨hn,vs,h1,h2,h3⟩:=r
  refine⟨hn,vs,h1,KLs.comap f ?_,h3⟩
  have e1:holeR (hmap f h0)=hmap f (holeR h0):=by cases h0 <;> rfl
  exact e1▸h2
theorem KW.pl{M':Nat->Prop}(hM:∀ b,M' b->M b){L:V->Value->Prop}:(t:Kt)->(x:t.sh.den)->(cs:List Value)->(bs:List Nat)->t.isPl=true->(∀ b,b∈bs->¬ M' b)->KW w M L t x cs none bs->RC w M' t.sh x cs
 | .dat s,x,cs,bs,_,hb,h=>by
  simp only [KW] at h
  exact RC.sub hM h.2.2
 | .pair a c,x,cs,bs,hp,hb,h=>by
  simp only [KW] at h
  obtain⟨c1,c2,b1,b2,rfl,rfl,_,h1,h2⟩:=h
  simp only [Kt.isPl,zA] at hp
  exact⟨c1,c2,rfl,KW.pl hM a _ _ _ hp.1 (fun b q=>hb b (zo _ q)) h1,KW.pl hM c _ _ _ hp.2 (fun b q=>hb b (zf _ q)) h2⟩
 | .row e s,x,cs,bs,_,hb,h=>by
  simp only [KW] at h
  obtain⟨c,rfl,l,vs,rfl,_,h1,h2,rfl⟩:=h
  exact qje h1 h2 hM fun b q=>hb b (by simp [q])
 | .krow e t,x,cs,bs,hp,hb,h=>by
  simp only [KW] at h
  obtain⟨l,vs,ex,rfl,_,h1,h2,rfl⟩:=h
  have hp:t.isPl=true:=hp
  have key:∀ {xs:List t.sh.den} {vs:List Value} {ex:List Nat},(∀ b,b∈ex->¬ M' b)->KLs t.n (KW w M L t) xs vs none ex->RL w M' t.sh xs vs:=by
   intro xs
   induction xs with
   | nil=>intro vs ex _ h;exact h.1
   | cons y ys ih=>
    intro vs ex he h
    obtain⟨c,r,b1,b2,rfl,rfl,_,g1,g2⟩:=h
    exact⟨c,r,rfl,KW.pl hM t y c b1 hp (fun b q=>he b (zo _ q)) g1,ih (fun b q=>he b (zf _ q)) g2⟩
  have hr:=key (fun b q=>hb b (zf _ q)) h2
  simp only [RC]
  refine⟨l.adr,l.cp,rfl,h1.le,?_,fun hne=>?_⟩
  ·have:l.cp<9223372036854775808:=zCX _ (by omega)
   unfold maxI;omega
  ·obtain⟨b,ha⟩:=h1.one_ (zAk.2 hne)
   have htn:t.sh.n=t.n:=by
    have h3:=hr.length
    have h4:=h1.1
    rw [h3] at h4
    exact Nat.eq_of_mul_eq_mul_left (zAk.2 hne) h4
   refine⟨b,l.off,by simp [Loc.adr,ha],h1.lt ha,hb b (by simp [ha]),?_⟩
   exact RL.row hr (h1.cells ha)
theorem KLs.pl{M':Nat->Prop}(hM:∀ b,M' b->M b){L:V->Value->Prop}{t:Kt}(hp:t.isPl=true):{xs:List t.sh.den} -> {vs:List Value} -> {ex:List Nat}->(∀ b,b∈ex->¬ M' b)->KLs t.n (KW w M L t) xs vs none ex->RL w M' t.sh xs vs
 | [],_,_,_,h=>h.1
 | y :: _,_,_,he,h=>by
  obtain⟨c,r,b1,b2,rfl,rfl,_,g1,g2⟩:=h
  exact⟨c,r,rfl,KW.pl hM t y c b1 hp (fun b q=>he b (zo _ q)) g1,KLs.pl hM hp (fun b q=>he b (zf _ q)) g2⟩
theorem RK.pl{M':Nat->Prop}(hM:∀ b,M' b->M b){L:V->Value->Prop}{l:Loc}{e:TypeId}{t:Kt}(hp:t.isPl=true){d:List t.sh.den}(r:RK w M L l (.row e) t none d)(hb:∀ b,l.a=some b\/b∈l.ex->¬ M' b):RC w M' (.sl t.sh) d [rowK l d.length]:=by
 obtain⟨hn,vs,h1,h2,_⟩:=r
 refine KW.pl hM (L:=L) (.krow e t) d _ (l.a.toList++l.ex) hp (fun b q=>hb b ?_) ?_
 ·rcases zU.1 q with q | q
  ·exact .inl (by simpa using q)
  ·exact .inr q
 ·simp only [KW]
  exact⟨l,vs,l.ex,rfl,hn,h1,h2,rfl⟩
end
end Go.Abs
