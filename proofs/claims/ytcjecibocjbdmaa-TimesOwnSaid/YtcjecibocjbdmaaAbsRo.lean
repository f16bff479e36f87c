import Derived.Test.YtcjecibocjbdmaaAbsSubF
namespace Go.Abs
open Go.RowKit
theorem RC.any{w w':World}{M M':Nat->Prop}:{s:Sh}->noSl s=true -> {x:s.den} -> {cs:List Value}->RC w M s x cs->RC w' M' s x cs
 | .int _,_,_,_,h=>by simp only [RC] at h ⊢;exact h
 | .bool,_,_,_,h=>by simp only [RC] at h ⊢;exact h
 | .unit,_,_,_,h=>by simp only [RC] at h ⊢;exact h
 | .pair a b,ho,_,_,h=>by
  simp only [noSl,zB] at ho
  simp only [RC] at h ⊢
  obtain⟨c',d,rfl,h1,h2⟩:=h
  exact⟨c',d,rfl,RC.any ho.1 h1,RC.any ho.2 h2⟩
 | .sl _,ho,_,_,_=>by cases ho
theorem Dat.any{w w':World}{M M':Nat->Prop}{s:Sh}(ho:noSl s=true){x:s.den}{v:Value}(h:Dat w M s x v):Dat w' M' s x v:=⟨h.1.any ho,h.2⟩
theorem MEs.any{w w':World}{M M':Nat->Prop}{k v:Sh}(hk:noSl k=true)(hv:noSl v=true):{xs:List (Int×(k.den×v.den))} -> {es:List MapEntry}->MEs w M k v xs es->MEs w' M' k v xs es
 | [],_,h=>h
 | _ :: _,_,h=>by
  obtain⟨e,r,rfl,h1,h2⟩:=h
  exact⟨e,r,rfl,⟨h1.born,dat_rv (h1.kD.any hk),dat_rv (h1.vD.any hv)⟩,MEs.any hk hv h2⟩
theorem MEs.det{w w':World}{M M':Nat->Prop}{k v:Sh}(hk:noSl k=true)(hv:noSl v=true):{xs:List (Int×(k.den×v.den))} -> {es es':List MapEntry}->MEs w M k v xs es->MEs w' M' k v xs es'->es=es'
 | [],_,_,h,h'=>by simp only [MEs] at h h';rw [h,h']
 | _ :: _,_,_,h,h'=>by
  obtain⟨e,r,rfl,h1,h2⟩:=h
  obtain⟨e',r',rfl,h1',h2'⟩:=h'
  rw [MEs.det hk hv h2 h2']
  have a1:e.born=e'.born:=by have:=h1.born.trans h1'.born.symm;omega
  have a2:e.key=e'.key:=h1.kD.det hk h1'.kD
  have a3:e.val=e'.val:=h1.vD.det hv h1'.vD
  cases e;cases e'
  simp only at a1 a2 a3
  rw [a1,a2,a3]
abbrev roSig(q:Oth)(s:Sh):Sig:=⟨[.form (.ptr 0 1000000)],[.oth false q],[.dat false s],[.oth true q],[]⟩
section
variable {P : Program} {w0 : World} {A M0 : Nat -> Prop} {w : World} {h hm : List O} {σ : Nat -> Loc}
theorem SpecH.ro{gs:List (Nat×List Value)}{f:Nat}{q:Oth}{s:Sh}{D:q.sh.den->Option (s.den×q.sh.den)}(S:SpecH P gs f (roSig q s) D)(w:World)(A M0:Nat->Prop)(σ:Nat->Loc)(d:q.sh.den)(y:s.den×q.sh.den)(vs:List Value)
  (h1:GW gs w) (h2:∀ p∈gs,¬ A p.1) (h3:Rep w A M0 w [.oth false q d] σ) (h4:RVs w (mutb M0 [.oth false q d] σ) [.oth false q d] σ [.ptr 0 1000000] vs) (h5:D d=some y) :
  Calls P f vs.toArray w fun e w'=>∃ v σ',e=.returned v/\Next w A M0 w [.oth false q d] σ w' [.oth true q y.2] σ'/\RV w' (mutb M0 [.oth true q y.2] σ') [.oth true q y.2] σ' (enc s y.1) v:=by
 have ei:(roSig q s).ins d=([.ptr 0 1000000],[.oth false q d]):=by
  have e1:encT (roSig q s).lx d = [.dat q.sh d]:=rfl
  unfold Sig.ins
  rw [e1]
  simp only [mkRs,mkR,mkV,mkH,mkO,castSh,dif_pos]
 have eo:(roSig q s).outs y=(enc s y.1,[.oth true q y.2]):=by
  simp only [Sig.outs,Sig.alts,outsA,out1,lyOf,lfRs,lfH,lfO,List.cons_append,List.nil_append,List.append_nil,encT,Lf.enc,mkRs,mkR,mkH,mkO,castSh,dif_pos,cval,retV]
  rfl
 have:=S w A M0 σ d y vs h1 h2 (by rw [ei];exact h3) (by rw [ei];exact h4) h5
 rw [ei,eo] at this
 exact this
end
end Go.Abs
