import Derived.Test.YtcjecibocjbdmaaHisS
namespace Go.Proofs.Ytcjecibocjbdmaa
open Go.Abs Go.Bag Go.His
structure HOkk (h:List Df):Prop where
 len:h.length<=64
 rows:cntR h<=128
 tl:TL (h.map Prod.fst)
theorem HOkk.tok{h:List Df}(H:HOkk h){d:Df}(hd:d∈h):tok d.1=true:=H.tl.tok _ (zt.2 ⟨d,hd,rfl⟩)
theorem HOkk.one{h:List Df}(H:HOkk h){d e:Df}(hd:d∈h)(he:e∈h):d.1.length=e.1.length:=H.tl.eqL (zt.2 ⟨d,hd,rfl⟩) (zt.2 ⟨e,he,rfl⟩)
theorem HOkk.row{g:List Df}(G:HOkk g){d:Df}(hd:d∈g):d.2.length<=128:=by
 have key:∀ g:List Df,d∈g->d.2.length<=cntR g:=fun g=>by
  unfold cntR
  induction g with
  | nil=>intro h;cases h
  | cons c g ih=>
   intro h
   simp only [List.map_cons,List.sum_cons]
   rcases zb.1 h with rfl | h
   ·omega
   ·have:=ih h;omega
 have:=key g hd
 have:=G.rows
 omega
theorem HOkk.of{k l:List Df}(H:HOkk k)(ht:∀ d∈l,∃ e∈k,e.1=d.1)(hl:l.length<=64)(hr:cntR l<=128):HOkk l:=by
 refine⟨hl,hr,⟨by rw [zBP];omega,fun t h=>?_,fun t h=>?_⟩⟩
 ·obtain⟨d,hd,rfl⟩:=zt.1 h
  obtain⟨e,he,he1⟩:=ht d hd
  rw [<- he1];exact H.tok he
 ·obtain⟨d,hd,rfl⟩:=zt.1 h
  have h0:0<l.length:=List.length_pos_of_mem hd
  have hm:=nth_mem (z:=([]:List Int)) (xs:=l.map Prod.fst) (i:=0) (by simpa using h0)
  obtain⟨d0,hd0,e0⟩:=zt.1 hm
  rw [<- e0]
  obtain⟨e,he,he1⟩:=ht d hd
  obtain⟨f,hf,hf1⟩:=ht d0 hd0
  rw [<- he1,<- hf1]
  exact H.one he hf
theorem TSame_eq{N:Nat}{a b:List Int}(hN:a.length<N)(hl:N<=4611686018427387904):D_ref_TimesSame N (a,b,())=some (decide (a=b),()):=by
 simp only [D_ref_TimesSame,ref_TimesSame_3,joinD,loopE]
 by_cases hab:a.length=b.length
 case neg=>
  rw [show (((a.length:Nat):Int) != ((b.length:Nat):Int))=true from bne_iff_ne.2 (by omega),cond_true,d_false fun h=>hab (by rw [h])]
 rw [show (((a.length:Nat):Int) != ((b.length:Nat):Int))=false by rw [hab];exact bne_self_eq_false _,cond_false]
 have hb:∀ (K:Unit->_) (i:Nat),i<a.length->∀ kn,ref_TimesSame_2 N K a b (i:Int) (backE (a,b) kn)=if nth 0 a i=nth 0 b i then kn ((i:Int)+1) else some (false,()):=fun K i hi kn=>by
  simp only [ref_TimesSame_2,lt_d hi,lt_d (show i<b.length by omega),ge0_d,Int.toNat_natCast,Bool.and_self,cond_true,ix1 hi (show a.length<=4611686018427387904 by omega),backE_eq]
  by_cases q:nth 0 a i=nth 0 b i
  ·rw [zF q,q,bne_self_eq_false];rfl
  ·rw [zH q,bne_iff_ne.2 q];rfl
 by_cases q:a=b
 ·rw [d_true q]
  refine loopD_pass (n:=a.length) (by omega) (fun i hi kn=>by rw [hb _ i hi,zF (by rw [q])]) (fun kn=>?_) (by omega)
  simp only [ref_TimesSame_2,lt_self,cond_false,ref_TimesSame_1]
 ·rw [d_false q]
  have hex:∃ i,i<a.length/\¬ nth (0:Int) a i=nth 0 b i:=Classical.byContradiction fun hno=>q (List.ext_getElem hab fun i h1 h2=>by
   rw [<- nth_lt (z:=(0:Int)) h1,<- nth_lt (z:=(0:Int)) h2]
   exact Classical.byContradiction fun h=>hno ⟨i,h1,h⟩)
  exact loopD_hit (n:=a.length) (by omega) (fun i=>¬ nth (0:Int) a i=nth 0 b i) (fun i hi hx kn=>by rw [hb _ i hi,zH hx]) (fun i hi hx kn=>by rw [hb _ i hi,zF (Decidable.not_not.1 hx)]) (by omega) hex
end Go.Proofs.Ytcjecibocjbdmaa
