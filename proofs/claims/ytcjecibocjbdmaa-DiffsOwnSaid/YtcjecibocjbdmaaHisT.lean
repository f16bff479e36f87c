import Derived.Test.YtcjecibocjbdmaaHisS
namespace Go.Proofs.Ytcjecibocjbdmaa
open Go.Abs Go.Bag Go.His
theorem tok4{t:List Int}(h:tok t=true):t.length<=4:=(tok_len h).2
structure HOkk (h:List Df):Prop where
 len:h.length<=64
 rows:cntR h<=128
 tl:TL (h.map Prod.fst)
theorem HOkk.tok{h:List Df}(H:HOkk h){d:Df}(hd:d∈h):tok d.1=true:=H.tl.tok _ (zi.2 ⟨d,hd,rfl⟩)
theorem HOkk.one{h:List Df}(H:HOkk h){d e:Df}(hd:d∈h)(he:e∈h):d.1.length=e.1.length:=H.tl.eqL (zi.2 ⟨d,hd,rfl⟩) (zi.2 ⟨e,he,rfl⟩)
theorem dCheck_ok{N:Nat}(hN:1000<=N){h:List Df}(hl:h.length<N)(hl2:h.length<=4611686018427387904):∃ e,D_diffs_Check N (h,())=some (e,())/\(e=0↔HOkk h):=by
 obtain⟨e,h1,h2⟩:=dCheck_iff hN hl hl2
 exact⟨e,h1,fun h=>⟨(h2.1 h).1,(h2.1 h).2.1,(h2.1 h).2.2⟩,fun h=>h2.2 ⟨h.len,h.rows,h.tl⟩⟩
theorem HOkk.row{g:List Df}(G:HOkk g){d:Df}(hd:d∈g):d.2.length<=128:=by
 have key:∀ g:List Df,d∈g->d.2.length<=cntR g:=fun g=>by
  unfold cntR
  induction g with
  | nil=>intro h;cases h
  | cons c g ih=>
   intro h
   simp only [List.map_cons,zBG]
   rcases zf.1 h with rfl | h
   ·omega
   ·have:=ih h;omega
 have:=key g hd
 have:=G.rows
 omega
theorem HOkk.of{k l:List Df}(H:HOkk k)(ht:∀ d∈l,∃ e∈k,e.1=d.1)(hl:l.length<=64)(hr:cntR l<=128):HOkk l:=by
 refine⟨hl,hr,⟨by rw [zAO];omega,fun t h=>?_,fun t h=>?_⟩⟩
 ·obtain⟨d,hd,rfl⟩:=zi.1 h
  obtain⟨e,he,he1⟩:=ht d hd
  rw [<- he1];exact H.tok he
 ·obtain⟨d,hd,rfl⟩:=zi.1 h
  have h0:0<l.length:=zBU hd
  have hm:=nth_mem (z:=([]:List Int)) (xs:=l.map Prod.fst) (i:=0) (by simpa using h0)
  obtain⟨d0,hd0,e0⟩:=zi.1 hm
  rw [<- e0]
  obtain⟨e,he,he1⟩:=ht d hd
  obtain⟨f,hf,hf1⟩:=ht d0 hd0
  rw [<- he1,<- hf1]
  exact H.one he hf
theorem _root_.Go.His.IsHis.okk{k l:List Df}(H:HOkk k)(h:IsHis (fun t=>amt (rowsAt k t)) l)(hr:cntR l<=128):HOkk l:=
 H.of h.times (by have:=h.len_le;have:=H.len;omega) hr
theorem told_eq{N:Nat}(hN:1000<=N){h:List Df}(hl:h.length<=64)(ht:∀ d∈h,d.1.length<=4)(hr:cntR h<=128) :
  ∃ d l,D_diffs_Of_h N h=some d/\D_diffs_History_Tells_h N d=some (l,0)/\IsHis (fun t=>amt (rowsAt h t)) l/\cntR l<=cntR h:=by
 obtain⟨d,h1,h2,h3,h4⟩:=hOf_eq (N:=N) (h:=h) (by omega) (by omega) ht (by omega) (by omega)
 obtain⟨l,l1,l2,l3,l4⟩:=hTells_eq hN h2 (by omega) (by omega) (by omega) (by omega)
 rw [zJ (by rintro (h | h) <;> omega)] at l4
 exact⟨d,l,h1,l4,l1,by omega⟩
theorem dTidy_eq{N:Nat}(hN:1000<=N){h:List Df}(hl:h.length<N)(hl2:h.length<=4611686018427387904):∃ l e,D_diffs_Tidy N (h,())=some (l,e,())/\((e=0/\HOkk h/\IsHis (fun t=>amt (rowsAt h t)) l/\HOkk l)\/(e≠0/\¬ HOkk h/\l = [])):=by
 obtain⟨e,h1,h2⟩:=dCheck_ok hN hl hl2
 simp only [D_diffs_Tidy,diffs_Tidy_1,h1,Option.bind_some]
 by_cases q:e=0
 ·have H:=h2.1 q
  obtain⟨d,l,l1,l2,l3,l4⟩:=told_eq hN H.len (fun d hd=>tok4 (H.tok hd)) H.rows
  have hr:=H.rows
  exact⟨l,0,by rw [q,bne_self_eq_false,cond_false,l1,Option.bind_some,l2,Option.bind_some],.inl ⟨rfl,H,l3,l3.okk H (by omega)⟩⟩
 ·exact⟨[],e,by rw [bne_iff_ne.2 q,cond_true],.inr ⟨q,fun H=>q (h2.2 H),rfl⟩⟩
theorem totals_eq{N:Nat}{h:List Df}(hl:h.length<N)(hr:∀ d∈h,d.2.length<N)(hM:N<=4611686018427387903):D_keep_totals N (h,())=some (w (tots h),()):=by
 simp only [D_keep_totals,keep_totals_3,joinD,loopE]
 obtain⟨s',hI,e⟩:=loopD_inv (g:=fun (s:Int×Int) kn=>keep_totals_2 N (fun s=>keep_totals_1 N s) h (h.length:Int) s.1 s.2 (backE (h,(h.length:Int)) kn)) (k:=fun s:Int×Int=>some (s.1,())) h.length
  (fun i s=>s.2=(i:Int)/\s.1=w (tots (h.take i))) (N:=N) (s:=((0:Int),(0:Int)))
  (by
   rintro i ⟨_,_⟩ hi ⟨rfl,rfl⟩
   have hd:=hr _ (nth_mem (z:=zd) hi)
   refine⟨(w (tots (h.take (i+1))),(i:Int)+1),⟨by simp,rfl⟩,fun kn=>?_⟩
   have h1:IntKind.i64.wrap (w (tots (h.take i))+w (tot (nth zd h i).2))=w (tots (h.take (i+1))):=by
    rw [take_nd hi,tots_snoc]
    exact (cg_w _).add (cg_w _)
   simp only [keep_totals_2,lt_d hi,ge0_d,Int.toNat_natCast,Bool.and_self,cond_true,total_eq hd (by omega),Option.bind_some,ix1 hi (show h.length<=4611686018427387904 by omega),backE_eq,h1])
  (by
   rintro⟨_,_⟩ ⟨rfl,rfl⟩ kn
   simp only [keep_totals_2,lt_self,cond_false,keep_totals_1])
  hl ⟨rfl,by simp only [List.take_zero];rfl⟩
 rw [e,hI.2,zAR]
theorem TSame_eq{N:Nat}{a b:List Int}(hN:a.length<N)(hl:N<=4611686018427387904):D_ref_TimesSame N (a,b,())=some (decide (a=b),()):=by
 simp only [D_ref_TimesSame,ref_TimesSame_3,joinD,loopE]
 by_cases hab:a.length=b.length
 case neg=>
  rw [show (((a.length:Nat):Int) != ((b.length:Nat):Int))=true from bne_iff_ne.2 (by omega),cond_true,d_false fun h=>hab (by rw [h])]
 rw [show (((a.length:Nat):Int) != ((b.length:Nat):Int))=false by rw [hab];exact bne_self_eq_false _,cond_false]
 have hb:∀ (K:Unit->_) (i:Nat),i<a.length->∀ kn,ref_TimesSame_2 N K a b (i:Int) (backE (a,b) kn)=if nth 0 a i=nth 0 b i then kn ((i:Int)+1) else some (false,()):=fun K i hi kn=>by
  simp only [ref_TimesSame_2,lt_d hi,lt_d (show i<b.length by omega),ge0_d,Int.toNat_natCast,Bool.and_self,cond_true,ix1 hi (show a.length<=4611686018427387904 by omega),backE_eq]
  by_cases q:nth 0 a i=nth 0 b i
  ·rw [zG q,q,bne_self_eq_false];rfl
  ·rw [zJ q,bne_iff_ne.2 q];rfl
 by_cases q:a=b
 ·rw [d_true q]
  refine loopD_pass (n:=a.length) (by omega) (fun i hi kn=>by rw [hb _ i hi,zG (by rw [q])]) (fun kn=>?_) (by omega)
  simp only [ref_TimesSame_2,lt_self,cond_false,ref_TimesSame_1]
 ·rw [d_false q]
  have hex:∃ i,i<a.length/\¬ nth (0:Int) a i=nth 0 b i:=Classical.byContradiction fun hno=>q (zBR hab fun i h1 h2=>by
   rw [<- nth_lt (z:=(0:Int)) h1,<- nth_lt (z:=(0:Int)) h2]
   exact Classical.byContradiction fun h=>hno ⟨i,h1,h⟩)
  exact loopD_hit (n:=a.length) (by omega) (fun i=>¬ nth (0:Int) a i=nth 0 b i) (fun i hi hx kn=>by rw [hb _ i hi,zJ hx]) (fun i hi hx kn=>by rw [hb _ i hi,zG (Decidable.not_not.1 hx)]) (by omega) hex
theorem DSame_eq{N:Nat}{a b:List Df}(hN:a.length<N)(ht:∀ d∈a,d.1.length<N)(hr:∀ d∈a,d.2.length<N)(hM:N<=4611686018427387903):D_ref_DiffsSame N (a,b,())=some (decide (a=b),()):=by
 simp only [D_ref_DiffsSame,ref_DiffsSame_3,joinD,loopE]
 by_cases hab:a.length=b.length
 case neg=>
  rw [show (((a.length:Nat):Int) != ((b.length:Nat):Int))=true from bne_iff_ne.2 (by omega),cond_true,d_false fun h=>hab (by rw [h])]
 rw [show (((a.length:Nat):Int) != ((b.length:Nat):Int))=false by rw [hab];exact bne_self_eq_false _,cond_false]
 have hb:∀ (K:Unit->_) (i:Nat),i<a.length->∀ kn,ref_DiffsSame_2 N K a b (i:Int) (backE (a,b) kn)=if nth zd a i=nth zd b i then kn ((i:Int)+1) else some (false,()):=fun K i hi kn=>by
  have hd:=nth_mem (z:=zd) hi
  have d1:=ht _ hd
  have d2:=hr _ hd
  simp only [ref_DiffsSame_2,lt_d hi,lt_d (show i<b.length by omega),ge0_d,Int.toNat_natCast,Bool.and_self,cond_true,TSame_eq (N:=N) d1 (by omega),Same_eq (N:=N) d2 (by omega),Option.bind_some,ix1 hi (show a.length<=4611686018427387904 by omega),backE_eq]
  by_cases q1:(nth zd a i).1=(nth zd b i).1
  ·rw [d_true q1]
   by_cases q2:(nth zd a i).2=(nth zd b i).2
   ·rw [d_true q2,zG (Prod.ext q1 q2)];rfl
   ·rw [d_false q2,zJ fun e=>q2 (by rw [e])];rfl
  ·rw [d_false q1,zJ fun e=>q1 (by rw [e])];rfl
 by_cases q:a=b
 ·rw [d_true q]
  refine loopD_pass (n:=a.length) (by omega) (fun i hi kn=>by rw [hb _ i hi,zG (by rw [q])]) (fun kn=>?_) (by omega)
  simp only [ref_DiffsSame_2,lt_self,cond_false,ref_DiffsSame_1]
 ·rw [d_false q]
  have hex:∃ i,i<a.length/\¬ nth zd a i=nth zd b i:=Classical.byContradiction fun hno=>q (zBR hab fun i h1 h2=>by
   rw [<- nth_lt (z:=zd) h1,<- nth_lt (z:=zd) h2]
   exact Classical.byContradiction fun h=>hno ⟨i,h1,h⟩)
  exact loopD_hit (n:=a.length) (by omega) (fun i=>¬ nth zd a i=nth zd b i) (fun i hi hx kn=>by rw [hb _ i hi,zJ hx]) (fun i hi hx kn=>by rw [hb _ i hi,zG (Decidable.not_not.1 hx)]) (by omega) hex
end Go.Proofs.Ytcjecibocjbdmaa
