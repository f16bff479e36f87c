import Derived.Test.YtcjecibocjbdmaaHisT
import Derived.Test.YtcjecibocjbdmaaAbsRo
import Derived.Shelf.Abstract
import Derived.WalkKit
import Derived.OwnWalkIn
import Derived.TacticsInMore
import Derived.LoopNIn
import Derived.LoopIn
namespace Go.Proofs.Ytcjecibocjbdmaa
open Go.Abs Go.RowKit Go.Shelf
attribute [local go_sem] Oper.semAt_some
set_option maxRecDepth 100000 in
set_option maxHeartbeats 1500000 in
theorem tidy_in(n:Nat)(v0:Value)(c:Int)(W:World)(L:World->Prop)(S:Value->World->Prop)(Post:Option Addr->Nat->Nat->Int->World->Prop)
  (hC:Calls Try.prog 37 #[v0] W fun e' w'=>e'=.returned (.int .i64 c)/\L w')
  (hO:∀ w',L w'->c=0->Calls Try.prog 38 #[v0] w' fun e' w''=>∃ mp,e'=.returned mp/\S mp w'')
  (hT:∀ mp w',S mp w'->Calls Try.prog 39 #[mp] w' fun e' w''=>∃ a m k r,e'=.returned (.tuple #[.slice a m k,.int .i64 r])/\Post a m k r w'')
  (hN:∀ w',L w'->c≠0->Post none 0 0 c w') :
  CallsIn Fence.wide n Try.prog 19 #[v0] W fun e' W'=>∃ a m k r,e'=.returned (.tuple #[.slice a m k,.int .i64 r])/\Post a m k r W':=by
 refine callsIn_of_wp Try.func19 rfl trivial ?_ rfl
 simp only [Try.ntmps19,List.size_toArray,List.length_cons,List.length_nil,Nat.reduceAdd,Nat.reduceSub,Array.replicate_succ,Array.replicate_zero,List.push_toArray,List.append_toArray,List.nil_append,List.cons_append]
 gi_wp2
 refine⟨trivial,fun h=>(by cases h),((callsIn_wide (n:=n - 1)).2 hC).mono ?_⟩
 rintro e' w' ⟨rfl,hl⟩
 by_cases he:c=0
 ·have hc:=hO w' hl he
  have hee:(c==0)=true:=beq_iff_eq.2 he
  clear hC hN hO
  gi_wp2
  refine⟨trivial,fun h=>(by cases h),((callsIn_wide (n:=n - 1)).2 hc).mono ?_⟩
  rintro e' w'' ⟨mp,rfl,hp⟩
  have hc2:=hT mp w'' hp
  clear hT hc
  gi_wp2
  refine⟨trivial,fun h=>(by cases h),((callsIn_wide (n:=n - 1)).2 hc2).mono ?_⟩
  rintro e' w3 ⟨a,m,k,r,rfl,hp⟩
  gi_wp2
  refine bodyPost_ret (v:=.tuple #[.slice a m k,.int .i64 r]) (by simp [results,Try.results19,go_sem]) rfl ?_
  exact⟨a,m,k,r,rfl,hp⟩
 ·have hp:=hN w' hl he
  have hee:(c==0)=false:=zAN he
  clear hC hN hO hT
  gi_wp2
  refine bodyPost_ret (v:=.tuple #[.slice none 0 0,.int .i64 c]) (by simp [results,Try.results19,go_sem]) rfl ?_
  exact⟨none,0,0,c,rfl,hp⟩
abbrev hisS:Sh:=.sl (.pair (.sl (.int .i64)) (.sl (.pair (.int .i64) (.pair (.int .i64) (.int .i64)))))
theorem NEs.any{w:World}{M M':Nat->Prop}{k:Sh}{q:Oth}(hk:noSl k=true)(h1:noSl q.k=true)(h2:noSl q.v=true)(hi:q.it=false):{xs:List (Int×(k.den×(Kid.map q).sh.den))} -> {es:List MapEntry} -> {bs:List Nat}->NEs w M k (.map q) xs es bs->NEs w M' k (.map q) xs es bs
 | [],_,_,h=>h
 | x :: xs,_,_,h=>by
  obtain⟨e,r,c,cs,rfl,rfl,g1,g2,⟨g3,g4,g5⟩,g6⟩:=h
  refine⟨e,r,c,cs,rfl,rfl,g1,dat_rv ((rv_dat g2).any hk),⟨g3,g4,?_⟩,NEs.any hk h1 h2 hi g6⟩
  unfold RQ at g5 ⊢
  rw [hi] at g5 ⊢
  obtain⟨b,es,clock,p1,p2,p3,p4,p5⟩:=g5
  exact⟨b,es,clock,p1,p2,p3,MEs.any h1 h2 p4,p5⟩
theorem RN.any{w:World}{M M':Nat->Prop}{l:Abs.Loc}{q:Nst}{p:Oth}{d:q.sh.den}(hq:q.it=false)(hkd:q.kd=.map p)(hk:noSl q.k=true)(h1:noSl p.k=true)(h2:noSl p.v=true)(hi:p.it=false)(h:RN w M l q d):RN w M' l q d:=by
 obtain⟨it,kt,vt,k,kd⟩:=q
 simp only at hq hkd hk
 subst hq hkd
 obtain⟨b,es,clock,p1,p2,p3,p4,p5⟩:=h
 exact⟨b,es,clock,p1,p2,p3,NEs.any hk h1 h2 hi p4,p5⟩
abbrev qT:Nst:=⟨false,122,78,.pair (.int .i64) (.pair (.int .i64) (.pair (.int .i64) (.pair (.int .i64) (.int .i64)))),.map ⟨false,105,2,.pair (.int .i64) (.int .i64),.int .i64,false⟩⟩
theorem get1{o:Nat}{x:O}(h:live (getO [x] o)):o=0:=by
 cases o with
 | zero=>rfl
 | succ o=>exact h.elim
theorem tidy_fresh{N:Nat}{h l:List Df}{e:Int}{v:Value}{W:World}(hv:RC W (fun _=>False) hisS h [v])(hD:D_diffs_Tidy N (h,())=some (l,e,())) :
  Calls Try.prog 19 #[v] W fun e' w'=>∃ a m k,e'=.returned (.tuple #[.slice a m k,.int .i64 e])/\Go.Abs.Below W.heap.size W w'/\RC w' (fun b=>b<W.heap.size) hisS l [.slice a m k]:=by
 have hD:((D_diffs_Check N (h,())).bind fun y4=>(bif (y4.1 != (0:Int)) then (some ([],y4.1,())) else ((D_diffs_Of_h N h).bind fun y5=>((D_diffs_History_Tells_h N y5).bind fun y6=>(some (y6.1,y6.2,()))))))=some (l,e,()):=hD
 obtain⟨⟨c,⟨⟩⟩,hc,hD⟩:=zN.1 hD
 refine callsIn_wide (n:=0) |>.1 ?_
 have kp:∀ {w':World},Go.Abs.Below W.heap.size W w'->Keeps W (fun _=>False) w' (fun _=>False):=fun h1=>⟨h1.size,fun x hx _=>h1.block x hx,fun _ _ h=>h⟩
 refine (tidy_in 0 v c W (fun w'=>Go.Abs.Below W.heap.size W w') (fun mp w'=>c=0/\∃ y σ',D_diffs_Of_h N h=some y/\Go.Abs.Below W.heap.size W w'/\Rep w' (own (Sg_diffs_History_Tells_h.ins y).2 σ') (fun b=>b<W.heap.size) w' (Sg_diffs_History_Tells_h.ins y).2 σ' /\
   (∀ b,own (Sg_diffs_History_Tells_h.ins y).2 σ' b->W.heap.size<=b)/\RVs w' (mutb (fun b=>b<W.heap.size) (Sg_diffs_History_Tells_h.ins y).2 σ') (Sg_diffs_History_Tells_h.ins y).2 σ' (Sg_diffs_History_Tells_h.ins y).1 [mp])
  (fun a m k r w'=>r=e/\Go.Abs.Below W.heap.size W w'/\RC w' (fun b=>b<W.heap.size) hisS l [.slice a m k]) ?_ ?_ ?_ ?_).mono ?_
 ·refine (sp_diffs_Check N (fun _=>False) W (h,()) (c,()) [v] (fun b h=>h.elim) (fun p hp=>(by cases hp)) ⟨_,_,rfl,hv,rfl⟩ hc).mono ?_
  rintro e' w' ⟨u,rfl,h1,h2⟩
  have h2:RV w' (fun _=>False) [] σ0 (.int .i64 c) u:=h2
  simp only [RV] at h2
  exact⟨by rw [h2],h1⟩
 ·rintro w' h1 rfl
  rw [show ((0:Int) != 0)=false from rfl,cond_false] at hD
  obtain⟨y,hy,-⟩:=zN.1 hD
  have R0:=rep_nil (M:=fun _=>False) w' (fun b h=>h.elim)
  refine (sp_diffs_Of_h N w' (fun _=>False) (fun _=>False) σ0 h y [v] (fun p hp=>(by cases hp)) (fun p hp=>(by cases hp)) R0 ⟨_,_,rfl,RC.keeps ⟨h1.size,fun x hx _=>h1.block x hx,fun x _ _ hm=>hm.elim id fun ho=>own_nil ho⟩ hv,rfl⟩ hy).mono ?_
  rintro e' w'' ⟨mp,σ',rfl,N1,hr⟩
  have hge:∀ b,own (Sg_diffs_History_Tells_h.ins y).2 σ' b->W.heap.size<=b:=fun b hb=>by
   have:=(N1.rep.inA b hb).resolve_left id
   have:=h1.size
   omega
  refine⟨mp,rfl,rfl,y,σ',hy,?_,⟨⟨rfl,TDr.rfl,rfl,Nat.le_refl _,fun _ _ _=>rfl⟩,fun b hb=>⟨?_,fun ho=>?_⟩,fun b hb=>.inl hb,fun o o' b g1 g2 _ _=>(get1 g1).trans (get1 g2).symm,fun o=>?_⟩,hge,?_⟩
  ·exact h1.trans (N1.rep.fr.below.mono h1.size)
  ·have:=h1.size
   have:=N1.rep.fr.size
   omega
  ·have:=hge b ho;omega
  ·cases o with
   | zero=>
    have r0:RN w'' (mutb (fun _=>False) (Sg_diffs_Of_h.outs y).2 σ') (σ' 0) qT y:=N1.rep.obj 0
    exact RN.any (q:=qT) rfl rfl rfl rfl rfl rfl r0
   | succ o=>trivial
  ·have hr:RV w'' (mutb (fun _=>False) (Sg_diffs_History_Tells_h.ins y).2 σ') (Sg_diffs_History_Tells_h.ins y).2 σ' (.ptr 0 1000000) mp:=hr
   refine⟨_,_,rfl,?_,rfl⟩
   simp only [RV] at hr
   show RV _ _ _ _ (.ptr 0 1000000) _
   simp only [RV]
   exact hr
 ·rintro mp w' ⟨rfl,y,σ',hy,h1,R,hge,hr⟩
  rw [show ((0:Int) != 0)=false from rfl,cond_false,hy,Option.bind_some] at hD
  obtain⟨⟨l',er⟩,hz,hD⟩:=zN.1 hD
  obtain⟨rfl,rfl⟩:l=l'/\e=er:=by cases hD;exact⟨rfl,rfl⟩
  refine (sp_diffs_History_Tells_h N w' _ _ σ' y (l,e) [mp] (fun p hp=>(by cases hp)) (fun p hp=>(by cases hp)) R hr hz).mono ?_
  rintro e' w'' ⟨u,σ2,rfl,N2,h2⟩
  have h2:RV w'' (mutb (fun b=>b<W.heap.size) (Sg_diffs_History_Tells_h.outs (l,e)).2 σ2) (Sg_diffs_History_Tells_h.outs (l,e)).2 σ2 (.tup [.sl (.pair (.sl (.int .i64)) (.sl (.pair (.int .i64) (.pair (.int .i64) (.int .i64))))) l,.int .i64 e]) u:=h2
  simp only [RV,RVs] at h2
  obtain⟨cs,rfl,x1,x2,e3,h8,x3,x4,rfl,rfl,rfl⟩:=h2
  have h9:=h8
  unfold RC at h9
  obtain⟨a,k,e4,-⟩:=h9
  obtain rfl:x1=.slice a l.length k:=by simpa using e4
  obtain rfl:cs = #[.slice a l.length k,.int .i64 e]:=by apply Array.ext';exact e3
  refine⟨a,l.length,k,e,rfl,rfl,h1.trans ⟨N2.goes.os,N2.goes.tape,N2.goes.output,N2.goes.size,fun x hx=>N2.goes.block x (by have:=h1.size;omega) fun ho=>by have:=hge x ho;omega⟩,RC.sub (fun b hb=>.inl hb) h8⟩
 ·intro w' h1 h2
  rw [show (c != 0)=true from bne_iff_ne.2 h2,cond_true] at hD
  cases hD
  refine⟨rfl,h1,?_⟩
  unfold RC
  exact⟨none,0,rfl,Nat.le_refl _,zw _,fun h=>absurd rfl h⟩
 rintro e' w' ⟨a,m,k,r,rfl,rfl,h1,h2⟩
 exact⟨a,m,k,rfl,h1,h2⟩
end Go.Proofs.Ytcjecibocjbdmaa
