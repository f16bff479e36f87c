import Derived.Test.YtcjecibocjbdmaaTowT
namespace Go.Proofs.Ytcjecibocjbdmaa
open Go.Abs Go.RowKit Go.His
theorem FreshL.mono{w:World}{B B':Nat}{l:Abs.Loc}{F:List (List Int)}{cs:List Value}(h:FreshL w B l F cs)(hb:B'<=B):FreshL w B' l F cs where
 own:=h.own
 ge:=fun b hl=>zl hb (h.ge b hl)
 rl:=h.rl
 inn:=fun c hc=>by
  obtain⟨a,n,cap,rfl,hm,h⟩:=h.inn c hc
  refine⟨a,n,cap,rfl,hm,fun hn=>?_⟩
  obtain⟨b,cur,e,h1,h2,h3⟩:=h hn
  exact⟨b,cur,e,h1,zl hb h2,h3⟩
theorem copy_new{w:World}{M:Nat->Prop}{t:List Int}{v:Value}(hv:RC w M iL t [v])(hb:t.length*8<=140737488355328) :
  ∃ ta tc l2 w2 cs2,v=.slice ta t.length tc/\(Builtin.append_ #[48,48] 48 #[.slice (some ⟨w.heap.size,0,none⟩) 0 0,.slice ta t.length tc]).run Try.prog (w.alloc (.cells #[] 3))=.ok (rowV l2 t.length) w2/\Go.Abs.Below w.heap.size w w2 /\
   w2.ownsRow 0 3 1 (rowV l2 t.length) t.length cs2/\RL w2 (fun _=>False) (.int .i64) t cs2/\∀ b,l2.a=some b->w.heap.size<=b:=by
 unfold RC at hv
 obtain⟨ta,tc,e1,h1,h2,h3⟩:=hv
 obtain rfl:v=.slice ta t.length tc:=by simpa using e1
 have bA:Go.Abs.Below w.heap.size w (w.alloc (.cells #[] 3)):=(Go.Abs.Below.refl _ _).alloc (Nat.le_refl _) _
 have hnew:(w.alloc (.cells #[] 3)).heap[w.heap.size]? = some (.cells #[] 3 (0,0)):=heap_alloc_new _ _
 obtain⟨ti,tz,hi,hz,hz2,hz3,hz4⟩:=info_of (t:=3) (n:=1) (k:=8) (by kernel_rfl)
 have own0:(w.alloc (.cells #[] 3)).ownsRow 0 3 1 (rowV ⟨some w.heap.size,0,[]⟩ 0) 0 []:=⟨rfl,.inr ⟨w.heap.size,0,#[],rfl,zk _,hnew,Nat.le_refl _,zk _,rfl,rfl⟩⟩
 by_cases ht:t = []
 ·subst ht
  exact⟨ta,tc,⟨some w.heap.size,0,[]⟩,_,[],rfl,run_append0 (P:=Try.prog) (ty:=48) (e:=3) (i:=ti) (by kernel_rfl) hi (Nat.le_refl _),bA,own0,rfl,fun b hb=>by cases hb;exact Nat.le_refl _⟩
 ·obtain⟨b,q,rfl,hbl,-,hrow⟩:=h3 ht
  obtain⟨cs,hcs,hca⟩:=RL.ofRow hrow
  have hlen:0<t.length:=zAJ.2 ht
  have hcl:cs.length=t.length*ti.size:=by rw [hcs.length,hz3];rfl
  obtain⟨l',w5,hrun,o5,hcase⟩:=append_own (P:=Try.prog) (w:=w.alloc (.cells #[] 3)) (ty:=48) (e:=3) (i:=ti) (z:=tz) (by kernel_rfl) hi hz hz2 (by omega) (rt:=48) (l:=⟨some w.heap.size,0,[]⟩) (m:=0) (cs:=[]) (by rw [hz3];exact own0) (ad:=⟨b,q,none⟩) (k:=t.length) (c:=tc) (news:=cs)
   hcl (fun j u hj=>by
    rw [show (⟨b,q,none⟩:Addr).add j=⟨b,q+j,none⟩ from addr_add _ _ _,bA.cell hbl]
    exact hca j u hj) hcs.one hlen (by rw [hz4];omega) (by unfold maxLen;omega)
  rw [hz3,Nat.zero_add] at o5
  rw [Nat.zero_add] at hrun
  refine⟨some ⟨b,q,none⟩,tc,l',w5,cs,rfl,hrun,?_,o5,rl_int hcs,fun x hx=>?_⟩
  ·rcases hcase with⟨-,hg,hd⟩ | ⟨-,hg⟩
   ·exact bA.trans ⟨hg.os,⟨hg.tape,hd⟩,hg.output,hg.size,fun x hx=>hg.block x (by have:=bA.size;omega) fun e=>by cases e;omega⟩
   ·exact bA.trans (hg.mono bA.size)
  ·rcases hcase with⟨rfl,-,-⟩ | ⟨h1,-⟩
   ·cases hx;exact Nat.le_refl _
   ·rw [h1] at hx;cases hx;exact bA.size
theorem Lists_self{N:Nat}{f:List (List Int)}(hN:1000<=N)(hN2:N<=1000000000)(hl:f.length<=64)(h4:∀ t∈f,t.length<=4):D_ref_Lists N (f,f,())=some (true,()):=by
 simp only [D_ref_Lists,ref_Lists_3,joinD,loopE,bne_self_eq_false,cond_false]
 refine loopD_pass (n:=f.length) (by omega) (fun i hi kn=>?_) (fun kn=>by simp only [ref_Lists_2,lt_self,cond_false,ref_Lists_1]) (by omega)
 have:=h4 _ (nth_mem (z:=([]:List Int)) hi)
 simp only [ref_Lists_2,lt_d hi,ge0_d,Bool.and_self,cond_true,Int.toNat_natCast,TSame_eq (N:=N) (a:=nth [] f i) (b:=nth [] f i) (by omega) (by omega),decide_true,Option.bind_some,Bool.not_true,cond_false,backE_eq,ix1 hi (by omega)]
def GJ(W:World)(xs:List (List Int))(i:Nat)(fa:Option Addr)(fl fc:Nat)(w:World):Prop:=
 ∃ (l:Abs.Loc) (cs:List Value),Go.Abs.Below W.heap.size W w/\Value.slice fa fl fc=rowV l i/\FreshL w W.heap.size l (xs.take i) cs
theorem build_round{W:World}{xs:List (List Int)}{a0:Option Addr}{c0:Nat}(hv:RC W (fun _=>False) (.sl iL) xs [.slice a0 xs.length c0])(hb:(xs.length+1)*24<=140737488355328)(ht:∀ t∈xs,t.length*8<=140737488355328)
  {i:Nat} {fa:Option Addr} {fl fc:Nat} {w:World} (hG:GJ W xs i fa fl fc w) (hi:i<xs.length) :
  ∃ b q ta tn tc,a0=some ⟨b,q,none⟩/\w.cell? ⟨b,q+i,none⟩=some (.slice ta tn tc)/\BRound (GJ W xs) i fa fl fc ta tn tc w:=by
 obtain⟨l,cs,hB,hfv,hF⟩:=hG
 have hfl:fl=i:=by simp only [rowV,Value.slice.injEq] at hfv;exact hfv.2.1
 have hz:RC w (fun _=>False) (.sl iL) xs [.slice a0 xs.length c0]:=RC.keeps ⟨hB.size,fun x hx _=>hB.block x hx,fun _ _ h=>h⟩ hv
 unfold RC at hz
 obtain⟨a,cap,e1,h1,h2,h3⟩:=hz
 simp only [zd,Value.slice.injEq,and_true,true_and] at e1
 obtain⟨rfl,rfl⟩:=e1
 obtain⟨b,q,rfl,hbl,hm,hrow⟩:=h3 (fun e=>by rw [e] at hi;simp at hi)
 obtain⟨c1,g1,g2⟩:=hrow i xs[i] (zM hi)
 have htm:xs[i]∈xs:=zAN hi
 have htake:xs.take (i+1)=xs.take i ++ [xs[i]]:=List.take_succ_eq_append_getElem hi
 generalize xs[i]=t at g2 htm htake
 obtain⟨c,rfl⟩:∃ c,c1 = [c]:=by
  have:=g2.length
  exact zAo.1 this
 obtain⟨ta,tc,l2,w2,cs2,rfl,hrun,b2,o2,r2,n2⟩:=copy_new g2 (ht t htm)
 refine⟨b,q,ta,t.length,tc,rfl,by simpa [Sh.n] using g1 0 _ rfl,l2.addr,t.length,l2.cap,w2,hrun,?_⟩
 have b4:Go.Abs.Below w2.heap.size w2 (w2.alloc (.cells #[.slice l2.addr t.length l2.cap] 48)):=(Go.Abs.Below.refl _ _).alloc (Nat.le_refl _) _
 have hnew:(w2.alloc (.cells #[.slice l2.addr t.length l2.cap] 48)).heap[w2.heap.size]? = some (.cells #[.slice l2.addr t.length l2.cap] 48 (0,0)):=heap_alloc_new _ _
 revert b4 hnew
 generalize w2.alloc (.cells #[.slice l2.addr t.length l2.cap] 48)=w4
 intro b4 hnew
 have s2:=b2.size
 have s4:=b4.size
 have sB:=hB.size
 have b24:Go.Abs.Below w.heap.size w w4:=b2.trans (b4.mono s2)
 have hF4:=hF.keep b24.size b24.block
 have hli:(xs.take i).length=i:=by rw [zAC];omega
 obtain⟨l',w5,hrun5,hF5,f5,-⟩:=fresh_append hF4 (by omega) (ownsRow_block o2 fun x hx=>b4.block x (rowV_block o2 (rowV_own hx))) (M:=fun _=>False) (rl_int r2) (fun x hx=>⟨by have:=n2 x hx;omega,fun e=>by have:=n2 x hx;have:=hF.lt e;omega⟩) hnew (by omega)
 rw [hli,<- hfv] at hrun5
 rw [<- htake] at hF5
 subst hfl
 exact⟨l'.addr,l'.cap,w5,hrun5,l',_,below_fr (hB.trans (b24.mono sB)) f5 hF.ge (by omega),rfl,hF5⟩
end Go.Proofs.Ytcjecibocjbdmaa
