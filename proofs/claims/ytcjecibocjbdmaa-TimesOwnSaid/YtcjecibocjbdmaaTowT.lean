import Derived.Test.YtcjecibocjbdmaaTowM
namespace Go.Proofs.Ytcjecibocjbdmaa
open Go.Abs Go.RowKit Go.Shelf
attribute [local go_sem] Oper.semAt_some
set_option maxRecDepth 100000 in
set_option maxHeartbeats 1500000 in
theorem front_in(n:Nat)(v0:Value)(e:Int)(W:World)(L:World->Prop)(Post:Option Addr->Nat->Nat->Int->World->Prop)
  (hL:Calls Try.prog 34 #[v0] W fun e' w'=>e'=.returned (.int .i64 e)/\L w')
  (hE:∀ w',L w'->e=0->Calls Try.prog 35 #[v0] w' fun e' w''=>∃ a m c,e'=.returned (.slice a m c)/\Post a m c 0 w'')
  (hN:∀ w',L w'->e≠0->Post none 0 0 e w') :
  CallsIn Fence.wide n Try.prog 17 #[v0] W fun e' W'=>∃ a m c r,e'=.returned (.tuple #[.slice a m c,.int .i64 r])/\Post a m c r W':=by
 refine callsIn_of_wp Try.func17 rfl trivial ?_ rfl
 simp only [Try.ntmps17,List.size_toArray,List.length_cons,List.length_nil,Nat.reduceAdd,Nat.reduceSub,zBU,zBT,zBd,zBY,List.nil_append,List.cons_append]
 gi_wp2
 refine⟨trivial,fun h=>(by cases h),((callsIn_wide (n:=n - 1)).2 hL).mono ?_⟩
 rintro e' w' ⟨rfl,hl⟩
 by_cases he:e=0
 ·have hc:=hE w' hl he
  have hee:(e==0)=true:=beq_iff_eq.2 he
  clear hL hN hE
  gi_wp2
  refine⟨trivial,fun h=>(by cases h),((callsIn_wide (n:=n - 1)).2 hc).mono ?_⟩
  rintro e' w'' ⟨a,m,c,rfl,hp⟩
  gi_wp2
  refine bodyPost_ret (v:=.tuple #[.slice a m c,.int .i64 0]) (by simp [results,Try.results17,go_sem]) rfl ?_
  exact⟨a,m,c,0,rfl,hp⟩
 ·have hp:=hN w' hl he
  have hee:(e==0)=false:=zAO he
  clear hL hN hE
  gi_wp2
  refine bodyPost_ret (v:=.tuple #[.slice none 0 0,.int .i64 e]) (by simp [results,Try.results17,go_sem]) rfl ?_
  exact⟨none,0,0,e,rfl,hp⟩
def BRound(G:Nat->Option Addr->Nat->Nat->World->Prop)(i:Nat)(fa:Option Addr)(fl fc:Nat)(ta:Option Addr)(tn tc:Nat)(w:World):Prop:=
 ∃ sa sn sc w2,(Builtin.append_ #[48,48] 48 #[.slice (some ⟨w.heap.size,0,none⟩) 0 0,.slice ta tn tc]).run Try.prog (w.alloc (.cells #[] 3))=.ok (.slice sa sn sc) w2 /\
  ∃ fa' fc' w4,(Builtin.append_ #[47,47] 47 #[.slice fa fl fc,.slice (some ⟨w2.heap.size,0,none⟩) 1 1]).run Try.prog (w2.alloc (.cells #[.slice sa sn sc] 48))=.ok (.slice fa' (fl+1) fc') w4/\G (i+1) fa' (fl+1) fc' w4
def WState(ra:Option Addr)(rn:Nat)(K:World->Prop)(ua:Nat->Option Addr)(un uc:Nat->Nat):Prop:=
 ∀ w k,K w->k<rn->∃ b q,ra=some ⟨b,q,none⟩/\w.cell? ⟨b,q+k,none⟩=some (.slice (ua k) (un k) (uc k))/\un k<=maxI /\
  ∀ j,j<un k->∃ d p x,ua k=some ⟨d,p,none⟩/\w.cell? ⟨d,p+j,none⟩=some x/\w.frozen? ⟨d,p+j,none⟩=false/\K (w.setCell ⟨d,p+j,none⟩ (.int .i64 (-7)))
def FEnd(a0:Option Addr)(n0 c0:Nat)(fa:Option Addr)(fl fc:Nat)(Post:World->Prop)(e:Ending)(w':World):Prop:=
 ∃ (ra:Option Addr) (rn rc:Nat) (r:Int),e=.returned (.tuple #[.slice ra rn rc,.int .i64 r]) /\
  ((r≠0/\Post w')\/(r=0/\rn=0/\n0=0/\Post w')\/(r=0/\0<rn/\rn<=64/\∃ (K:World->Prop) (ua:Nat->Option Addr) (un uc:Nat->Nat),K w'/\WState ra rn K ua un uc /\
   ∀ w,K w->Calls Try.prog 18 #[.slice fa fl fc,.slice a0 n0 c0] w fun e w'=>e=.returned (.bool true)/\Post w'))
set_option maxRecDepth 100000 in
set_option maxHeartbeats 2500000 in
theorem own_in(n:Nat)(a0:Option Addr)(n0 c0:Nat)(hn0:n0<=c0/\c0<=maxI)(W:World)(G:Nat->Option Addr->Nat->Nat->World->Prop)(Post:World->Prop)
  (h0:G 0 none 0 0 W)
  (hB:∀ i fa fl fc w,G i fa fl fc w->i<n0->∃ b q ta tn tc,a0=some ⟨b,q,none⟩/\w.cell? ⟨b,q+i,none⟩=some (.slice ta tn tc)/\BRound G i fa fl fc ta tn tc w)
  (hF:∀ fa fl fc w,G n0 fa fl fc w->Calls Try.prog 17 #[.slice fa fl fc] w (FEnd a0 n0 c0 fa fl fc Post)) :
  CallsIn Fence.wide n Try.prog 6 #[.slice a0 n0 c0] W fun e W'=>e=.returned (.bool true)/\Post W':=by
 refine callsIn_of_wp Try.func6 rfl trivial ?_ rfl
 simp only [Try.ntmps6,List.size_toArray,List.length_cons,List.length_nil,Nat.reduceAdd,Nat.reduceSub,zBU,zBT,zBd,zBY,List.nil_append,List.cons_append]
 obtain⟨hn1,hn2⟩:=hn0
 unfold maxI at hn2
 gi_wp2
 gi_loopw [3,13] (fun f p wr=>∃ (i fl fc:Nat) (fa:Option Addr),p=.int .i64 (i:Int)/\f=.slice fa fl fc/\i<=n0/\G i fa fl fc wr) (fun _ p _=>n0 - natOf p)
 case atStart=>exact⟨0,0,0,none,rfl,rfl,zk _,h0⟩
 case round=>
  obtain⟨i,fl,fc,fa,rfl,rfl,hi,hg⟩:=hrel
  by_cases hend:i=n0
  ·subst hend
   have hlt:((i:Int)<(i:Int))=False:=by simp
   have hc:=hF fa fl fc wr hg
   clear hF hB
   gi_wp2
   refine⟨trivial,fun h=>(by cases h),((callsIn_wide (n:=n - 1)).2 hc).mono ?_⟩
   rintro e w' ⟨ra,rn,rc,r,rfl,hcase⟩
   clear hc
   rcases hcase with⟨hr,hp⟩ | ⟨rfl,rfl,rfl,hp⟩ | ⟨rfl,hr0,hr64,K,ua,un,uc,hK,hW,hL⟩
   ·have hrr:(r==0)=false:=zAO hr
    gi_wp2
    refine bodyPost_ret (v:=.bool true) (by simp [results,Try.results6,go_sem]) rfl ?_
    exact⟨rfl,hp⟩
   ·gi_wp2
    refine bodyPost_ret (v:=.bool true) (by simp [results,Try.results6,go_sem]) rfl ?_
    exact⟨rfl,hp⟩
   ·have hrn:((rn:Int)==0)=false:=zAO (by omega)
    gi_wp2
    gi_loopw [45] (fun p wr=>∃ k:Nat,p=.int .i64 (k:Int)/\k<=rn/\K wr) (fun p _=>rn - natOf p)
    case atStart=>exact⟨0,rfl,zk _,hK⟩
    case round=>
     obtain⟨k,rfl,hk,hKk⟩:=hrel
     by_cases hend:k=rn
     ·subst hend
      have hlt:((k:Int)<(k:Int))=False:=by simp
      have hl:=hL wr hKk
      clear hL hW
      gi_wp2
      refine⟨trivial,fun h=>(by cases h),((callsIn_wide (n:=n - 1)).2 hl).mono ?_⟩
      rintro e w'' ⟨rfl,hp⟩
      gi_wp2
      refine bodyPost_ret (v:=.bool true) (by simp [results,Try.results6,go_sem]) rfl ?_
      exact⟨rfl,hp⟩
     ·have hlt:(k:Int)<(rn:Int):=by omega
      obtain⟨b,q,rfl,d0,hun,hw⟩:=hW wr k hKk (by omega)
      unfold maxI at hun
      gi_wp2
      gi_loopw [51] (fun p wr=>∃ j:Nat,p=.int .i64 (j:Int)/\j<=un k/\K wr) (fun p _=>un k - natOf p)
      case atStart=>exact⟨0,rfl,zk _,hKk⟩
      case round=>
       obtain⟨j,rfl,hj,hKj⟩:=hrel
       by_cases hend2:j=un k
       ·have hlt2:((j:Int)<(un k:Int))=False:=by simp [hend2]
        gi_wp2
        go_roundw
        case rel=>exact⟨k+1,by simp,by omega,hKj⟩
        case measure=>
         simp only [natOf]
         omega
       ·have hlt2:(j:Int)<(un k:Int):=by omega
        obtain⟨b',q',-,-,-,hw2⟩:=hW wr k hKj (by omega)
        obtain⟨d,p,x,hd,d1,d2,hK2⟩:=hw2 j (by omega)
        gi_wp2
        go_roundw
        case rel=>exact⟨j+1,by simp,by omega,hK2⟩
        case measure=>
         simp only [natOf]
         omega
  ·have hlt:(i:Int)<(n0:Int):=by omega
   obtain⟨b,q,ta,tn,tc,rfl,d0,sa,sn,sc,w2,ha1,fa',fc',w4,ha2,hg2⟩:=hB i fa fl fc wr hg (by omega)
   clear hF hB
   gi_wp2_with (first | (gi_at_builtin;first | refine append_step rfl _ _ _ rfl ha1 ?_ | refine append_step rfl _ _ _ rfl ha2 ?_) | gi_in)
   go_roundw
   case rel=>exact⟨i+1,fl+1,fc',fa',by simp,rfl,by omega,hg2⟩
   case measure=>
    simp only [natOf]
    omega
end Go.Proofs.Ytcjecibocjbdmaa
