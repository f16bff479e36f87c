import Derived.Test.YtcjecibocjbdmaaTidO
import Derived.Deep.MidRow
import Derived.Deep.WholeRow
namespace Go.Proofs.Ytcjecibocjbdmaa
open Go.Abs Go.RowKit Go.Shelf
attribute [local go_sem] Oper.semAt_some
def natOf:Value->Nat
 | .int _ n=>n.toNat
 | _=>0
structure WD (ra:Option Addr) (rn:Nat) (K:World->Prop) (KB:Nat->Nat->World->Prop) (tA:Nat->Option Addr) (tn tc:Nat->Nat) (rA:Nat->Option Addr) (rm rc:Nat->Nat):Prop where
 out:∀ w k,K w->k<rn->∃ b q,ra=some ⟨b,q,none⟩/\w.cell? ⟨b,q+k*2,none⟩=some (.slice (tA k) (tn k) (tc k))/\w.cell? ⟨b,q+k*2+1,none⟩=some (.slice (rA k) (rm k) (rc k))/\tn k<=maxI/\rm k<=maxI
 box:∀ w k,K w->k<rn->KB k w.heap.size (w.alloc (.cells #[.slice (tA k) (tn k) (tc k),.slice (rA k) (rm k) (rc k)] 59))
 at_:∀ w k bx,KB k bx w->w.cell? ⟨bx,0,none⟩=some (.slice (tA k) (tn k) (tc k))/\w.cell? ⟨bx,1,none⟩=some (.slice (rA k) (rm k) (rc k))
 row:∀ w k bx j,KB k bx w->k<rn->j<rm k->∃ d p x,rA k=some ⟨d,p,none⟩/\w.cell? ⟨d,p+j*3+2,none⟩=some x/\w.frozen? ⟨d,p+j*3+2,none⟩=false/\KB k bx (w.setCell ⟨d,p+j*3+2,none⟩ (.int .i64 77))
 tim:∀ w k bx j,KB k bx w->k<rn->j<tn k->∃ d p x,tA k=some ⟨d,p,none⟩/\w.cell? ⟨d,p+j,none⟩=some x/\w.frozen? ⟨d,p+j,none⟩=false/\KB k bx (w.setCell ⟨d,p+j,none⟩ (.int .i64 (-7)))
 off:∀ w k bx,KB k bx w->K w
def DEnd(v0:Value)(a:Option Addr)(m c:Nat)(Post:World->Prop)(w:World):Prop:=
 Calls Try.prog 19 #[v0] w fun e w1=>∃ (a3:Option Addr) (m3 c3:Nat),e=.returned (.tuple #[.slice a3 m3 c3,.int .i64 0]) /\
  Calls Try.prog 21 #[.slice a m c,.slice a3 m3 c3] w1 fun e w2=>e=.returned (.bool true)/\Post w2
def DMid(v0:Value)(a:Option Addr)(m c:Nat)(Post:World->Prop)(w:World):Prop:=
 Calls Try.prog 19 #[.slice a m c] w fun e w1=>∃ (a2:Option Addr) (m2 c2:Nat),e=.returned (.tuple #[.slice a2 m2 c2,.int .i64 0]) /\
  Calls Try.prog 21 #[.slice a m c,.slice a2 m2 c2] w1 fun e w2=>e=.returned (.bool true)/\m2<=maxI /\
   ∃ (K:World->Prop) (KB:Nat->Nat->World->Prop) (tA:Nat->Option Addr) (tn tc:Nat->Nat) (rA:Nat->Option Addr) (rm rc:Nat->Nat),K w2/\WD a2 m2 K KB tA tn tc rA rm rc/\∀ w,K w->DEnd v0 a m c Post w
set_option maxRecDepth 100000 in
set_option maxHeartbeats 4000000 in
theorem dif_in(n:Nat)(v0:Value)(W:World)(Post:World->Prop)
  (h1:Calls Try.prog 19 #[v0] W fun e w1=>∃ (a:Option Addr) (m c:Nat) (r:Int),e=.returned (.tuple #[.slice a m c,.int .i64 r])/\((r≠0/\Post w1)\/(r=0/\∃ t:Int,
   Calls Try.prog 20 #[.slice a m c] w1 fun e w2=>e=.returned (.int .i64 t)/\Calls Try.prog 20 #[v0] w2 fun e w3=>e=.returned (.int .i64 t)/\DMid v0 a m c Post w3))) :
  CallsIn Fence.wide n Try.prog 7 #[v0] W fun e W'=>e=.returned (.bool true)/\Post W':=by
 refine callsIn_of_wp Try.func7 rfl trivial ?_ rfl
 simp only [Try.ntmps7,List.size_toArray,List.length_cons,List.length_nil,Nat.reduceAdd,Nat.reduceSub,Array.replicate_succ,Array.replicate_zero,List.push_toArray,List.append_toArray,List.nil_append,List.cons_append]
 gi_wp2
 refine⟨trivial,fun h=>(by cases h),((callsIn_wide (n:=n - 1)).2 h1).mono ?_⟩
 rintro e w1 ⟨a,m,c,r,rfl,hcase⟩
 clear h1
 rcases hcase with⟨hr,hp⟩ | ⟨rfl,t,h2⟩
 ·have hrr:(r==0)=false:=zAN hr
  gi_wp2
  refine⟨trivial,?_⟩
  gi_wp2
  refine⟨trivial,?_⟩
  gi_wp2
  refine bodyPost_ret (v:=.bool true) (by simp [results,Try.results7,go_sem,hr]) rfl ?_
  exact⟨rfl,hp⟩
 ·gi_wp2
  refine⟨trivial,fun h=>(by cases h),((callsIn_wide (n:=n - 1)).2 h2).mono ?_⟩
  rintro e w2 ⟨rfl,h3⟩
  clear h2
  gi_wp2
  refine⟨trivial,fun h=>(by cases h),((callsIn_wide (n:=n - 1)).2 h3).mono ?_⟩
  rintro e w3 ⟨rfl,h4⟩
  clear h3
  unfold DMid at h4
  gi_wp2
  refine⟨trivial,fun h=>(by cases h),((callsIn_wide (n:=n - 1)).2 h4).mono ?_⟩
  rintro e w4 ⟨a2,m2,c2,rfl,h5⟩
  clear h4
  gi_wp2
  refine⟨trivial,fun h=>(by cases h),((callsIn_wide (n:=n - 1)).2 h5).mono ?_⟩
  rintro e w5 ⟨rfl,hm2,K,KB,tA,tn,tc,rA,rm,rc,hK,hW,hE⟩
  clear h5
  unfold maxI at hm2
  gi_wp2
  gi_loopw [42] (fun p wr=>∃ k:Nat,p=.int .i64 (k:Int)/\k<=m2/\K wr) (fun p _=>m2 - natOf p)
  case atStart=>exact⟨0,rfl,zw _,hK⟩
  case round=>
   obtain⟨k,rfl,hk,hKk⟩:=hrel
   by_cases hend:k=m2
   ·subst hend
    have hlt:((k:Int)<(k:Int))=False:=by simp
    have h6:=hE wr hKk
    clear hE hW
    unfold DEnd at h6
    gi_wp2
    refine⟨trivial,fun h=>(by cases h),((callsIn_wide (n:=n - 1)).2 h6).mono ?_⟩
    rintro e w6 ⟨a3,m3,c3,rfl,h7⟩
    clear h6
    gi_wp2
    refine⟨trivial,fun h=>(by cases h),((callsIn_wide (n:=n - 1)).2 h7).mono ?_⟩
    rintro e w7 ⟨rfl,hp⟩
    gi_wp2
    refine bodyPost_ret (v:=.bool true) (by simp [results,Try.results7,go_sem]) rfl ?_
    exact⟨rfl,hp⟩
   ·have hlt:(k:Int)<(m2:Int):=by omega
    obtain⟨b,q,rfl,d0,d1,ht,hr⟩:=hW.out wr k hKk (by omega)
    have hKB:=hW.box wr k hKk (by omega)
    unfold maxI at ht hr
    gi_wp2
    generalize hbx:wr.heap.size=bx at hKB ⊢
    gi_loopw [49] (fun p w=>∃ j:Nat,p=.int .i64 (j:Int)/\j<=rm k/\KB k bx w) (fun p _=>rm k - natOf p)
    case atStart=>exact⟨0,rfl,zw _,hKB⟩
    case round=>
     obtain⟨j,rfl,hj,hB⟩:=hrel
     obtain⟨x0,x1⟩:=hW.at_ _ k _ hB
     by_cases hend2:j=rm k
     ·have hlt2:((j:Int)<(rm k:Int))=False:=by simp [hend2]
      gi_wp2
      gi_loopw [61] (fun p w=>∃ j:Nat,p=.int .i64 (j:Int)/\j<=tn k/\KB k bx w) (fun p _=>tn k - natOf p)
      case atStart=>exact⟨0,rfl,zw _,hB⟩
      case round=>
       clear x0 x1
       obtain⟨i,rfl,hi,hB2⟩:=hrel
       obtain⟨y0,y1⟩:=hW.at_ _ k _ hB2
       by_cases hend3:i=tn k
       ·have hlt3:((i:Int)<(tn k:Int))=False:=by simp [hend3]
        have hKn:=hW.off _ k _ hB2
        gi_wp2
        go_roundw
        case rel=>exact⟨k+1,by simp,by omega,hKn⟩
        case measure=>
         simp only [natOf]
         omega
       ·have hlt3:(i:Int)<(tn k:Int):=by omega
        obtain⟨d,p,x,hd,e1,e2,hB3⟩:=hW.tim _ k _ i hB2 (by omega) (by omega)
        gi_wp2
        go_roundw
        case rel=>exact⟨i+1,by simp,by omega,hB3⟩
        case measure=>
         simp only [natOf]
         omega
     ·have hlt2:(j:Int)<(rm k:Int):=by omega
      obtain⟨d,p,x,hd,e1,e2,hB3⟩:=hW.row _ k _ j hB (by omega) (by omega)
      gi_wp2
      go_roundw
      case rel=>exact⟨j+1,by simp,by omega,hB3⟩
      case measure=>
       simp only [natOf]
       omega
end Go.Proofs.Ytcjecibocjbdmaa
