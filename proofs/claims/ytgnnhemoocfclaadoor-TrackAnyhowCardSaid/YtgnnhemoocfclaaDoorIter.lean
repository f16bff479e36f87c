import Derived.Test.YtgnnhemoocfclaaDoorSets
import Derived.Shelf.Spec.TrailingZeros
import Derived.RangeFuncBox
import Derived.RangeFuncLeaves
import Derived.Shelf.Abstract
import Derived.WalkKit
import Derived.OwnWalkIn
import Derived.TacticsInMore
import Derived.LoopNIn
import Derived.LoopIn
import Derived.Shelf.Spec.SearchS
namespace Go.Proofs.YtgnnhemoocfclaaDoor
open Go.Abs Go.RowKit Go.Shelf
attribute [local go_sem] Oper.semAt_some
set_option maxHeartbeats 1000000 in
theorem tz64_core(x k idx:Nat)(w:World)(hx0:((x:Int)==0)=false)
  (key:IntKind.u64.wrap (Go.bits BinOp.and IntKind.u64 (x:Int) (IntKind.u64.wrap (-(x:Int)))*285870213051353865) / 288230376151711744=(idx:Int))
  (hi:idx<64) (hk:k<64) (hcell:w.cell? ⟨0,idx,none⟩=some (.int .u8 k)) :
  Calls Tryd.prog 104 #[.int .u64 x] w fun e w'=>e=.returned (.int .i64 k)/\w'=w:=by
 go_enter Tryd.func104,Tryd.ntmps104
 go_wp2_with (simp only [key])
 go_ret
 exact⟨rfl,rfl⟩
theorem qxM{w:World}(hT:qap w 0 0 (tab.map fun z=>.int .u8 z)){idx k:Nat}(hi:idx<64)(hk:Lib.deBruijn64tab.getD idx 0=k):w.cell? ⟨0,idx,none⟩=some (.int .u8 k):=by
 have hl:Lib.deBruijn64tab.length=64:=rfl
 have e:tab.map (fun z=>Value.int .u8 z)=Lib.deBruijn64tab.map (fun z:Nat=>Value.int .u8 (z:Int)):=rfl
 have:=hT idx (.int .u8 k) (by
  rw [e,zAa,<- hk,List.getD,zX (by rw [hl];exact hi)]
  rfl)
 rwa [Nat.zero_add] at this
theorem tz64(x:Nat)(hx:x<18446744073709551616)(hx0:x≠0)(w:World)(hT:qap w 0 0 (tab.map fun z=>.int .u8 z)) :
  Calls Tryd.prog 104 #[.int .u64 x] w fun e w'=>e=.returned (.int .i64 (Lib.ctz 64 x))/\w'=w:=by
 obtain⟨hlow,hk⟩:=Lib.lowest_bit 64 x hx0 hx
 obtain⟨hi,htab⟩:=Lib.deBruijn64_at _ hk
 have key:=tz64_key x _ hx hx0 hlow
 generalize 2 ^ Lib.ctz 64 x*285870213051353865 % 18446744073709551616 / 288230376151711744=idx at hi htab key
 exact tz64_core x _ idx w (by simp;omega) key hi hk (qxM hT hi htab)
def bl(x:Nat):List Nat:=(List.range 64).filter x.testBit
theorem qlz{p:Nat->Bool}{k:Nat}(hk:p k=true)(hl:∀ j,j<k->p j=false):∀ n,k<n->(List.range n).filter p=k :: (List.range n).filter (fun j=>p j&&j != k)
 | 0,h=>by omega
 | n+1,h=>by
  rw [zBx,zAo,zAo]
  rcases zAK k n with h1 | h1
  ·rw [qlz hk hl n h1]
   have:(n != k)=true:=by simp;omega
   simp [zAh,this]
  ·have:n=k:=by omega
   subst this
   have e1:(List.range n).filter p = []:=zBW.2 fun j hj=>by simp [hl j (zk.1 hj)]
   have e2:(List.range n).filter (fun j=>p j&&j != n) = []:=zBW.2 fun j hj=>by simp [hl j (zk.1 hj)]
   simp [e1,e2,zAh,hk]
theorem qzm{x:Nat}(hx0:x≠0)(hx:x<2 ^ 64):x.testBit (Lib.ctz 64 x)=true/\(∀ j,j<Lib.ctz 64 x->x.testBit j=false)/\∀ j,(x &&& (x - 1)).testBit j=(x.testBit j&&j != Lib.ctz 64 x):=by
 obtain⟨m,hm,hk⟩:=Lib.ctzFrom_spec 64 x (by omega) hx
 have e:Lib.ctz 64 x=Lib.ctzFrom 64 x:=by simp [Lib.ctz,hx0]
 rw [e]
 generalize Lib.ctzFrom 64 x=k at hm
 have hp:0<2 ^ k:=Nat.pow_pos (by omega)
 have h1:∀ j,x.testBit j=if j<k then false else (2*m+1).testBit (j - k):=fun j=>by
  rw [hm,<- Nat.add_zero (2 ^ k*(2*m+1)),zBu _ hp]
  simp
 have h2:∀ j,(x - 1).testBit j=if j<k then (2 ^ k - 1).testBit j else (2*m).testBit (j - k):=fun j=>by
  have:x - 1=2 ^ k*(2*m)+(2 ^ k - 1):=by rw [hm,Nat.mul_add,Nat.mul_one];omega
  rw [this,zBu _ (by omega)]
 refine⟨by rw [h1];simp,fun j hj=>by rw [h1,zH hj],fun j=>?_⟩
 rw [Nat.testBit_and,h1,h2]
 by_cases hj:j<k
 ·simp [hj]
 ·simp only [hj,if_false]
  by_cases hjk:j=k
  ·subst hjk;simp
  ·obtain⟨d,hd⟩:∃ d,j - k=d+1:=⟨j - k - 1,by omega⟩
   rw [hd,Nat.testBit_succ,Nat.testBit_succ]
   have a1:(2*m+1) / 2=m:=by omega
   have a2:2*m / 2=m:=by omega
   simp [a1,a2,hjk]
theorem qzN{x:Nat}(hx0:x≠0)(hx:x<18446744073709551616):bl x=Lib.ctz 64 x :: bl (x &&& (x - 1)):=by
 obtain⟨h1,h2,h3⟩:=qzm hx0 (by omega)
 have hk:Lib.ctz 64 x<64:=by
  rcases zAK (Lib.ctz 64 x) 64 with h | h
  ·exact h
  ·rw [zBT (zM (show x<2 ^ 64 by omega) (zBZ (by omega) h))] at h1;cases h1
 unfold bl
 rw [qlz h1 h2 64 hk]
 congr 1
 refine List.filter_congr fun j _=>?_
 rw [h3]
theorem qzM:bl 0 = []:=by simp [bl]
theorem qyF{x:Nat}(hx0:x≠0):x &&& (x - 1)<x:=zBg Nat.and_le_right (by omega)
set_option maxRecDepth 100000 in
set_option maxHeartbeats 1000000 in
theorem qzz(n l B q:Nat)(xI:Int)(x0:Nat)(hx64:IntKind.u64.wrap xI=(x0:Int))(hx:x0<18446744073709551616)(J:Nat->World->Prop)(Jx:World->Prop)
  (hT:∀ i W,J i W->qap W 0 0 (tab.map fun z=>.int .u8 z))
  (hY:∀ i k W,(bl x0)[i]? = some k->J i W->YieldAt Fence.wide (n - 1) Tryd.prog l #[.int .i64 (k:Nat)] W fun e W'=>(e=.returned (.bool true)/\J (i+1) W')\/(e=.returned (.bool false)/\Jx W'))
  (W:World) (hB:W.cell? ⟨B,q,none⟩=some (.int .u32 xI)) (h0:J 0 W) :
  CallsIn Fence.wide n Tryd.prog 103 #[.func (.yield l) #[] #[],.pointer (some ⟨B,q,none⟩)] W fun e W'=>(∃ v,e=.returned v)/\(J (bl x0).length W'\/Jx W'):=by
 refine callsIn_of_wp Tryd.func103 rfl trivial ?_ rfl
 simp only [Tryd.ntmps103,List.size_toArray,List.length_cons,List.length_nil,Nat.reduceAdd,Nat.reduceSub,Array.replicate_succ,Array.replicate_zero,List.push_toArray,List.append_toArray,List.nil_append,List.cons_append]
 gi_wp2_with (simp only [hx64])
 gi_loopw [3] (fun p wr=>∃ (x i:Nat),p=.int .u64 (x:Int)/\x<18446744073709551616/\bl x=(bl x0).drop i/\i<=(bl x0).length/\J i wr)
  (fun p _=>(Lib.intOf p).toNat)
 case atStart=>exact⟨x0,0,rfl,hx,rfl,zy _,h0⟩
 case round=>
  obtain⟨x,i,rfl,hxl,hbl,hil,hJ⟩:=hrel
  by_cases hx0:x=0
  ·subst hx0
   gi_wp2
   go_end0
   rw [qzM] at hbl
   have hi:i=(bl x0).length:=by
    have:=congrArg List.length hbl
    simp at this;omega
   subst hi
   exact⟨⟨_,rfl⟩,.inl hJ⟩
  ·have hne:((x:Int) != 0)=true:=by simp;omega
   have hc:=qzN hx0 hxl
   have hget:(bl x0)[i]? = some (Lib.ctz 64 x):=by
    have:=congrArg (fun l=>l[0]?) (hbl.symm.trans hc)
    simpa using this
   obtain⟨fn,tmps,assign,body,hy,hR⟩:=hY i _ wr hget hJ
   have htz:=callsIn_wide (n:=n - 1).2 (tz64 x (by omega) hx0 wr (hT i wr hJ))
   gi_wp2_with (first
    | (gi_at_call 104;refine htz.mono ?_;rintro e w' ⟨rfl,rfl⟩)
    | gi_in)
   refine⟨trivial,fun h=>(by cases h),htz.mono ?_⟩
   rintro e w' ⟨rfl,rfl⟩
   gi_wp2
   refine⟨fun h=>(by cases h),hR.mono ?_⟩
   have hand:Go.bits BinOp.and IntKind.u64 (x:Int) (IntKind.u64.wrap ((x:Int) - 1))=((x &&& (x - 1):Nat):Int):=by
    have:IntKind.u64.wrap ((x:Int) - 1)=((x - 1:Nat):Int):=by rw [IntKind.wrap_u64];omega
    rw [this,bits_and_u64_nat x (x - 1) (by omega) (by omega)]
   have hand2:Go.bits BinOp.and IntKind.u64 (x:Int) ((x:Int) - 1)=((x &&& (x - 1):Nat):Int):=by
    have:(x:Int) - 1=((x - 1:Nat):Int):=by omega
    rw [this,bits_and_u64_nat x (x - 1) (by omega) (by omega)]
   have hlt:=qyF hx0
   rintro e W3 (⟨rfl,hJ3⟩ | ⟨rfl,hJ3⟩)
   ·gi_wp2_with (simp only [hand])
    go_roundw
    case rel=>
     refine⟨x &&& (x - 1),i+1,rfl,by omega,?_,?_,hJ3⟩
     ·have:=congrArg List.tail (hc.symm.trans hbl)
      simpa using this
     ·have:=(zT.1 hget).1
      omega
    case measure=>
     simp only [Lib.intOf]
     omega
   ·gi_wp2
    refine bodyPost_ret (results_none rfl _ _ _) rfl ?_
    exact⟨⟨_,rfl⟩,.inr hJ3⟩
abbrev qnP:List Kd:=[.ptr (.int .u32)]
def qgd(x:Dens qnP):List Int:=(bl (IntKind.u64.wrap x.1).toNat).map fun (i:Nat)=>(i:Int)
theorem qzb:SpecI Tryd.prog Gs 103 qnP (.int .i64) qgd:=by
 intro M w x vs hg hgm hv r n
 obtain⟨x,_⟩:=x
 simp only [kvals,RVs,Kd.val,RV] at hv
 obtain⟨v,_,rfl,⟨b,q,cs,rfl,hb,hm,hc,hrc⟩,rfl⟩:=hv
 simp only [RC] at hrc
 subst hrc
 intro l J Jx W hW hJ1 hJ2 hY h0
 have hT0:=(hg (0,tab.map fun z=>.int .u8 z) (by simp [Gs])).2
 have hTl:=(hg (0,tab.map fun z=>.int .u8 z) (by simp [Gs])).1
 have hTm:¬ M 0:=hgm (0,tab.map fun z=>.int .u8 z) (by simp [Gs])
 obtain⟨x0,hx1,hx2⟩:∃ x0:Nat,IntKind.u64.wrap x=(x0:Int)/\x0<18446744073709551616:=⟨(IntKind.u64.wrap x).toNat,by rw [IntKind.wrap_u64];omega,by rw [IntKind.wrap_u64];omega⟩
 have exs:qgd (x,())=(bl x0).map fun (i:Nat)=>(i:Int):=by simp [qgd,hx1]
 have hcb:=hc 0 (.int .u32 x) rfl
 rw [Nat.add_zero] at hcb
 have key:=qzz n l b q x x0 hx1 hx2 (fun i X=>J i X/\∀ b,b<w.heap.size->¬ M b->X.heap[b]? = w.heap[b]?) Jx
  (fun i X hX j v hj=>(World.cell?_of_block (w:=w) (hX.2 0 hTl hTm)).trans (hT0 j v hj)) ?_ W
  ((World.cell?_of_block (w:=w) (hW.block b hb)).trans hcb) ⟨h0,fun b hb _=>hW.block b hb⟩
 ·refine CallsIn.mono (F:=WF r) key ?_
  rintro e W' ⟨h1,h2⟩
  refine⟨h1,h2.imp (fun h=>?_) id⟩
  have:=h.1
  simpa [exs] using this
 ·intro i k X hk hX
  obtain⟨fn,tmps,c,d,hr,hq⟩:=hY i #[.int .i64 (k:Nat)] X (by rw [exs];simp [hk,encL,svOf]) hX.1
  refine⟨fn,tmps,c,d,hr,RoundIn.mono (F:=Fence.wide) hq ?_⟩
  rintro e W' (⟨h1,h2,h3⟩ | h1)
  ·exact .inl ⟨h1,h2,fun b hb hm=>by rw [h3 b hb hm,hX.2 b hb hm]⟩
  ·exact .inr h1
theorem qpi{w:Int}(hw:W32 w):qgd (w,())=(els w).map fun (i:Nat)=>(i:Int):=by
 have h1:=hw.1
 have h2:=hw.2
 have e:IntKind.u64.wrap w=w:=by rw [IntKind.wrap_u64];omega
 unfold qgd
 simp only [e]
 congr 1
 unfold bl els
 have:List.range 64=List.range 32++(List.range 32).map (32 + ·):=List.range_add (n:=32) (m:=32)
 rw [this,zAo]
 have h0:((List.range 32).map (32 + ·)).filter w.toNat.testBit = []:=by
  rw [zBW]
  intro j hj
  obtain⟨i,_,rfl⟩:=zt.1 hj
  have:bt w (32+i)=false:=zAN.2 fun e=>by have:=bt_lt hw e;omega
  simpa [bt] using this
 rw [h0,List.append_nil]
 rfl
theorem qxg:IEntOk Tryd.prog Gs (mkI 103 qnP (.int .i64) qgd):=entI ⟨Tryd.f103,qB Tryd.f103,by kernel_rfl,by kernel_rfl,rfl⟩ (by kernel_rfl) qzb
end Go.Proofs.YtgnnhemoocfclaaDoor
