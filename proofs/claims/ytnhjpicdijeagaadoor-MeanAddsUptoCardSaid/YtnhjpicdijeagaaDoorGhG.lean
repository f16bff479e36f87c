import Derived.Test.YtnhjpicdijeagaaDoorAbsLp
import Derived.Test.YtnhjpicdijeagaaDoorAbsOpn
import Derived.Test.YtnhjpicdijeagaaDoorProg
import Derived.KernelRfl
import Derived.Shelf.Spec.TrailingZeros
import Derived.RangeFuncBox
import Derived.RangeFuncLeaves
import Derived.Shelf.Abstract
import Derived.WalkKit
import Derived.OwnWalkIn
import Derived.TacticsInMore
import Derived.LoopNIn
import Derived.LoopIn
import Derived.Shelf.Spec.SearchS
import Derived.Test.YtnhjpicdijeagaaDoorAbsSubF
import Derived.Test.YtnhjpicdijeagaaDoorAbsMp
import Derived.Test.YtnhjpicdijeagaaDoorAbsOrd
import Derived.Test.YtnhjpicdijeagaaDoorAbsLat
noncomputable section
namespace Go.Proofs.YtnhjpicdijeagaaDoor
open Go.Abs
def ql(f:Func):Code:=f.body.getD .skip
def tab:List Int:=[0,1,56,2,57,49,28,3,61,58,42,50,38,29,17,4,62,47,59,36,45,43,51,22,53,39,33,30,24,18,12,5,63,55,48,27,60,41,37,16,46,35,44,21,52,32,23,11,54,26,40,15,34,20,31,10,25,14,19,9,13,8,7,6]
def Gs:List (Nat×List Value):=[(0,tab.map fun z=>.int .u8 z)]
abbrev qgJ:List Kd:=[.dat (.int .i64)]
abbrev qgH:List Kd:=[.dat (.int .u32)]
abbrev qqy:Type:=Dens qgH
def qyY(_N:Nat):Ctx:={ T:=[],G:=findE [],I:=findI [],N:=_N,n:=5,fx:=[],fl:=0,gs:=Gs }
def qrq(_N:Nat)(_x1:Int):Option qqy:=
 (bif (decide (_x1<0)) then none else (some ((ishl .u32 (1:Int) _x1),())))
def qcb(_N:Nat)(_x:Dens qgJ):Option qqy:=qrq _N _x.1
theorem qvP(_N:Nat):SpecD Tryd.prog Gs 56 qgJ qgH (qcb _N):=mkSpD (fn:=Tryd.f56) (c:=ql Tryd.f56) (C:=qyY _N)
  (a:=.none)
  (by kernel_rfl) rfl (by kernel_rfl) (by kernel_rfl) ⟨rfl,by unfold TOk;kernel_rfl,qao rfl rfl (zC _),qan rfl rfl (zC _),rfl⟩ (fun _x=>by kernel_rfl)
theorem qqg(_N:Nat):EntOk Tryd.prog Gs (mkP 56 qgJ qgH (qcb _N)):=entP ⟨Tryd.f56,ql Tryd.f56,by kernel_rfl,by kernel_rfl,rfl⟩ (by kernel_rfl) (qvP _N)
abbrev qcU:List Kd:=[.dat (.int .u32),.dat (.int .i64)]
abbrev qcS:List Kd:=[.dat (.bool)]
abbrev qhl:Type:=Dens qcS
def qns(_N:Nat):Ctx:={ T:=[],G:=findE [],I:=findI [],N:=_N,n:=10,fx:=[],fl:=0,gs:=Gs }
def qhI(_N:Nat)(_x1:Int)(_x2:Int):Option qhl:=
 (bif (decide (_x2<0)) then none else (some (((iand .u32 (ishr .u32 _x1 _x2) (1:Int))==(1:Int)),())))
def qbR(_N:Nat)(_x:Dens qcU):Option qhl:=qhI _N _x.1 _x.2.1
theorem qll(_N:Nat):SpecD Tryd.prog Gs 59 qcU qcS (qbR _N):=mkSpD (fn:=Tryd.f59) (c:=ql Tryd.f59) (C:=qns _N)
  (a:=.none)
  (by kernel_rfl) rfl (by kernel_rfl) (by kernel_rfl) ⟨rfl,by unfold TOk;kernel_rfl,qao rfl rfl (zC _),qan rfl rfl (zC _),rfl⟩ (fun _x=>by kernel_rfl)
theorem qlU(_N:Nat):EntOk Tryd.prog Gs (mkP 59 qcU qcS (qbR _N)):=entP ⟨Tryd.f59,ql Tryd.f59,by kernel_rfl,by kernel_rfl,rfl⟩ (by kernel_rfl) (qll _N)
abbrev qbX:List Kd:=[.dat (.int .u32)]
abbrev qgD:Type:=Int
def qmw(_N:Nat):Ctx:={ T:=[],G:=findE [],I:=findI [],N:=_N,n:=4,fx:=[],fl:=0,gs:=Gs }
def qlr(_N:Nat)(_x1:Int):Option qgD:=
 (some _x1)
def qaD(_N:Nat)(_x:Dens qbX):Option qgD:=qlr _N _x.1
theorem qkH(_N:Nat):SpecB Tryd.prog Gs 57 qbX 74 (.int .u32) (qaD _N):=mkSpB (fn:=Tryd.f57) (c:=ql Tryd.f57) (C:=qmw _N)
  (a:=.none)
  (by kernel_rfl) rfl (by kernel_rfl) (by kernel_rfl) ⟨rfl,by unfold TOk;kernel_rfl,qao rfl rfl (zC _),qan rfl rfl (zC _),rfl⟩ (fun _x=>by kernel_rfl)
theorem qgw(_N:Nat):EntOk Tryd.prog Gs (mkB 57 qbX 74 (.int .u32) (qaD _N)):=entB ⟨Tryd.f57,ql Tryd.f57,by kernel_rfl,by kernel_rfl,rfl⟩ (qkH _N)
end Go.Proofs.YtnhjpicdijeagaaDoor
end

namespace Go.Proofs.YtnhjpicdijeagaaDoor
open Go.Abs Go.RowKit Go.Shelf
attribute [local go_sem] Oper.semAt_some
set_option maxHeartbeats 1000000 in
theorem tz64_core(x k idx:Nat)(w:World)(hx0:((x:Int)==0)=false)
  (key:IntKind.u64.wrap (Go.bits BinOp.and IntKind.u64 (x:Int) (IntKind.u64.wrap (-(x:Int)))*285870213051353865) / 288230376151711744=(idx:Int))
  (hi:idx<64) (hk:k<64) (hcell:w.cell? ⟨0,idx,none⟩=some (.int .u8 k)) :
  Calls Tryd.prog 75 #[.int .u64 x] w fun e w'=>e=.returned (.int .i64 k)/\w'=w:=by
 go_enter Tryd.func75,Tryd.ntmps75
 go_wp2_with (simp only [key])
 go_ret
 exact⟨rfl,rfl⟩
theorem qBA{w:World}(hT:qkD w 0 0 (tab.map fun z=>.int .u8 z)){idx k:Nat}(hi:idx<64)(hk:Lib.deBruijn64tab.getD idx 0=k):w.cell? ⟨0,idx,none⟩=some (.int .u8 k):=by
 have hl:Lib.deBruijn64tab.length=64:=rfl
 have e:tab.map (fun z=>Value.int .u8 z)=Lib.deBruijn64tab.map (fun z:Nat=>Value.int .u8 (z:Int)):=rfl
 have:=hT idx (.int .u8 k) (by
  rw [e,zAb,<- hk,List.getD,zW (by rw [hl];exact hi)]
  rfl)
 rwa [Nat.zero_add] at this
theorem tz64(x:Nat)(hx:x<18446744073709551616)(hx0:x≠0)(w:World)(hT:qkD w 0 0 (tab.map fun z=>.int .u8 z)) :
  Calls Tryd.prog 75 #[.int .u64 x] w fun e w'=>e=.returned (.int .i64 (Lib.ctz 64 x))/\w'=w:=by
 obtain⟨hlow,hk⟩:=Lib.lowest_bit 64 x hx0 hx
 obtain⟨hi,htab⟩:=Lib.deBruijn64_at _ hk
 have key:=tz64_key x _ hx hx0 hlow
 generalize 2 ^ Lib.ctz 64 x*285870213051353865 % 18446744073709551616 / 288230376151711744=idx at hi htab key
 exact tz64_core x _ idx w (by simp;omega) key hi hk (qBA hT hi htab)
def bl(x:Nat):List Nat:=(List.range 64).filter x.testBit
theorem qnT{p:Nat->Bool}{k:Nat}(hk:p k=true)(hl:∀ j,j<k->p j=false):∀ n,k<n->(List.range n).filter p=k :: (List.range n).filter (fun j=>p j&&j != k)
 | 0,h=>by omega
 | n+1,h=>by
  rw [zCR,zAL,zAL]
  rcases zAO k n with h1 | h1
  ·rw [qnT hk hl n h1]
   have:(n != k)=true:=by simp;omega
   simp [zAa,this]
  ·have:n=k:=by omega
   subst this
   have e1:(List.range n).filter p = []:=zAV.2 fun j hj=>by simp [hl j (zg.1 hj)]
   have e2:(List.range n).filter (fun j=>p j&&j != n) = []:=zAV.2 fun j hj=>by simp [hl j (zg.1 hj)]
   simp [e1,e2,zAa,hk]
theorem qDy{x:Nat}(hx0:x≠0)(hx:x<2 ^ 64):x.testBit (Lib.ctz 64 x)=true/\(∀ j,j<Lib.ctz 64 x->x.testBit j=false)/\∀ j,(x &&& (x - 1)).testBit j=(x.testBit j&&j != Lib.ctz 64 x):=by
 obtain⟨m,hm,hk⟩:=Lib.ctzFrom_spec 64 x (by omega) hx
 have e:Lib.ctz 64 x=Lib.ctzFrom 64 x:=by simp [Lib.ctz,hx0]
 rw [e]
 generalize Lib.ctzFrom 64 x=k at hm
 have hp:0<2 ^ k:=Nat.pow_pos (by omega)
 have h1:∀ j,x.testBit j=if j<k then false else (2*m+1).testBit (j - k):=fun j=>by
  rw [hm,<- Nat.add_zero (2 ^ k*(2*m+1)),zCP _ hp]
  simp
 have h2:∀ j,(x - 1).testBit j=if j<k then (2 ^ k - 1).testBit j else (2*m).testBit (j - k):=fun j=>by
  have:x - 1=2 ^ k*(2*m)+(2 ^ k - 1):=by rw [hm,Nat.mul_add,Nat.mul_one];omega
  rw [this,zCP _ (by omega)]
 refine⟨by rw [h1];simp,fun j hj=>by rw [h1,zJ hj],fun j=>?_⟩
 rw [Nat.testBit_and,h1,h2]
 by_cases hj:j<k
 ·simp [hj]
 ·simp only [hj,if_false]
  by_cases hjk:j=k
  ·subst hjk;simp
  ·obtain⟨d,hd⟩:∃ d,j - k=d+1:=⟨j - k - 1,by omega⟩
   rw [hd,Nat.testBit_succ,Nat.testBit_succ]
   have a1:(2*m+1) / 2=m:=by omega
   have a2:2*m / 2=m:=by omega
   simp [a1,a2,hjk]
theorem qEd{x:Nat}(hx0:x≠0)(hx:x<18446744073709551616):bl x=Lib.ctz 64 x :: bl (x &&& (x - 1)):=by
 obtain⟨h1,h2,h3⟩:=qDy hx0 (by omega)
 have hk:Lib.ctz 64 x<64:=by
  rcases zAO (Lib.ctz 64 x) 64 with h | h
  ·exact h
  ·rw [zBj (zM (show x<2 ^ 64 by omega) (zBn (by omega) h))] at h1;cases h1
 unfold bl
 rw [qnT h1 h2 64 hk]
 congr 1
 refine List.filter_congr fun j _=>?_
 rw [h3]
theorem qEc:bl 0 = []:=by simp [bl]
theorem qCG{x:Nat}(hx0:x≠0):x &&& (x - 1)<x:=zCA Nat.and_le_right (by omega)
set_option maxRecDepth 100000 in
set_option maxHeartbeats 1000000 in
theorem qDP(n l B q:Nat)(xI:Int)(x0:Nat)(hx64:IntKind.u64.wrap xI=(x0:Int))(hx:x0<18446744073709551616)(J:Nat->World->Prop)(Jx:World->Prop)
  (hT:∀ i W,J i W->qkD W 0 0 (tab.map fun z=>.int .u8 z))
  (hY:∀ i k W,(bl x0)[i]? = some k->J i W->YieldAt Fence.wide (n - 1) Tryd.prog l #[.int .i64 (k:Nat)] W fun e W'=>(e=.returned (.bool true)/\J (i+1) W')\/(e=.returned (.bool false)/\Jx W'))
  (W:World) (hB:W.cell? ⟨B,q,none⟩=some (.int .u32 xI)) (h0:J 0 W) :
  CallsIn Fence.wide n Tryd.prog 74 #[.func (.yield l) #[] #[],.pointer (some ⟨B,q,none⟩)] W fun e W'=>(∃ v,e=.returned v)/\(J (bl x0).length W'\/Jx W'):=by
 refine callsIn_of_wp Tryd.func74 rfl trivial ?_ rfl
 simp only [Tryd.ntmps74,List.size_toArray,List.length_cons,List.length_nil,Nat.reduceAdd,Nat.reduceSub,zBr,zBq,zCG,zBw,List.nil_append,List.cons_append]
 gi_wp2_with (simp only [hx64])
 gi_loopw [3] (fun p wr=>∃ (x i:Nat),p=.int .u64 (x:Int)/\x<18446744073709551616/\bl x=(bl x0).drop i/\i<=(bl x0).length/\J i wr)
  (fun p _=>(Lib.intOf p).toNat)
 case atStart=>exact⟨x0,0,rfl,hx,rfl,zAE _,h0⟩
 case round=>
  obtain⟨x,i,rfl,hxl,hbl,hil,hJ⟩:=hrel
  by_cases hx0:x=0
  ·subst hx0
   gi_wp2
   go_end0
   rw [qEc] at hbl
   have hi:i=(bl x0).length:=by
    have:=congrArg List.length hbl
    simp at this;omega
   subst hi
   exact⟨⟨_,rfl⟩,.inl hJ⟩
  ·have hne:((x:Int) != 0)=true:=by simp;omega
   have hc:=qEd hx0 hxl
   have hget:(bl x0)[i]? = some (Lib.ctz 64 x):=by
    have:=congrArg (fun l=>l[0]?) (hbl.symm.trans hc)
    simpa using this
   obtain⟨fn,tmps,assign,body,hy,hR⟩:=hY i _ wr hget hJ
   have htz:=callsIn_wide (n:=n - 1).2 (tz64 x (by omega) hx0 wr (hT i wr hJ))
   gi_wp2_with (first
    | (gi_at_call 75;refine htz.mono ?_;rintro e w' ⟨rfl,rfl⟩)
    | gi_in)
   refine⟨trivial,fun h=>(by cases h),htz.mono ?_⟩
   rintro e w' ⟨rfl,rfl⟩
   gi_wp2
   refine⟨fun h=>(by cases h),hR.mono ?_⟩
   have hand:Go.bits BinOp.and IntKind.u64 (x:Int) (IntKind.u64.wrap ((x:Int) - 1))=((x &&& (x - 1):Nat):Int):=by
    have:IntKind.u64.wrap ((x:Int) - 1)=((x - 1:Nat):Int):=by rw [IntKind.wrap_u64];omega
    rw [this,bits_and_u64_nat x (x - 1) (by omega) (by omega)]
   have hand2:Go.bits BinOp.and IntKind.u64 (x:Int) ((x:Int) - 1)=((x &&& (x - 1):Nat):Int):=by
    have:(x:Int) - 1=((x - 1:Nat):Int):=by omega
    rw [this,bits_and_u64_nat x (x - 1) (by omega) (by omega)]
   have hlt:=qCG hx0
   rintro e W3 (⟨rfl,hJ3⟩ | ⟨rfl,hJ3⟩)
   ·gi_wp2_with (simp only [hand])
    go_roundw
    case rel=>
     refine⟨x &&& (x - 1),i+1,rfl,by omega,?_,?_,hJ3⟩
     ·have:=congrArg List.tail (hc.symm.trans hbl)
      simpa using this
     ·have:=(zS.1 hget).1
      omega
    case measure=>
     simp only [Lib.intOf]
     omega
   ·gi_wp2
    refine bodyPost_ret (results_none rfl _ _ _) rfl ?_
    exact⟨⟨_,rfl⟩,.inr hJ3⟩
abbrev qqA:List Kd:=[.ptr (.int .u32)]
def qhg(x:Dens qqA):List Int:=(bl (IntKind.u64.wrap x.1).toNat).map fun (i:Nat)=>(i:Int)
theorem qDl:SpecI Tryd.prog Gs 74 qqA (.int .i64) qhg:=by
 intro M w x vs hg hgm hv r n
 obtain⟨x,_⟩:=x
 simp only [kvals,RVs,Kd.val,RV] at hv
 obtain⟨v,_,rfl,⟨b,q,cs,rfl,hb,hm,hc,hrc⟩,rfl⟩:=hv
 simp only [RC] at hrc
 subst hrc
 intro l J Jx W hW hJ1 hJ2 hY h0
 have hT0:=(hg (0,tab.map fun z=>.int .u8 z) (by simp [Gs])).2
 have hTl:=(hg (0,tab.map fun z=>.int .u8 z) (by simp [Gs])).1
 have hTm:¬ M 0:=hgm (0,tab.map fun z=>.int .u8 z) (by simp [Gs])
 obtain⟨x0,hx1,hx2⟩:∃ x0:Nat,IntKind.u64.wrap x=(x0:Int)/\x0<18446744073709551616:=⟨(IntKind.u64.wrap x).toNat,by rw [IntKind.wrap_u64];omega,by rw [IntKind.wrap_u64];omega⟩
 have exs:qhg (x,())=(bl x0).map fun (i:Nat)=>(i:Int):=by simp [qhg,hx1]
 have hcb:=hc 0 (.int .u32 x) rfl
 rw [Nat.add_zero] at hcb
 have key:=qDP n l b q x x0 hx1 hx2 (fun i X=>J i X/\∀ b,b<w.heap.size->¬ M b->X.heap[b]? = w.heap[b]?) Jx
  (fun i X hX j v hj=>(World.cell?_of_block (w:=w) (hX.2 0 hTl hTm)).trans (hT0 j v hj)) ?_ W
  ((World.cell?_of_block (w:=w) (hW.block b hb)).trans hcb.1) ⟨h0,fun b hb _=>hW.block b hb⟩
 ·refine CallsIn.mono (F:=WF r) key ?_
  rintro e W' ⟨h1,h2⟩
  refine⟨h1,h2.imp (fun h=>?_) id⟩
  have:=h.1
  simpa [exs] using this
 ·intro i k X hk hX
  obtain⟨fn,tmps,c,d,hr,hq⟩:=hY i #[.int .i64 (k:Nat)] X (by rw [exs];simp [hk,encL,svOf]) hX.1
  refine⟨fn,tmps,c,d,hr,RoundIn.mono (F:=Fence.wide) hq ?_⟩
  rintro e W' (⟨h1,h2,h3⟩ | h1)
  ·exact .inl ⟨h1,h2,fun b hb hm=>by rw [h3 b hb hm,hX.2 b hb hm]⟩
  ·exact .inr h1
theorem qrS{w:Int}(hw:W32 w):qhg (w,())=(els w).map fun (i:Nat)=>(i:Int):=by
 have h1:=hw.1
 have h2:=hw.2
 have e:IntKind.u64.wrap w=w:=by rw [IntKind.wrap_u64];omega
 unfold qhg
 simp only [e]
 congr 1
 unfold bl els
 have:List.range 64=List.range 32++(List.range 32).map (32 + ·):=List.range_add (n:=32) (m:=32)
 rw [this,zAL]
 have h0:((List.range 32).map (32 + ·)).filter w.toNat.testBit = []:=by
  rw [zAV]
  intro j hj
  obtain⟨i,_,rfl⟩:=zr.1 hj
  have:bt w (32+i)=false:=zAJ.2 fun e=>by have:=bt_lt hw e;omega
  simpa [bt] using this
 rw [h0,List.append_nil]
 rfl
theorem qAM:IEntOk Tryd.prog Gs (mkI 74 qqA (.int .i64) qhg):=entI ⟨Tryd.f74,ql Tryd.f74,by kernel_rfl,by kernel_rfl,rfl⟩ (by kernel_rfl) qDl
end Go.Proofs.YtnhjpicdijeagaaDoor

namespace Go.Proofs.YtnhjpicdijeagaaDoor
open Go.Abs
theorem qBu(N:Nat)(i:Nat):qcb N ((i:Int),())=some (one i,()):=by
 simp only [qcb,qrq]
 rw [show decide ((i:Int)<0)=false from zAi (by omega)];rfl
theorem qEH(N:Nat){w:Int}(hw:W32 w)(i:Nat):qbR N (w,(i:Int),())=some (bt w i,()):=by
 simp only [qbR,qhI]
 rw [show decide ((i:Int)<0)=false from zAi (by omega),qDI hw];rfl
theorem qtD(N:Nat)(w:Int):qaD N (w,())=some w:=rfl
theorem qCu{R S:Type}{f:Int->S->(S->Option R)->Option R}{k:S->Option R}{w:Int}(hw:W32 w)(st:S->Nat->S)(I:S->Prop)
  (h:∀ (i:Nat) s kn,i<32->bt w i=true->I s->f (i:Int) s kn=kn (st s i)/\I (st s i)) (s:S) (hi:I s):forD f k (qhg (w,())) s=k ((els w).foldl st s)/\I ((els w).foldl st s):=by
 rw [qrS hw]
 have hm:∀ i∈els w,i<32/\bt w i=true:=fun i hi=>qxB.1 hi
 generalize els w=l at hm
 induction l generalizing s with
 | nil=>exact⟨rfl,hi⟩
 | cons i l ih=>
  obtain⟨h1,h2⟩:=hm i (by simp)
  have h3:=fun kn=>h i s kn h1 h2 hi
  rw [List.map_cons,quM,(h3 _).1]
  exact ih _ (h3 fun _=>none).2 fun j hj=>hm j (by simp [hj])
end Go.Proofs.YtnhjpicdijeagaaDoor

noncomputable section
namespace Go.Proofs.YtnhjpicdijeagaaDoor
open Go.Abs
abbrev Sm:Sh:=.sl (.int .u32)
abbrev Sl:Sh:=.pair (.int .i64) (.int .i64)
abbrev Sj:Sh:=.pair (.int .i64) (.pair (.int .i64) (.int .i64))
abbrev Si:Sh:=.pair (.int .i64) (.pair (.int .i64) (.pair (.int .i64) (.pair (.int .i64) (.int .i64))))
abbrev Yd:Type:=Int×(Int×Int)×Int
abbrev Yc:Type:=Int×List (Int×(Int×Int)×Int)
abbrev Yb:Type:=Int×Int×Int
abbrev Ya:Type:=Int×Int×Int×Int×Int
abbrev qhx:List Kd:=[.dat Si]
abbrev qhs:List Kd:=[.dat (.bool)]
abbrev qog:Type:=Dens qhs
def qwN(_N:Nat):Ctx:={ T:=[(3,⟨.int .i64,1,8,some (.int .i64),[.int .i64 (0:Int)],false,[]⟩),(39,⟨.struct [(0,3),(1,3),(2,37)],5,40,some Si,[.int .i64 (0:Int),.int .i64 (0:Int),.int .i64 (0:Int),.int .i64 (0:Int),.int .i64 (0:Int)],true,[]⟩)],G:=findE [],I:=findI [],N:=_N,n:=31,fx:=[],fl:=0,gs:=Gs }
def qpQ(_N:Nat)(_x1:Int×Int×Int×Int×Int):Option qog:=
 (bif (_x1.1==(1:Int)) then (bif (decide (_x1.2.1>=(1:Int))) then (some ((decide (_x1.2.1<=(1:Int))),())) else (some (false,()))) else (bif (_x1.1==(4:Int)) then (bif (decide (_x1.2.1>=(1:Int))) then (some ((decide (_x1.2.1<=(IntKind.i64.wrap ((4:Int) - (1:Int))))),())) else (some (false,()))) else (bif (_x1.1==(5:Int)) then (bif (_x1.1==(5:Int)) then (bif (decide (_x1.2.1>=(IntKind.i64.wrap ((1:Int)+(1:Int))))) then (some ((decide (_x1.2.1<=(4:Int))),())) else (some (false,()))) else (bif (_x1.1==(2:Int)) then (bif (_x1.1==(2:Int)) then (bif (decide (_x1.2.1>=(1:Int))) then (some ((decide (_x1.2.1<=(4:Int))),())) else (some (false,()))) else (some (false,()))) else (bif (_x1.1==(3:Int)) then (bif (decide (_x1.2.1>=(1:Int))) then (some ((decide (_x1.2.1<=(4:Int))),())) else (some (false,()))) else (some (false,()))))) else (bif (_x1.1==(6:Int)) then (bif (decide (_x1.2.1>=(IntKind.i64.wrap ((1:Int)+(1:Int))))) then (some ((decide (_x1.2.1<=(4:Int))),())) else (some (false,()))) else (bif (_x1.1==(2:Int)) then (bif (_x1.1==(2:Int)) then (bif (decide (_x1.2.1>=(1:Int))) then (some ((decide (_x1.2.1<=(4:Int))),())) else (some (false,()))) else (some (false,()))) else (bif (_x1.1==(3:Int)) then (bif (decide (_x1.2.1>=(1:Int))) then (some ((decide (_x1.2.1<=(4:Int))),())) else (some (false,()))) else (some (false,()))))))))
def qeP(_N:Nat)(_x:Dens qhx):Option qog:=qpQ _N _x.1
theorem qtZ(_N:Nat):SpecD Tryd.prog Gs 39 qhx qhs (qeP _N):=mkSpD (fn:=Tryd.f39) (c:=ql Tryd.f39) (C:=qwN _N)
  (a:=.none)
  (by kernel_rfl) rfl (by kernel_rfl) (by kernel_rfl) ⟨rfl,by unfold TOk;kernel_rfl,qao rfl rfl (zC _),qan rfl rfl (zC _),rfl⟩ (fun _x=>by kernel_rfl)
theorem qvb(_N:Nat):EntOk Tryd.prog Gs (mkP 39 qhx qhs (qeP _N)):=entP ⟨Tryd.f39,ql Tryd.f39,by kernel_rfl,by kernel_rfl,rfl⟩ (by kernel_rfl) (qtZ _N)
abbrev qcM:List Kd:=[.dat Si]
abbrev qcL:List Kd:=[.dat (.int .i64)]
abbrev qky:Type:=Dens qcL
def qtJ(_N:Nat):Ctx:={ T:=[(3,⟨.int .i64,1,8,some (.int .i64),[.int .i64 (0:Int)],false,[]⟩),(39,⟨.struct [(0,3),(1,3),(2,37)],5,40,some Si,[.int .i64 (0:Int),.int .i64 (0:Int),.int .i64 (0:Int),.int .i64 (0:Int),.int .i64 (0:Int)],true,[]⟩)],G:=findE [],I:=findI [],N:=_N,n:=9,fx:=[],fl:=0,gs:=Gs }
def qlL(_N:Nat)(_x1:Int×Int×Int×Int×Int):Option qky:=
 (bif (_x1.1==(1:Int)) then (some ((0:Int),())) else (bif (_x1.1==(3:Int)) then (some ((2:Int),())) else (some ((1:Int),()))))
def qaX(_N:Nat)(_x:Dens qcM):Option qky:=qlL _N _x.1
theorem qqL(_N:Nat):SpecD Tryd.prog Gs 20 qcM qcL (qaX _N):=mkSpD (fn:=Tryd.f20) (c:=ql Tryd.f20) (C:=qtJ _N)
  (a:=.none)
  (by kernel_rfl) rfl (by kernel_rfl) (by kernel_rfl) ⟨rfl,by unfold TOk;kernel_rfl,qao rfl rfl (zC _),qan rfl rfl (zC _),rfl⟩ (fun _x=>by kernel_rfl)
theorem qhD(_N:Nat):EntOk Tryd.prog Gs (mkP 20 qcM qcL (qaX _N)):=entP ⟨Tryd.f20,ql Tryd.f20,by kernel_rfl,by kernel_rfl,rfl⟩ (by kernel_rfl) (qqL _N)
abbrev qhy:List Kd:=[.dat Si]
abbrev qht:List Kd:=[.dat (.int .i64)]
abbrev qoh:Type:=Dens qht
def qwO(_N:Nat):Ctx:={ T:=[(3,⟨.int .i64,1,8,some (.int .i64),[.int .i64 (0:Int)],false,[]⟩),(39,⟨.struct [(0,3),(1,3),(2,37)],5,40,some Si,[.int .i64 (0:Int),.int .i64 (0:Int),.int .i64 (0:Int),.int .i64 (0:Int),.int .i64 (0:Int)],true,[]⟩)],G:=findE [],I:=findI [],N:=_N,n:=17,fx:=[],fl:=0,gs:=Gs }
def qpR(_N:Nat)(_x1:Int×Int×Int×Int×Int):Option qoh:=
 (bif (_x1.1==(4:Int)) then (some ((IntKind.i64.wrap (_x1.2.1+(1:Int))),())) else (bif (_x1.1==(5:Int)) then (some ((IntKind.i64.wrap (_x1.2.1 - (1:Int))),())) else (some (_x1.2.1,()))))
def qeQ(_N:Nat)(_x:Dens qhy):Option qoh:=qpR _N _x.1
theorem qua(_N:Nat):SpecD Tryd.prog Gs 55 qhy qht (qeQ _N):=mkSpD (fn:=Tryd.f55) (c:=ql Tryd.f55) (C:=qwO _N)
  (a:=.none)
  (by kernel_rfl) rfl (by kernel_rfl) (by kernel_rfl) ⟨rfl,by unfold TOk;kernel_rfl,qao rfl rfl (zC _),qan rfl rfl (zC _),rfl⟩ (fun _x=>by kernel_rfl)
theorem qvc(_N:Nat):EntOk Tryd.prog Gs (mkP 55 qhy qht (qeQ _N)):=entP ⟨Tryd.f55,ql Tryd.f55,by kernel_rfl,by kernel_rfl,rfl⟩ (by kernel_rfl) (qua _N)
abbrev qdE:List Kd:=[.dat (.int .i64),.dat (.int .i64)]
abbrev qdD:List Kd:=[.dat Sl]
abbrev qkx:Type:=Dens qdD
def qtI(_N:Nat):Ctx:={ T:=[(3,⟨.int .i64,1,8,some (.int .i64),[.int .i64 (0:Int)],false,[]⟩),(30,⟨.int .i64,1,8,some (.int .i64),[.int .i64 (0:Int)],false,[]⟩),(34,⟨.struct [(0,30),(1,3)],2,16,some Sl,[.int .i64 (0:Int),.int .i64 (0:Int)],true,[]⟩)],G:=findE [],I:=findI [],N:=_N,n:=8,fx:=[],fl:=0,gs:=Gs }
def qiy(_N:Nat)(_x1:Int)(_x2:Int):Option qkx:=
 (some ((_x1,_x2),()))
def qaR(_N:Nat)(_x:Dens qdE):Option qkx:=qiy _N _x.1 _x.2.1
theorem qqK(_N:Nat):SpecD Tryd.prog Gs 36 qdE qdD (qaR _N):=mkSpD (fn:=Tryd.f36) (c:=ql Tryd.f36) (C:=qtI _N)
  (a:=.none)
  (by kernel_rfl) rfl (by kernel_rfl) (by kernel_rfl) ⟨rfl,by unfold TOk;kernel_rfl,qao rfl rfl (zC _),qan rfl rfl (zC _),rfl⟩ (fun _x=>by kernel_rfl)
theorem qku(_N:Nat):EntOk Tryd.prog Gs (mkP 36 qdE qdD (qaR _N)):=entP ⟨Tryd.f36,ql Tryd.f36,by kernel_rfl,by kernel_rfl,rfl⟩ (by kernel_rfl) (qqK _N)
abbrev qdo:List Kd:=[.dat Si]
abbrev qdn:List Kd:=[.dat (.bool)]
abbrev qij:Type:=Dens qdn
def qoA(_N:Nat):Ctx:={ T:=[(39,⟨.struct [(0,3),(1,3),(2,37)],5,40,some Si,[.int .i64 (0:Int),.int .i64 (0:Int),.int .i64 (0:Int),.int .i64 (0:Int),.int .i64 (0:Int)],true,[]⟩)],G:=findE [mkP 39 qhx qhs (qeP _N)],I:=findI [],N:=_N,n:=6,fx:=[],fl:=0,gs:=Gs }
def qiT(_N:Nat)(_x1:Int×Int×Int×Int×Int):Option qij:=
 ((qeP _N ((_x1.1,(_x1.2.1,(_x1.2.2.1,(_x1.2.2.2.1,_x1.2.2.2.2)))),())).bind fun _y2=>(some ((!_y2.1),())))
def qcc(_N:Nat)(_x:Dens qdo):Option qij:=qiT _N _x.1
theorem qmF(_N:Nat):SpecD Tryd.prog Gs 38 qdo qdn (qcc _N):=mkSpD (fn:=Tryd.f38) (c:=ql Tryd.f38) (C:=qoA _N)
  (a:=.none)
  (by kernel_rfl) rfl (by kernel_rfl) (by kernel_rfl) ⟨rfl,by unfold TOk;kernel_rfl,qao rfl rfl (zG.2 ⟨qvb _N,(zC _)⟩),qan rfl rfl (zC _),rfl⟩ (fun _x=>by kernel_rfl)
theorem qnc(_N:Nat):EntOk Tryd.prog Gs (mkP 38 qdo qdn (qcc _N)):=entP ⟨Tryd.f38,ql Tryd.f38,by kernel_rfl,by kernel_rfl,rfl⟩ (by kernel_rfl) (qmF _N)
abbrev qO:List Kd:=[.dat (.sl Si),.clo 38 []]
abbrev qN:List Kd:=[.dat (.int .i64)]
abbrev qx:Type:=Dens qN
def qbU(_N:Nat):Ctx:={ T:=[(22,⟨.slice 39,1,24,some (.sl Si),[.nil],false,[]⟩),(39,⟨.struct [(0,3),(1,3),(2,37)],5,40,some Si,[.int .i64 (0:Int),.int .i64 (0:Int),.int .i64 (0:Int),.int .i64 (0:Int),.int .i64 (0:Int)],true,[]⟩)],G:=findE [mkP 38 qdo qdn (qcc _N)],I:=findI [],N:=_N,n:=19,fx:=[],fl:=0,gs:=Gs }
def qaG(_N:Nat):Option qx:=
 (some ((-1:Int),()))
def qP(_N:Nat)(_k6:Unit->Option qx)(_v1:List Ya)(_v2:Int)(_v3:Int)(_kn7:((List Ya)×Int)×Int->Option qx):Option qx:=
 (bif (decide (_v3<_v2)) then (bif (decide (0<=_v3)&&decide (_v3<(_v1.length:Int))) then ((qcc _N (((nth ((0:Int),((0:Int),((0:Int),((0:Int),(0:Int))))) _v1 (_v3).toNat).1,(((nth ((0:Int),((0:Int),((0:Int),((0:Int),(0:Int))))) _v1 (_v3).toNat).2).1,((((nth ((0:Int),((0:Int),((0:Int),((0:Int),(0:Int))))) _v1 (_v3).toNat).2).2).1,(((((nth ((0:Int),((0:Int),((0:Int),((0:Int),(0:Int))))) _v1 (_v3).toNat).2).2).2).1,((((nth ((0:Int),((0:Int),((0:Int),((0:Int),(0:Int))))) _v1 (_v3).toNat).2).2).2).2)))),())).bind fun _y8=>(bif _y8.1 then (some (_v3,())) else (_kn7 ((_v1,_v2),(IntKind.i64.wrap (_v3+(1:Int))))))) else none) else (_k6 ()))
def qaF(_N:Nat)(_x1:List Ya):Option qx:=
 (joinD (fun (_s:Unit)=>qaG _N) fun _k6=>(loopE (fun (_c:(List Ya)×Int) (_s:Int) _kn=>qP _N _k6 _c.1 _c.2 _s _kn) _N (_x1,(_x1.length:Int)) (0:Int)))
def qB(_N:Nat)(_x:Dens qO):Option qx:=qaF _N _x.1
theorem qbF(_N:Nat):SpecD Tryd.prog Gs 37 qO qN (qB _N):=mkSpD (fn:=Tryd.f37) (c:=ql Tryd.f37) (C:=qbU _N)
  (a:=.two .none (.join 0 ⟨[],[]⟩ (.two .none (.one (.loop 0 ⟨[(0,.sl Si),(1,.clo 38 []),(7,.int .i64),(8,.int .i64)],[]⟩ [2] .none))) .none))
  (by kernel_rfl) rfl (by kernel_rfl) (by kernel_rfl) ⟨rfl,by unfold TOk;kernel_rfl,qao rfl rfl (zG.2 ⟨qnc _N,(zC _)⟩),qan rfl rfl (zC _),rfl⟩ (fun _x=>by kernel_rfl)
theorem qbG(_N:Nat):EntOk Tryd.prog Gs (mkP 37 qO qN (qB _N)):=entP ⟨Tryd.f37,ql Tryd.f37,by kernel_rfl,by kernel_rfl,rfl⟩ (by kernel_rfl) (qbF _N)
abbrev qdz:Sig:=⟨[.form (.ptr 0 0)],[.cells [.sl Si,.sl Sj,.slc 1 0],.row false 0 122 (.int .u32)],
 [.dat false Sl],[.cells [.sl Si,.sl Sj,.slc 1 0],.row false 0 122 (.int .u32)],[]⟩
abbrev qo:Type:=(Int×Int)×(List Ya)×(List Yb)×List Int
def qld(_N:Nat):Ctx:={ T:=[(3,⟨.int .i64,1,8,some (.int .i64),[.int .i64 (0:Int)],false,[]⟩),(22,⟨.slice 39,1,24,some (.sl Si),[.nil],false,[]⟩),(23,⟨.slice 84,1,24,some (.sl Sj),[.nil],false,[]⟩),(25,⟨.struct [(0,22),(1,23)],2,48,some (.pair (.sl Si) (.sl Sj)),[.nil,.nil],false,[]⟩),(34,⟨.struct [(0,30),(1,3)],2,16,some Sl,[.int .i64 (0:Int),.int .i64 (0:Int)],true,[]⟩),(39,⟨.struct [(0,3),(1,3),(2,37)],5,40,some Si,[.int .i64 (0:Int),.int .i64 (0:Int),.int .i64 (0:Int),.int .i64 (0:Int),.int .i64 (0:Int)],true,[]⟩),(84,⟨.struct [(0,3),(1,3),(2,3)],3,24,some Sj,[.int .i64 (0:Int),.int .i64 (0:Int),.int .i64 (0:Int)],true,[]⟩),(97,⟨.slice 122,1,24,some Sm,[.nil],false,[]⟩),(99,⟨.struct [(0,25),(2,97)],3,72,some (.pair (.pair (.sl Si) (.sl Sj)) Sm),[.nil,.nil,.nil],false,[]⟩),(118,⟨.map 120 3 Sl (.int .i64),1,8,none,[.nl .map],false,[]⟩),(120,⟨.struct [(0,3),(1,3)],2,16,some Sl,[.int .i64 (0:Int),.int .i64 (0:Int)],true,[]⟩),(122,⟨.int .u32,1,4,some (.int .u32),[.int .u32 (0:Int)],false,[]⟩)],G:=findE [mkP 20 qcM qcL (qaX _N),mkP 36 qdE qdD (qaR _N),mkP 55 qhy qht (qeQ _N),mkP 56 qgJ qgH (qcb _N)],I:=findI [],N:=_N,n:=153,fx:=[],fl:=2,gs:=Gs }
def qgt(_N:Nat)(_v88:List Ya)(_v89:List Yb)(_v90:List Int):Option qo:=
 (some (((0:Int),(0:Int)),_v88,_v89,_v90))
def qgs(_N:Nat)(_kn95:((List Ya)×Int×(List Ya)×(List Yb)×List Int×Int×Int×Yc)×Int->Option qo)(_v71:List Ya)(_v72:Int)(_v73:Int)(_v74:List Ya)(_v75:List Yb)(_v76:List Int)(_v77:Int)(_v78:Int)(_v79:Int×List Yd):Option qo:=
 (_kn95 ((_v71,_v72,_v74,_v75,_v76,_v77,_v78,_v79),(IntKind.i64.wrap (_v73+(1:Int)))))
def qdR(_N:Nat)(_k96:((List Ya)×Int×Int×(List Ya)×(List Yb)×List Int×Int×Int×Yc×Int×Int×Int×Int×Int)->Option qo)(_v52:Int)(_v53:List Ya)(_v54:Int)(_v55:Int)(_v56:Int)(_v58:List Ya)(_v59:List Yb)(_v60:List Int)(_v61:Int)(_v62:Int)(_v63:Int×List Yd)(_v64:Int)(_v65:Int)(_v66:Int)(_v67:Int)(_v68:Int)(_v57:Int)(_kn98:(Int×(List Ya)×Int×Int×Int×(List Ya)×(List Yb)×List Int×Int×Int×Yc×Int×Int×Int×Int×Int)×Int->Option qo):Option qo:=
 (bif (decide (_v57<_v56)) then (bif (!(mpHas Sl (.int .i64) _v63 (_v52,_v57))) then ((qaR _N ((5:Int),_v52,())).bind fun _y99=>(some ((_y99.1.1,_y99.1.2),_v58,_v59,_v60))) else (_kn98 ((_v52,_v53,_v54,_v55,_v56,_v58,_v59,_v60,_v61,_v62,_v63,_v64,_v65,_v66,_v67,_v68),(IntKind.i64.wrap (_v57+(1:Int)))))) else (_k96 (_v53,_v54,_v55,_v58,_v59,_v60,_v61,_v62,_v63,_v64,_v65,_v66,_v67,_v68)))
def qdQ(_N:Nat)(_k94:((List Ya)×(List Yb)×List Int×Int×Int×Yc)->Option qo)(_v42:List Ya)(_v43:Int)(_v45:List Ya)(_v46:List Yb)(_v47:List Int)(_v48:Int)(_v49:Int)(_v50:Int×List Yd)(_v44:Int)(_kn95:((List Ya)×Int×(List Ya)×(List Yb)×List Int×Int×Int×Yc)×Int->Option qo):Option qo:=
 (bif (decide (_v44<_v43)) then (joinD (fun (_s:(List Ya)×Int×Int×(List Ya)×(List Yb)×List Int×Int×Int×Yc×Int×Int×Int×Int×Int)=>qgs _N _kn95 _s.1 _s.2.1 _s.2.2.1 _s.2.2.2.1 _s.2.2.2.2.1 _s.2.2.2.2.2.1 _s.2.2.2.2.2.2.1 _s.2.2.2.2.2.2.2.1 _s.2.2.2.2.2.2.2.2.1) fun _k96=>(bif (decide (0<=_v44)&&decide (_v44<(_v42.length:Int))) then ((qaX _N (((nth ((0:Int),((0:Int),((0:Int),((0:Int),(0:Int))))) _v42 (_v44).toNat).1,(((nth ((0:Int),((0:Int),((0:Int),((0:Int),(0:Int))))) _v42 (_v44).toNat).2).1,((((nth ((0:Int),((0:Int),((0:Int),((0:Int),(0:Int))))) _v42 (_v44).toNat).2).2).1,(((((nth ((0:Int),((0:Int),((0:Int),((0:Int),(0:Int))))) _v42 (_v44).toNat).2).2).2).1,((((nth ((0:Int),((0:Int),((0:Int),((0:Int),(0:Int))))) _v42 (_v44).toNat).2).2).2).2)))),())).bind fun _y97=>(loopE (fun (_c:Int×(List Ya)×Int×Int×Int×(List Ya)×(List Yb)×List Int×Int×Int×Yc×Int×Int×Int×Int×Int) (_s:Int) _kn=>qdR _N _k96 _c.1 _c.2.1 _c.2.2.1 _c.2.2.2.1 _c.2.2.2.2.1 _c.2.2.2.2.2.1 _c.2.2.2.2.2.2.1 _c.2.2.2.2.2.2.2.1 _c.2.2.2.2.2.2.2.2.1 _c.2.2.2.2.2.2.2.2.2.1 _c.2.2.2.2.2.2.2.2.2.2.1 _c.2.2.2.2.2.2.2.2.2.2.2.1 _c.2.2.2.2.2.2.2.2.2.2.2.2.1 _c.2.2.2.2.2.2.2.2.2.2.2.2.2.1 _c.2.2.2.2.2.2.2.2.2.2.2.2.2.2.1 _c.2.2.2.2.2.2.2.2.2.2.2.2.2.2.2 _s _kn) _N (_v44,_v42,_v43,_v44,_y97.1,_v45,_v46,_v47,_v48,_v49,_v50,(nth ((0:Int),((0:Int),((0:Int),((0:Int),(0:Int))))) _v42 (_v44).toNat).1,((nth ((0:Int),((0:Int),((0:Int),((0:Int),(0:Int))))) _v42 (_v44).toNat).2).1,(((nth ((0:Int),((0:Int),((0:Int),((0:Int),(0:Int))))) _v42 (_v44).toNat).2).2).1,((((nth ((0:Int),((0:Int),((0:Int),((0:Int),(0:Int))))) _v42 (_v44).toNat).2).2).2).1,((((nth ((0:Int),((0:Int),((0:Int),((0:Int),(0:Int))))) _v42 (_v44).toNat).2).2).2).2) (0:Int))) else none)) else (_k94 (_v45,_v46,_v47,_v48,_v49,_v50)))
def qgr(_N:Nat)(_v36:List Ya)(_v37:List Yb)(_v38:List Int)(_v39:Int)(_v40:Int)(_v41:Int×List Yd):Option qo:=
 (joinD (fun (_s:(List Ya)×(List Yb)×List Int×Int×Int×Yc)=>qgt _N _s.1 _s.2.1 _s.2.2.1) fun _k94=>(loopE (fun (_c:(List Ya)×Int×(List Ya)×(List Yb)×List Int×Int×Int×Yc) (_s:Int) _kn=>qdQ _N _k94 _c.1 _c.2.1 _c.2.2.1 _c.2.2.2.1 _c.2.2.2.2.1 _c.2.2.2.2.2.1 _c.2.2.2.2.2.2.1 _c.2.2.2.2.2.2.2 _s _kn) _N (_v36,(_v36.length:Int),_v36,_v37,_v38,_v39,_v40,_v41) (0:Int)))
def qgq(_N:Nat)(_kn101:((List Yb)×Int×(List Ya)×(List Yb)×Int×Int)×(Int×List Int×Yc)->Option qo)(_v11:Int)(_v12:List Yb)(_v13:Int)(_v14:Int)(_v15:Bool)(_v16:List Ya)(_v17:List Yb)(_v18:List Int)(_v19:Int)(_v20:Int)(_v21:Int×List Yd)(_v22:Int)(_v23:Int)(_v25:Int)(_v26:Int):Option qo:=
 (bif _v15 then ((qaR _N ((8:Int),_v11,())).bind fun _y102=>(some ((_y102.1.1,_y102.1.2),_v16,_v17,_v18))) else (bif (decide (0<=_v22)&&decide (_v22<(_v16.length:Int))) then ((qeQ _N (((nth ((0:Int),((0:Int),((0:Int),((0:Int),(0:Int))))) _v16 (_v22).toNat).1,(((nth ((0:Int),((0:Int),((0:Int),((0:Int),(0:Int))))) _v16 (_v22).toNat).2).1,((((nth ((0:Int),((0:Int),((0:Int),((0:Int),(0:Int))))) _v16 (_v22).toNat).2).2).1,(((((nth ((0:Int),((0:Int),((0:Int),((0:Int),(0:Int))))) _v16 (_v22).toNat).2).2).2).1,((((nth ((0:Int),((0:Int),((0:Int),((0:Int),(0:Int))))) _v16 (_v22).toNat).2).2).2).2)))),())).bind fun _y103=>(bif (decide (0<=_v23)&&decide (_v23<(_v16.length:Int))) then (bif (_y103.1 != (((nth ((0:Int),((0:Int),((0:Int),((0:Int),(0:Int))))) _v16 (_v23).toNat).2).1)) then ((qaR _N ((7:Int),_v11,())).bind fun _y104=>(some ((_y104.1.1,_y104.1.2),_v16,_v17,_v18))) else (bif (decide (0<=_v22)&&decide (_v22<(_v18.length:Int))) then ((qcb _N (_v23,())).bind fun _y105=>(bif (decide (0<=_v22)&&decide (_v22<(_v18.length:Int))) then (_kn101 ((_v12,_v13,_v16,_v17,_v19,_v20),((IntKind.i64.wrap (_v14+(1:Int))),(_v18.set ((_v22).toNat) (ior .u32 (nth (0:Int) _v18 ((_v22).toNat)) _y105.1)),(mpPut Sl (.int .i64) _v21 (_v25,_v26) _v11)))) else none)) else none)) else none)) else none))
def qcD(_N:Nat)(_k100:((List Ya)×(List Yb)×List Int×Int×Int×Yc)->Option qo)(_v1:List Yb)(_v2:Int)(_v4:List Ya)(_v5:List Yb)(_v7:Int)(_v8:Int)(_v3:Int)(_v6:List Int)(_v9:Int×List Yd)(_kn101:((List Yb)×Int×(List Ya)×(List Yb)×Int×Int)×(Int×List Int×Yc)->Option qo):Option qo:=
 (bif (decide (_v3<_v2)) then (bif (decide (0<=_v3)&&decide (_v3<(_v1.length:Int))) then (joinD (fun (_s:Int×(List Yb)×Int×Int×Bool×(List Ya)×(List Yb)×List Int×Int×Int×Yc×Int×Int×Int×Int×Int)=>qgq _N _kn101 _s.1 _s.2.1 _s.2.2.1 _s.2.2.2.1 _s.2.2.2.2.1 _s.2.2.2.2.2.1 _s.2.2.2.2.2.2.1 _s.2.2.2.2.2.2.2.1 _s.2.2.2.2.2.2.2.2.1 _s.2.2.2.2.2.2.2.2.2.1 _s.2.2.2.2.2.2.2.2.2.2.1 _s.2.2.2.2.2.2.2.2.2.2.2.1 _s.2.2.2.2.2.2.2.2.2.2.2.2.1 _s.2.2.2.2.2.2.2.2.2.2.2.2.2.2.1 _s.2.2.2.2.2.2.2.2.2.2.2.2.2.2.2) fun _k106=>(bif (decide ((if (((nth ((0:Int),((0:Int),(0:Int))) _v1 (_v3).toNat).2).1)<((nth ((0:Int),((0:Int),(0:Int))) _v1 (_v3).toNat).1) then (((nth ((0:Int),((0:Int),(0:Int))) _v1 (_v3).toNat).2).1) else ((nth ((0:Int),((0:Int),(0:Int))) _v1 (_v3).toNat).1))<(0:Int))) then (_k106 (_v3,_v1,_v2,_v3,true,_v4,_v5,_v6,_v7,_v8,_v9,(nth ((0:Int),((0:Int),(0:Int))) _v1 (_v3).toNat).1,((nth ((0:Int),((0:Int),(0:Int))) _v1 (_v3).toNat).2).1,((nth ((0:Int),((0:Int),(0:Int))) _v1 (_v3).toNat).2).2,((nth ((0:Int),((0:Int),(0:Int))) _v1 (_v3).toNat).2).1,((nth ((0:Int),((0:Int),(0:Int))) _v1 (_v3).toNat).2).2)) else (bif (decide ((if (((nth ((0:Int),((0:Int),(0:Int))) _v1 (_v3).toNat).2).1)>((nth ((0:Int),((0:Int),(0:Int))) _v1 (_v3).toNat).1) then (((nth ((0:Int),((0:Int),(0:Int))) _v1 (_v3).toNat).2).1) else ((nth ((0:Int),((0:Int),(0:Int))) _v1 (_v3).toNat).1))>=(_v4.length:Int))) then (_k106 (_v3,_v1,_v2,_v3,true,_v4,_v5,_v6,_v7,_v8,_v9,(nth ((0:Int),((0:Int),(0:Int))) _v1 (_v3).toNat).1,((nth ((0:Int),((0:Int),(0:Int))) _v1 (_v3).toNat).2).1,((nth ((0:Int),((0:Int),(0:Int))) _v1 (_v3).toNat).2).2,((nth ((0:Int),((0:Int),(0:Int))) _v1 (_v3).toNat).2).1,((nth ((0:Int),((0:Int),(0:Int))) _v1 (_v3).toNat).2).2)) else (bif (decide ((((nth ((0:Int),((0:Int),(0:Int))) _v1 (_v3).toNat).2).2)<(0:Int))) then (_k106 (_v3,_v1,_v2,_v3,true,_v4,_v5,_v6,_v7,_v8,_v9,(nth ((0:Int),((0:Int),(0:Int))) _v1 (_v3).toNat).1,((nth ((0:Int),((0:Int),(0:Int))) _v1 (_v3).toNat).2).1,((nth ((0:Int),((0:Int),(0:Int))) _v1 (_v3).toNat).2).2,((nth ((0:Int),((0:Int),(0:Int))) _v1 (_v3).toNat).2).1,((nth ((0:Int),((0:Int),(0:Int))) _v1 (_v3).toNat).2).2)) else (bif (decide (0<=(((nth ((0:Int),((0:Int),(0:Int))) _v1 (_v3).toNat).2).1))&&decide ((((nth ((0:Int),((0:Int),(0:Int))) _v1 (_v3).toNat).2).1)<(_v4.length:Int))) then ((qaX _N (((nth ((0:Int),((0:Int),((0:Int),((0:Int),(0:Int))))) _v4 (((nth ((0:Int),((0:Int),(0:Int))) _v1 (_v3).toNat).2).1).toNat).1,(((nth ((0:Int),((0:Int),((0:Int),((0:Int),(0:Int))))) _v4 (((nth ((0:Int),((0:Int),(0:Int))) _v1 (_v3).toNat).2).1).toNat).2).1,((((nth ((0:Int),((0:Int),((0:Int),((0:Int),(0:Int))))) _v4 (((nth ((0:Int),((0:Int),(0:Int))) _v1 (_v3).toNat).2).1).toNat).2).2).1,(((((nth ((0:Int),((0:Int),((0:Int),((0:Int),(0:Int))))) _v4 (((nth ((0:Int),((0:Int),(0:Int))) _v1 (_v3).toNat).2).1).toNat).2).2).2).1,((((nth ((0:Int),((0:Int),((0:Int),((0:Int),(0:Int))))) _v4 (((nth ((0:Int),((0:Int),(0:Int))) _v1 (_v3).toNat).2).1).toNat).2).2).2).2)))),())).bind fun _y107=>(bif (decide ((((nth ((0:Int),((0:Int),(0:Int))) _v1 (_v3).toNat).2).2)>=_y107.1)) then (_k106 (_v3,_v1,_v2,_v3,true,_v4,_v5,_v6,_v7,_v8,_v9,(nth ((0:Int),((0:Int),(0:Int))) _v1 (_v3).toNat).1,((nth ((0:Int),((0:Int),(0:Int))) _v1 (_v3).toNat).2).1,((nth ((0:Int),((0:Int),(0:Int))) _v1 (_v3).toNat).2).2,((nth ((0:Int),((0:Int),(0:Int))) _v1 (_v3).toNat).2).1,((nth ((0:Int),((0:Int),(0:Int))) _v1 (_v3).toNat).2).2)) else (_k106 (_v3,_v1,_v2,_v3,(mpHas Sl (.int .i64) _v9 (((nth ((0:Int),((0:Int),(0:Int))) _v1 (_v3).toNat).2).1,((nth ((0:Int),((0:Int),(0:Int))) _v1 (_v3).toNat).2).2)),_v4,_v5,_v6,_v7,_v8,_v9,(nth ((0:Int),((0:Int),(0:Int))) _v1 (_v3).toNat).1,((nth ((0:Int),((0:Int),(0:Int))) _v1 (_v3).toNat).2).1,((nth ((0:Int),((0:Int),(0:Int))) _v1 (_v3).toNat).2).2,((nth ((0:Int),((0:Int),(0:Int))) _v1 (_v3).toNat).2).1,((nth ((0:Int),((0:Int),(0:Int))) _v1 (_v3).toNat).2).2)))) else none))))) else none) else (_k100 (_v4,_v5,_v6,_v7,_v8,_v9)))
def qgp(_N:Nat)(_x1:List Ya)(_x2:List Yb)(_x3:List Int):Option qo:=
 (joinD (fun (_s:(List Ya)×(List Yb)×List Int×Int×Int×Yc)=>qgr _N _s.1 _s.2.1 _s.2.2.1 _s.2.2.2.1 _s.2.2.2.2.1 _s.2.2.2.2.2) fun _k100=>(loopE (fun (_c:(List Yb)×Int×(List Ya)×(List Yb)×Int×Int) (_s:Int×List Int×Yc) _kn=>qcD _N _k100 _c.1 _c.2.1 _c.2.2.1 _c.2.2.2.1 _c.2.2.2.2.1 _c.2.2.2.2.2 _s.1 _s.2.1 _s.2.2 _kn) _N (_x2,(_x2.length:Int),_x1,_x2,(0:Int),(0:Int)) ((0:Int),_x3,((0:Int),([]:List Yd)))))
def qbl(_N:Nat)(_x:(List Ya)×(List Yb)×List Int):Option qo:=qgp _N _x.1 _x.2.1 _x.2.2
theorem qkg(_N:Nat):SpecH Tryd.prog Gs 40 qdz (qbl _N):=mkSpH (fn:=Tryd.f40) (c:=ql Tryd.f40) (C:=(qld _N))
  (a:=.two .none (.two .none (.join 4 ⟨[(0,.ptr 0 0),(2,.ptr 2 0),(3,.ptr 3 1000000)],[.cells [.sl Si,.sl Sj,.slc 1 0],.row false 0 122 (.int .u32),.cells [.int .i64,.int .i64],.oth false ⟨false,120,3,.pair (.int .i64) (.int .i64),.int .i64,false⟩]⟩ (.two .none (.one (.loop 4 ⟨[(0,.ptr 0 0),(2,.ptr 2 0),(3,.ptr 3 1000000),(19,.sl Sj),(20,.int .i64),(21,.int .i64)],[.cells [.sl Si,.sl Sj,.slc 1 0],.row false 0 122 (.int .u32),.cells [.int .i64,.int .i64],.oth false ⟨false,120,3,.pair (.int .i64) (.int .i64),.int .i64,false⟩]⟩ [2,5,8] (.two .none (.two .none (.two (.one (.two .none (.two .none (.two .none (.two (.join 6 ⟨[(0,.ptr 0 0),(2,.ptr 2 0),(3,.ptr 3 1000000),(4,.int .i64),(5,.ptr 4 0),(6,.ptr 5 0),(19,.sl Sj),(20,.int .i64),(21,.int .i64),(79,.bool)],[.cells [.sl Si,.sl Sj,.slc 1 0],.row false 0 122 (.int .u32),.cells [.int .i64,.int .i64],.oth false ⟨false,120,3,.pair (.int .i64) (.int .i64),.int .i64,false⟩,.cells [.int .i64,.int .i64,.int .i64],.cells [.int .i64,.int .i64]]⟩ (.draw 0 (.pure :: .rd [4] :: .pure :: .rd [4] :: .pure :: .pure :: .pure :: .pure :: .rd [4] :: .pure :: .rd [4] :: .pure :: .pure :: .pure :: .pure :: .pure :: .rd [0] :: .pure :: .pure :: .pure :: .pure :: .pure :: .rd [4] :: .pure :: .pure :: .pure :: .pure :: .rd [4] :: .pure :: .pure :: .pure :: .pure :: .rd [0] :: .pure :: .rd [4] :: .pure :: .pure :: .pure :: .pure :: .pure :: .pure :: .pure :: .pure :: [])) .none) (.two (.two (.draw 0 [.pure,.pure,.pure,.pure,.rd [0],.pure,.rd [4],.pure,.pure,.pure,.pure,.pure,.pure,.pure,.rd [0],.pure,.rd [4],.pure,.pure,.pure,.pure]) .none) (.two .none (.draw 0 [.pure,.pure,.pure,.rd [0],.pure,.rd [4],.rd [1],.rd [1],.pure,.rd [4],.pure,.pure,.rd [1],.wr [1]])))))))) .none)))))) (.join 4 ⟨[(2,.ptr 2 0)],[.cells [.sl Si,.sl Sj,.slc 1 0],.row false 0 122 (.int .u32),.cells [.int .i64,.int .i64],.oth false ⟨false,120,3,.pair (.int .i64) (.int .i64),.int .i64,false⟩]⟩ (.two .none (.one (.loop 4 ⟨[(2,.ptr 2 0),(3,.ptr 3 1000000),(126,.sl Si),(127,.int .i64),(128,.int .i64)],[.cells [.sl Si,.sl Sj,.slc 1 0],.row false 0 122 (.int .u32),.cells [.int .i64,.int .i64],.oth false ⟨false,120,3,.pair (.int .i64) (.int .i64),.int .i64,false⟩]⟩ [2] (.two .none (.two .none (.join 5 ⟨[(2,.ptr 2 0),(3,.ptr 3 1000000),(126,.sl Si),(127,.int .i64),(128,.int .i64)],[.cells [.sl Si,.sl Sj,.slc 1 0],.row false 0 122 (.int .u32),.cells [.int .i64,.int .i64],.oth false ⟨false,120,3,.pair (.int .i64) (.int .i64),.int .i64,false⟩,.cells [.int .i64,.int .i64,.int .i64,.int .i64,.int .i64]]⟩ (.one (.two .none (.two .none (.one (.loop 5 ⟨[(2,.ptr 2 0),(3,.ptr 3 1000000),(9,.int .i64),(126,.sl Si),(127,.int .i64),(128,.int .i64),(134,.int .i64),(135,.int .i64)],[.cells [.sl Si,.sl Sj,.slc 1 0],.row false 0 122 (.int .u32),.cells [.int .i64,.int .i64],.oth false ⟨false,120,3,.pair (.int .i64) (.int .i64),.int .i64,false⟩,.cells [.int .i64,.int .i64,.int .i64,.int .i64,.int .i64]]⟩ [5] .none))))) .none)))))) .none))))
  (by kernel_rfl) rfl (by kernel_rfl) (by kernel_rfl) (by kernel_rfl) rfl ⟨rfl,by unfold TOk;kernel_rfl,qao rfl rfl (zG.2 ⟨qhD _N,(zG.2 ⟨qku _N,(zG.2 ⟨qvc _N,(zG.2 ⟨qqg _N,(zC _)⟩)⟩)⟩)⟩),qan rfl rfl (zC _),rfl⟩ (fun _x=>by kernel_rfl)
theorem qkj(_N:Nat):EntOk Tryd.prog Gs (mkHe 40 qdz (qbl _N)):=entH ⟨Tryd.f40,ql Tryd.f40,by kernel_rfl,by kernel_rfl,rfl⟩ (qkg _N)
abbrev qdc:Sig:=⟨[.form (.ptr 0 0),.dat false (.int .i64),.dat false (.int .u32)],[.cells [.sl Si,.sl Sj,.slc 1 0],.row false 0 122 (.int .u32)],
 [.dat false (.int .u32)],[.cells [.sl Si,.sl Sj,.slc 1 0],.row false 0 122 (.int .u32)],[]⟩
abbrev qag:Type:=Int×(List Ya)×(List Yb)×List Int
def qkl(_N:Nat):Ctx:={ T:=[(96,⟨.ptr,1,8,none,[.nl .ptr],false,[]⟩),(97,⟨.slice 122,1,24,some Sm,[.nil],false,[]⟩),(99,⟨.struct [(0,25),(2,97)],3,72,some (.pair (.pair (.sl Si) (.sl Sj)) Sm),[.nil,.nil,.nil],false,[]⟩),(122,⟨.int .u32,1,4,some (.int .u32),[.int .u32 (0:Int)],false,[]⟩)],G:=findE [mkB 57 qbX 74 (.int .u32) (qaD _N)],I:=findI [mkI 74 qqA (.int .i64) qhg],N:=_N,n:=43,fx:=[],fl:=2,gs:=Gs }
def qdw(_N:Nat)(_v21:Int)(_v22:List Ya)(_v23:List Yb)(_v24:List Int):Option qag:=
 (some (_v21,_v22,_v23,_v24))
def qdv(_N:Nat)(_kn27:((List Ya)×(List Yb)×List Int×Int)×(Int×Int)->Option qag)(_v14:Int)(_v15:List Ya)(_v16:List Yb)(_v17:List Int)(_v18:Int)(_v19:Int):Option qag:=
 (_kn27 ((_v15,_v16,_v17,_v18),(_v14,(iandNot .u32 _v19 _v14))))
def qdu(_N:Nat)(_v9:List Ya)(_v10:List Yb)(_v11:List Int)(_v12:Int)(_v13:Int)(_kn30:((List Ya)×(List Yb)×List Int×Int)×Int->Option qag)(_y8:Int):Option qag:=
 (bif (decide (0<=_y8)&&decide (_y8<(_v11.length:Int))) then (_kn30 ((_v9,_v10,_v11,_v12),(ior .u32 _v13 (iand .u32 (nth (0:Int) _v11 ((_y8).toNat)) _v12)))) else none)
def qco(_N:Nat)(_k26:(Int×(List Ya)×(List Yb)×List Int×Int)->Option qag)(_v3:List Ya)(_v4:List Yb)(_v5:List Int)(_v6:Int)(_v1:Int)(_v2:Int)(_kn27:((List Ya)×(List Yb)×List Int×Int)×(Int×Int)->Option qag):Option qag:=
 (bif (_v2 != (0:Int)) then (joinD (fun (_s:Int×(List Ya)×(List Yb)×List Int×Int×Int)=>qdv _N _kn27 _s.1 _s.2.1 _s.2.2.1 _s.2.2.2.1 _s.2.2.2.2.1 _s.2.2.2.2.2) fun _k28=>((qaD _N (_v2,())).bind fun _y29=>(forE (fun (_c:(List Ya)×(List Yb)×List Int×Int) (_y:Int) (_s:Int) _kn=>qdu _N _c.1 _c.2.1 _c.2.2.1 _c.2.2.2 _s _kn _y) (fun (_c:(List Ya)×(List Yb)×List Int×Int) (_s:Int)=>(_k28 ((ior .u32 _v1 _v2),_c.1,_c.2.1,_c.2.2.1,_c.2.2.2,_s))) (qhg (_y29,())) (_v3,_v4,_v5,_v6) (0:Int)))) else (_k26 (_v1,_v3,_v4,_v5,_v6)))
def qfv(_N:Nat)(_x1:Int)(_x2:Int)(_x3:List Ya)(_x4:List Yb)(_x5:List Int):Option qag:=
 (bif (decide (0<=_x1)&&decide (_x1<(_x5.length:Int))) then (joinD (fun (_s:Int×(List Ya)×(List Yb)×List Int×Int)=>qdw _N _s.1 _s.2.1 _s.2.2.1 _s.2.2.2.1) fun _k26=>(loopE (fun (_c:(List Ya)×(List Yb)×List Int×Int) (_s:Int×Int) _kn=>qco _N _k26 _c.1 _c.2.1 _c.2.2.1 _c.2.2.2 _s.1 _s.2 _kn) _N (_x3,_x4,_x5,_x2) ((0:Int),(iand .u32 (nth (0:Int) _x5 ((_x1).toNat)) _x2)))) else none)
def qaS(_N:Nat)(_x:Int×Int×(List Ya)×(List Yb)×List Int):Option qag:=qfv _N _x.1 _x.2.1 _x.2.2.1 _x.2.2.2.1 _x.2.2.2.2
theorem qjb(_N:Nat):SpecH Tryd.prog Gs 58 qdc (qaS _N):=mkSpH (fn:=Tryd.f58) (c:=ql Tryd.f58) (C:=(qkl _N))
  (a:=.two .none (.two .none (.two (.draw 0 [.rd [2],.pure,.pure,.rd [0],.pure,.rd [1],.rd [1],.rd [3],.pure,.pure]) (.join 4 ⟨[(7,.int .u32)],[.cells [.sl Si,.sl Sj,.slc 1 0],.row false 0 122 (.int .u32),.cells [.ptr 0 0],.cells [.int .u32]]⟩ (.one (.loop 4 ⟨[(3,.ptr 2 0),(5,.ptr 3 0),(7,.int .u32),(8,.int .u32)],[.cells [.sl Si,.sl Sj,.slc 1 0],.row false 0 122 (.int .u32),.cells [.ptr 0 0],.cells [.int .u32]]⟩ [0,1] (.two .none (.one (.two .none (.two .none (.join 5 ⟨[(3,.ptr 2 0),(5,.ptr 3 0),(7,.int .u32),(9,.ptr 4 0)],[.cells [.sl Si,.sl Sj,.slc 1 0],.row false 0 122 (.int .u32),.cells [.ptr 0 0],.cells [.int .u32],.cells [.int .u32]]⟩ (.two .none (.one (.keep [3,5,7,9,26] 5 (.each 5 [.cells [.sl Si,.sl Sj,.slc 1 0],.row false 0 122 (.int .u32),.cells [.ptr 0 0],.cells [.int .u32],.cells [.int .u32]] [4] .none (.one (.draw 0 [.rd [4],.rd [2],.pure,.pure,.rd [0],.pure,.rd [1],.rd [1],.rd [3],.pure,.pure,.wr [4]])))))) .none))))))) .none))))
  (by kernel_rfl) rfl (by kernel_rfl) (by kernel_rfl) (by kernel_rfl) rfl ⟨rfl,by unfold TOk;kernel_rfl,qao rfl rfl (zG.2 ⟨qgw _N,(zC _)⟩),qan rfl rfl (zG.2 ⟨qAM,(zC _)⟩),rfl⟩ (fun _x=>by kernel_rfl)
theorem qjE(_N:Nat):EntOk Tryd.prog Gs (mkHe 58 qdc (qaS _N)):=entH ⟨Tryd.f58,ql Tryd.f58,by kernel_rfl,by kernel_rfl,rfl⟩ (qjb _N)
abbrev qdy:Sig:=⟨[.form (.ptr 0 0)],[.cells [.sl Si,.sl Sj,.slc 1 0],.row false 0 122 (.int .u32)],
 [.dat false (.int .i64)],[.cells [.sl Si,.sl Sj,.slc 1 0],.row false 0 122 (.int .u32)],[]⟩
abbrev qg:Type:=Int×(List Ya)×(List Yb)×List Int
def qlc(_N:Nat):Ctx:={ T:=[(3,⟨.int .i64,1,8,some (.int .i64),[.int .i64 (0:Int)],false,[]⟩),(22,⟨.slice 39,1,24,some (.sl Si),[.nil],false,[]⟩),(25,⟨.struct [(0,22),(1,23)],2,48,some (.pair (.sl Si) (.sl Sj)),[.nil,.nil],false,[]⟩),(39,⟨.struct [(0,3),(1,3),(2,37)],5,40,some Si,[.int .i64 (0:Int),.int .i64 (0:Int),.int .i64 (0:Int),.int .i64 (0:Int),.int .i64 (0:Int)],true,[]⟩),(96,⟨.ptr,1,8,none,[.nl .ptr],false,[]⟩),(99,⟨.struct [(0,25),(2,97)],3,72,some (.pair (.pair (.sl Si) (.sl Sj)) Sm),[.nil,.nil,.nil],false,[]⟩),(122,⟨.int .u32,1,4,some (.int .u32),[.int .u32 (0:Int)],false,[]⟩)],G:=findE [mkB 57 qbX 74 (.int .u32) (qaD _N),mkHe 58 qdc (qaS _N),mkP 59 qcU qcS (qbR _N),mkP 56 qgJ qgH (qcb _N)],I:=findI [mkI 74 qqA (.int .i64) qhg],N:=_N,n:=81,fx:=[],fl:=2,gs:=Gs }
def qgo(_N:Nat)(_v140:List Ya)(_v141:List Yb)(_v142:List Int):Option qg:=
 (some ((-1:Int),_v140,_v141,_v142))
def qgn(_N:Nat)(_v134:List Ya)(_v135:List Yb)(_v136:List Int)(_y133:Int):Option qg:=
 (some (_y133,_v134,_v135,_v136))
def qgm(_N:Nat)(_v126:List Ya)(_v127:List Yb)(_v128:List Int)(_v129:Int)(_v130:Int)(_v131:Int):Option qg:=
 (joinD (fun (_s:(List Ya)×(List Yb)×List Int×Int×Int×Int)=>qgo _N _s.1 _s.2.1 _s.2.2.1) fun _k146=>((qaD _N (_v130,())).bind fun _y147=>(forE (fun (_c:(List Ya)×(List Yb)×List Int×Int×Int×Int) (_y:Int) (_s:Unit) _kn=>qgn _N _c.1 _c.2.1 _c.2.2.1 _y) (fun (_c:(List Ya)×(List Yb)×List Int×Int×Int×Int) (_s:Unit)=>(_k146 (_c.1,_c.2.1,_c.2.2.1,_c.2.2.2.1,_c.2.2.2.2.1,_c.2.2.2.2.2))) (qhg (_y147,())) (_v126,_v127,_v128,_v129,_v130,_v131) ())))
def qgl(_N:Nat)(_kn150:Int×((List Ya)×(List Yb)×List Int×Int×Int)->Option qg)(_v96:List Ya)(_v97:List Yb)(_v98:List Int)(_v99:Int)(_v100:Int)(_v101:Int):Option qg:=
 (_kn150 (_v99,(_v96,_v97,_v98,_v100,(IntKind.i64.wrap (_v101+(1:Int))))))
def qgk(_N:Nat)(_v73:Int)(_v75:Int)(_v76:Int)(_v77:Int)(_v70:List Ya)(_v71:List Yb)(_v72:List Int)(_v74:Int)(_kn156:(Int×Int×Int×Int)×((List Ya)×(List Yb)×List Int×Int)->Option qg)(_y69:Int):Option qg:=
 ((qaS _N (_y69,_v76,_v70,_v71,_v72)).bind fun _y158=>((qbR _N (_y158.1,_v77,())).bind fun _y159=>(bif _y159.1 then ((qcb _N (_y69,())).bind fun _y160=>(_kn156 ((_v73,_v75,_v76,_v77),(_y158.2.1,_y158.2.2.1,_y158.2.2.2,(ior .u32 _v74 _y160.1))))) else (_kn156 ((_v73,_v75,_v76,_v77),(_y158.2.1,_y158.2.2.1,_y158.2.2.2,_v74))))))
def qgj(_N:Nat)(_v63:Int)(_v65:Int)(_v66:Int)(_v60:List Ya)(_v61:List Yb)(_v62:List Int)(_v64:Int)(_kn153:Yb×((List Ya)×(List Yb)×List Int×Int)->Option qg)(_y59:Int):Option qg:=
 (bif (decide (0<=_y59)&&decide (_y59<(_v60.length:Int))) then (bif ((((nth ((0:Int),((0:Int),((0:Int),((0:Int),(0:Int))))) _v60 (_y59).toNat).2).1) != _v65) then (_kn153 ((_v63,_v65,_v66),(_v60,_v61,_v62,_v64))) else ((qaS _N (_y59,_v66,_v60,_v61,_v62)).bind fun _y154=>((qaD _N (_y154.1,())).bind fun _y155=>(forE (fun (_c:Int×Int×Int×Int) (_y:Int) (_s:(List Ya)×(List Yb)×List Int×Int) _kn=>qgk _N _c.1 _c.2.1 _c.2.2.1 _c.2.2.2 _s.1 _s.2.1 _s.2.2.1 _s.2.2.2 _kn _y) (fun (_c:Int×Int×Int×Int) (_s:(List Ya)×(List Yb)×List Int×Int)=>(_kn153 ((_c.1,_c.2.1,_c.2.2.1),(_s.1,_s.2.1,_s.2.2.1,_s.2.2.2)))) (qhg (_y155,())) (_v63,_v65,_v66,_y59) (_y154.2.1,_y154.2.2.1,_y154.2.2.2,_v64))))) else none)
def qgi(_N:Nat)(_k151:((List Ya)×(List Yb)×List Int×Int×Int×Int×Int)->Option qg)(_v51:List Ya)(_v52:List Yb)(_v53:List Int)(_v54:Int)(_v55:Int)(_v56:Int)(_v57:Int):Option qg:=
 ((qaD _N (_v57,())).bind fun _y152=>(forE (fun (_c:Int×Int×Int) (_y:Int) (_s:(List Ya)×(List Yb)×List Int×Int) _kn=>qgj _N _c.1 _c.2.1 _c.2.2 _s.1 _s.2.1 _s.2.2.1 _s.2.2.2 _kn _y) (fun (_c:Int×Int×Int) (_s:(List Ya)×(List Yb)×List Int×Int)=>(_k151 (_s.1,_s.2.1,_s.2.2.1,_c.1,_s.2.2.2,_c.2.1,_c.2.2))) (qhg (_y152,())) (_v54,_v56,_v57) (_v51,_v52,_v53,_v55)))
def qgh(_N:Nat)(_kn162:((List Ya)×Int×(List Ya)×(List Yb)×List Int×Int×Int×Int)×(Int×Int)->Option qg)(_v35:List Ya)(_v36:Int)(_v37:Int)(_v38:List Ya)(_v39:List Yb)(_v40:List Int)(_v41:Int)(_v42:Int)(_v43:Int)(_v44:Int):Option qg:=
 (_kn162 ((_v35,_v36,_v38,_v39,_v40,_v41,_v42,_v43),((IntKind.i64.wrap (_v37+(1:Int))),_v44)))
def qgg(_N:Nat)(_k163:((List Ya)×Int×Int×(List Ya)×(List Yb)×List Int×Int×Int×Int×Int×Int×Int×Int×Int×Int)->Option qg)(_v17:Int)(_v18:List Ya)(_v19:Int)(_v20:Int)(_v21:Bool)(_v22:List Ya)(_v23:List Yb)(_v24:List Int)(_v25:Int)(_v26:Int)(_v27:Int)(_v28:Int)(_v29:Int)(_v30:Int)(_v31:Int)(_v32:Int)(_v33:Int):Option qg:=
 (bif _v21 then ((qcb _N (_v17,())).bind fun _y164=>(_k163 (_v18,_v19,_v20,_v22,_v23,_v24,_v25,_v26,_v27,(ior .u32 _v28 _y164.1),_v29,_v30,_v31,_v32,_v33))) else (_k163 (_v18,_v19,_v20,_v22,_v23,_v24,_v25,_v26,_v27,_v28,_v29,_v30,_v31,_v32,_v33)))
def qcn(_N:Nat)(_k161:((List Ya)×(List Yb)×List Int×Int×Int×Int×Int)->Option qg)(_v7:List Ya)(_v8:Int)(_v10:List Ya)(_v11:List Yb)(_v12:List Int)(_v13:Int)(_v14:Int)(_v15:Int)(_v9:Int)(_v16:Int)(_kn162:((List Ya)×Int×(List Ya)×(List Yb)×List Int×Int×Int×Int)×(Int×Int)->Option qg):Option qg:=
 (bif (decide (_v9<_v8)) then (joinD (fun (_s:(List Ya)×Int×Int×(List Ya)×(List Yb)×List Int×Int×Int×Int×Int×Int×Int×Int×Int×Int)=>qgh _N _kn162 _s.1 _s.2.1 _s.2.2.1 _s.2.2.2.1 _s.2.2.2.2.1 _s.2.2.2.2.2.1 _s.2.2.2.2.2.2.1 _s.2.2.2.2.2.2.2.1 _s.2.2.2.2.2.2.2.2.1 _s.2.2.2.2.2.2.2.2.2.1) fun _k163=>(bif (decide (0<=_v9)&&decide (_v9<(_v7.length:Int))) then (joinD (fun (_s:Int×(List Ya)×Int×Int×Bool×(List Ya)×(List Yb)×List Int×Int×Int×Int×Int×Int×Int×Int×Int×Int)=>qgg _N _k163 _s.1 _s.2.1 _s.2.2.1 _s.2.2.2.1 _s.2.2.2.2.1 _s.2.2.2.2.2.1 _s.2.2.2.2.2.2.1 _s.2.2.2.2.2.2.2.1 _s.2.2.2.2.2.2.2.2.1 _s.2.2.2.2.2.2.2.2.2.1 _s.2.2.2.2.2.2.2.2.2.2.1 _s.2.2.2.2.2.2.2.2.2.2.2.1 _s.2.2.2.2.2.2.2.2.2.2.2.2.1 _s.2.2.2.2.2.2.2.2.2.2.2.2.2.1 _s.2.2.2.2.2.2.2.2.2.2.2.2.2.2.1 _s.2.2.2.2.2.2.2.2.2.2.2.2.2.2.2.1 _s.2.2.2.2.2.2.2.2.2.2.2.2.2.2.2.2) fun _k165=>(bif (decide ((((nth ((0:Int),((0:Int),((0:Int),((0:Int),(0:Int))))) _v7 (_v9).toNat).2).1)>_v15)) then (_k165 (_v9,_v7,_v8,_v9,true,_v10,_v11,_v12,_v13,_v14,_v15,_v16,(nth ((0:Int),((0:Int),((0:Int),((0:Int),(0:Int))))) _v7 (_v9).toNat).1,((nth ((0:Int),((0:Int),((0:Int),((0:Int),(0:Int))))) _v7 (_v9).toNat).2).1,(((nth ((0:Int),((0:Int),((0:Int),((0:Int),(0:Int))))) _v7 (_v9).toNat).2).2).1,((((nth ((0:Int),((0:Int),((0:Int),((0:Int),(0:Int))))) _v7 (_v9).toNat).2).2).2).1,((((nth ((0:Int),((0:Int),((0:Int),((0:Int),(0:Int))))) _v7 (_v9).toNat).2).2).2).2)) else (bif ((((nth ((0:Int),((0:Int),((0:Int),((0:Int),(0:Int))))) _v7 (_v9).toNat).2).1)==_v15) then (_k165 (_v9,_v7,_v8,_v9,(((nth ((0:Int),((0:Int),((0:Int),((0:Int),(0:Int))))) _v7 (_v9).toNat).1) != (6:Int)),_v10,_v11,_v12,_v13,_v14,_v15,_v16,(nth ((0:Int),((0:Int),((0:Int),((0:Int),(0:Int))))) _v7 (_v9).toNat).1,((nth ((0:Int),((0:Int),((0:Int),((0:Int),(0:Int))))) _v7 (_v9).toNat).2).1,(((nth ((0:Int),((0:Int),((0:Int),((0:Int),(0:Int))))) _v7 (_v9).toNat).2).2).1,((((nth ((0:Int),((0:Int),((0:Int),((0:Int),(0:Int))))) _v7 (_v9).toNat).2).2).2).1,((((nth ((0:Int),((0:Int),((0:Int),((0:Int),(0:Int))))) _v7 (_v9).toNat).2).2).2).2)) else (_k165 (_v9,_v7,_v8,_v9,false,_v10,_v11,_v12,_v13,_v14,_v15,_v16,(nth ((0:Int),((0:Int),((0:Int),((0:Int),(0:Int))))) _v7 (_v9).toNat).1,((nth ((0:Int),((0:Int),((0:Int),((0:Int),(0:Int))))) _v7 (_v9).toNat).2).1,(((nth ((0:Int),((0:Int),((0:Int),((0:Int),(0:Int))))) _v7 (_v9).toNat).2).2).1,((((nth ((0:Int),((0:Int),((0:Int),((0:Int),(0:Int))))) _v7 (_v9).toNat).2).2).2).1,((((nth ((0:Int),((0:Int),((0:Int),((0:Int),(0:Int))))) _v7 (_v9).toNat).2).2).2).2))))) else none)) else (_k161 (_v10,_v11,_v12,_v13,_v14,_v15,_v16)))
def qdt(_N:Nat)(_k149:((List Ya)×(List Yb)×List Int×Int×Int×Int)->Option qg)(_v4:Int)(_v1:List Ya)(_v2:List Yb)(_v3:List Int)(_v5:Int)(_v6:Int)(_kn150:Int×((List Ya)×(List Yb)×List Int×Int×Int)->Option qg):Option qg:=
 (bif (decide (_v6<=(4:Int))) then (joinD (fun (_s:(List Ya)×(List Yb)×List Int×Int×Int×Int×Int)=>qgl _N _kn150 _s.1 _s.2.1 _s.2.2.1 _s.2.2.2.1 _s.2.2.2.2.1 _s.2.2.2.2.2.1) fun _k151=>(joinD (fun (_s:(List Ya)×(List Yb)×List Int×Int×Int×Int×Int)=>qgi _N _k151 _s.1 _s.2.1 _s.2.2.1 _s.2.2.2.1 _s.2.2.2.2.1 _s.2.2.2.2.2.1 _s.2.2.2.2.2.2) fun _k161=>(loopE (fun (_c:(List Ya)×Int×(List Ya)×(List Yb)×List Int×Int×Int×Int) (_s:Int×Int) _kn=>qcn _N _k161 _c.1 _c.2.1 _c.2.2.1 _c.2.2.2.1 _c.2.2.2.2.1 _c.2.2.2.2.2.1 _c.2.2.2.2.2.2.1 _c.2.2.2.2.2.2.2 _s.1 _s.2 _kn) _N (_v1,(_v1.length:Int),_v1,_v2,_v3,_v4,_v5,_v6) ((0:Int),(0:Int))))) else (_k149 (_v1,_v2,_v3,_v4,_v5,_v6)))
def qfu(_N:Nat)(_x1:List Ya)(_x2:List Yb)(_x3:List Int):Option qg:=
 (joinD (fun (_s:(List Ya)×(List Yb)×List Int×Int×Int×Int)=>qgm _N _s.1 _s.2.1 _s.2.2.1 _s.2.2.2.1 _s.2.2.2.2.1 _s.2.2.2.2.2) fun _k149=>(loopE (fun (_c:Int) (_s:(List Ya)×(List Yb)×List Int×Int×Int) _kn=>qdt _N _k149 _c _s.1 _s.2.1 _s.2.2.1 _s.2.2.2.1 _s.2.2.2.2 _kn) _N (0:Int) (_x1,_x2,_x3,(0:Int),(1:Int))))
def qbk(_N:Nat)(_x:(List Ya)×(List Yb)×List Int):Option qg:=qfu _N _x.1 _x.2.1 _x.2.2
theorem qkf(_N:Nat):SpecH Tryd.prog Gs 41 qdy (qbk _N):=mkSpH (fn:=Tryd.f41) (c:=ql Tryd.f41) (C:=(qlc _N))
  (a:=.two .none (.two .none (.join 6 ⟨[(2,.ptr 3 0),(3,.ptr 4 0)],[.cells [.sl Si,.sl Sj,.slc 1 0],.row false 0 122 (.int .u32),.cells [.ptr 0 0],.cells [.int .i64],.cells [.int .u32],.cells [.int .i64]]⟩ (.two .none (.one (.loop 6 ⟨[(1,.ptr 2 0),(2,.ptr 3 0),(3,.ptr 4 0),(4,.ptr 5 0)],[.cells [.sl Si,.sl Sj,.slc 1 0],.row false 0 122 (.int .u32),.cells [.ptr 0 0],.cells [.int .i64],.cells [.int .u32],.cells [.int .i64]]⟩ [0,1,2,4,5] (.two .none (.join 7 ⟨[(1,.ptr 2 0),(2,.ptr 3 0),(3,.ptr 4 0),(4,.ptr 5 0)],[.cells [.sl Si,.sl Sj,.slc 1 0],.row false 0 122 (.int .u32),.cells [.ptr 0 0],.cells [.int .i64],.cells [.int .u32],.cells [.int .i64],.cells [.int .u32]]⟩ (.one (.two .none (.join 7 ⟨[(1,.ptr 2 0),(2,.ptr 3 0),(3,.ptr 4 0),(4,.ptr 5 0),(5,.ptr 6 0)],[.cells [.sl Si,.sl Sj,.slc 1 0],.row false 0 122 (.int .u32),.cells [.ptr 0 0],.cells [.int .i64],.cells [.int .u32],.cells [.int .i64],.cells [.int .u32]]⟩ (.two .none (.one (.loop 7 ⟨[(1,.ptr 2 0),(2,.ptr 3 0),(3,.ptr 4 0),(4,.ptr 5 0),(5,.ptr 6 0),(19,.sl Si),(20,.int .i64),(21,.int .i64)],[.cells [.sl Si,.sl Sj,.slc 1 0],.row false 0 122 (.int .u32),.cells [.ptr 0 0],.cells [.int .i64],.cells [.int .u32],.cells [.int .i64],.cells [.int .u32]]⟩ [2,9] (.two .none (.two .none (.join 8 ⟨[(1,.ptr 2 0),(2,.ptr 3 0),(3,.ptr 4 0),(4,.ptr 5 0),(5,.ptr 6 0),(19,.sl Si),(20,.int .i64),(21,.int .i64)],[.cells [.sl Si,.sl Sj,.slc 1 0],.row false 0 122 (.int .u32),.cells [.ptr 0 0],.cells [.int .i64],.cells [.int .u32],.cells [.int .i64],.cells [.int .u32],.cells [.int .i64,.int .i64,.int .i64,.int .i64,.int .i64]]⟩ (.one (.two .none (.join 8 ⟨[(1,.ptr 2 0),(2,.ptr 3 0),(3,.ptr 4 0),(4,.ptr 5 0),(5,.ptr 6 0),(6,.int .i64),(19,.sl Si),(20,.int .i64),(21,.int .i64),(40,.bool)],[.cells [.sl Si,.sl Sj,.slc 1 0],.row false 0 122 (.int .u32),.cells [.ptr 0 0],.cells [.int .i64],.cells [.int .u32],.cells [.int .i64],.cells [.int .u32],.cells [.int .i64,.int .i64,.int .i64,.int .i64,.int .i64]]⟩ .none (.two (.draw 0 [.rd [6],.pure,.pure,.pure,.wr [6]]) .none)))) .none)))))) (.two .none (.one (.keep [1,2,3,4,5,47] 7 (.each 7 [.cells [.sl Si,.sl Sj,.slc 1 0],.row false 0 122 (.int .u32),.cells [.ptr 0 0],.cells [.int .i64],.cells [.int .u32],.cells [.int .i64],.cells [.int .u32]] [0,1,2,4] .none (.one (.two (.two (.draw 0 [.rd [2],.pure,.pure,.pure,.rd [0],.rd [7],.pure,.pure,.pure,.rd [5],.pure]) .none) (.two .none (.one (.keep [1,3,5,8,64] 8 (.each 8 [.cells [.sl Si,.sl Sj,.slc 1 0],.row false 0 122 (.int .u32),.cells [.ptr 0 0],.cells [.int .i64],.cells [.int .u32],.cells [.int .i64],.cells [.int .u32],.cells [.int .i64]] [0,1,2,4] .none (.one (.two (.draw 0 [.rd [2],.pure,.rd [6],.wr [0,1],.rd [7],.pure]) (.two (.draw 0 [.rd [4],.pure,.pure,.pure,.wr [4]]) .none)))))))))))))))) (.two (.two .none (.mv 5 4)) .none)))))) (.join 6 ⟨[(2,.ptr 3 0)],[.cells [.sl Si,.sl Sj,.slc 1 0],.row false 0 122 (.int .u32),.cells [.ptr 0 0],.cells [.int .i64],.cells [.int .u32],.cells [.int .i64]]⟩ (.two .none (.one (.keep [2,78] 6 (.each 6 [.cells [.sl Si,.sl Sj,.slc 1 0],.row false 0 122 (.int .u32),.cells [.ptr 0 0],.cells [.int .i64],.cells [.int .u32],.cells [.int .i64]] [] .none .none)))) .none))))
  (by kernel_rfl) rfl (by kernel_rfl) (by kernel_rfl) (by kernel_rfl) rfl ⟨rfl,by unfold TOk;kernel_rfl,qao rfl rfl (zG.2 ⟨qgw _N,(zG.2 ⟨qjE _N,(zG.2 ⟨qlU _N,(zG.2 ⟨qqg _N,(zC _)⟩)⟩)⟩)⟩),qan rfl rfl (zG.2 ⟨qAM,(zC _)⟩),rfl⟩ (fun _x=>by kernel_rfl)
theorem qki(_N:Nat):EntOk Tryd.prog Gs (mkHe 41 qdy (qbk _N)):=entH ⟨Tryd.f41,ql Tryd.f41,by kernel_rfl,by kernel_rfl,rfl⟩ (qkf _N)
abbrev qfc:List Kd:=[.dat (.pair (.sl Si) (.sl Sj))]
abbrev qeZ:List Kd:=[.dat Sl]
abbrev qkz:Type:=Dens qeZ
def qtK(_N:Nat):Ctx:={ T:=[(22,⟨.slice 39,1,24,some (.sl Si),[.nil],false,[]⟩),(23,⟨.slice 84,1,24,some (.sl Sj),[.nil],false,[]⟩),(25,⟨.struct [(0,22),(1,23)],2,48,some (.pair (.sl Si) (.sl Sj)),[.nil,.nil],false,[]⟩),(30,⟨.int .i64,1,8,some (.int .i64),[.int .i64 (0:Int)],false,[]⟩),(34,⟨.struct [(0,30),(1,3)],2,16,some Sl,[.int .i64 (0:Int),.int .i64 (0:Int)],true,[]⟩),(97,⟨.slice 122,1,24,some Sm,[.nil],false,[]⟩),(99,⟨.struct [(0,25),(2,97)],3,72,some (.pair (.pair (.sl Si) (.sl Sj)) Sm),[.nil,.nil,.nil],false,[]⟩),(122,⟨.int .u32,1,4,some (.int .u32),[.int .u32 (0:Int)],false,[]⟩)],G:=findE [mkP 36 qdE qdD (qaR _N),mkP 37 qO qN (qB _N),mkHe 40 qdz (qbl _N),mkHe 41 qdy (qbk _N)],I:=findI [],N:=_N,n:=45,fx:=[],fl:=0,gs:=Gs }
def qlM(_N:Nat)(_x1:List Ya×List Yb):Option qkz:=
 (bif (decide ((_x1.1.length:Int)>(12:Int))) then ((qaR _N ((1:Int),(0:Int),())).bind fun _y8=>(some ((_y8.1.1,_y8.1.2),()))) else (bif (decide ((_x1.2.length:Int)>(20:Int))) then ((qaR _N ((1:Int),(0:Int),())).bind fun _y9=>(some ((_y9.1.1,_y9.1.2),()))) else ((qB _N (_x1.1,(),())).bind fun _y10=>(bif (decide (_y10.1>=(0:Int))) then ((qaR _N ((2:Int),_y10.1,())).bind fun _y11=>(some ((_y11.1.1,_y11.1.2),()))) else (bif (decide (0<=(_x1.1.length:Int))&&(decide ((_x1.1.length:Int)<=(_x1.1.length:Int))&&decide ((_x1.1.length:Int)*4<=281474976710656))) then ((qbl _N (_x1.1,_x1.2,(List.replicate (_x1.1.length:Int).toNat (0:Int)))).bind fun _y12=>(bif (_y12.1.1 != (0:Int)) then (some ((_y12.1.1,_y12.1.2),())) else ((qbk _N (_y12.2.1,_y12.2.2.1,_y12.2.2.2)).bind fun _y13=>(bif (decide (_y13.1>=(0:Int))) then ((qaR _N ((9:Int),_y13.1,())).bind fun _y14=>(some ((_y14.1.1,_y14.1.2),()))) else (some (((0:Int),(0:Int)),())))))) else none)))))
def qdr(_N:Nat)(_x:Dens qfc):Option qkz:=qlM _N _x.1
theorem qqM(_N:Nat):SpecD Tryd.prog Gs 18 qfc qeZ (qdr _N):=mkSpD (fn:=Tryd.f18) (c:=ql Tryd.f18) (C:=qtK _N)
  (a:=.two .none (.two .none (.two .none (.two (.draw 2 [.rd [0],.pure,.rd [0],.pure,.new 2,.pure,.new 3,.pure]) .none))))
  (by kernel_rfl) rfl (by kernel_rfl) (by kernel_rfl) ⟨rfl,by unfold TOk;kernel_rfl,qao rfl rfl (zG.2 ⟨qku _N,(zG.2 ⟨qbG _N,(zG.2 ⟨qkj _N,(zG.2 ⟨qki _N,(zC _)⟩)⟩)⟩)⟩),qan rfl rfl (zC _),rfl⟩ (fun _x=>by kernel_rfl)
theorem qri(_N:Nat):EntOk Tryd.prog Gs (mkP 18 qfc qeZ (qdr _N)):=entP ⟨Tryd.f18,ql Tryd.f18,by kernel_rfl,by kernel_rfl,rfl⟩ (by kernel_rfl) (qqM _N)
end Go.Proofs.YtnhjpicdijeagaaDoor
end

namespace Go.Gr
inductive Pk (E:Nat->Nat->Prop) (k:Nat):Nat->Nat->Prop
 | one {a b:Nat}:E a b->Pk E k a b
 | cons {a m b:Nat}:E a m->m<k->Pk E k m b->Pk E k a b
variable {E : Nat -> Nat -> Prop} {k n : Nat}
theorem Pk.step{a b:Nat}(h:Pk E (k+1) a b):Pk E k a b\/(Pk E k a k/\Pk E k k b):=by
 induction h with
 | one h=>exact .inl (.one h)
 | cons h hm _ ih=>
  rename_i a m b _
  by_cases e:m=k
  ·subst e
   refine .inr ⟨.one h,?_⟩
   rcases ih with h | h
   ·exact h
   ·exact h.2
  ·rcases ih with h' | h'
   ·exact .inl (.cons h (by omega) h')
   ·exact .inr ⟨.cons h (by omega) h'.1,h'.2⟩
theorem Pk.more{a b l:Nat}(hl:k<=l)(h:Pk E k a b):Pk E l a b:=by
 induction h with
 | one h=>exact .one h
 | cons h hm _ ih=>exact .cons h (by omega) ih
theorem Pk.trans{a b c:Nat}(hb:b<k)(h:Pk E k a b)(h':Pk E k b c):Pk E k a c:=by
 induction h with
 | one h=>exact .cons h hb h'
 | cons h hm _ ih=>exact .cons h hm (ih hb h')
theorem Pk.none{a b:Nat}(h:Pk E 0 a b):E a b:=by
 cases h with
 | one h=>exact h
 | cons _ h _=>omega
theorem Pk.mono{E':Nat->Nat->Prop}(he:∀ a b,E a b->E' a b){a b:Nat}(h:Pk E k a b):Pk E' k a b:=by
 induction h with
 | one h=>exact .one (he _ _ h)
 | cons h hm _ ih=>exact .cons (he _ _ h) hm ih
def Btw(E:Nat->Nat->Prop)(n k:Nat)(R:Nat->Nat->Prop):Prop:=
 (∀ a b,a<n->b<n->R a b->Pk E n a b)/\∀ a b,a<n->b<n->Pk E k a b->R a b
def Rnd(E:Nat->Nat->Prop)(n k:Nat)(i j:Nat)(R:Nat->Nat->Prop):Prop:=
 Btw E n k R/\∀ a b,a<n->b<n->(a<i\/(a=i/\b<j))->Pk E k a k->Pk E k k b->R a b
theorem Rnd.row{R:Nat->Nat->Prop}{i:Nat}(h:Rnd E n k i n R):Rnd E n k (i+1) 0 R:=
 ⟨h.1,fun a b ha hb hh=>h.2 a b ha hb (by omega)⟩
theorem Rnd.done{R:Nat->Nat->Prop}(h:Rnd E n k n 0 R):Btw E n (k+1) R:=
 ⟨h.1.1,fun a b ha hb hp=>by
  rcases hp.step with h1 | ⟨h1,h2⟩
  ·exact h.1.2 a b ha hb h1
  ·exact h.2 a b ha hb (by omega) h1 h2⟩
theorem Rnd.hit{R R':Nat->Nat->Prop}{i j:Nat}(hk:k<n)(hi:i<n)(hj:j<n)(h:Rnd E n k i j R)(h1:R i k)(h2:R k j)
  (hr:∀ a b,a<n->b<n->(R' a b↔R a b\/(a=i/\b=j))):Rnd E n k i (j+1) R':=by
 refine⟨⟨fun a b ha hb hh=>?_,fun a b ha hb hp=>(hr a b ha hb).2 (.inl (h.1.2 a b ha hb hp))⟩,fun a b ha hb hc p1 p2=>?_⟩
 ·rcases (hr a b ha hb).1 hh with h' | ⟨rfl,rfl⟩
  ·exact h.1.1 a b ha hb h'
  ·exact (h.1.1 _ _ ha hk h1).trans hk (h.1.1 _ _ hk hb h2)
 ·by_cases c:a=i/\b=j
  ·exact (hr a b ha hb).2 (.inr c)
  ·exact (hr a b ha hb).2 (.inl (h.2 a b ha hb (by omega) p1 p2))
end Go.Gr

namespace Go.Proofs.YtnhjpicdijeagaaDoor.Gh
open Go.Abs Go.Gr
theorem lt_d{i m:Nat}(h:i<m):decide ((i:Int)<(m:Int))=true:=qY (by omega)
theorem qbb(m:Nat):decide ((m:Int)<(m:Int))=false:=qah (by omega)
theorem ge0_d(i:Nat):decide ((0:Int)<=(i:Int))=true:=qY (by omega)
theorem qds{α:Type}{z a:α}{xs:List α}(h:a∈xs):∃ t,t<xs.length/\nth z xs t=a:=by
 obtain⟨t,ht,e⟩:=zAs h
 exact⟨t,ht,by rw [qfj ht,e]⟩
theorem ix1{n i:Nat}(h:i<n)(hn:n<=100000):IntKind.i64.wrap ((i:Int)+1)=(i:Int)+1:=w64 (by omega) (by omega)
theorem qmP{R S:Type}(f:S->(S->Option R)->Option R)(n:Nat)(s:S):loopD f (n+1) s=f s (loopD f n):=rfl
abbrev Tr:=Int×Int×List Int
structure SOk (s:Tr):Prop where
 k1:1<=s.1
 k4:s.1+s.2.2.length<=4
abbrev Nd:=Int×Int×Int×Int×Int
abbrev Ed:=Int×Int×Int
theorem qxx(x:Nd):(x.1,x.2.1,x.2.2.1,x.2.2.2.1,x.2.2.2.2)=x:=rfl
def qcZ(x:Nd):Bool:=decide (1<=x.2.1/\x.2.1<=4/\1<=x.1/\x.1<=6/\(x.1=1->x.2.1=1)/\(x.1=4->x.2.1≠4)/\(5<=x.1->2<=x.2.1))
theorem nodeOk_iff{x:Nd}:qcZ x=true↔(1<=x.2.1/\x.2.1<=4/\1<=x.1/\x.1<=6/\(x.1=1->x.2.1=1)/\(x.1=4->x.2.1≠4)/\(5<=x.1->2<=x.2.1)):=decide_eq_true_iff
def outOf(x:Nd):Int:=if x.1=4 then x.2.1+1 else if x.1=5 then x.2.1 - 1 else x.2.1
def prt(x:Nd):Int:=if x.1=1 then 0 else if x.1=3 then 2 else 1
theorem qnm{a b:Bool}(h:a=true↔b=true):a=b:=by cases a <;> cases b <;> simp_all
theorem qEs(N:Nat)(x:Nd):qeP N (x,())=some (qcZ x,()):=by
 obtain⟨k,d,r⟩:=x
 simp only [qeP,qpQ]
 rw [show IntKind.i64.wrap ((4:Int) - 1)=3 from rfl,show IntKind.i64.wrap ((1:Int)+1)=2 from rfl]
 by_cases h1:1<=k/\k<=6
 ·have hk:k=1\/k=2\/k=3\/k=4\/k=5\/k=6:=by omega
  by_cases h2:1<=d/\d<=4
  ·have hd:d=1\/d=2\/d=3\/d=4:=by omega
   rcases hk with rfl | rfl | rfl | rfl | rfl | rfl <;> rcases hd with rfl | rfl | rfl | rfl <;> rfl
  ·rw [show qcZ (k,d,r)=false from qah (by simp only;omega)]
   by_cases h3:d<1
   ·have e1:decide (d>=1)=false:=qah (by omega)
    have e2:decide (d>=2)=false:=qah (by omega)
    rcases hk with rfl | rfl | rfl | rfl | rfl | rfl <;> simp [e1,e2]
   ·have e1:decide (d<=1)=false:=qah (by omega)
    have e2:decide (d<=3)=false:=qah (by omega)
    have e3:decide (d<=4)=false:=qah (by omega)
    have e4:decide (d>=1)=true:=qY (by omega)
    have e5:decide (d>=2)=true:=qY (by omega)
    rcases hk with rfl | rfl | rfl | rfl | rfl | rfl <;> simp [e1,e2,e3,e4,e5] <;> omega
 ·rw [show qcZ (k,d,r)=false from qah (by simp only;omega),show (k==1)=false from zO (by omega),show (k==2)=false from zO (by omega),show (k==3)=false from zO (by omega),
   show (k==4)=false from zO (by omega),show (k==5)=false from zO (by omega),show (k==6)=false from zO (by omega)];rfl
structure EdgeX (ns:List Nd) (es:List Ed) (i:Nat) (x:Ed):Prop where
 f0:0<=x.1
 fn:x.1<ns.length
 t0:0<=x.2.1
 tn:x.2.1<ns.length
 p0:0<=x.2.2
 pn:x.2.2<prt (nth (0,0,0,0,0) ns x.2.1.toNat)
 own:∀ j,j<i->¬ ((nth (0,0,0) es j).2.1=x.2.1/\(nth (0,0,0) es j).2.2=x.2.2)
 deep:outOf (nth (0,0,0,0,0) ns x.1.toNat)=(nth (0,0,0,0,0) ns x.2.1.toNat).2.1
abbrev qyb(ns:List Nd)(es:List Ed)(i:Nat):Prop:=EdgeX ns es i (nth (0,0,0) es i)
end Go.Proofs.YtnhjpicdijeagaaDoor.Gh

namespace Go.Proofs.YtnhjpicdijeagaaDoor.Gh
open Go.Abs Go.Gr
abbrev z5:Nd:=(0,0,0,0,0)
abbrev z3:Ed:=(0,0,0)
def inB(f:Int)(x:Nd):Bool:=if x.2.1>f then true else if x.2.1=f then (x.1 != 6) else false
def EdG(ns:List Nd)(es:List Ed)(f:Int)(a b:Nat):Prop:=∃ e∈es,e.1=(a:Int)/\e.2.1=(b:Int)/\inB f (nth z5 ns a)=true/\inB f (nth z5 ns b)=true
def RW(n:Nat)(way:List Bool)(a b:Nat):Prop:=nth false way (a*n+b)=true
instance (n:Nat) (way:List Bool) (a b:Nat):Decidable (RW n way a b):=by unfold RW;infer_instance
theorem qzr{α:Type}(z:α)(xs:List α)(i j:Nat)(y:α):nth z (xs.set i y) j=if i=j/\i<xs.length then y else nth z xs j:=by
 unfold nth
 simp only [zK,zAc]
 split
 ·rename_i h
  subst h
  by_cases hi:i<xs.length <;> simp [hi]
 ·rename_i h;simp [h]
section
variable {N : Nat} {ns : List Nd} {es : List Ed} {f : Int}
variable {E : Nat -> Nat -> Prop}
end
end Go.Proofs.YtnhjpicdijeagaaDoor.Gh

namespace Go.Proofs.YtnhjpicdijeagaaDoor.Gh
open Go.Abs Go.Gr
def cnt(es:List Ed)(i:Nat):Nat:=es.countP fun e=>decide (e.2.1=(i:Int))
def deepOf(ns:List Nd)(j:Nat):Int:=(nth z5 ns j).2.1
structure GrOk (ns:List Nd) (es:List Ed):Prop where
 n12:ns.length<=12
 e20:es.length<=20
 nodes:∀ x∈ns,qcZ x=true
 edges:∀ i,i<es.length->qyb ns es i
 ports:∀ i,i<ns.length->prt (nth z5 ns i)<=cnt es i
 rings:∀ i j,i<ns.length->j<ns.length->¬ (Pk (EdG ns es (deepOf ns j)) ns.length i j/\Pk (EdG ns es (deepOf ns j)) ns.length j i)
theorem GrOk.deep{ns:List Nd}{es:List Ed}(h:GrOk ns es){j:Nat}(hj:j<ns.length):1<=deepOf ns j/\deepOf ns j<=4:=by
 have:=nodeOk_iff.1 (h.nodes _ (qdP (z:=z5) hj))
 exact⟨this.1,this.2.1⟩
section
variable {N : Nat} {ns : List Nd} {es : List Ed}
theorem w3{x:Int}(h1:1<=x)(h4:x<=4):IntKind.i64.wrap (x - 1)=((x.toNat - 1:Nat):Int):=by rw [w64 (by omega) (by omega)];omega
end
end Go.Proofs.YtnhjpicdijeagaaDoor.Gh

noncomputable section
namespace Go.Proofs.YtnhjpicdijeagaaDoor.Gh
open Go.Abs Go.Gr
theorem qpE{R S:Type}{g:S->(S->Option R)->Option R}(Q:Option R->Prop)(n:Nat)(I:Nat->S->Prop)(h2:∀ i s,i<n->I i s->∀ kn,(∀ s',I (i+1) s'->Q (kn s'))->Q (g s kn))
  (h3:∀ s,I n s->∀ kn,Q (g s kn)) {N:Nat} (hN:n<N) {s:S} (h0:I 0 s):Q (loopD g N s):=by
 have key:∀ j i s M,i+j=n->I i s->j<M->Q (loopD g M s):=by
  intro j
  induction j with
  | zero=>
   rintro i s (_ | M) hi hI hM
   ·omega
   ·rw [qmP];exact h3 s (by rw [<- hi];exact hI) _
  | succ j ih=>
   rintro i s (_ | M) hi hI hM
   ·omega
   ·rw [qmP]
    exact h2 i s (by omega) hI _ fun s' hs'=>ih (i+1) s' M (by omega) hs' (by omega)
 exact key n 0 s N (by omega) h0 hN
def PortX(ns:List Nd)(es:List Ed)(i:Nat)(x:Ed):Prop:=
 (0<=x.1/\x.1<ns.length/\0<=x.2.1/\x.2.1<ns.length/\0<=x.2.2/\x.2.2<prt (nth z5 ns x.2.1.toNat)) /\
 ∀ j,j<i->¬ ((nth z3 es j).2.1=x.2.1/\(nth z3 es j).2.2=x.2.2)
open Classical in
def edgeY(ns:List Nd)(es:List Ed)(i:Nat)(x:Ed):Int:=
 if PortX ns es i x then (if outOf (nth z5 ns x.1.toNat)=(nth z5 ns x.2.1.toNat).2.1 then 0 else 7) else 8
abbrev edgeC(ns:List Nd)(es:List Ed)(i:Nat):Int:=edgeY ns es i (nth z3 es i)
theorem qnd{ns:List Nd}{es:List Ed}{i:Nat}:edgeC ns es i=0↔qyb ns es i:=by
 unfold edgeC edgeY
 constructor
 ·intro h
  split at h
  ·rename_i hp
   split at h
   ·rename_i hd
    obtain⟨⟨a,b,c,d,e,f⟩,g⟩:=hp
    exact⟨a,b,c,d,e,f,g,hd⟩
   ·cases h
  ·cases h
 ·intro h
  rw [zJ ⟨⟨h.f0,h.fn,h.t0,h.tn,h.p0,h.pn⟩,h.own⟩,zJ h.deep]
def qjB(f:Nat->Int):Nat->Int
 | 0=>0
 | n+1=>if qjB f n=0 then f n else qjB f n
theorem qiC{f:Nat->Int}{n:Nat}:qjB f n=0↔∀ i,i<n->f i=0:=by
 induction n with
 | zero=>simp [qjB]
 | succ n ih=>
  simp only [qjB]
  constructor
  ·intro h
   split at h
   ·rename_i h0
    intro i hi
    rcases zAW.1 hi with h' | rfl
    ·exact ih.1 h0 i h'
    ·exact h
   ·rename_i h0;exact absurd h h0
  ·intro h
   rw [zJ (ih.2 fun i hi=>h i (by omega))]
   exact h n (by omega)
theorem qAy{f:Nat->Int}{n i:Nat}(hi:i<n)(h0:∀ j,j<i->f j=0)(h:f i≠0):qjB f n=f i:=by
 induction n with
 | zero=>omega
 | succ n ih=>
  simp only [qjB]
  rcases zAW.1 hi with h' | rfl
  ·rw [ih h',zL h]
  ·rw [zJ (qiC.2 h0)]
def Missing(ns:List Nd)(es:List Ed):Prop:=∃ i p:Nat,i<ns.length/\(p:Int)<prt (nth z5 ns i)/\∀ e∈es,¬ (e.2.1=(i:Int)/\e.2.2=(p:Int))
open Classical in
def codeE(ns:List Nd)(es:List Ed):Int:=if qjB (edgeC ns es) es.length=0 then (if Missing ns es then 5 else 0) else qjB (edgeC ns es) es.length
structure TtOk (n:Nat) (E:Nat->Nat->Prop) (to:List Int):Prop where
 len:to.length=n
 w:∀ a,W32 (nth 0 to a)
 bit:∀ a b,bt (nth 0 to a) b=true↔a<n/\b<n/\E a b
def EdT(es:List Ed)(m a b:Nat):Prop:=∃ j,j<m/\(nth z3 es j).1=(a:Int)/\(nth z3 es j).2.1=(b:Int)
theorem qzI{n a:Nat}:nth (0:Int) (List.replicate n 0) a=0:=by
 unfold nth;simp only [zK,zCY];split <;> rfl
section
variable {N : Nat} {ns : List Nd} {es : List Ed}
theorem gPorts_eq(N:Nat)(x:Nd):qaX N (x,())=some (prt x,()):=by
 simp only [qaX,qlL,prt]
 by_cases h:x.1=1
 ·rw [zJ h,show (x.1==1)=true from beq_iff_eq.2 h];rfl
 ·rw [zL h,show (x.1==1)=false from zO h]
  by_cases h3:x.1=3
  ·rw [zJ h3,show (x.1==3)=true from beq_iff_eq.2 h3];rfl
  ·rw [zL h3,show (x.1==3)=false from zO h3];rfl
theorem qDK(N:Nat){x:Nd}(h:qcZ x=true):qeQ N (x,())=some (outOf x,()):=by
 have:=nodeOk_iff.1 h
 simp only [qeQ,qpR,outOf]
 by_cases h4:x.1=4
 ·rw [zJ h4,show (x.1==4)=true from beq_iff_eq.2 h4,w64 (n:=x.2.1+1) (by omega) (by omega)];rfl
 ·rw [zL h4,show (x.1==4)=false from zO h4]
  by_cases h5:x.1=5
  ·rw [zJ h5,show (x.1==5)=true from beq_iff_eq.2 h5,w64 (n:=x.2.1 - 1) (by omega) (by omega)];rfl
  ·rw [zL h5,show (x.1==5)=false from zO h5];rfl
abbrev kP:Sh:=.pair (.int .i64) (.int .i64)
abbrev vP:Sh:=.int .i64
theorem qEB(hn:ns.length<=12)(he:es.length<=20)(hok:∀ x∈ns,qcZ x=true)(k:_->Option qo){i:Nat}(hi:i<es.length)(to:List Int)(hl:to.length=ns.length)(mp:Int×List (Int×(Int×Int)×Int))
  (hm:∀ a b:Int,mpHas kP vP mp (a,b)=true↔∃ j,j<i/\(nth z3 es j).2.1=a/\(nth z3 es j).2.2=b) (kn:_->Option qo) {x:Ed} (hx:nth ((0:Int),(0:Int),(0:Int)) es i=x) :
  qcD N k es (es.length:Int) ns es 0 0 (i:Int) to mp kn=if edgeY ns es i x=0 then kn ((es,(es.length:Int),ns,es,0,0),((i:Int)+1,to.set x.1.toNat (ior .u32 (nth 0 to x.1.toNat) (one x.2.1.toNat)),mpPut kP vP mp (x.2.1,x.2.2) (i:Int)))
   else some ((edgeY ns es i x,(i:Int)),ns,es,to):=by
 simp only [qcD,lt_d hi,ge0_d,Bool.and_self,cond_true,Int.toNat_natCast,joinD,qxx,qgq,qaR,qiy,Option.bind_some,hx]
 have hcdef:edgeY ns es i x=edgeY ns es i x:=rfl
 conv at hcdef=>rhs;unfold edgeY
 generalize edgeY ns es i x=c at *
 obtain⟨f,t,p⟩:=x
 simp only at *
 by_cases h1:(if t<f then t else f)<0
 ·rw [qY h1,cond_true]
  rw [zL (fun hp=>by have:=hp.1;simp only at this;split at h1 <;> omega)] at hcdef
  rw [hcdef,zL (by decide)]
 rw [qah h1,cond_false]
 by_cases h2:(if t>f then t else f)>=(ns.length:Int)
 ·rw [qY h2,cond_true]
  rw [zL (fun hp=>by have:=hp.1;simp only at this;split at h2 <;> omega)] at hcdef
  rw [hcdef,zL (by decide)]
 rw [qah h2,cond_false]
 have r1:0<=t/\0<=f:=by split at h1 <;> omega
 have r2:t<ns.length/\f<ns.length:=by split at h2 <;> omega
 by_cases h3:p<0
 ·rw [qY h3,cond_true]
  rw [zL (fun hp=>by have:=hp.1;simp only at this;omega)] at hcdef
  rw [hcdef,zL (by decide)]
 rw [qah h3,cond_false,qY r1.1,qY r2.1,Bool.and_self,cond_true]
 simp only [gPorts_eq N (nth ((0:Int),(0:Int),(0:Int),(0:Int),(0:Int)) ns t.toNat),Option.bind_some]
 by_cases h4:p>=prt (nth ((0:Int),(0:Int),(0:Int),(0:Int),(0:Int)) ns t.toNat)
 ·rw [qY h4,cond_true]
  rw [zL (fun hp=>by have:=hp.1;simp only at this;have:=this.2.2.2.2.2;have h4:p>=prt (nth z5 ns t.toNat):=h4;omega)] at hcdef
  rw [hcdef,zL (by decide)]
 rw [qah h4,cond_false]
 cases q:mpHas kP vP mp (t,p) with
 | true=>
  rw [cond_true]
  obtain⟨j,hj,e1,e2⟩:=(hm t p).1 q
  rw [zL (fun hp=>hp.2 j hj ⟨e1,e2⟩)] at hcdef
  rw [hcdef,zL (by decide)]
 | false=>
  have hp:PortX ns es i (f,t,p):=⟨⟨r1.2,r2.2,r1.1,r2.1,show (0:Int)<=p by omega,show p<prt (nth z5 ns t.toNat) from Int.not_le.1 h4⟩,fun j hj e=>by
   have:=(hm t p).2 ⟨j,hj,e.1,e.2⟩
   rw [q] at this;cases this⟩
  rw [zJ hp] at hcdef
  have hf:qcZ (nth z5 ns f.toNat)=true:=hok _ (qdP (by omega))
  rw [cond_false,qY r1.2,qY r2.2,Bool.and_self,cond_true]
  simp only [qDK N hf,Option.bind_some,qY r1.1,qY r2.1,Bool.and_self,cond_true]
  by_cases h5:outOf (nth z5 ns f.toNat)=(nth z5 ns t.toNat).2.1
  ·rw [zJ h5] at hcdef
   rw [hcdef,zJ rfl,h5,bne_self_eq_false,cond_false,hl,qY r2.2,Bool.and_self,cond_true]
   have ho:qcb N (t,())=some (one t.toNat,()):=by
    have:=qBu N t.toNat
    rwa [show ((t.toNat:Nat):Int)=t by omega] at this
   simp only [ho,Option.bind_some]
   rw [ix1 hi (by omega)];rfl
  ·rw [zL h5] at hcdef
   rw [hcdef,zL (by decide),show (outOf (nth z5 ns f.toNat) != (nth z5 ns t.toNat).2.1)=true from bne_iff_ne.2 h5,cond_true]
abbrev QE(ns:List Nd)(es:List Ed)(r:Option qo):Prop:=∃ (p:Int) (to:List Int),r=some ((codeE ns es,p),ns,es,to)/\(codeE ns es=0->TtOk ns.length (EdT es es.length) to)
theorem qCy(hN:1000<=N)(hn:ns.length<=12)(he:es.length<=20)(hok:∀ x∈ns,qcZ x=true) :
  ∃ (p:Int) (to:List Int),qbl N (ns,es,List.replicate ns.length 0)=some ((codeE ns es,p),ns,es,to)/\(codeE ns es=0->TtOk ns.length (EdT es es.length) to):=by
 simp only [qbl,qgp,joinD,loopE]
 refine qpE (QE ns es) es.length
  (fun i s=>s.1=(i:Int)/\(∀ j,j<i->edgeC ns es j=0)/\TtOk ns.length (EdT es i) s.2.1/\MpOk kP vP s.2.2/\∀ a b:Int,mpHas kP vP s.2.2 (a,b)=true↔∃ j,j<i/\(nth z3 es j).2.1=a/\(nth z3 es j).2.2=b) ?_ ?_ (by omega) ?_
 ·rintro i ⟨_,to,mp⟩ hi ⟨rfl,h0,ht,hm,hh⟩ kn hk
  simp only
  rw [qEB hn he hok _ hi to ht.len mp hh _ (x:=nth z3 es i) rfl]
  by_cases q:edgeC ns es i=0
  ·rw [zJ q,qaq]
   refine hk _ ⟨by simp,fun j hj=>?_,?_,hm.put rfl _ _,fun a b=>?_⟩
   ·rcases zAW.1 hj with h | rfl
    ·exact h0 j h
    ·exact q
   ·have hed:=qnd.1 q
    have f0:0<=(nth z3 es i).1:=hed.f0
    have fn:(nth z3 es i).1<ns.length:=hed.fn
    have t0:0<=(nth z3 es i).2.1:=hed.t0
    have tn:(nth z3 es i).2.1<ns.length:=hed.tn
    refine⟨by simp [ht.len],fun a=>?_,fun a b=>?_⟩
    ·simp only [qzr];split
     ·exact W32.ior
     ·exact ht.w a
    ·simp only [qzr]
     have hx:(EdT es (i+1) a b↔EdT es i a b\/((nth z3 es i).1=(a:Int)/\(nth z3 es i).2.1=(b:Int))):=by
      constructor
      ·rintro⟨j,hj,e⟩
       rcases zAW.1 hj with h | rfl
       ·exact .inl ⟨j,h,e⟩
       ·exact .inr e
      ·rintro (⟨j,hj,e⟩ | e)
       ·exact⟨j,by omega,e⟩
       ·exact⟨i,by omega,e⟩
     rw [hx]
     have hb:=ht.bit a b
     by_cases q:(nth z3 es i).1.toNat=a
     ·subst q
      rw [zJ ⟨rfl,by rw [ht.len];omega⟩,qvq (ht.w _) (W32.one _),zx,hb,qBa (by omega)]
      simp only [zQ]
      constructor
      ·rintro (⟨h1,h2,h3⟩ | rfl)
       ·exact⟨h1,h2,.inl h3⟩
       ·exact⟨by omega,by omega,.inr ⟨by omega,by omega⟩⟩
      ·rintro⟨h1,h2,h3 | h3⟩
       ·exact .inl ⟨h1,h2,h3⟩
       ·exact .inr (by omega)
     ·rw [zL (fun h=>q h.1),hb]
      constructor
      ·rintro⟨h1,h2,h3⟩;exact⟨h1,h2,.inl h3⟩
      ·rintro⟨h1,h2,h3 | h3⟩
       ·exact⟨h1,h2,h3⟩
       ·exact absurd h3.1 (by omega)
   ·simp only
    by_cases q':((a,b):Int×Int)=((nth z3 es i).2.1,(nth z3 es i).2.2)
    ·have e1:a=(nth z3 es i).2.1:=congrArg Prod.fst q'
     have e2:b=(nth z3 es i).2.2:=congrArg Prod.snd q'
     rw [q']
     rw [qBW (k:=kP) (v:=vP) rfl mp _ _]
     exact⟨fun _=>⟨i,by omega,e1.symm,e2.symm⟩,fun _=>rfl⟩
    ·rw [qpq (k:=kP) (v:=vP) rfl mp q',hh a b]
     constructor
     ·rintro⟨j,hj,e⟩;exact⟨j,by omega,e⟩
     ·rintro⟨j,hj,e⟩
      rcases zAW.1 hj with h | rfl
      ·exact⟨j,h,e⟩
      ·exact absurd (by rw [e.1,e.2]) q'
  ·rw [zL q]
   have hce:codeE ns es=edgeC ns es i:=by
    unfold codeE
    have:=qAy hi h0 q
    rw [this,zL q]
   exact⟨_,_,by rw [hce],fun h=>absurd (hce▸h) q⟩
 ·rintro⟨_,to,mp⟩ ⟨rfl,h0,ht,hm,hh⟩ kn
  have hfz:qjB (edgeC ns es) es.length=0:=qiC.2 h0
  simp only [qcD,qbb,cond_false,qgr,joinD,loopE]
  have hce:codeE ns es=open Classical in if Missing ns es then 5 else 0:=by
   unfold codeE;rw [zJ hfz]
  refine qpE (QE ns es) ns.length (fun i s=>s=(i:Int)/\∀ a p:Nat,a<i->(p:Int)<prt (nth z5 ns a)->∃ e∈es,e.2.1=(a:Int)/\e.2.2=(p:Int)) ?_ ?_ (by omega) ⟨rfl,fun a p h=>absurd h (zAd _)⟩
  ·rintro i _ hi ⟨rfl,hI⟩ kn hk
   simp only [qdQ,lt_d hi,ge0_d,Bool.and_self,cond_true,Int.toNat_natCast,joinD,qxx,gPorts_eq N (nth ((0:Int),(0:Int),(0:Int),(0:Int),(0:Int)) ns i),Option.bind_some,loopE]
   have hpp:0<=prt (nth z5 ns i)/\prt (nth z5 ns i)<=2:=by unfold prt;split <;> (try split) <;> omega
   refine qpE (QE ns es) (prt (nth z5 ns i)).toNat (fun p s=>s=(p:Int)/\∀ p':Nat,p'<p->∃ e∈es,e.2.1=(i:Int)/\e.2.2=(p':Int)) ?_ ?_ (show (prt (nth z5 ns i)).toNat<N by omega) ⟨rfl,fun p' h=>absurd h (zAd _)⟩
   ·rintro p _ hp ⟨rfl,hP⟩ kn' hk'
    have hlt:(p:Int)<prt (nth ((0:Int),(0:Int),(0:Int),(0:Int),(0:Int)) ns i):=by
     have:(p:Int)<prt (nth z5 ns i):=by omega
     exact this
    simp only [qdR,qY hlt,cond_true]
    cases q:mpHas kP vP mp ((i:Int),(p:Int)) with
    | true=>
     rw [Bool.not_true,cond_false,qaq,w64 (by omega) (by omega)]
     refine hk' _ ⟨by simp,fun p' hp'=>?_⟩
     rcases zAW.1 hp' with h | rfl
     ·exact hP p' h
     ·obtain⟨j,hj,e⟩:=(hh _ _).1 q
      exact⟨_,qdP hj,e⟩
    | false=>
     have hmis:Missing ns es:=⟨i,p,hi,hlt,fun e hem hee=>by
      obtain⟨j,hj,rfl⟩:=qds (z:=z3) hem
      have:=(hh (i:Int) (p:Int)).2 ⟨j,hj,hee⟩
      rw [q] at this;cases this⟩
     rw [zJ hmis] at hce
     simp only [Bool.not_false,cond_true,qaR,qiy,Option.bind_some]
     exact⟨_,_,by rw [hce],fun h=>by rw [hce] at h;cases h⟩
   ·rintro _ ⟨rfl,hP⟩ kn'
    have hge:¬ (((prt (nth z5 ns i)).toNat:Nat):Int)<prt (nth ((0:Int),(0:Int),(0:Int),(0:Int),(0:Int)) ns i):=by
     have:¬ (((prt (nth z5 ns i)).toNat:Nat):Int)<prt (nth z5 ns i):=by omega
     exact this
    simp only [qdR,qah hge,cond_false,qgs,qaq,ix1 hi (by omega)]
    refine hk _ ⟨by simp,fun a p ha hp=>?_⟩
    rcases zAW.1 ha with h | rfl
    ·exact hI a p h hp
    ·exact hP p (by omega)
  ·rintro _ ⟨rfl,hI⟩ kn
   simp only [qdQ,qbb,cond_false,qgt]
   have hmis:¬ Missing ns es:=by
    rintro⟨a,p,ha,hp,hno⟩
    obtain⟨e,hem,hee⟩:=hI a p ha hp
    exact hno e hem hee
   rw [zL hmis] at hce
   exact⟨_,_,by rw [hce],fun _=>ht⟩
 ·refine⟨rfl,fun j h=>absurd h (zAd _),⟨by simp,fun a=>?_,fun a b=>?_⟩,MpOk.empty,fun a b=>⟨(fun h=>by cases h),fun ⟨j,hj,_⟩=>absurd hj (zAd _)⟩⟩
  ·rw [qzI];exact W32.zero
  ·rw [qzI,qgA]
   exact⟨(fun h=>by cases h),fun ⟨_,_,j,hj,_⟩=>absurd hj (zAd _)⟩
end
end Go.Proofs.YtnhjpicdijeagaaDoor.Gh
end

namespace Go.Proofs.YtnhjpicdijeagaaDoor.Gh
open Go.Abs Go.Gr
theorem els_Q{R S:Type}{f:Int->S->(S->Option R)->Option R}{k:S->Option R}{w:Int}(hw:W32 w)(Q:Option R->Prop)(I:List Nat->S->Prop)
  (h2:∀ (dn:List Nat) (i:Nat) (r:List Nat) (s:S),els w=dn++i :: r->I dn s->∀ kn,(∀ s',I (dn ++ [i]) s'->Q (kn s'))->Q (f (i:Int) s kn)) (h3:∀ s,I (els w) s->Q (k s)) {s:S} (h0:I [] s):Q (forD f k (qhg (w,())) s):=by
 rw [qrS hw]
 have key:∀ (r dn:List Nat) (s:S),els w=dn++r->I dn s->Q (forD f k (r.map fun (i:Nat)=>(i:Int)) s):=by
  intro r
  induction r with
  | nil=>
   intro dn s e hI
   rw [List.append_nil] at e
   exact h3 s (e▸hI)
  | cons i r ih=>
   intro dn s e hI
   rw [List.map_cons,quM]
   exact h2 dn i r s e hI _ fun s' hs'=>ih (dn ++ [i]) s' (by rw [e,zj];rfl) hs'
 exact key (els w) [] s rfl h0
theorem qpt{w:Int}{dn r:List Nat}{i:Nat}(e:els w=dn++i :: r):i<32/\bt w i=true:=qxB.1 (by rw [e];simp)
theorem bt_ex{w:Int}(hw:W32 w)(h:w≠0):∃ b,b<32/\bt w b=true:=by
 by_cases q:∃ b,b<32/\bt w b=true
 ·exact q
 ·refine absurd (qBc hw W32.zero fun i hi=>?_) h
  rw [qgA]
  exact zAJ.2 fun hb=>q ⟨i,hi,hb⟩
section
variable {N : Nat} {ns : List Nd} {es : List Ed} {to : List Int} {E0 : Nat -> Nat -> Prop}
theorem qzS{l:List Nat}{within:Int}(hw:W32 within)(ht:TtOk ns.length E0 to):(m:Int)->W32 m->W32 (l.foldl (fun m j=>ior .u32 m (iand .u32 (nth 0 to j) within)) m) /\
  ∀ b,bt (l.foldl (fun m j=>ior .u32 m (iand .u32 (nth 0 to j) within)) m) b=true↔bt m b=true\/∃ j∈l,bt (nth 0 to j) b=true/\bt within b=true:=by
 induction l with
 | nil=>intro m hm;exact⟨hm,fun b=>by simp⟩
 | cons j l ih=>
  intro m hm
  obtain⟨h1,h2⟩:=ih (ior .u32 m (iand .u32 (nth 0 to j) within)) W32.ior
  refine⟨h1,fun b=>?_⟩
  rw [List.foldl_cons,h2,qvq hm W32.iand,qtu (ht.w j) hw]
  simp only [zx,zA,zi]
  constructor
  ·rintro ((h | h) | ⟨i,hi,h⟩)
   ·exact .inl h
   ·exact .inr ⟨j,.inl rfl,h⟩
   ·exact .inr ⟨i,.inr hi,h⟩
  ·rintro (h | ⟨i,rfl | hi,h⟩)
   ·exact .inl (.inl h)
   ·exact .inl (.inr h)
   ·exact .inr ⟨i,hi,h⟩
def EB(to:List Int)(within:Int)(a b:Nat):Prop:=bt (nth 0 to a) b=true/\bt within b=true
structure BI (n:Nat) (to:List Int) (within:Int) (i:Nat) (s:Int×Int):Prop where
 w1:W32 s.1
 w2:W32 s.2
 sound:∀ b,bt s.1 b=true\/bt s.2 b=true->Pk (EB to within) n i b
 disj:∀ b,bt s.2 b=true->bt s.1 b=false
 closed:∀ a b,bt s.1 a=true->EB to within a b->bt s.1 b=true\/bt s.2 b=true
 base:∀ b,EB to within i b->bt s.1 b=true\/bt s.2 b=true
theorem Pk.last{E:Nat->Nat->Prop}{n i b:Nat}(h:Pk E n i b):∃ a,E a b:=by
 induction h with
 | one h=>exact⟨_,h⟩
 | cons _ _ _ ih=>exact ih
theorem qvv(hN:1000<=N)(hn:ns.length<=12)(ht:TtOk ns.length E0 to){within:Int}(hw:W32 within){i:Nat}(hi:i<ns.length) :
  ∃ all:Int,qaS N ((i:Int),within,ns,es,to)=some (all,ns,es,to)/\W32 all/\∀ b,bt all b=true↔Pk (EB to within) ns.length i b:=by
 have hb:∀ {a b},EB to within a b->b<ns.length:=fun h=>((ht.bit _ _).1 h.1).2.1
 simp only [qaS,qfv,ge0_d,ht.len,lt_d hi,Bool.and_self,cond_true,joinD,loopE,Int.toNat_natCast]
 obtain⟨s',h1,h2,h3⟩:=qpC (fun (_:Unit) (s:Int×Int) kn=>qco N (fun _s=>qdw N _s.1 _s.2.1 _s.2.2.1 _s.2.2.2.1) ns es to within s.1 s.2 (backE (ns,es,to,within) kn))
  (fun _ s=>some (s.1,ns,es,to)) (BI ns.length to within i) (fun s=>s.2=0) (fun s=>((List.range 32).filter fun b=>!bt s.1 b).length)
  (fun s hs=>by
   obtain⟨all,next⟩:=s
   by_cases q:next=0
   ·subst q
    exact .inl ⟨rfl,fun k kn=>by simp only [qco,bne_self_eq_false,cond_false,qdw]⟩
   ·right
    obtain⟨m1,m2⟩:=qzS (l:=els next) hw ht 0 W32.zero
    generalize hm:(els next).foldl (fun m j=>ior .u32 m (iand .u32 (nth 0 to j) within)) 0=more at m1 m2
    have hmore:∀ b,bt more b=true↔∃ j,bt next j=true/\EB to within j b:=fun b=>by
     rw [m2 b,qgA]
     simp only [qsP hs.w2]
     exact⟨fun h=>h.resolve_left fun h=>(by cases h),.inr⟩
    have hnb:∀ {j},bt next j=true->j<ns.length:=fun h=>by
     obtain⟨a,ha⟩:=Pk.last (hs.sound _ (.inr h))
     exact hb ha
    have hall:∀ b,bt (ior .u32 all next) b=true↔bt all b=true\/bt next b=true:=fun b=>by rw [qvq hs.w1 hs.w2,zx]
    have hnx:∀ b,bt (iandNot .u32 more (ior .u32 all next)) b=true↔bt more b=true/\¬ (bt all b=true\/bt next b=true):=fun b=>by
     rw [qyT m1 W32.ior,zA,zT,<- zCM,hall b]
    refine⟨(ior .u32 all next,iandNot .u32 more (ior .u32 all next)),⟨W32.ior,W32.iandNot,fun b h=>?_,fun b h=>?_,fun a b ha he=>?_,fun b he=>.inl ((hall b).2 (hs.base b he))⟩,?_,fun k kn=>?_⟩
    ·rcases h with h | h
     ·exact hs.sound b ((hall b).1 h)
     ·obtain⟨j,hj,he⟩:=(hmore b).1 ((hnx b).1 h).1
      exact (hs.sound j (.inr hj)).trans (hnb hj) (.one he)
    ·exact zAJ.2 fun h'=>((hnx b).1 h).2 ((hall b).1 h')
    ·simp only [hall,hnx]
     rcases (hall a).1 ha with ha | ha
     ·exact .inl (hs.closed a b ha he)
     ·by_cases q':bt all b=true\/bt next b=true
      ·exact .inl q'
      ·exact .inr ⟨(hmore b).2 ⟨a,ha,he⟩,q'⟩
    ·obtain⟨b,hb32,hbn⟩:=bt_ex hs.w2 q
     refine Go.Abs.filter_lt (p:=fun b=>!bt (ior .u32 all next) b) (q:=fun b=>!bt all b) (List.range 32) (fun x _ h=>?_) ⟨b,zg.2 hb32,by simp only [hs.disj b hbn,Bool.not_false],by simp only [(hall b).2 (.inr hbn),Bool.not_true]⟩
     simp only [zT,<- zCM] at h ⊢
     exact fun h'=>h ((hall x).2 (.inl h'))
    ·simp only [qco,show (next != (0:Int))=true from bne_iff_ne.2 q,cond_true,joinD,qtD,Option.bind_some,forE]
     have:=(qCu (R:=qag) hs.w2 (fun m j=>ior .u32 m (iand .u32 (nth 0 to j) within)) W32 (f:=fun y s kn=>qdu N ns es to within s (backE (ns,es,to,within) kn) y)
      (k:=fun s=>qdv N (backE (ns,es,to,within) kn) (ior .u32 all next) ns es to within s)
      (fun j s kn' _ hj hs'=>⟨by
       simp only [qdu,ge0_d,ht.len,lt_d (hnb hj),Bool.and_self,cond_true,Int.toNat_natCast,qaq],W32.ior⟩) 0 W32.zero).1
     rw [hm] at this
     refine this.trans ?_
     simp only [qdv,qaq]) N (0,iand .u32 (nth 0 to i) within)
  (by
   have hx:∀ b,bt (iand .u32 (nth 0 to i) within) b=true↔EB to within i b:=fun b=>by rw [qtu (ht.w i) hw,zA];exact Iff.rfl
   exact⟨W32.zero,W32.iand,fun b h=>by
    rcases h with h | h
    ·rw [qgA] at h;cases h
    ·exact .one ((hx b).1 h),fun b _=>qgA b,(fun a b h=>by rw [qgA] at h;cases h),fun b h=>.inr ((hx b).2 h)⟩)
  (zCA (zAP _ _) (by rw [zBN];omega))
 obtain⟨all,next⟩:=s'
 simp only at h2
 subst h2
 have hz:∀ {b},(bt all b=true\/bt 0 b=true)->bt all b=true:=fun h=>by
  rcases h with h | h
  ·exact h
  ·rw [qgA] at h;cases h
 refine⟨all,h3 (),h1.w1,fun b=>⟨fun h=>h1.sound b (.inl h),fun h=>?_⟩⟩
 have key:∀ {a b},Pk (EB to within) ns.length a b->(a=i\/bt all a=true)->bt all b=true:=by
  intro a b h
  induction h with
  | one he=>
   intro hh
   rcases hh with hh | ha
   ·subst hh;exact hz (h1.base _ he)
   ·exact hz (h1.closed _ _ ha he)
  | cons he hm _ ih=>
   intro hh
   rcases hh with hh | ha
   ·subst hh;exact ih (.inr (hz (h1.base _ he)))
   ·exact ih (.inr (hz (h1.closed _ _ ha he)))
 exact key h (.inl rfl)
end
end Go.Proofs.YtnhjpicdijeagaaDoor.Gh

namespace Go.Proofs.YtnhjpicdijeagaaDoor.Gh
open Go.Abs Go.Gr
section
variable {N : Nat} {ns : List Nd} {es : List Ed} {to : List Int}
structure RingAt (ns:List Nd) (es:List Ed) (f:Int) (a j:Nat):Prop where
 an:a<ns.length
 jn:j<ns.length
 deep:deepOf ns a=f
 go:Pk (EdG ns es f) ns.length a j
 back:Pk (EdG ns es f) ns.length j a
def Ringy(ns:List Nd)(es:List Ed):Prop:=∃ f:Nat,1<=f/\f<=4/\∃ a j,RingAt ns es (f:Int) a j
theorem EdG.first{f:Int}{a b:Nat}(h:Pk (EdG ns es f) ns.length a b):inB f (nth z5 ns a)=true:=by
 cases h with
 | one h=>obtain⟨e,-,-,-,h,-⟩:=h;exact h
 | cons h _ _=>obtain⟨e,-,-,-,h,-⟩:=h;exact h
theorem qyc(ht:TtOk ns.length (EdT es es.length) to){f:Int}{within:Int}(hb:∀ b,bt within b=true↔b<ns.length/\inB f (nth z5 ns b)=true){a b:Nat}(ha:inB f (nth z5 ns a)=true)(han:a<ns.length) :
  EB to within a b↔EdG ns es f a b/\b<ns.length:=by
 unfold EB
 rw [ht.bit,hb]
 constructor
 ·rintro⟨⟨-,-,j,hj,e1,e2⟩,hbn,hin⟩
  exact⟨⟨_,qdP hj,e1,e2,ha,hin⟩,hbn⟩
 ·rintro⟨⟨e,he,e1,e2,-,hin⟩,hbn⟩
  obtain⟨j,hj,rfl⟩:=qds (z:=z3) he
  exact⟨⟨han,hbn,j,hj,e1,e2⟩,hbn,hin⟩
theorem Pk_EB(hv:∀ x∈es,0<=x.1/\x.1<ns.length/\0<=x.2.1/\x.2.1<ns.length)(ht:TtOk ns.length (EdT es es.length) to){f:Int}{within:Int}(hb:∀ b,bt within b=true↔b<ns.length/\inB f (nth z5 ns b)=true){a b:Nat}(ha:inB f (nth z5 ns a)=true)(han:a<ns.length) :
  Pk (EB to within) ns.length a b↔Pk (EdG ns es f) ns.length a b:=by
 constructor
 ·intro h
  induction h with
  | one h=>exact .one ((qyc ht hb ha han).1 h).1
  | cons h hm _ ih=>
   have:=((qyc ht hb ha han).1 h).1
   exact .cons this hm (ih (by obtain⟨e,-,-,-,-,h⟩:=this;exact h) hm)
 ·intro h
  have hbn:∀ {a b},EdG ns es f a b->b<ns.length:=fun h=>by
   obtain⟨e,he,e1,e2,-⟩:=h
   have:=hv e he
   omega
  induction h with
  | one h=>exact .one ((qyc ht hb ha han).2 ⟨h,hbn h⟩)
  | cons h hm _ ih=>
   exact .cons ((qyc ht hb ha han).2 ⟨h,hm⟩) hm (ih (by obtain⟨e,-,-,-,-,h⟩:=h;exact h) hm)
abbrev QR(ns:List Nd)(es:List Ed)(to:List Int)(r:Option qg):Prop:=∃ x:Int,r=some (x,ns,es,to)/\(0<=x↔Ringy ns es)
theorem qDn(k:_->Option qg){i:Nat}(hi:i<ns.length)(hn:ns.length<=12)(v4 bad f within:Int)(kn:_->Option qg) :
  qcn N k ns (ns.length:Int) ns es to v4 bad f (i:Int) within kn=kn ((ns,(ns.length:Int),ns,es,to,v4,bad,f),((i:Int)+1,if inB f (nth z5 ns i)=true then ior .u32 within (one i) else within)):=by
 simp only [qcn,lt_d hi,ge0_d,Bool.and_self,cond_true,Int.toNat_natCast,joinD,qgg,qgh,show qcb N ((i:Int),())=some (one i,()) from qBu N i,Option.bind_some,ix1 hi (show ns.length<=100000 by omega)]
 unfold inB
 by_cases h1:(nth z5 ns i).2.1>f
 ·have h1':(nth ((0:Int),(0:Int),(0:Int),(0:Int),(0:Int)) ns i).2.1>f:=h1
  rw [qY h1',cond_true,zJ h1,zJ rfl]
 ·have h1':¬ (nth ((0:Int),(0:Int),(0:Int),(0:Int),(0:Int)) ns i).2.1>f:=h1
  rw [qah h1',cond_false,zL h1]
  by_cases h2:(nth z5 ns i).2.1=f
  ·have h2':((nth ((0:Int),(0:Int),(0:Int),(0:Int),(0:Int)) ns i).2.1==f)=true:=beq_iff_eq.2 h2
   rw [h2',cond_true,zJ h2]
   have e:(nth ((0:Int),(0:Int),(0:Int),(0:Int),(0:Int)) ns i).1=(nth z5 ns i).1:=rfl
   rw [e]
   cases (nth z5 ns i).1 != 6 <;> rfl
  ·have h2':((nth ((0:Int),(0:Int),(0:Int),(0:Int),(0:Int)) ns i).2.1==f)=false:=zO h2
   rw [h2',cond_false,zL h2];rfl
theorem qBM(hN:1000<=N)(hn:ns.length<=12)(hv:∀ x∈es,0<=x.1/\x.1<ns.length/\0<=x.2.1/\x.2.1<ns.length)(ht:TtOk ns.length (EdT es es.length) to):QR ns es to (qbk N (ns,es,to)):=by
 simp only [qbk,qfu,joinD,loopE]
 refine qpE (QR ns es to) 4 (fun i s=>s=(ns,es,to,s.2.2.2.1,(i:Int)+1)/\W32 s.2.2.2.1/\∀ b,bt s.2.2.2.1 b=true↔∃ f:Nat,1<=f/\f<=i/\∃ a,RingAt ns es (f:Int) a b) ?_ ?_ (by omega) ?_
 ·rintro i ⟨_,_,_,bad,_⟩ hi ⟨e,hwb,hbad⟩ kn hk
  simp only [zN,true_and,and_true] at e hwb hbad
  obtain⟨rfl,rfl,rfl,rfl⟩:=e
  rename_i ns es to
  have hf:((i+1:Nat):Int)=(i:Int)+1:=by omega
  simp only [qdt,qY (show (i:Int)+1<=4 by omega),cond_true,joinD,loopE]
  refine qpE (QR ns es to) ns.length (fun a s=>s.1=(a:Int)/\W32 s.2/\∀ b,bt s.2 b=true↔b<a/\inB ((i:Int)+1) (nth z5 ns b)=true) ?_ ?_ (by omega) ⟨rfl,W32.zero,fun b=>by rw [qgA];exact⟨(fun h=>by cases h),fun h=>absurd h.1 (zAd _)⟩⟩
  ·rintro a ⟨_,within⟩ ha ⟨rfl,hw,hb⟩ kn' hk'
   simp only at hw hb
   rw [qDn _ ha hn,qaq]
   refine hk' _ ⟨by simp,?_,fun b=>?_⟩
   ·simp only;split
    ·exact W32.ior
    ·exact hw
   ·simp only
    split
    ·rename_i hin
     rw [qvq hw (W32.one a),zx,hb,qBa (by omega),zQ]
     constructor
     ·rintro (h | rfl)
      ·exact⟨by omega,h.2⟩
      ·exact⟨by omega,hin⟩
     ·rintro⟨h1,h2⟩
      by_cases q:b=a
      ·exact .inr q
      ·exact .inl ⟨by omega,h2⟩
    ·rename_i hin
     rw [hb]
     constructor
     ·rintro⟨h1,h2⟩;exact⟨by omega,h2⟩
     ·rintro⟨h1,h2⟩
      by_cases q:b=a
      ·subst q;exact absurd h2 hin
      ·exact⟨by omega,h2⟩
  ·rintro⟨_,within⟩ ⟨rfl,hw,hb⟩ kn'
   simp only at hw hb
   simp only [qcn,qbb,cond_false,qgi,joinD,qtD,Option.bind_some,forE]
   refine els_Q hw (QR ns es to) (fun dn s=>s=(ns,es,to,s.2.2.2)/\W32 s.2.2.2/\∀ b,bt s.2.2.2 b=true↔bt bad b=true\/∃ a∈dn,RingAt ns es ((i:Int)+1) a b) ?_ ?_ ⟨rfl,hwb,fun b=>⟨.inl,fun h=>by
    rcases h with h | ⟨a,h,_⟩
    ·exact h
    ·cases h⟩⟩
   ·rintro dn a r ⟨_,_,_,bad1⟩ he ⟨e,hwb1,hbad1⟩ kn' hk'
    simp only [zN,and_true] at e hwb1 hbad1
    obtain⟨rfl,rfl,rfl⟩:=e
    rename_i ns es to
    obtain⟨ha,hin⟩:=(hb a).1 (qpt he).2
    simp only [qgj,ge0_d,lt_d ha,Bool.and_self,cond_true,Int.toNat_natCast]
    have ed:(nth ((0:Int),(0:Int),(0:Int),(0:Int),(0:Int)) ns a).2.1=deepOf ns a:=rfl
    rw [ed]
    by_cases hd:deepOf ns a=(i:Int)+1
    ·rw [hd,bne_self_eq_false,cond_false]
     obtain⟨all,b1,b2,b3⟩:=qvv (es:=es) hN hn ht hw ha
     simp only [b1,Option.bind_some,qtD,forE]
     refine els_Q b2 (QR ns es to) (fun dn2 s=>s=(ns,es,to,s.2.2.2)/\W32 s.2.2.2/\∀ b,bt s.2.2.2 b=true↔bt bad1 b=true\/b∈dn2/\RingAt ns es ((i:Int)+1) a b) ?_ ?_ ⟨rfl,hwb1,fun b=>⟨.inl,fun h=>by
      rcases h with h | ⟨h,_⟩
      ·exact h
      ·cases h⟩⟩
     ·rintro dn2 j r2 ⟨_,_,_,bad2⟩ he2 ⟨e,hwb2,hbad2⟩ kn2 hk2
      simp only [zN,and_true] at e hwb2 hbad2
      obtain⟨rfl,rfl,rfl⟩:=e
      rename_i ns es to
      have hgo:=(Pk_EB hv ht hb hin ha).1 ((b3 j).1 (qpt he2).2)
      have hj:j<ns.length/\inB ((i:Int)+1) (nth z5 ns j)=true:=by
       obtain⟨x,hx⟩:=Pk.last ((b3 j).1 (qpt he2).2)
       exact (hb j).1 hx.2
      obtain⟨al2,c1,c2,c3⟩:=qvv (es:=es) hN hn ht hw hj.1
      simp only [qgk,c1,Option.bind_some,qEH N c2,show qcb N ((j:Int),())=some (one j,()) from qBu N j]
      have hR:RingAt ns es ((i:Int)+1) a j↔bt al2 a=true:=by
       rw [c3,Pk_EB hv ht hb hj.2 hj.1]
       exact⟨fun h=>h.back,fun h=>⟨ha,hj.1,hd,hgo,h⟩⟩
      cases q:bt al2 a with
      | true=>
       rw [cond_true,qaq]
       refine hk2 _ ⟨rfl,W32.ior,fun b=>?_⟩
       simp only
       rw [qvq hwb2 (W32.one j),zx,hbad2,qBa (qpt he2).1,zQ,zU,zAG]
       constructor
       ·rintro ((h | h) | rfl)
        ·exact .inl h
        ·exact .inr ⟨.inl h.1,h.2⟩
        ·exact .inr ⟨.inr rfl,hR.2 q⟩
       ·rintro (h | ⟨h | h,h'⟩)
        ·exact .inl (.inl h)
        ·exact .inl (.inr ⟨h,h'⟩)
        ·exact .inr h
      | false=>
       rw [cond_false,qaq]
       refine hk2 _ ⟨rfl,hwb2,fun b=>?_⟩
       simp only
       rw [hbad2,zU,zAG]
       constructor
       ·rintro (h | h)
        ·exact .inl h
        ·exact .inr ⟨.inl h.1,h.2⟩
       ·rintro (h | ⟨h | rfl,h'⟩)
        ·exact .inl h
        ·exact .inr ⟨h,h'⟩
        ·rw [hR,q] at h';cases h'
     ·rintro⟨_,_,_,bad2⟩ ⟨e,hwb2,hbad2⟩
      simp only [zN,and_true] at e hwb2 hbad2
      obtain⟨rfl,rfl,rfl⟩:=e
      rename_i ns es to
      rw [qaq]
      refine hk' _ ⟨rfl,hwb2,fun b=>?_⟩
      simp only
      rw [hbad2,hbad1]
      constructor
      ·rintro ((h | ⟨x,hx,h⟩) | ⟨-,h⟩)
       ·exact .inl h
       ·exact .inr ⟨x,zo _ hx,h⟩
       ·exact .inr ⟨a,by simp,h⟩
      ·rintro (h | ⟨x,hx,h⟩)
       ·exact .inl (.inl h)
       ·rcases zU.1 hx with hx | hx
        ·exact .inl (.inr ⟨x,hx,h⟩)
        ·obtain rfl:=zAG.1 hx
         refine .inr ⟨(qsP b2).2 ((b3 b).2 ((Pk_EB hv ht hb hin ha).2 h.go)),h⟩
    ·rw [show (deepOf ns a != (i:Int)+1)=true from bne_iff_ne.2 hd,cond_true,qaq]
     refine hk' _ ⟨rfl,hwb1,fun b=>?_⟩
     simp only
     rw [hbad1]
     constructor
     ·rintro (h | ⟨x,hx,h⟩)
      ·exact .inl h
      ·exact .inr ⟨x,zo _ hx,h⟩
     ·rintro (h | ⟨x,hx,h⟩)
      ·exact .inl h
      ·rcases zU.1 hx with hx | hx
       ·exact .inr ⟨x,hx,h⟩
       ·obtain rfl:=zAG.1 hx
        exact absurd h.deep hd
   ·rintro⟨_,_,_,bad1⟩ ⟨e,hwb1,hbad1⟩
    simp only [zN,and_true] at e hwb1 hbad1
    obtain⟨rfl,rfl,rfl⟩:=e
    rename_i ns es to
    simp only [qgl,qaq,w64 (n:=(i:Int)+1+1) (by omega) (by omega)]
    refine hk _ ⟨by simp,hwb1,fun b=>?_⟩
    simp only
    rw [hbad1,hbad]
    constructor
    ·rintro (⟨f,f1,f2,a,h⟩ | ⟨a,-,h⟩)
     ·exact⟨f,f1,by omega,a,h⟩
     ·exact⟨i+1,by omega,by omega,a,by rw [hf];exact h⟩
    ·rintro⟨f,f1,f2,a,h⟩
     by_cases q:f=i+1
     ·subst q
      rw [hf] at h
      exact .inr ⟨a,(qsP hw).2 ((hb a).2 ⟨h.an,EdG.first h.go⟩),h⟩
     ·exact .inl ⟨f,f1,by omega,a,h⟩
 ·rintro⟨_,_,_,bad,_⟩ ⟨e,hwb,hbad⟩ kn
  simp only [zN,true_and,and_true] at e hwb hbad
  obtain⟨rfl,rfl,rfl,rfl⟩:=e
  rename_i ns es to
  simp only [qdt,qah (show ¬ (((4:Nat):Int)+1<=4) by omega),cond_false,qgm,joinD,qtD,Option.bind_some,forE]
  refine els_Q hwb (QR ns es to) (fun dn _=>dn = []) ?_ ?_ rfl
  ·rintro dn j r ⟨⟩ he rfl kn' hk'
   simp only [qgn]
   obtain⟨f,f1,f2,a,h⟩:=(hbad j).1 (qpt he).2
   exact⟨_,rfl,fun _=>⟨f,f1,f2,a,j,h⟩,fun _=>by omega⟩
  ·rintro⟨⟩ he
   simp only [qgo]
   refine⟨_,rfl,fun h=>absurd h (by decide),fun ⟨f,f1,f2,a,j,h⟩=>?_⟩
   have:=(qsP hwb).2 ((hbad j).2 ⟨f,f1,f2,a,h⟩)
   rw [he] at this;cases this
 ·refine⟨rfl,W32.zero,fun b=>?_⟩
  simp only [qgA]
  exact⟨(fun h=>by cases h),fun ⟨f,f1,f2,_⟩=>by omega⟩
end
end Go.Proofs.YtnhjpicdijeagaaDoor.Gh

namespace Go.Proofs.YtnhjpicdijeagaaDoor.Gh
open Go.Abs Go.Gr
open Classical in
noncomputable def codeG(ns:List Nd)(es:List Ed):Int:=
 if 12<ns.length\/20<es.length then 1 else if ∃ x∈ns,qcZ x=false then 2 else if codeE ns es=0 then (if Ringy ns es then 9 else 0) else codeE ns es
section
variable {N : Nat} {ns : List Nd} {es : List Ed}
theorem qni:codeE ns es=0↔(∀ i,i<es.length->qyb ns es i)/\¬ Missing ns es:=by
 unfold codeE
 by_cases h:qjB (edgeC ns es) es.length=0
 ·rw [zJ h]
  have:=qiC.1 h
  constructor
  ·intro h'
   refine⟨fun i hi=>qnd.1 (this i hi),fun hm=>?_⟩
   rw [zJ hm] at h';cases h'
  ·intro h';rw [zL h'.2]
 ·rw [zL h]
  exact⟨fun h'=>absurd h' h,fun h'=>absurd (qiC.2 fun i hi=>qnd.2 (h'.1 i hi)) h⟩
theorem ports_iff(hed:∀ i,i<es.length->qyb ns es i):¬ Missing ns es↔∀ i,i<ns.length->prt (nth z5 ns i)<=cnt es i:=by
 have hc:∀ i,cnt es i=(es.filter fun e=>decide (e.2.1=(i:Int))).length:=fun i=>List.countP_eq_length_filter
 constructor
 ·intro h i hi
  have hn:((List.range (prt (nth z5 ns i)).toNat).map fun (p:Nat)=>(p:Int)).Nodup:=
   zAx.2 (List.nodup_range.imp fun {a b} h e=>h (by omega))
  have:=hn.length_le_of_subset (l₂:=(es.filter fun e=>decide (e.2.1=(i:Int))).map fun e=>e.2.2) fun x hx=>by
   obtain⟨p,hp,rfl⟩:=zr.1 hx
   rw [zg] at hp
   by_cases q:∃ e∈es,e.2.1=(i:Int)/\e.2.2=(p:Int)
   ·obtain⟨e,he,e1,e2⟩:=q
    exact zr.2 ⟨e,zc.2 ⟨he,decide_eq_true e1⟩,e2⟩
   ·exact absurd ⟨i,p,hi,by omega,fun e he hh=>q ⟨e,he,hh⟩⟩ h
  rw [zAS,zAS,zBN,<- hc] at this
  omega
 ·rintro h ⟨i,p,hi,hp,hno⟩
  have hpw:es.Pairwise fun e e'=>¬ (e.2.1=e'.2.1/\e.2.2=e'.2.2):=zAq.2 fun a b ha hb hab hh=>by
   have:=(hed b hb).own a hab
   rw [qfj ha,qfj hb] at this
   exact this hh
  have hn:((es.filter fun e=>decide (e.2.1=(i:Int))).map fun e=>e.2.2).Nodup:=
   zAx.2 ((hpw.filter _).imp_of_mem fun {a b} ha hb hh e=>hh ⟨by
    have h1:=zV (zc.1 ha).2
    have h2:=zV (zc.1 hb).2
    omega,e⟩)
  have h1:=hn.length_le_of_subset (l₂:=((List.range (prt (nth z5 ns i)).toNat).filter fun q=>decide (q≠p)).map fun (q:Nat)=>(q:Int)) fun x hx=>by
   obtain⟨e,he,rfl⟩:=zr.1 hx
   obtain⟨hem,hei⟩:=zc.1 he
   have hei:=zV hei
   obtain⟨j,hj,rfl⟩:=qds (z:=z3) hem
   have hx:=hed j hj
   have p0:0<=(nth z3 es j).2.2:=hx.p0
   have pn:(nth z3 es j).2.2<prt (nth z5 ns (nth z3 es j).2.1.toNat):=hx.pn
   rw [hei,Int.toNat_natCast] at pn
   refine zr.2 ⟨(nth z3 es j).2.2.toNat,zc.2 ⟨zg.2 (by omega),decide_eq_true fun h'=>hno _ hem ⟨hei,by omega⟩⟩,by omega⟩
  rw [zAS,zAS,<- hc] at h1
  have h2:=Go.Abs.filter_lt (p:=fun q=>decide (q≠p)) (q:=fun _=>true) (List.range (prt (nth z5 ns i)).toNat) (fun _ _ _=>rfl) ⟨p,zg.2 (by omega),rfl,by simp⟩
  rw [zAX.2 (fun _ _=>rfl),zBN] at h2
  have:=h i hi
  omega
theorem qul(hok:∀ x∈ns,qcZ x=true):¬ Ringy ns es↔∀ i j,i<ns.length->j<ns.length->¬ (Pk (EdG ns es (deepOf ns j)) ns.length i j/\Pk (EdG ns es (deepOf ns j)) ns.length j i):=by
 constructor
 ·rintro h i j hi hj ⟨p1,p2⟩
  have:=nodeOk_iff.1 (hok _ (qdP (z:=z5) hj))
  have hd:(((deepOf ns j).toNat:Nat):Int)=deepOf ns j:=by unfold deepOf;omega
  refine h ⟨(deepOf ns j).toNat,?_,?_,j,i,hj,hi,hd.symm,by rw [hd];exact p2,by rw [hd];exact p1⟩
  ·have:1<=deepOf ns j:=this.1
   omega
  ·have:deepOf ns j<=4:=this.2.1
   omega
 ·rintro h ⟨f,f1,f4,a,j,hr⟩
  exact h j a hr.jn hr.an ⟨by rw [hr.deep];exact hr.back,by rw [hr.deep];exact hr.go⟩
theorem codeG_zero:codeG ns es=0↔GrOk ns es:=by
 unfold codeG
 by_cases h1:12<ns.length\/20<es.length
 ·rw [zJ h1]
  exact⟨(fun h=>by cases h),fun h=>by have:=h.n12;have:=h.e20;omega⟩
 rw [zL h1]
 by_cases h2:∃ x∈ns,qcZ x=false
 ·rw [zJ h2]
  obtain⟨x,hx,hh⟩:=h2
  exact⟨(fun h=>by cases h),fun h=>by rw [h.nodes x hx] at hh;cases hh⟩
 rw [zL h2]
 have hok:∀ x∈ns,qcZ x=true:=fun x hx=>by
  cases q:qcZ x with
  | true=>rfl
  | false=>exact absurd ⟨x,hx,q⟩ h2
 by_cases h3:codeE ns es=0
 ·rw [zJ h3]
  obtain⟨hed,hmi⟩:=qni.1 h3
  by_cases h4:Ringy ns es
  ·rw [zJ h4]
   exact⟨(fun h=>by cases h),fun h=>absurd h4 ((qul hok).2 h.rings)⟩
  ·rw [zL h4]
   exact⟨fun _=>⟨by omega,by omega,hok,hed,(ports_iff hed).1 hmi,(qul hok).1 h4⟩,fun _=>rfl⟩
 ·rw [zL h3]
  exact⟨fun h=>absurd h h3,fun h=>absurd (qni.2 ⟨h.edges,(ports_iff h.edges).2 h.ports⟩) h3⟩
theorem c1_eq(N:Nat)(x:Nd):qcc N (x,())=some (!qcZ x,()):=by
 have h:=qEs N x
 simp only [qcc,qiT,qxx]
 simp only [h,Option.bind_some]
theorem qCk(hN:1000<=N)(hn:ns.length<=12):∃ i:Int,qB N (ns,(),())=some (i,())/\(0<=i↔∃ x∈ns,qcZ x=false):=by
 simp only [qB,qaF,joinD,loopE]
 have hb:∀ (K:Unit->_) (i:Nat),i<ns.length->∀ kn,qP N K ns (ns.length:Int) (i:Int) (backE (ns,(ns.length:Int)) kn)=if qcZ (nth z5 ns i)=false then some ((i:Int),()) else kn ((i:Int)+1):=fun K i hi kn=>by
  simp only [qP,lt_d hi,ge0_d,Int.toNat_natCast,Bool.and_self,cond_true,qxx,c1_eq N (nth ((0:Int),(0:Int),(0:Int),(0:Int),(0:Int)) ns i),Option.bind_some,ix1 hi (show ns.length<=100000 by omega),qaq]
  have e:qcZ (nth ((0:Int),(0:Int),(0:Int),(0:Int),(0:Int)) ns i)=qcZ (nth z5 ns i):=rfl
  rw [e]
  cases qcZ (nth z5 ns i) <;> rfl
 by_cases hex:∃ i,i<ns.length/\qcZ (nth z5 ns i)=false
 ·obtain⟨i0,⟨a1,a2⟩,a3⟩:=least hex
  refine⟨i0,qcJ i0 (fun i=>(i:Int)) (fun i hi kn=>?_) (fun kn=>?_) (by omega),⟨fun _=>⟨_,qdP a1,a2⟩,fun _=>by omega⟩⟩
  ·rw [hb _ i (by omega),zL (fun h=>by have:=a3 i ⟨by omega,h⟩;omega)];rfl
  ·rw [hb _ i0 a1,zJ a2]
 ·refine⟨-1,qcK (n:=ns.length) (by omega) (fun i hi kn=>?_) (fun kn=>?_) (by omega),⟨fun h=>by omega,fun ⟨l,hl,h⟩=>?_⟩⟩
  ·rw [hb _ i hi,zL (fun h=>hex ⟨i,hi,h⟩)]
  ·simp only [qP,qbb,cond_false,qaG]
  ·obtain⟨i,hi,rfl⟩:=qds (z:=z5) hl
   exact absurd ⟨i,hi,h⟩ hex
theorem Check_eq(hN:1000<=N)(ns:List Nd)(es:List Ed):∃ p:Int,qdr N ((ns,es),())=some ((codeG ns es,p),()):=by
 simp only [qdr,qlM]
 unfold codeG
 by_cases g1:(ns.length:Int)>12
 ·rw [qY g1,zJ (by omega)];exact⟨_,rfl⟩
 rw [qah g1,cond_false]
 by_cases g2:(es.length:Int)>20
 ·rw [qY g2,zJ (by omega)];exact⟨_,rfl⟩
 rw [qah g2,cond_false,zL (by omega)]
 have hn:ns.length<=12:=by omega
 have he:es.length<=20:=by omega
 obtain⟨r,r1,r2⟩:=qCk (N:=N) (ns:=ns) hN hn
 simp only [r1,Option.bind_some]
 by_cases g3:r>=0
 ·rw [qY g3,zJ (r2.1 g3)];exact⟨_,rfl⟩
 rw [qah g3,cond_false,zL (fun h=>g3 (r2.2 h)),qY (show (0:Int)<=ns.length by omega),qY (show ((ns.length:Int))*4<=281474976710656 by omega),qY (zBE _),Bool.and_self,Bool.and_self,cond_true,Int.toNat_natCast]
 have hok:∀ x∈ns,qcZ x=true:=fun x hx=>by
  cases q:qcZ x with
  | true=>rfl
  | false=>exact absurd (r2.2 ⟨x,hx,q⟩) g3
 obtain⟨p,to,e1,e2⟩:=qCy (es:=es) hN hn he hok
 simp only [e1,Option.bind_some]
 by_cases g4:codeE ns es=0
 ·rw [zJ g4,g4,bne_self_eq_false,cond_false]
  have ht:=e2 g4
  have hv:∀ x∈es,0<=x.1/\x.1<ns.length/\0<=x.2.1/\x.2.1<ns.length:=fun x hx=>by
   obtain⟨i,hi,rfl⟩:=qds (z:=z3) hx
   have:=(qni.1 g4).1 i hi
   exact⟨this.f0,this.fn,this.t0,this.tn⟩
  obtain⟨x,x1,x2⟩:=qBM hN hn hv ht
  simp only [x1,Option.bind_some]
  by_cases g5:x>=0
  ·rw [qY g5,zJ (x2.1 g5)];exact⟨_,rfl⟩
  ·rw [qah g5,zL (fun h=>g5 (x2.2 h))];exact⟨_,rfl⟩
 ·rw [zL g4,show (codeE ns es != 0)=true from bne_iff_ne.2 g4]
  exact⟨_,rfl⟩
end
end Go.Proofs.YtnhjpicdijeagaaDoor.Gh
