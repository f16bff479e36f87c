import Derived.Test.YtcjecibocjbdmaaTow
import Derived.Shelf.Abstract
import Derived.WalkKit
import Derived.OwnWalkIn
import Derived.TacticsInMore
import Derived.LoopNIn
import Derived.LoopIn
import Derived.Laws.AppendOwn
namespace Go.Proofs.Ytcjecibocjbdmaa
open Go.Abs Go.RowKit Go.Shelf
attribute [local go_sem] Oper.semAt_some
def natOf:Value->Nat
 | .int _ n=>n.toNat
 | _=>0
theorem append_step{F:Fence}{n:Nat}{P:Program}{w w':World}{ops:Array Oper}{rest:List Oper}{o:Oper}{a:Act}{Q:Exit->Act->World->Prop}{v:Value}
  (hg:o.guard=none) (s x:Operand) (t:TypeId) (hop:o.op=Op.call { callee:=Callee.builtin Builtin.append,args:=#[s,x],argTypes:=#[t,t] })
  (hrun:(Builtin.append_ #[t,t] o.type #[a.eval s,a.eval x]).run P w=.ok v w') (hK:wpListIn F n P ops Q rest (a.put o.dst v) w'):wpListIn F n P ops Q (o :: rest) a w:=by
 refine wpListIn_plain hg fun K hK'=>?_
 unfold Oper.wpIn
 refine⟨?_,?_⟩
 ·simp [Oper.about,hop,resolve,Target.leads,Sem.run_pure]
 ·rw [Oper.semAt_plain F _ _ (by rw [hop];intro c hc';cases hc')]
  simp [execOp,hop,resolve,invoke,builtin,hrun,Result.andThen]
  exact hK' _ _ hK
def LRound(J:Nat->Option Addr->Nat->Nat->World->Prop)(ta:Option Addr)(tn tc k:Nat)(fa:Option Addr)(fl fc:Nat)(wr:World):Prop:=
 Calls Try.prog 57 #[.slice fa fl fc,.func (.func 58) #[] #[.pointer (some ⟨wr.heap.size,0,none⟩)]] (wr.alloc (.cells #[.slice ta tn tc] 48)) fun e w2=>
  ∃ b:Bool,e=.returned (.bool b)/\(b=true->J (k+1) fa fl fc w2)/\(b=false->∃ ta' tn' tc',w2.cell? ⟨wr.heap.size,0,none⟩=some (.slice ta' tn' tc') /\
   Calls Try.prog 60 #[.slice ta' tn' tc'] w2 fun e w3=>∃ ca cn cc,e=.returned (.slice ca cn cc) /\
    ∃ fa' fc' w5,(Builtin.append_ #[47,47] 47 #[.slice fa fl fc,.slice (some ⟨w3.heap.size,0,none⟩) 1 1]).run Try.prog (w3.alloc (.cells #[.slice ca cn cc] 48))=.ok (.slice fa' (fl+1) fc') w5/\J (k+1) fa' (fl+1) fc' w5)
set_option maxRecDepth 100000 in
set_option maxHeartbeats 1500000 in
theorem least_in(n len:Nat)(v0:Value)(W:World)(S:Option Addr->Nat->World->Prop)(J:Option Addr->Nat->Nat->Option Addr->Nat->Nat->World->Prop)(Post:Value->World->Prop)
  (hC:Calls Try.prog 54 #[v0] W fun e w'=>∃ la lc,e=.returned (.slice la len lc)/\S la lc w')
  (hS:∀ la lc w',S la lc w'->Calls Try.prog 55 #[.slice la len lc,.func (.func 56) #[] #[]] w' fun e w''=>e=.returned (.tuple #[])/\J la lc 0 none 0 0 w''/\len<=lc/\lc<=maxI)
  (hE:∀ la lc k fa fl fc wr,J la lc k fa fl fc wr->k<len->∃ b q ta tn tc,la=some ⟨b,q,none⟩/\wr.cell? ⟨b,q+k,none⟩=some (.slice ta tn tc)/\LRound (J la lc) ta tn tc k fa fl fc wr)
  (hP:∀ la lc fa fl fc wr,J la lc len fa fl fc wr->Post (.slice fa fl fc) wr) :
  CallsIn Fence.wide n Try.prog 35 #[v0] W fun e W'=>∃ v,e=.returned v/\Post v W':=by
 refine callsIn_of_wp Try.func35 rfl trivial ?_ rfl
 simp only [Try.ntmps35,List.size_toArray,List.length_cons,List.length_nil,Nat.reduceAdd,Nat.reduceSub,zBU,zBT,zBd,zBY,List.nil_append,List.cons_append]
 gi_wp2
 refine⟨trivial,fun h=>(by cases h),((callsIn_wide (n:=n - 1)).2 hC).mono ?_⟩
 rintro e w' ⟨la,lc,rfl,hs⟩
 gi_wp2
 refine⟨trivial,fun h=>(by cases h),((callsIn_wide (n:=n - 1)).2 (hS la lc w' hs)).mono ?_⟩
 rintro e w'' ⟨rfl,hJ,hlc1,hlc2⟩
 replace hE:=hE la lc
 replace hP:=hP la lc
 clear hS hC hs
 gi_wp2
 gi_loopw [4,13] (fun f p wr=>∃ (k fl fc:Nat) (fa:Option Addr),p=.int .i64 (k:Int)/\f=.slice fa fl fc/\k<=len/\J la lc k fa fl fc wr) (fun _ p _=>len - natOf p)
 case atStart=>exact⟨0,0,0,none,rfl,rfl,zk _,hJ⟩
 case round=>
  obtain⟨k,fl,fc,fa,rfl,rfl,hk,hJk⟩:=hrel
  by_cases hend:k=len
  ·subst hend
   have hlt:((k:Int)<(k:Int))=False:=by simp
   gi_wp2
   refine bodyPost_ret (v:=.slice fa fl fc) (by simp [results,Try.results35,go_sem]) rfl ?_
   exact⟨_,rfl,hP _ _ _ _ hJk⟩
  ·have hlt:(k:Int)<(len:Int):=by omega
   obtain⟨b,q,ta,tn,tc,rfl,d0,hr⟩:=hE k fa fl fc wr hJk (by omega)
   unfold LRound at hr
   unfold maxI at hlc2
   gi_wp2
   refine⟨trivial,fun h=>(by cases h),((callsIn_wide (n:=n - 1)).2 hr).mono ?_⟩
   rintro e w2 ⟨bb,rfl,ht,hf⟩
   clear hr
   cases bb with
   | true=>
    have hJ2:=ht rfl
    gi_wp2
    go_roundw
    case rel=>exact⟨k+1,fl,fc,fa,by simp,rfl,by omega,hJ2⟩
    case measure=>
     simp only [natOf]
     omega
   | false=>
    obtain⟨ta',tn',tc',c2,hcl⟩:=hf rfl
    gi_wp2
    refine⟨trivial,fun h=>(by cases h),((callsIn_wide (n:=n - 1)).2 hcl).mono ?_⟩
    rintro e w3 ⟨ca,cn,cc,rfl,fa',fc',w5,happ,hJ5⟩
    gi_wp2_with (first | (gi_at_builtin;refine append_step rfl _ _ _ rfl happ ?_) | gi_in)
    go_roundw
    case rel=>exact⟨k+1,fl+1,fc',fa',by simp,rfl,by omega,hJ5⟩
    case measure=>
     simp only [natOf]
     omega
end Go.Proofs.Ytcjecibocjbdmaa
