import Derived.Test.YtgnnhemoocfclaaGreatDoorReaS
import Derived.Test.YtgnnhemoocfclaaGreatDoorAbsPtr
import Derived.Test.YtgnnhemoocfclaaGreatDoorReaM
import Derived.RangeFuncBox
import Derived.RangeFuncLeaves
import Derived.Shelf.Abstract
import Derived.WalkKit
import Derived.OwnWalkIn
import Derived.TacticsInMore
import Derived.LoopNIn
import Derived.LoopIn
import Derived.Deep.MidRow
import Derived.Deep.WholeRow
noncomputable section
namespace Go.Proofs.YtgnnhemoocfclaaGreatDoor
open Go.Abs
abbrev SK:Sh:=.sl (.int .i64)
abbrev SI:Sh:=.pair (.int .i64) (.pair (.int .i64) (.pair (.int .i64) (.int .i64)))
abbrev SH:Sh:=.pair (.int .i64) (.sl (.int .i64))
abbrev SG:Sh:=.pair (.sl (.pair (.int .i64) (.pair (.int .i64) (.pair (.int .i64) (.pair (.int .i64) (.int .i64)))))) (.sl (.pair (.int .i64) (.pair (.int .i64) (.int .i64))))
abbrev Yo:Type:=Int×Int×List Int
abbrev Yn:Type:=List (Int×Int×Int×Int×Int)×List (Int×Int×Int)
abbrev qkA:List Kd:=[.dat (.pair (.int .i64) SH),.dat SK]
abbrev qkz:List Kd:=[.dat SK,.dat (.int .i64)]
abbrev qkx:Type:=Dens qkz
def qse(_N:Nat):Ctx:={ T:=[(3,⟨.int .i64,1,8,some (.int .i64),[.int .i64 (0:Int)],false,[]⟩),(27,⟨.slice 3,1,24,some SK,[.nil],false,[]⟩),(87,⟨.struct [(0,3),(1,3),(2,27)],3,40,some (.pair (.int .i64) SH),[.int .i64 (0:Int),.int .i64 (0:Int),.nil],false,[]⟩)],G:=findE [mkP 44 qdK qdH (qbB _N),mkP 65 qcz qcy (qaH _N),mkF 38 qai 3 (.int .i64) (qB _N),mkP 67 qcl qck (qay _N)],I:=findI [],N:=_N,n:=48,fx:=[],fl:=0,gs:=Gs }
def qkS(_N:Nat)(_x1:Int×Int×List Int)(_x2:List Int):Option qkx:=
 ((qbB _N (_x2,())).bind fun _y5=>(bif (_y5.1 != (0:Int)) then (some ([],_y5.1,())) else ((qaH _N ((_x1.1,(_x1.2.1,_x1.2.2)),(_x2.length:Int),())).bind fun _y6=>(bif (_y6.1 != (0:Int)) then (some ([],_y6.1,())) else (bif (decide (0<=(0:Int))&&(decide ((0:Int)<=_x1.1)&&decide (_x1.1<=(_x2.length:Int)))) then ((qB _N (((_x2.take _x1.1.toNat).drop (0:Int).toNat),())).bind fun _y7=>(bif (decide ((_y7.length+_x1.2.2.length)*8<=140737488355328)&&Nat.ble 1 8) then (bif (decide (0<=(IntKind.i64.wrap (_x1.1 - (1:Int))))&&decide ((IntKind.i64.wrap (_x1.1 - (1:Int)))<((_y7++_x1.2.2).length:Int))) then (bif (decide (0<=(IntKind.i64.wrap (_x1.1 - (1:Int))))&&decide ((IntKind.i64.wrap (_x1.1 - (1:Int)))<((_y7++_x1.2.2).length:Int))) then (bif (decide (0<=(IntKind.i64.wrap (_x1.1 - (1:Int))))&&decide ((IntKind.i64.wrap (_x1.1 - (1:Int)))<(((_y7++_x1.2.2).set ((IntKind.i64.wrap (_x1.1 - (1:Int))).toNat) (IntKind.i64.wrap ((nth (0:Int) (_y7++_x1.2.2) ((IntKind.i64.wrap (_x1.1 - (1:Int))).toNat))+_x1.2.1))).length:Int))) then ((qay _N ((nth (0:Int) ((_y7++_x1.2.2).set ((IntKind.i64.wrap (_x1.1 - (1:Int))).toNat) (IntKind.i64.wrap ((nth (0:Int) (_y7++_x1.2.2) ((IntKind.i64.wrap (_x1.1 - (1:Int))).toNat))+_x1.2.1))) ((IntKind.i64.wrap (_x1.1 - (1:Int))).toNat)),())).bind fun _y8=>(bif (!_y8.1) then (some ([],(6:Int),())) else (some (((_y7++_x1.2.2).set ((IntKind.i64.wrap (_x1.1 - (1:Int))).toNat) (IntKind.i64.wrap ((nth (0:Int) (_y7++_x1.2.2) ((IntKind.i64.wrap (_x1.1 - (1:Int))).toNat))+_x1.2.1))),(0:Int),())))) else none) else none) else none) else none)) else none)))))
def qef(_N:Nat)(_x:Dens qkA):Option qkx:=qkS _N _x.1 _x.2.1
theorem qpK(_N:Nat):SpecD Tryz.prog Gs 75 qkA qkz (qef _N):=mkSpD (fn:=Tryz.f75) (c:=qh Tryz.f75) (C:=qse _N)
  (a:=.two .none (.two .none (.two .none (.two (.draw 1 [.pure,.pure,.rd [0],.pure,.new 1,.pure,.rd [0],.wr [1],.pure]) (.two (.draw 0 [.pure,.pure,.rd [0],.pure,.rd [1],.rd [1],.pure,.rd [0],.pure,.rd [1],.wr [1]]) .none)))))
  (by kernel_rfl) rfl (by kernel_rfl) (by kernel_rfl) ⟨rfl,by unfold TOk;kernel_rfl,qak rfl rfl (zD.2 ⟨qiZ _N,(zD.2 ⟨qgZ _N,(zD.2 ⟨qbU _N,(zD.2 ⟨qgk _N,(zC _)⟩)⟩)⟩)⟩),qaj rfl rfl (zC _),rfl⟩ (fun _x=>by kernel_rfl)
abbrev qgP:List Kd:=[.ptr (.pair SG (.sl (.sl (.pair (.int .i64) SH)))),.dat (.int .i64),.dat (.int .i64)]
abbrev qgN:List Kd:=[.dat (.sl (.pair (.int .i64) SH))]
abbrev qgM:Type:=Dens qgN
def qmb(_N:Nat):Ctx:={ T:=[(22,⟨.slice 68,1,24,some (.sl (.pair (.int .i64) SI)),[.nil],false,[]⟩),(25,⟨.struct [(0,22),(1,23)],2,48,some SG,[.nil,.nil],false,[]⟩),(82,⟨.slice 91,1,24,some (.sl (.sl (.pair (.int .i64) SH))),[.nil],false,[]⟩),(84,⟨.struct [(0,25),(2,82)],3,72,some (.pair SG (.sl (.sl (.pair (.int .i64) SH)))),[.nil,.nil,.nil],false,[]⟩),(91,⟨.slice 87,1,24,some (.sl (.pair (.int .i64) SH)),[.nil],false,[]⟩)],G:=findE [],I:=findI [],N:=_N,n:=23,fx:=[],fl:=0,gs:=Gs }
def qlX(_N:Nat)(_x1:Yn×List (List Yo))(_x2:Int)(_x3:Int):Option qgM:=
 (bif (decide (0<=(IntKind.i64.wrap ((IntKind.i64.wrap (_x2*(_x1.1.1.length:Int)))+_x3)))&&decide ((IntKind.i64.wrap ((IntKind.i64.wrap (_x2*(_x1.1.1.length:Int)))+_x3))<(_x1.2.length:Int))) then (some ((nth ([]) _x1.2 (IntKind.i64.wrap ((IntKind.i64.wrap (_x2*(_x1.1.1.length:Int)))+_x3)).toNat),())) else none)
def qhf(_N:Nat)(_x:Dens qgP):Option qgM:=qlX _N _x.1 _x.2.1 _x.2.2.1
theorem qkU(_N:Nat):SpecD Tryz.prog Gs 74 qgP qgN (qhf _N):=mkSpD (fn:=Tryz.f74) (c:=qh Tryz.f74) (C:=qmb _N)
  (a:=.two .none (.two (.draw 0 [.pure,.pure,.pure,.pure,.pure,.pure,.pure,.pure,.pure,.pure,.pure,.pure,.pure,.pure,.pure,.pure,.pure]) .none))
  (by kernel_rfl) rfl (by kernel_rfl) (by kernel_rfl) ⟨rfl,by unfold TOk;kernel_rfl,qak rfl rfl (zC _),qaj rfl rfl (zC _),rfl⟩ (fun _x=>by kernel_rfl)
abbrev qbI:List Kd:=[.ptr (.pair SG (.sl (.sl (.pair (.int .i64) SH)))),.dat SH,.dat (.int .i64)]
abbrev qfX:Type:=(Yn×List (List Yo))×(Int×List Int)×Int
def qlB(_N:Nat):Ctx:={ T:=[],G:=findE [],I:=findI [],N:=_N,n:=8,fx:=[],fl:=0,gs:=Gs }
def qea(_N:Nat)(_x1:Yn×List (List Yo))(_x2:Int×List Int)(_x3:Int):Option qfX:=
 (some (_x1,(_x2.1,_x2.2),_x3))
def qaC(_N:Nat)(_x:Dens qbI):Option qfX:=qea _N _x.1 _x.2.1 _x.2.2.1
theorem qkD(_N:Nat):qzC Tryz.prog Gs 45 qbI 73 (.pair SG (.sl (.sl (.pair (.int .i64) SH)))) SH (.int .i64) (qaC _N):=qFv (fn:=Tryz.f45) (c:=qh Tryz.f45) (C:=qlB _N)
  (a:=.none)
  (by kernel_rfl) rfl (by kernel_rfl) (by kernel_rfl) ⟨rfl,by unfold TOk;kernel_rfl,qak rfl rfl (zC _),qaj rfl rfl (zC _),rfl⟩ (fun _x=>by kernel_rfl)
theorem qfW(_N:Nat):EntOk Tryz.prog Gs (mkB3 45 qbI 73 (.pair SG (.sl (.sl (.pair (.int .i64) SH)))) SH (.int .i64) (qaC _N)):=entB3 ⟨Tryz.f45,qh Tryz.f45,by kernel_rfl,by kernel_rfl,rfl⟩ (qkD _N)
abbrev qeQ:List Kd:=[.dat SG,.dat SH]
abbrev qeM:List Kd:=[.dat (.int .i64)]
abbrev qmv:Type:=Dens qeM
def qvq(_N:Nat):Ctx:={ T:=[(3,⟨.int .i64,1,8,some (.int .i64),[.int .i64 (0:Int)],false,[]⟩),(22,⟨.slice 68,1,24,some (.sl (.pair (.int .i64) SI)),[.nil],false,[]⟩),(25,⟨.struct [(0,22),(1,23)],2,48,some SG,[.nil,.nil],false,[]⟩),(27,⟨.slice 3,1,24,some SK,[.nil],false,[]⟩),(29,⟨.struct [(0,3),(1,27)],2,32,some SH,[.int .i64 (0:Int),.nil],false,[]⟩),(68,⟨.struct [(0,3),(1,3),(2,66)],5,40,some (.pair (.int .i64) SI),[.int .i64 (0:Int),.int .i64 (0:Int),.int .i64 (0:Int),.int .i64 (0:Int),.int .i64 (0:Int)],true,[]⟩)],G:=findE [mkP 44 qdK qdH (qbB _N)],I:=findI [],N:=_N,n:=34,fx:=[],fl:=0,gs:=Gs }
def qny(_N:Nat)(_x1:List (Int×Int×Int×Int×Int)×List (Int×Int×Int))(_x2:Int×List Int):Option qmv:=
 (bif (decide (_x2.1<(0:Int))) then (some ((2:Int),())) else (bif (decide (_x2.1>=(_x1.1.length:Int))) then (some ((2:Int),())) else ((qbB _N (_x2.2,())).bind fun _y2=>(bif (_y2.1 != (0:Int)) then (some (_y2.1,())) else (bif (decide (0<=_x2.1)&&decide (_x2.1<(_x1.1.length:Int))) then (bif ((_x2.2.length:Int) != (((nth ((0:Int),((0:Int),((0:Int),((0:Int),(0:Int))))) _x1.1 (_x2.1).toNat).2).1)) then (some ((7:Int),())) else (some ((0:Int),()))) else none)))))
def qcd(_N:Nat)(_x:Dens qeQ):Option qmv:=qny _N _x.1 _x.2.1
theorem qsr(_N:Nat):SpecD Tryz.prog Gs 18 qeQ qeM (qcd _N):=mkSpD (fn:=Tryz.f18) (c:=qh Tryz.f18) (C:=qvq _N)
  (a:=.two .none (.two .none (.two .none (.two (.two (.draw 0 [.pure,.rd [1],.pure,.pure,.rd [0],.pure,.rd [1],.pure,.pure,.pure,.pure]) .none) .none))))
  (by kernel_rfl) rfl (by kernel_rfl) (by kernel_rfl) ⟨rfl,by unfold TOk;kernel_rfl,qak rfl rfl (zD.2 ⟨qiZ _N,(zC _)⟩),qaj rfl rfl (zC _),rfl⟩ (fun _x=>by kernel_rfl)
theorem qmm(_N:Nat):EntOk Tryz.prog Gs (mkP 18 qeQ qeM (qcd _N)):=entP ⟨Tryz.f18,qh Tryz.f18,by kernel_rfl,by kernel_rfl,rfl⟩ (by kernel_rfl) (qsr _N)
end Go.Proofs.YtgnnhemoocfclaaGreatDoor
namespace Go.Proofs.YtgnnhemoocfclaaGreatDoor
open Go.Abs Go.RowKit Go.Shelf
abbrev smS:Sh:=.pair (.int .i64) SH
abbrev ndS:Sh:=.pair (.int .i64) SI
abbrev edS:Sh:=.pair (.int .i64) (.pair (.int .i64) (.int .i64))
abbrev wyS:Sh:=.pair (.pair (.sl ndS) (.sl edS)) (.sl (.sl smS))
abbrev stS:Sh:=.pair (.int .i64) SK
abbrev aN:Nat:=200000000
abbrev arrIx(w:wyS.den)(s:stS.den)(c:Int):Int:=IntKind.i64.wrap (IntKind.i64.wrap (s.1*(w.1.1.length:Int))+c)
abbrev qmo(w:wyS.den)(s:stS.den)(c:Int):List Yo:=nth [] w.2 (arrIx w s c).toNat
def aplD(x:Int×Int×List Int)(t:List Int):List Int×Int×Unit:=(qef aN (x,t,())).getD ([],1,())
def arrXs(w:wyS.den)(s:stS.den)(c:Int):List (List Int):=((qmo w s c).filter fun x=>(aplD x s.2).2.1==0).map fun x=>(aplD x s.2).1
def arrOk(w:wyS.den)(s:stS.den)(c:Int):Bool:=(decide (0<=arrIx w s c)&&decide (arrIx w s c<(w.2.length:Int)))&&(qmo w s c).all fun x=>(qef aN (x,s.2,())).isSome
attribute [local go_sem] Oper.semAt_some
def natOf:Value->Nat
 | .int _ n=>n.toNat
 | _=>0
structure ArrJ (n l b2 q2:Nat) (ta:Option Addr) (tn tc len:Nat) (Post:World->Prop) (rv:Option Addr) (cap:Nat) (w':World):Prop where
 ex:∃ (J:Nat->World->Prop) (Jx:World->Prop) (bR qR:Nat) (e0 e1:Nat->Int) (ea:Nat->Option Addr) (en ec:Nat->Nat) (er:Nat->Int) (yv:Nat->World->World->Value->Prop) (cnt:Nat->Nat),
  (∀ i X,J i X->X.cell? ⟨b2,q2+1,none⟩=some (.slice ta tn tc))/\(len≠0->rv=some ⟨bR,qR,none⟩)/\(len<=cap/\cap<=maxI)/\cnt 0=0/\(∀ k,k<len->er k=0->cnt (k+1)=cnt k+1)/\(∀ k,k<len->er k≠0->cnt (k+1)=cnt k)/\(∀ i X Y,J i X->Go.Abs.Below X.heap.size X Y->J i Y) /\
  (∀ i X,J i X->∀ k,k<len->X.cell? ⟨bR,qR+k*3,none⟩=some (.int .i64 (e0 k))/\X.cell? ⟨bR,qR+k*3+1,none⟩=some (.int .i64 (e1 k))/\X.cell? ⟨bR,qR+k*3+2,none⟩=some (.slice (ea k) (en k) (ec k))) /\
  (∀ i X X1 k,J i X->k<len->Go.Abs.Below X.heap.size X X1->Calls Tryz.prog 75 #[.agg #[.int .i64 (e0 k),.int .i64 (e1 k),.slice (ea k) (en k) (ec k)],.slice ta tn tc] X1 fun e w'=>∃ ya yn yc,e=.returned (.tuple #[.slice ya yn yc,.int .i64 (er k)])/\Go.Abs.Below X1.heap.size X1 w'/\(er k=0->yv k X w' (.slice ya yn yc))) /\
  (∀ k X0 X v,J (cnt k) X0->k<len->er k=0->Go.Abs.Below X0.heap.size X0 X->yv k X0 X v->YieldAt Fence.wide (n - 1) Tryz.prog l #[v] X fun e W'=>(e=.returned (.bool true)/\J (cnt k+1) W')\/(e=.returned (.bool false)/\Jx W')) /\
  (∀ W',J (cnt len) W'\/Jx W'->Post W')/\J 0 w'
set_option maxRecDepth 100000 in
set_option maxHeartbeats 1500000 in
theorem qFD(n l b1 q1 b2 q2 b3 q3 b' q':Nat)(at_ c:Int)(ta:Option Addr)(tn tc len:Nat)(Post:World->Prop)(W:World)
  (c1:W.cell? ⟨b1,q1,none⟩=some (.pointer (some ⟨b',q',none⟩)))
  (c2:W.cell? ⟨b2,q2,none⟩=some (.int .i64 at_))
  (c3:W.cell? ⟨b3,q3,none⟩=some (.int .i64 c))
  (hlt2:∀ w',Go.Abs.Below W.heap.size W w'->b2<w'.heap.size)
  (hB:Calls Tryz.prog 74 #[.pointer (some ⟨b',q',none⟩),.int .i64 at_,.int .i64 c] W fun e w'=>∃ rv cap,e=.returned (.slice rv len cap)/\ArrJ n l b2 q2 ta tn tc len Post rv cap w') :
  CallsIn Fence.wide n Tryz.prog 73 #[.func (.yield l) #[] #[],.pointer (some ⟨b1,q1,none⟩),.pointer (some ⟨b2,q2,none⟩),.pointer (some ⟨b3,q3,none⟩)] W fun e W'=>(∃ v,e=.returned v)/\Post W':=by
 refine callsIn_of_wp Tryz.func73 rfl trivial ?_ rfl
 simp only [Tryz.ntmps73,List.size_toArray,List.length_cons,List.length_nil,Nat.reduceAdd,Nat.reduceSub,Array.replicate_succ,Array.replicate_zero,List.push_toArray,List.append_toArray,List.nil_append,List.cons_append]
 gi_wp2
 refine⟨trivial,fun h=>(by cases h),((callsIn_wide (n:=n - 1)).2 hB).mono ?_⟩
 rintro e w' ⟨rv,cap,rfl,⟨J,Jx,bR,qR,e0,e1,ea,en,ec,er,yv,cnt,h2t,hrv,hcap,hc0,hc1,hc2,hJg,hE,hA,hY,hPost,hJ⟩⟩
 clear c1 c2 c3 hB hlt2
 gi_wp2
 gi_loopw [15] (fun p wr=>∃ k:Nat,p=.int .i64 (k:Int)/\k<=len/\J (cnt k) wr) (fun p _=>len - natOf p)
 case atStart=>exact⟨0,rfl,zw _,by rw [hc0];exact hJ⟩
 case round=>
  obtain⟨k,rfl,hk,hJk⟩:=hrel
  by_cases hend:k=len
  ·subst hend
   have hlt:((k:Int)<(k:Int))=False:=by simp
   gi_wp2
   go_end0
   exact⟨⟨_,rfl⟩,hPost _ (.inl hJk)⟩
  ·have hlt:(k:Int)<(len:Int):=by omega
   obtain rfl:=hrv (by omega)
   obtain⟨d0,d1,d2⟩:=hE _ wr hJk k (by omega)
   have t2:=h2t _ wr hJk
   have hlt2:b2<wr.heap.size:=by
    obtain⟨o,ho,-⟩:=cells_of_cell t2
    exact (zI.1 ho).1
   unfold maxI at hcap
   gi_wp2
   refine⟨trivial,fun h=>(by cases h),?_⟩
   have hbel:Go.Abs.Below wr.heap.size wr (wr.alloc (.cells #[.int .i64 (e0 k),.int .i64 (e1 k),.slice (ea k) (en k) (ec k)] 87)):=(Go.Abs.Below.refl _ _).alloc (Nat.le_refl _) _
   refine ((callsIn_wide (n:=n - 1)).2 (hA _ wr _ k hJk (show k<len by omega) hbel)).mono ?_
   rintro e w2 ⟨ya,yn,yc,rfl,hb,hyv⟩
   have hb2:Go.Abs.Below wr.heap.size wr w2:=hbel.trans (hb.mono hbel.size)
   by_cases he:er k=0
   ·obtain⟨fn,tmps,assign,body,hyy,hR⟩:=hY k wr w2 _ hJk (show k<len by omega) he hb2 (hyv he)
    have hee:(er k==0)=true:=beq_iff_eq.2 he
    gi_wp2_with gi_in
    refine⟨fun h=>(by cases h),hR.mono ?_⟩
    rintro e W3 (⟨rfl,hJ3⟩ | ⟨rfl,hJ3⟩)
    ·gi_wp2
     go_roundw
     case rel=>exact⟨k+1,by simp,by omega,by rw [hc1 k (by omega) he];exact hJ3⟩
     case measure=>
      simp only [natOf]
      omega
    ·gi_wp2
     refine bodyPost_ret (results_none rfl _ _ _) rfl ?_
     exact⟨⟨_,rfl⟩,hPost _ (.inr hJ3)⟩
   ·have hee:(er k==0)=false:=zb he
    gi_wp2
    refine⟨fun f h=>(by cases h),?_⟩
    gi_wp2
    go_roundw
    case rel=>exact⟨k+1,by simp,by omega,by rw [hc2 k (by omega) he];exact hJg _ _ _ hJk hb2⟩
    case measure=>
     simp only [natOf]
     omega
theorem qzH{r:Option Nat}{n n':Nat}{P:Program}{l:Nat}{args:Array Value}{X:World}{R:Ending->World->Prop}(h:YieldAt (WF r) n P l args X R):YieldAt Fence.wide n' P l args X R:=by
 obtain⟨fn,tmps,c,d,hr,h1,h2⟩:=h
 exact⟨fn,tmps,c,d,hr,h1,fun c cs _=>h2 c cs (room_wide _)⟩
def qmp(row:List Yo)(t:List Int)(k:Nat):Nat:=((row.take k).filter fun x=>(aplD x t).2.1==0).length
theorem qrT{row:List Yo}{t:List Int}{k:Nat}(hk:k<row.length):qmp row t (k+1)=qmp row t k+if (aplD (nth (0,0,[]) row k) t).2.1=0 then 1 else 0:=by
 unfold qmp
 rw [zW hk,zAc,zQ,qcv hk]
 by_cases e:(aplD row[k] t).2.1=0
 ·rw [zH e,zAp (by simpa using e)];rfl
 ·rw [zJ e,zBG (by simpa using e)];rfl
theorem qDI{row:List Yo}{t:List Int}{k:Nat}(hk:k<row.length)(he:(aplD (nth (0,0,[]) row k) t).2.1=0) :
  ((row.filter fun x=>(aplD x t).2.1==0).map fun x=>(aplD x t).1)[qmp row t k]? = some (aplD (nth (0,0,[]) row k) t).1:=by
 rw [qcv hk] at he ⊢
 have e1:row=row.take k++row[k] :: row.drop (k+1):=by rw [<- zAZ hk,zAt]
 have e2:row.filter (fun x=>(aplD x t).2.1==0)=(row.take k).filter (fun x=>(aplD x t).2.1==0)++row[k] :: (row.drop (k+1)).filter (fun x=>(aplD x t).2.1==0):=by
  conv=>lhs;rw [e1]
  rw [zAc,zAp (by simpa using he)]
 rw [e2,zAi,List.map_cons,zAG (by rw [zh];exact Nat.le_refl _),zh]
 simp [qmp]
theorem qFt{X:World}{M:Nat->Prop}{s:Sh}(hs:∀ x,enc s x=.agg (encL s x)){x:s.den}{cs:List Value}(h:RC X M s x cs):RV X M [] σ0 (enc s x) (.agg cs.toArray):=by
 rw [hs]
 simp only [RV]
 exact⟨cs.toArray,rfl,RC.one1 s h,RC.encL s h⟩
set_option maxHeartbeats 1000000 in
theorem qFq:qEm Tryz.prog Gs 73 wyS stS (.int .i64) SK arrOk arrXs:=by
 intro Mx M' w wy st c vs hok hMM hlt hgw hgm hv r n l J Jx W hW hl hl' h0 hg hgx hp hy
 have hvs:=hv
 simp only [RVs,RV] at hv
 obtain⟨_,_,rfl,⟨b1,q1,b',q',wcs,rfl,hb1,hm1,hc1,hb',hm',hc',hr'⟩,_,_,rfl,⟨b2,q2,scs,rfl,hb2,hm2,hc2,hr2⟩,_,_,rfl,⟨b3,q3,ccs,rfl,hb3,hm3,hc3,hr3⟩,rfl⟩:=hv
 have hr2':=hr2
 simp only [RC] at hr2 hr3
 obtain⟨s1,s2,rfl,rfl,ta,tc,rfl,htl,htc,htr⟩:=hr2
 subst hr3
 simp only [arrOk,zA,zN,zj] at hok
 obtain⟨⟨hi0,hi1⟩,hall⟩:=hok
 have hWs:=hW.size
 have kW:∀ b,b<w.heap.size->¬ M' b->b<W.heap.size/\¬ (M' b\/b=l)/\W.heap[b]? = w.heap[b]?:=fun b hb hm=>⟨by omega,by rintro (h | h);exact hm h;omega,hW.block b hb⟩
 have gW:GW Gs W:=fun p hp'=>by
  obtain⟨g1,g2⟩:=hgw p hp'
  exact⟨by omega,fun j v hj=>(World.cell?_of_block (w:=w) (hW.block _ g1)).trans (g2 j v hj)⟩
 have cW:∀ b q v,b<w.heap.size->w.cell? ⟨b,q,none⟩=some v->W.cell? ⟨b,q,none⟩=some v:=fun b q v hb h=>(World.cell?_of_block (w:=w) (hW.block b hb)).trans h
 have hMW:∀ b,(M' b\/b=l)->b<W.heap.size:=by
  rintro b (h | rfl)
  ·have:=hlt b h;omega
  ·exact hl'
 have hin:CallsIn Fence.wide n Tryz.prog 73 #[.func (.yield l) #[] #[],.pointer (some ⟨b1,q1,none⟩),.pointer (some ⟨b2,q2,none⟩),.pointer (some ⟨b3,q3,none⟩)] W fun e W'=>(∃ v,e=.returned v)/\∃ B,J B (arrXs wy st c).length W'\/Jx B W':=by
  refine qFD n l b1 q1 b2 q2 b3 q3 b' q' st.1 c ta st.2.length tc (qmo wy st c).length _ W (cW _ _ _ hb1 (by simpa using hc1 0 _ rfl)) (cW _ _ _ hb2 (by simpa using hc2 0 _ rfl)) (cW _ _ _ hb3 (by simpa using hc3 0 _ rfl)) (fun w' hb=>by have:=hb.size;omega) ?_
  have hD:qhf aN (wy,st.1,c,())=some (qmo wy st c,()):=by
   show (bif (decide (0<=arrIx wy st c)&&decide (arrIx wy st c<(wy.2.length:Int))) then some (qmo wy st c,()) else none)=_
   rw [decide_eq_true hi0,decide_eq_true hi1];rfl
  refine (qkU aN (fun b=>M' b\/b=l) W (wy,st.1,c,()) _ [.pointer (some ⟨b',q',none⟩),.int .i64 st.1,.int .i64 c] hMW gW ?_ hD).mono ?_
  ·exact⟨_,_,rfl,⟨b',q',wcs,rfl,(kW b' hb' hm').1,(kW b' hb' hm').2.1,fun j v hj=>cW _ _ _ hb' (hc' j v hj),RC.far kW hr'⟩,_,_,rfl,rfl,_,_,rfl,rfl,rfl⟩
  rintro e w1 ⟨v,rfl,hbw,hrv⟩
  have hrv':RV w1 (fun b=>M' b\/b=l) [] σ0 (.sl smS (qmo wy st c)) v:=hrv
  simp only [RV] at hrv'
  unfold RC at hrv'
  obtain⟨rv,cap,hvv,hcap1,hcap2,hrow⟩:=hrv'
  obtain rfl:v=.slice rv (qmo wy st c).length cap:=by simpa using hvv
  refine⟨rv,cap,rfl,⟨?_⟩⟩
  have hbs:=hbw.size
  generalize hR:qmo wy st c=row at hcap1 hrow hall ⊢
  obtain⟨bR,qR,hab⟩:∃ b q,row ≠ []->rv=some ⟨b,q,none⟩/\b<w1.heap.size/\¬ (M' b\/b=l)/\RowAt (RC w1 (fun b=>M' b\/b=l) smS) smS.n w1 b q row:=by
   by_cases hx:row = []
   ·exact⟨0,0,fun h=>absurd hx h⟩
   ·obtain⟨b,q,h⟩:=hrow hx
    exact⟨b,q,fun _=>h⟩
  have kX:∀ i X X1,J w1 i X->Go.Abs.Below X.heap.size X X1->∀ b,b<w1.heap.size->¬ (M' b\/b=l)->b<X1.heap.size/\¬ (b<X.heap.size/\(w1.heap.size<=b\/M' b\/b=l))/\X1.heap[b]? = w1.heap[b]?:=fun i X X1 hJ hb b h1 h2=>by
   obtain⟨p1,p2⟩:=hp w1 i X hJ
   have:=hb.size
   refine⟨by omega,?_,?_⟩
   ·rintro⟨-,h | h⟩
    ·omega
    ·exact h2 h
   ·rw [hb.block b (by omega),p2 b h1 (fun e=>h2 (.inr e)) (fun hm=>h2 (.inl (hMM b hm)))]
  have kw:∀ i X X1,J w1 i X->Go.Abs.Below X.heap.size X X1->∀ b,b<w.heap.size->¬ M' b->b<X1.heap.size/\¬ (b<X.heap.size/\(w1.heap.size<=b\/M' b\/b=l))/\X1.heap[b]? = w.heap[b]?:=fun i X X1 hJ hb b h1 h2=>by
   obtain⟨p1,p2,p3⟩:=kX i X X1 hJ hb b (by omega) (by rintro (h | h);exact h2 h;omega)
   exact⟨p1,p2,by rw [p3,hbw.block b (by omega),hW.block b h1]⟩
  have gX:∀ i X X1,J w1 i X->Go.Abs.Below X.heap.size X X1->GW Gs X1:=fun i X X1 hJ hb p hp'=>by
   obtain⟨g1,g2⟩:=hgw p hp'
   obtain⟨p1,p2⟩:=hp w1 i X hJ
   have:=hb.size
   have e:X1.heap[p.1]? = w.heap[p.1]?:=by rw [hb.block _ (by omega),p2 p.1 (by omega) (by omega) (hgm p hp'),hbw.block _ (by omega),hW.block _ g1]
   exact⟨by omega,fun j v hj=>(World.cell?_of_block (w:=w) e).trans (g2 j v hj)⟩
  have hel:∀ k:Nat,∃ p:Option Addr×Nat,k<row.length->qaN w1 bR (qR+k*3) [.int .i64 (nth (0,0,[]) row k).1,.int .i64 (nth (0,0,[]) row k).2.1,.slice p.1 (nth (0,0,[]) row k).2.2.length p.2] /\
    RC w1 (fun b=>M' b\/b=l) smS (nth (0,0,[]) row k) [.int .i64 (nth (0,0,[]) row k).1,.int .i64 (nth (0,0,[]) row k).2.1,.slice p.1 (nth (0,0,[]) row k).2.2.length p.2]:=fun k=>by
   by_cases hk:k<row.length
   ·obtain⟨-,-,-,h3⟩:=hab (fun e=>by rw [e] at hk;simp at hk)
    obtain⟨cs,h4,h5⟩:=h3 k (nth (0,0,[]) row k) (by simp [nth,hk])
    have h6:=h5
    simp only [RC] at h6
    obtain⟨_,_,rfl,rfl,_,_,rfl,rfl,a,cp,rfl,-⟩:=h6
    exact⟨(a,cp),fun _=>⟨h4,h5⟩⟩
   ·exact⟨(none,0),fun h=>absurd h hk⟩
  obtain⟨fa,hfa⟩:=Classical.axiomOfChoice hel
  have hne:∀ {k:Nat},k<row.length->row ≠ []:=fun hk e=>by rw [e] at hk;simp at hk
  refine⟨J w1,Jx w1,bR,qR,fun k=>(nth (0,0,[]) row k).1,fun k=>(nth (0,0,[]) row k).2.1,fun k=>(fa k).1,fun k=>(nth (0,0,[]) row k).2.2.length,fun k=>(fa k).2,fun k=>(aplD (nth (0,0,[]) row k) st.2).2.1,fun k X0 X v=>RV X (fun b=>b<X0.heap.size/\(w1.heap.size<=b\/M' b\/b=l)) [] σ0 (.sl (.int .i64) (aplD (nth (0,0,[]) row k) st.2).1) v,qmp row st.2,?_,?_,⟨hcap1,hcap2⟩,rfl,?_,?_,hg w1,?_,?_,?_,?_,h0 w1 hbw⟩
  ·intro i X hJ
   exact (World.cell?_of_block (w:=w) (kw i X X hJ (Go.Abs.Below.refl _ _) b2 hb2 hm2).2.2).trans (hc2 1 _ rfl)
  ·intro h
   exact (hab (fun e=>by rw [e] at h;exact h rfl)).1
  ·intro k hk he
   rw [qrT hk,zH he]
  ·intro k hk he
   rw [qrT hk,zJ he,Nat.add_zero]
  ·intro i X hJ k hk
   obtain⟨-,h1,h2,-⟩:=hab (hne hk)
   have e:=(kX i X X hJ (Go.Abs.Below.refl _ _) bR h1 h2).2.2
   have h3:=(hfa k hk).1
   exact⟨(World.cell?_of_block (w:=w1) e).trans (h3 0 _ rfl),(World.cell?_of_block (w:=w1) e).trans (h3 1 _ rfl),(World.cell?_of_block (w:=w1) e).trans (h3 2 _ rfl)⟩
  ·intro i X X1 k hJ hk hb
   have hap:=hall (nth (0,0,[]) row k) (by rw [qcv hk];exact zAq hk)
   obtain⟨⟨ap1,ap2,⟨⟩⟩,hD2⟩:=Option.isSome_iff_exists.1 hap
   have e:aplD (nth (0,0,[]) row k) st.2=(ap1,ap2,()):=by unfold aplD;rw [hD2];rfl
   simp only [e]
   refine (qpK aN (fun b=>b<X.heap.size/\(w1.heap.size<=b\/M' b\/b=l)) X1 (nth (0,0,[]) row k,st.2,()) _ [.agg #[.int .i64 (nth (0,0,[]) row k).1,.int .i64 (nth (0,0,[]) row k).2.1,.slice (fa k).1 (nth (0,0,[]) row k).2.2.length (fa k).2],.slice ta st.2.length tc] (fun b h=>zP h.1 hb.size) (gX i X X1 hJ hb) ?_ hD2).mono ?_
   ·refine⟨_,_,rfl,qFt (fun _=>rfl) (RC.far (kX i X X1 hJ hb) (hfa k hk).2),_,_,rfl,?_,rfl⟩
    show RC X1 _ SK st.2 [_]
    have ht:RC w M' SK st.2 [.slice ta st.2.length tc]:=by
     unfold RC
     exact⟨ta,tc,rfl,htl,htc,htr⟩
    exact RC.far (kw i X X1 hJ hb) ht
   ·rintro e2 w2 ⟨v2,rfl,hb2',hrv2⟩
    have h7:RV w2 (fun b=>b<X.heap.size/\(w1.heap.size<=b\/M' b\/b=l)) [] σ0 (.tup [.sl (.int .i64) ap1,.int .i64 ap2]) v2:=hrv2
    simp only [RV,RVs] at h7
    obtain⟨cs,rfl,x1,x2,e3,h8,x3,x4,rfl,rfl,rfl⟩:=h7
    have h9:=h8
    unfold RC at h9
    obtain⟨ya,yc,e4,-⟩:=h9
    obtain rfl:x1=.slice ya ap1.length yc:=by simpa using e4
    refine⟨ya,ap1.length,yc,?_,hb2',fun _=>by simp only [RV];exact h8⟩
    have:cs = #[.slice ya ap1.length yc,.int .i64 ap2]:=by rw [<- Array.toList_inj];exact e3
    rw [this]
  ·intro k X0 X v hJ hk he hb hv2
   have hit:(arrXs wy st c)[qmp row st.2 k]? = some (aplD (nth (0,0,[]) row k) st.2).1:=by
    simp only [arrXs,hR]
    exact qDI hk he
   refine qzH (hy w1 (qmp row st.2 k) _ #[v] X0 X hit hJ hb ?_)
   simp only [RVs]
   exact⟨v,[],rfl,hv2,rfl⟩
  ·intro W' h
   have e:qmp row st.2 row.length=(arrXs wy st c).length:=by
    simp only [qmp,arrXs,hR,zAB,zh]
   rw [e] at h
   exact⟨w1,h⟩
 exact CallsIn.mono (F:=WF r) hin fun e W' h=>h
theorem qEk:IEntOk Tryz.prog Gs (mkI3 73 (.pair SG (.sl (.sl (.pair (.int .i64) SH)))) SH (.int .i64) SK arrOk arrXs):=entI3 ⟨Tryz.f73,qh Tryz.f73,by kernel_rfl,by kernel_rfl,rfl⟩ qFq
end Go.Proofs.YtgnnhemoocfclaaGreatDoor
end
