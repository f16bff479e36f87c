import Derived.Test.YtgnnhemoocfclaaDoorReaS
import Derived.Test.YtgnnhemoocfclaaDoorAbsPtr
import Derived.Test.YtgnnhemoocfclaaDoorReaM
import Derived.RangeFuncBox
import Derived.RangeFuncLeaves
import Derived.Shelf.Abstract
import Derived.WalkKit
import Derived.OwnWalkIn
import Derived.TacticsInMore
import Derived.LoopNIn
import Derived.LoopIn
import Derived.Deep.MidRow
import Derived.Deep.WholeRow
noncomputable section
namespace Go.Proofs.YtgnnhemoocfclaaDoor
open Go.Abs
abbrev SK:Sh:=.sl (.int .i64)
abbrev SI:Sh:=.pair (.int .i64) (.pair (.int .i64) (.pair (.int .i64) (.int .i64)))
abbrev SH:Sh:=.pair (.int .i64) (.sl (.int .i64))
abbrev SG:Sh:=.pair (.sl (.pair (.int .i64) (.pair (.int .i64) (.pair (.int .i64) (.pair (.int .i64) (.int .i64)))))) (.sl (.pair (.int .i64) (.pair (.int .i64) (.int .i64))))
abbrev Yo:Type:=Int×Int×List Int
abbrev Yn:Type:=List (Int×Int×Int×Int×Int)×List (Int×Int×Int)
abbrev qiU:List Kd:=[.dat (.pair (.int .i64) SH),.dat SK]
abbrev qiT:List Kd:=[.dat SK,.dat (.int .i64)]
abbrev qiR:Type:=Dens qiT
def qpx(_N:Nat):Ctx:={ T:=[(3,⟨.int .i64,1,8,some (.int .i64),[.int .i64 (0:Int)],false,[]⟩),(38,⟨.slice 3,1,24,some SK,[.nil],false,[]⟩),(40,⟨.struct [(0,3),(1,3),(2,38)],3,40,some (.pair (.int .i64) SH),[.int .i64 (0:Int),.int .i64 (0:Int),.nil],false,[]⟩)],G:=findE [mkP 42 qdb qcY (qbj _N),mkP 33 qcd qcc (qax _N),mkF 35 qat 3 (.int .i64) (qF _N),mkP 36 qbT qbS (qas _N)],I:=findI [],N:=_N,n:=48,fx:=[],fl:=0,gs:=Gs }
def qjf(_N:Nat)(_x1:Int×Int×List Int)(_x2:List Int):Option qiR:=
 ((qbj _N (_x2,())).bind fun _y5=>(bif (_y5.1 != (0:Int)) then (some ([],_y5.1,())) else ((qax _N ((_x1.1,(_x1.2.1,_x1.2.2)),(_x2.length:Int),())).bind fun _y6=>(bif (_y6.1 != (0:Int)) then (some ([],_y6.1,())) else (bif (decide (0<=(0:Int))&&(decide ((0:Int)<=_x1.1)&&decide (_x1.1<=(_x2.length:Int)))) then ((qF _N (((_x2.take _x1.1.toNat).drop (0:Int).toNat),())).bind fun _y7=>(bif (decide ((_y7.length+_x1.2.2.length)*8<=140737488355328)&&Nat.ble 1 8) then (bif (decide (0<=(IntKind.i64.wrap (_x1.1 - (1:Int))))&&decide ((IntKind.i64.wrap (_x1.1 - (1:Int)))<((_y7++_x1.2.2).length:Int))) then (bif (decide (0<=(IntKind.i64.wrap (_x1.1 - (1:Int))))&&decide ((IntKind.i64.wrap (_x1.1 - (1:Int)))<((_y7++_x1.2.2).length:Int))) then (bif (decide (0<=(IntKind.i64.wrap (_x1.1 - (1:Int))))&&decide ((IntKind.i64.wrap (_x1.1 - (1:Int)))<(((_y7++_x1.2.2).set ((IntKind.i64.wrap (_x1.1 - (1:Int))).toNat) (IntKind.i64.wrap ((nth (0:Int) (_y7++_x1.2.2) ((IntKind.i64.wrap (_x1.1 - (1:Int))).toNat))+_x1.2.1))).length:Int))) then ((qas _N ((nth (0:Int) ((_y7++_x1.2.2).set ((IntKind.i64.wrap (_x1.1 - (1:Int))).toNat) (IntKind.i64.wrap ((nth (0:Int) (_y7++_x1.2.2) ((IntKind.i64.wrap (_x1.1 - (1:Int))).toNat))+_x1.2.1))) ((IntKind.i64.wrap (_x1.1 - (1:Int))).toNat)),())).bind fun _y8=>(bif (!_y8.1) then (some ([],(6:Int),())) else (some (((_y7++_x1.2.2).set ((IntKind.i64.wrap (_x1.1 - (1:Int))).toNat) (IntKind.i64.wrap ((nth (0:Int) (_y7++_x1.2.2) ((IntKind.i64.wrap (_x1.1 - (1:Int))).toNat))+_x1.2.1))),(0:Int),())))) else none) else none) else none) else none)) else none)))))
def qdw(_N:Nat)(_x:Dens qiU):Option qiR:=qjf _N _x.1 _x.2.1
theorem qnx(_N:Nat):SpecD Tryd.prog Gs 20 qiU qiT (qdw _N):=mkSpD (fn:=Tryd.f20) (c:=qw Tryd.f20) (C:=qpx _N)
  (a:=.two .none (.two .none (.two .none (.two (.draw 1 [.pure,.pure,.rd [0],.pure,.new 1,.pure,.rd [0],.wr [1],.pure]) (.two (.draw 0 [.pure,.pure,.rd [0],.pure,.rd [1],.rd [1],.pure,.rd [0],.pure,.rd [1],.wr [1]]) .none)))))
  (by kernel_rfl) rfl (by kernel_rfl) (by kernel_rfl) ⟨rfl,by unfold TOk;kernel_rfl,qar rfl rfl (zF.2 ⟨qhG _N,(zF.2 ⟨qfO _N,(zF.2 ⟨qbB _N,(zF.2 ⟨qfd _N,(zC _)⟩)⟩)⟩)⟩),qaq rfl rfl (zC _),rfl⟩ (fun _x=>by kernel_rfl)
abbrev qfG:List Kd:=[.ptr (.pair SG (.sl (.sl (.pair (.int .i64) SH)))),.dat (.int .i64),.dat (.int .i64)]
abbrev qfE:List Kd:=[.dat (.sl (.pair (.int .i64) SH))]
abbrev qfD:Type:=Dens qfE
def qke(_N:Nat):Ctx:={ T:=[(22,⟨.slice 37,1,24,some (.sl (.pair (.int .i64) SI)),[.nil],false,[]⟩),(25,⟨.struct [(0,22),(1,23)],2,48,some SG,[.nil,.nil],false,[]⟩),(26,⟨.slice 33,1,24,some (.sl (.sl (.pair (.int .i64) SH))),[.nil],false,[]⟩),(33,⟨.slice 40,1,24,some (.sl (.pair (.int .i64) SH)),[.nil],false,[]⟩),(82,⟨.struct [(0,25),(2,26)],3,72,some (.pair SG (.sl (.sl (.pair (.int .i64) SH)))),[.nil,.nil,.nil],false,[]⟩)],G:=findE [],I:=findI [],N:=_N,n:=23,fx:=[],fl:=0,gs:=Gs }
def qkb(_N:Nat)(_x1:Yn×List (List Yo))(_x2:Int)(_x3:Int):Option qfD:=
 (bif (decide (0<=(IntKind.i64.wrap ((IntKind.i64.wrap (_x2*(_x1.1.1.length:Int)))+_x3)))&&decide ((IntKind.i64.wrap ((IntKind.i64.wrap (_x2*(_x1.1.1.length:Int)))+_x3))<(_x1.2.length:Int))) then (some ((nth ([]) _x1.2 (IntKind.i64.wrap ((IntKind.i64.wrap (_x2*(_x1.1.1.length:Int)))+_x3)).toNat),())) else none)
def qfS(_N:Nat)(_x:Dens qfG):Option qfD:=qkb _N _x.1 _x.2.1 _x.2.2.1
theorem qjg(_N:Nat):SpecD Tryd.prog Gs 77 qfG qfE (qfS _N):=mkSpD (fn:=Tryd.f77) (c:=qw Tryd.f77) (C:=qke _N)
  (a:=.two .none (.two (.draw 0 [.pure,.pure,.pure,.pure,.pure,.pure,.pure,.pure,.pure,.pure,.pure,.pure,.pure,.pure,.pure,.pure,.pure]) .none))
  (by kernel_rfl) rfl (by kernel_rfl) (by kernel_rfl) ⟨rfl,by unfold TOk;kernel_rfl,qar rfl rfl (zC _),qaq rfl rfl (zC _),rfl⟩ (fun _x=>by kernel_rfl)
abbrev qbs:List Kd:=[.ptr (.pair SG (.sl (.sl (.pair (.int .i64) SH)))),.dat SH,.dat (.int .i64)]
abbrev qeU:Type:=(Yn×List (List Yo))×(Int×List Int)×Int
def qjI(_N:Nat):Ctx:={ T:=[],G:=findE [],I:=findI [],N:=_N,n:=8,fx:=[],fl:=0,gs:=Gs }
def qdq(_N:Nat)(_x1:Yn×List (List Yo))(_x2:Int×List Int)(_x3:Int):Option qeU:=
 (some (_x1,(_x2.1,_x2.2),_x3))
def qau(_N:Nat)(_x:Dens qbs):Option qeU:=qdq _N _x.1 _x.2.1 _x.2.2.1
theorem qiW(_N:Nat):qwH Tryd.prog Gs 55 qbs 76 (.pair SG (.sl (.sl (.pair (.int .i64) SH)))) SH (.int .i64) (qau _N):=qBY (fn:=Tryd.f55) (c:=qw Tryd.f55) (C:=qjI _N)
  (a:=.none)
  (by kernel_rfl) rfl (by kernel_rfl) (by kernel_rfl) ⟨rfl,by unfold TOk;kernel_rfl,qar rfl rfl (zC _),qaq rfl rfl (zC _),rfl⟩ (fun _x=>by kernel_rfl)
theorem qeT(_N:Nat):EntOk Tryd.prog Gs (mkB3 55 qbs 76 (.pair SG (.sl (.sl (.pair (.int .i64) SH)))) SH (.int .i64) (qau _N)):=entB3 ⟨Tryd.f55,qw Tryd.f55,by kernel_rfl,by kernel_rfl,rfl⟩ (qiW _N)
abbrev qee:List Kd:=[.dat SG,.dat SH]
abbrev qeb:List Kd:=[.dat (.int .i64)]
abbrev qkw:Type:=Dens qeb
def qsC(_N:Nat):Ctx:={ T:=[(3,⟨.int .i64,1,8,some (.int .i64),[.int .i64 (0:Int)],false,[]⟩),(22,⟨.slice 37,1,24,some (.sl (.pair (.int .i64) SI)),[.nil],false,[]⟩),(25,⟨.struct [(0,22),(1,23)],2,48,some SG,[.nil,.nil],false,[]⟩),(37,⟨.struct [(0,3),(1,3),(2,35)],5,40,some (.pair (.int .i64) SI),[.int .i64 (0:Int),.int .i64 (0:Int),.int .i64 (0:Int),.int .i64 (0:Int),.int .i64 (0:Int)],true,[]⟩),(38,⟨.slice 3,1,24,some SK,[.nil],false,[]⟩),(52,⟨.struct [(0,3),(1,38)],2,32,some SH,[.int .i64 (0:Int),.nil],false,[]⟩)],G:=findE [mkP 42 qdb qcY (qbj _N)],I:=findI [],N:=_N,n:=34,fx:=[],fl:=0,gs:=Gs }
def qlx(_N:Nat)(_x1:List (Int×Int×Int×Int×Int)×List (Int×Int×Int))(_x2:Int×List Int):Option qkw:=
 (bif (decide (_x2.1<(0:Int))) then (some ((2:Int),())) else (bif (decide (_x2.1>=(_x1.1.length:Int))) then (some ((2:Int),())) else ((qbj _N (_x2.2,())).bind fun _y2=>(bif (_y2.1 != (0:Int)) then (some (_y2.1,())) else (bif (decide (0<=_x2.1)&&decide (_x2.1<(_x1.1.length:Int))) then (bif ((_x2.2.length:Int) != (((nth ((0:Int),((0:Int),((0:Int),((0:Int),(0:Int))))) _x1.1 (_x2.1).toNat).2).1)) then (some ((7:Int),())) else (some ((0:Int),()))) else none)))))
def qaW(_N:Nat)(_x:Dens qee):Option qkw:=qlx _N _x.1 _x.2.1
theorem qpJ(_N:Nat):SpecD Tryd.prog Gs 38 qee qeb (qaW _N):=mkSpD (fn:=Tryd.f38) (c:=qw Tryd.f38) (C:=qsC _N)
  (a:=.two .none (.two .none (.two .none (.two (.two (.draw 0 [.pure,.rd [1],.pure,.pure,.rd [0],.pure,.rd [1],.pure,.pure,.pure,.pure]) .none) .none))))
  (by kernel_rfl) rfl (by kernel_rfl) (by kernel_rfl) ⟨rfl,by unfold TOk;kernel_rfl,qar rfl rfl (zF.2 ⟨qhG _N,(zC _)⟩),qaq rfl rfl (zC _),rfl⟩ (fun _x=>by kernel_rfl)
theorem qko(_N:Nat):EntOk Tryd.prog Gs (mkP 38 qee qeb (qaW _N)):=entP ⟨Tryd.f38,qw Tryd.f38,by kernel_rfl,by kernel_rfl,rfl⟩ (by kernel_rfl) (qpJ _N)
end Go.Proofs.YtgnnhemoocfclaaDoor
namespace Go.Proofs.YtgnnhemoocfclaaDoor
open Go.Abs Go.RowKit Go.Shelf
abbrev smS:Sh:=.pair (.int .i64) SH
abbrev ndS:Sh:=.pair (.int .i64) SI
abbrev edS:Sh:=.pair (.int .i64) (.pair (.int .i64) (.int .i64))
abbrev wyS:Sh:=.pair (.pair (.sl ndS) (.sl edS)) (.sl (.sl smS))
abbrev stS:Sh:=.pair (.int .i64) SK
abbrev aN:Nat:=200000000
abbrev arrIx(w:wyS.den)(s:stS.den)(c:Int):Int:=IntKind.i64.wrap (IntKind.i64.wrap (s.1*(w.1.1.length:Int))+c)
abbrev qkr(w:wyS.den)(s:stS.den)(c:Int):List Yo:=nth [] w.2 (arrIx w s c).toNat
def aplD(x:Int×Int×List Int)(t:List Int):List Int×Int×Unit:=(qdw aN (x,t,())).getD ([],1,())
def arrXs(w:wyS.den)(s:stS.den)(c:Int):List (List Int):=((qkr w s c).filter fun x=>(aplD x s.2).2.1==0).map fun x=>(aplD x s.2).1
def arrOk(w:wyS.den)(s:stS.den)(c:Int):Bool:=(decide (0<=arrIx w s c)&&decide (arrIx w s c<(w.2.length:Int)))&&(qkr w s c).all fun x=>(qdw aN (x,s.2,())).isSome
attribute [local go_sem] Oper.semAt_some
def natOf:Value->Nat
 | .int _ n=>n.toNat
 | _=>0
structure ArrJ (n l b2 q2:Nat) (ta:Option Addr) (tn tc len:Nat) (Post:World->Prop) (rv:Option Addr) (cap:Nat) (w':World):Prop where
 ex:∃ (J:Nat->World->Prop) (Jx:World->Prop) (bR qR:Nat) (e0 e1:Nat->Int) (ea:Nat->Option Addr) (en ec:Nat->Nat) (er:Nat->Int) (yv:Nat->World->World->Value->Prop) (cnt:Nat->Nat),
  (∀ i X,J i X->X.cell? ⟨b2,q2+1,none⟩=some (.slice ta tn tc))/\(len≠0->rv=some ⟨bR,qR,none⟩)/\(len<=cap/\cap<=maxI)/\cnt 0=0/\(∀ k,k<len->er k=0->cnt (k+1)=cnt k+1)/\(∀ k,k<len->er k≠0->cnt (k+1)=cnt k)/\(∀ i X Y,J i X->Go.Abs.Below X.heap.size X Y->J i Y) /\
  (∀ i X,J i X->∀ k,k<len->X.cell? ⟨bR,qR+k*3,none⟩=some (.int .i64 (e0 k))/\X.cell? ⟨bR,qR+k*3+1,none⟩=some (.int .i64 (e1 k))/\X.cell? ⟨bR,qR+k*3+2,none⟩=some (.slice (ea k) (en k) (ec k))) /\
  (∀ i X X1 k,J i X->k<len->Go.Abs.Below X.heap.size X X1->Calls Tryd.prog 20 #[.agg #[.int .i64 (e0 k),.int .i64 (e1 k),.slice (ea k) (en k) (ec k)],.slice ta tn tc] X1 fun e w'=>∃ ya yn yc,e=.returned (.tuple #[.slice ya yn yc,.int .i64 (er k)])/\Go.Abs.Below X1.heap.size X1 w'/\(er k=0->yv k X w' (.slice ya yn yc))) /\
  (∀ k X0 X v,J (cnt k) X0->k<len->er k=0->Go.Abs.Below X0.heap.size X0 X->yv k X0 X v->YieldAt Fence.wide (n - 1) Tryd.prog l #[v] X fun e W'=>(e=.returned (.bool true)/\J (cnt k+1) W')\/(e=.returned (.bool false)/\Jx W')) /\
  (∀ W',J (cnt len) W'\/Jx W'->Post W')/\J 0 w'
set_option maxRecDepth 100000 in
set_option maxHeartbeats 1500000 in
theorem qCh(n l b1 q1 b2 q2 b3 q3 b' q':Nat)(at_ c:Int)(ta:Option Addr)(tn tc len:Nat)(Post:World->Prop)(W:World)
  (c1:W.cell? ⟨b1,q1,none⟩=some (.pointer (some ⟨b',q',none⟩)))
  (c2:W.cell? ⟨b2,q2,none⟩=some (.int .i64 at_))
  (c3:W.cell? ⟨b3,q3,none⟩=some (.int .i64 c))
  (hlt2:∀ w',Go.Abs.Below W.heap.size W w'->b2<w'.heap.size)
  (hB:Calls Tryd.prog 77 #[.pointer (some ⟨b',q',none⟩),.int .i64 at_,.int .i64 c] W fun e w'=>∃ rv cap,e=.returned (.slice rv len cap)/\ArrJ n l b2 q2 ta tn tc len Post rv cap w') :
  CallsIn Fence.wide n Tryd.prog 76 #[.func (.yield l) #[] #[],.pointer (some ⟨b1,q1,none⟩),.pointer (some ⟨b2,q2,none⟩),.pointer (some ⟨b3,q3,none⟩)] W fun e W'=>(∃ v,e=.returned v)/\Post W':=by
 refine callsIn_of_wp Tryd.func76 rfl trivial ?_ rfl
 simp only [Tryd.ntmps76,List.size_toArray,List.length_cons,List.length_nil,Nat.reduceAdd,Nat.reduceSub,Array.replicate_succ,Array.replicate_zero,List.push_toArray,List.append_toArray,List.nil_append,List.cons_append]
 gi_wp2
 refine⟨trivial,fun h=>(by cases h),((callsIn_wide (n:=n - 1)).2 hB).mono ?_⟩
 rintro e w' ⟨rv,cap,rfl,⟨J,Jx,bR,qR,e0,e1,ea,en,ec,er,yv,cnt,h2t,hrv,hcap,hc0,hc1,hc2,hJg,hE,hA,hY,hPost,hJ⟩⟩
 clear c1 c2 c3 hB hlt2
 gi_wp2
 gi_loopw [15] (fun p wr=>∃ k:Nat,p=.int .i64 (k:Int)/\k<=len/\J (cnt k) wr) (fun p _=>len - natOf p)
 case atStart=>exact⟨0,rfl,zq _,by rw [hc0];exact hJ⟩
 case round=>
  obtain⟨k,rfl,hk,hJk⟩:=hrel
  by_cases hend:k=len
  ·subst hend
   have hlt:((k:Int)<(k:Int))=False:=by simp
   gi_wp2
   go_end0
   exact⟨⟨_,rfl⟩,hPost _ (.inl hJk)⟩
  ·have hlt:(k:Int)<(len:Int):=by omega
   obtain rfl:=hrv (by omega)
   obtain⟨d0,d1,d2⟩:=hE _ wr hJk k (by omega)
   have t2:=h2t _ wr hJk
   have hlt2:b2<wr.heap.size:=by
    obtain⟨o,ho,-⟩:=cells_of_cell t2
    exact (zI.1 ho).1
   unfold maxI at hcap
   gi_wp2
   refine⟨trivial,fun h=>(by cases h),?_⟩
   have hbel:Go.Abs.Below wr.heap.size wr (wr.alloc (.cells #[.int .i64 (e0 k),.int .i64 (e1 k),.slice (ea k) (en k) (ec k)] 40)):=(Go.Abs.Below.refl _ _).alloc (Nat.le_refl _) _
   refine ((callsIn_wide (n:=n - 1)).2 (hA _ wr _ k hJk (show k<len by omega) hbel)).mono ?_
   rintro e w2 ⟨ya,yn,yc,rfl,hb,hyv⟩
   have hb2:Go.Abs.Below wr.heap.size wr w2:=hbel.trans (hb.mono hbel.size)
   by_cases he:er k=0
   ·obtain⟨fn,tmps,assign,body,hyy,hR⟩:=hY k wr w2 _ hJk (show k<len by omega) he hb2 (hyv he)
    have hee:(er k==0)=true:=beq_iff_eq.2 he
    gi_wp2_with gi_in
    refine⟨fun h=>(by cases h),hR.mono ?_⟩
    rintro e W3 (⟨rfl,hJ3⟩ | ⟨rfl,hJ3⟩)
    ·gi_wp2
     go_roundw
     case rel=>exact⟨k+1,by simp,by omega,by rw [hc1 k (by omega) he];exact hJ3⟩
     case measure=>
      simp only [natOf]
      omega
    ·gi_wp2
     refine bodyPost_ret (results_none rfl _ _ _) rfl ?_
     exact⟨⟨_,rfl⟩,hPost _ (.inr hJ3)⟩
   ·have hee:(er k==0)=false:=zl he
    gi_wp2
    refine⟨fun f h=>(by cases h),?_⟩
    gi_wp2
    go_roundw
    case rel=>exact⟨k+1,by simp,by omega,by rw [hc2 k (by omega) he];exact hJg _ _ _ hJk hb2⟩
    case measure=>
     simp only [natOf]
     omega
theorem qwM{r:Option Nat}{n n':Nat}{P:Program}{l:Nat}{args:Array Value}{X:World}{R:Ending->World->Prop}(h:YieldAt (WF r) n P l args X R):YieldAt Fence.wide n' P l args X R:=by
 obtain⟨fn,tmps,c,d,hr,h1,h2⟩:=h
 exact⟨fn,tmps,c,d,hr,h1,fun c cs _=>h2 c cs (room_wide _)⟩
def qks(row:List Yo)(t:List Int)(k:Nat):Nat:=((row.take k).filter fun x=>(aplD x t).2.1==0).length
theorem qpn{row:List Yo}{t:List Int}{k:Nat}(hk:k<row.length):qks row t (k+1)=qks row t k+if (aplD (nth (0,0,[]) row k) t).2.1=0 then 1 else 0:=by
 unfold qks
 rw [zm hk,zAg,zR,qcR hk]
 by_cases e:(aplD row[k] t).2.1=0
 ·rw [zH e,zBC (by simpa using e)];rfl
 ·rw [zK e,zBS (by simpa using e)];rfl
theorem qAz{row:List Yo}{t:List Int}{k:Nat}(hk:k<row.length)(he:(aplD (nth (0,0,[]) row k) t).2.1=0) :
  ((row.filter fun x=>(aplD x t).2.1==0).map fun x=>(aplD x t).1)[qks row t k]? = some (aplD (nth (0,0,[]) row k) t).1:=by
 rw [qcR hk] at he ⊢
 have e1:row=row.take k++row[k] :: row.drop (k+1):=by rw [<- zAW hk,zAq]
 have e2:row.filter (fun x=>(aplD x t).2.1==0)=(row.take k).filter (fun x=>(aplD x t).2.1==0)++row[k] :: (row.drop (k+1)).filter (fun x=>(aplD x t).2.1==0):=by
  conv=>lhs;rw [e1]
  rw [zAg,zBC (by simpa using he)]
 rw [e2,zAm,List.map_cons,zAC (by rw [zAQ];exact Nat.le_refl _),zAQ]
 simp [qks]
theorem qBV{X:World}{M:Nat->Prop}{s:Sh}(hs:∀ x,enc s x=.agg (encL s x)){x:s.den}{cs:List Value}(h:RC X M s x cs):RV X M [] σ0 (enc s x) (.agg cs.toArray):=by
 rw [hs]
 simp only [RV]
 exact⟨cs.toArray,rfl,RC.one1 s h,RC.encL s h⟩
set_option maxHeartbeats 1000000 in
theorem qBS:qAW Tryd.prog Gs 76 wyS stS (.int .i64) SK arrOk arrXs:=by
 intro Mx M' w wy st c vs hok hMM hlt hgw hgm hv r n l J Jx W hW hl hl' h0 hg hgx hp hy
 have hvs:=hv
 simp only [RVs,RV] at hv
 obtain⟨_,_,rfl,⟨b1,q1,b',q',wcs,rfl,hb1,hm1,hc1,hb',hm',hc',hr'⟩,_,_,rfl,⟨b2,q2,scs,rfl,hb2,hm2,hc2,hr2⟩,_,_,rfl,⟨b3,q3,ccs,rfl,hb3,hm3,hc3,hr3⟩,rfl⟩:=hv
 have hr2':=hr2
 simp only [RC] at hr2 hr3
 obtain⟨s1,s2,rfl,rfl,ta,tc,rfl,htl,htc,htr⟩:=hr2
 subst hr3
 simp only [arrOk,zA,zM,zb] at hok
 obtain⟨⟨hi0,hi1⟩,hall⟩:=hok
 have hWs:=hW.size
 have kW:∀ b,b<w.heap.size->¬ M' b->b<W.heap.size/\¬ (M' b\/b=l)/\W.heap[b]? = w.heap[b]?:=fun b hb hm=>⟨by omega,by rintro (h | h);exact hm h;omega,hW.block b hb⟩
 have gW:GW Gs W:=fun p hp'=>by
  obtain⟨g1,g2⟩:=hgw p hp'
  exact⟨by omega,fun j v hj=>(World.cell?_of_block (w:=w) (hW.block _ g1)).trans (g2 j v hj)⟩
 have cW:∀ b q v,b<w.heap.size->w.cell? ⟨b,q,none⟩=some v->W.cell? ⟨b,q,none⟩=some v:=fun b q v hb h=>(World.cell?_of_block (w:=w) (hW.block b hb)).trans h
 have hMW:∀ b,(M' b\/b=l)->b<W.heap.size:=by
  rintro b (h | rfl)
  ·have:=hlt b h;omega
  ·exact hl'
 have hin:CallsIn Fence.wide n Tryd.prog 76 #[.func (.yield l) #[] #[],.pointer (some ⟨b1,q1,none⟩),.pointer (some ⟨b2,q2,none⟩),.pointer (some ⟨b3,q3,none⟩)] W fun e W'=>(∃ v,e=.returned v)/\∃ B,J B (arrXs wy st c).length W'\/Jx B W':=by
  refine qCh n l b1 q1 b2 q2 b3 q3 b' q' st.1 c ta st.2.length tc (qkr wy st c).length _ W (cW _ _ _ hb1 (by simpa using hc1 0 _ rfl)) (cW _ _ _ hb2 (by simpa using hc2 0 _ rfl)) (cW _ _ _ hb3 (by simpa using hc3 0 _ rfl)) (fun w' hb=>by have:=hb.size;omega) ?_
  have hD:qfS aN (wy,st.1,c,())=some (qkr wy st c,()):=by
   show (bif (decide (0<=arrIx wy st c)&&decide (arrIx wy st c<(wy.2.length:Int))) then some (qkr wy st c,()) else none)=_
   rw [decide_eq_true hi0,decide_eq_true hi1];rfl
  refine (qjg aN (fun b=>M' b\/b=l) W (wy,st.1,c,()) _ [.pointer (some ⟨b',q',none⟩),.int .i64 st.1,.int .i64 c] hMW gW ?_ hD).mono ?_
  ·exact⟨_,_,rfl,⟨b',q',wcs,rfl,(kW b' hb' hm').1,(kW b' hb' hm').2.1,fun j v hj=>cW _ _ _ hb' (hc' j v hj),RC.far kW hr'⟩,_,_,rfl,rfl,_,_,rfl,rfl,rfl⟩
  rintro e w1 ⟨v,rfl,hbw,hrv⟩
  have hrv':RV w1 (fun b=>M' b\/b=l) [] σ0 (.sl smS (qkr wy st c)) v:=hrv
  simp only [RV] at hrv'
  unfold RC at hrv'
  obtain⟨rv,cap,hvv,hcap1,hcap2,hrow⟩:=hrv'
  obtain rfl:v=.slice rv (qkr wy st c).length cap:=by simpa using hvv
  refine⟨rv,cap,rfl,⟨?_⟩⟩
  have hbs:=hbw.size
  generalize hR:qkr wy st c=row at hcap1 hrow hall ⊢
  obtain⟨bR,qR,hab⟩:∃ b q,row ≠ []->rv=some ⟨b,q,none⟩/\b<w1.heap.size/\¬ (M' b\/b=l)/\RowAt (RC w1 (fun b=>M' b\/b=l) smS) smS.n w1 b q row:=by
   by_cases hx:row = []
   ·exact⟨0,0,fun h=>absurd hx h⟩
   ·obtain⟨b,q,h⟩:=hrow hx
    exact⟨b,q,fun _=>h⟩
  have kX:∀ i X X1,J w1 i X->Go.Abs.Below X.heap.size X X1->∀ b,b<w1.heap.size->¬ (M' b\/b=l)->b<X1.heap.size/\¬ (b<X.heap.size/\(w1.heap.size<=b\/M' b\/b=l))/\X1.heap[b]? = w1.heap[b]?:=fun i X X1 hJ hb b h1 h2=>by
   obtain⟨p1,p2⟩:=hp w1 i X hJ
   have:=hb.size
   refine⟨by omega,?_,?_⟩
   ·rintro⟨-,h | h⟩
    ·omega
    ·exact h2 h
   ·rw [hb.block b (by omega),p2 b h1 (fun e=>h2 (.inr e)) (fun hm=>h2 (.inl (hMM b hm)))]
  have kw:∀ i X X1,J w1 i X->Go.Abs.Below X.heap.size X X1->∀ b,b<w.heap.size->¬ M' b->b<X1.heap.size/\¬ (b<X.heap.size/\(w1.heap.size<=b\/M' b\/b=l))/\X1.heap[b]? = w.heap[b]?:=fun i X X1 hJ hb b h1 h2=>by
   obtain⟨p1,p2,p3⟩:=kX i X X1 hJ hb b (by omega) (by rintro (h | h);exact h2 h;omega)
   exact⟨p1,p2,by rw [p3,hbw.block b (by omega),hW.block b h1]⟩
  have gX:∀ i X X1,J w1 i X->Go.Abs.Below X.heap.size X X1->GW Gs X1:=fun i X X1 hJ hb p hp'=>by
   obtain⟨g1,g2⟩:=hgw p hp'
   obtain⟨p1,p2⟩:=hp w1 i X hJ
   have:=hb.size
   have e:X1.heap[p.1]? = w.heap[p.1]?:=by rw [hb.block _ (by omega),p2 p.1 (by omega) (by omega) (hgm p hp'),hbw.block _ (by omega),hW.block _ g1]
   exact⟨by omega,fun j v hj=>(World.cell?_of_block (w:=w) e).trans (g2 j v hj)⟩
  have hel:∀ k:Nat,∃ p:Option Addr×Nat,k<row.length->qaC w1 bR (qR+k*3) [.int .i64 (nth (0,0,[]) row k).1,.int .i64 (nth (0,0,[]) row k).2.1,.slice p.1 (nth (0,0,[]) row k).2.2.length p.2] /\
    RC w1 (fun b=>M' b\/b=l) smS (nth (0,0,[]) row k) [.int .i64 (nth (0,0,[]) row k).1,.int .i64 (nth (0,0,[]) row k).2.1,.slice p.1 (nth (0,0,[]) row k).2.2.length p.2]:=fun k=>by
   by_cases hk:k<row.length
   ·obtain⟨-,-,-,h3⟩:=hab (fun e=>by rw [e] at hk;simp at hk)
    obtain⟨cs,h4,h5⟩:=h3 k (nth (0,0,[]) row k) (by simp [nth,hk])
    have h6:=h5
    simp only [RC] at h6
    obtain⟨_,_,rfl,rfl,_,_,rfl,rfl,a,cp,rfl,-⟩:=h6
    exact⟨(a,cp),fun _=>⟨h4,h5⟩⟩
   ·exact⟨(none,0),fun h=>absurd h hk⟩
  obtain⟨fa,hfa⟩:=Classical.axiomOfChoice hel
  have hne:∀ {k:Nat},k<row.length->row ≠ []:=fun hk e=>by rw [e] at hk;simp at hk
  refine⟨J w1,Jx w1,bR,qR,fun k=>(nth (0,0,[]) row k).1,fun k=>(nth (0,0,[]) row k).2.1,fun k=>(fa k).1,fun k=>(nth (0,0,[]) row k).2.2.length,fun k=>(fa k).2,fun k=>(aplD (nth (0,0,[]) row k) st.2).2.1,fun k X0 X v=>RV X (fun b=>b<X0.heap.size/\(w1.heap.size<=b\/M' b\/b=l)) [] σ0 (.sl (.int .i64) (aplD (nth (0,0,[]) row k) st.2).1) v,qks row st.2,?_,?_,⟨hcap1,hcap2⟩,rfl,?_,?_,hg w1,?_,?_,?_,?_,h0 w1 hbw⟩
  ·intro i X hJ
   exact (World.cell?_of_block (w:=w) (kw i X X hJ (Go.Abs.Below.refl _ _) b2 hb2 hm2).2.2).trans (hc2 1 _ rfl)
  ·intro h
   exact (hab (fun e=>by rw [e] at h;exact h rfl)).1
  ·intro k hk he
   rw [qpn hk,zH he]
  ·intro k hk he
   rw [qpn hk,zK he,Nat.add_zero]
  ·intro i X hJ k hk
   obtain⟨-,h1,h2,-⟩:=hab (hne hk)
   have e:=(kX i X X hJ (Go.Abs.Below.refl _ _) bR h1 h2).2.2
   have h3:=(hfa k hk).1
   exact⟨(World.cell?_of_block (w:=w1) e).trans (h3 0 _ rfl),(World.cell?_of_block (w:=w1) e).trans (h3 1 _ rfl),(World.cell?_of_block (w:=w1) e).trans (h3 2 _ rfl)⟩
  ·intro i X X1 k hJ hk hb
   have hap:=hall (nth (0,0,[]) row k) (by rw [qcR hk];exact zAo hk)
   obtain⟨⟨ap1,ap2,⟨⟩⟩,hD2⟩:=Option.isSome_iff_exists.1 hap
   have e:aplD (nth (0,0,[]) row k) st.2=(ap1,ap2,()):=by unfold aplD;rw [hD2];rfl
   simp only [e]
   refine (qnx aN (fun b=>b<X.heap.size/\(w1.heap.size<=b\/M' b\/b=l)) X1 (nth (0,0,[]) row k,st.2,()) _ [.agg #[.int .i64 (nth (0,0,[]) row k).1,.int .i64 (nth (0,0,[]) row k).2.1,.slice (fa k).1 (nth (0,0,[]) row k).2.2.length (fa k).2],.slice ta st.2.length tc] (fun b h=>zO h.1 hb.size) (gX i X X1 hJ hb) ?_ hD2).mono ?_
   ·refine⟨_,_,rfl,qBV (fun _=>rfl) (RC.far (kX i X X1 hJ hb) (hfa k hk).2),_,_,rfl,?_,rfl⟩
    show RC X1 _ SK st.2 [_]
    have ht:RC w M' SK st.2 [.slice ta st.2.length tc]:=by
     unfold RC
     exact⟨ta,tc,rfl,htl,htc,htr⟩
    exact RC.far (kw i X X1 hJ hb) ht
   ·rintro e2 w2 ⟨v2,rfl,hb2',hrv2⟩
    have h7:RV w2 (fun b=>b<X.heap.size/\(w1.heap.size<=b\/M' b\/b=l)) [] σ0 (.tup [.sl (.int .i64) ap1,.int .i64 ap2]) v2:=hrv2
    simp only [RV,RVs] at h7
    obtain⟨cs,rfl,x1,x2,e3,h8,x3,x4,rfl,rfl,rfl⟩:=h7
    have h9:=h8
    unfold RC at h9
    obtain⟨ya,yc,e4,-⟩:=h9
    obtain rfl:x1=.slice ya ap1.length yc:=by simpa using e4
    refine⟨ya,ap1.length,yc,?_,hb2',fun _=>by simp only [RV];exact h8⟩
    have:cs = #[.slice ya ap1.length yc,.int .i64 ap2]:=by rw [<- Array.toList_inj];exact e3
    rw [this]
  ·intro k X0 X v hJ hk he hb hv2
   have hit:(arrXs wy st c)[qks row st.2 k]? = some (aplD (nth (0,0,[]) row k) st.2).1:=by
    simp only [arrXs,hR]
    exact qAz hk he
   refine qwM (hy w1 (qks row st.2 k) _ #[v] X0 X hit hJ hb ?_)
   simp only [RVs]
   exact⟨v,[],rfl,hv2,rfl⟩
  ·intro W' h
   have e:qks row st.2 row.length=(arrXs wy st c).length:=by
    simp only [qks,arrXs,hR,zAP,zAQ]
   rw [e] at h
   exact⟨w1,h⟩
 exact CallsIn.mono (F:=WF r) hin fun e W' h=>h
theorem qAU:IEntOk Tryd.prog Gs (mkI3 76 (.pair SG (.sl (.sl (.pair (.int .i64) SH)))) SH (.int .i64) SK arrOk arrXs):=entI3 ⟨Tryd.f76,qw Tryd.f76,by kernel_rfl,by kernel_rfl,rfl⟩ qBS
end Go.Proofs.YtgnnhemoocfclaaDoor
end
