import Derived.Test.YtgnnhemoocfclaaGreatDoorReaE
import Derived.WalkKit
import Derived.OwnWalkIn
import Derived.TacticsInMore
import Derived.LoopNIn
import Derived.LoopIn
import Derived.Laws.IdiomRangeMap
import Derived.Test.YtgnnhemoocfclaaGreatDoorAbsMp
import Derived.Test.YtgnnhemoocfclaaGreatDoorAbsPtr
noncomputable section
namespace Go.Proofs.YtgnnhemoocfclaaGreatDoor
open Go.Abs
abbrev Sac:Sh:=.sl (.int .i64)
abbrev Sab:Sh:=.pair (.int .i64) (.sl (.int .i64))
abbrev Saa:Sh:=.pair (.int .i64) (.pair (.int .i64) (.int .i64))
abbrev SY:Sh:=.pair (.int .i64) (.pair (.sl (.int .i64)) (.int .i64))
abbrev SX:Sh:=.pair (.int .i64) (.pair (.int .i64) (.pair (.int .i64) (.pair (.int .i64) (.int .i64))))
abbrev YA:Type:=Int×Int×Int
abbrev Yz:Type:=Int×List Int
abbrev Yy:Type:=Int×Int×Int×Int×Int
abbrev Yx:Type:=List (Int×Int×List Int)
abbrev Yw:Type:=Int×List Int×Int
abbrev Yv:Type:=List (Int×Int×Int×Int×Int)×List (Int×Int×Int)
abbrev Yu:Type:=Int×(Int×Int×Int×Int×Int×Int)×Int
abbrev qeO:List Kd:=[.dat (.int .i64),.dat Sac]
abbrev qeK:List Kd:=[.dat (.pair (.int .i64) SX)]
abbrev qms:Type:=Dens qeK
def qoh(_N:Nat):Ctx:={ T:=[(3,⟨.int .i64,1,8,some (.int .i64),[.int .i64 (0:Int)],false,[]⟩),(27,⟨.slice 3,1,24,some Sac,[.nil],false,[]⟩),(99,⟨.array 4 3,4,32,some (.pair (.int .i64) Saa),[.int .i64 (0:Int),.int .i64 (0:Int),.int .i64 (0:Int),.int .i64 (0:Int)],false,[]⟩),(101,⟨.struct [(0,3),(1,3),(2,99)],6,48,some (.pair (.int .i64) SX),[.int .i64 (0:Int),.int .i64 (0:Int),.int .i64 (0:Int),.int .i64 (0:Int),.int .i64 (0:Int),.int .i64 (0:Int)],true,[]⟩)],G:=findE [],I:=findI [],N:=_N,n:=15,fx:=[],fl:=0,gs:=Gs }
def qtL(_N:Nat)(_x1:Int)(_x2:List Int):Option qms:=
 (some ((_x1,((_x2.length:Int),((nth (0:Int) (cpy ([(0:Int),(0:Int),(0:Int),(0:Int)]:List Int) _x2) 0),((nth (0:Int) (cpy ([(0:Int),(0:Int),(0:Int),(0:Int)]:List Int) _x2) 1),((nth (0:Int) (cpy ([(0:Int),(0:Int),(0:Int),(0:Int)]:List Int) _x2) 2),(nth (0:Int) (cpy ([(0:Int),(0:Int),(0:Int),(0:Int)]:List Int) _x2) 3)))))),()))
def qcH(_N:Nat)(_x:Dens qeO):Option qms:=qtL _N _x.1 _x.2.1
theorem qsj(_N:Nat):SpecD Tryz.prog Gs 68 qeO qeK (qcH _N):=mkSpD (fn:=Tryz.f68) (c:=qh Tryz.f68) (C:=qoh _N)
  (a:=.none)
  (by kernel_rfl) rfl (by kernel_rfl) (by kernel_rfl) ⟨rfl,by unfold TOk;kernel_rfl,qak rfl rfl (zC _),qaj rfl rfl (zC _),rfl⟩ (fun _x=>by kernel_rfl)
theorem qmk(_N:Nat):EntOk Tryz.prog Gs (mkP 68 qeO qeK (qcH _N)):=entP ⟨Tryz.f68,qh Tryz.f68,by kernel_rfl,by kernel_rfl,rfl⟩ (by kernel_rfl) (qsj _N)
abbrev qfO:List Kd:=[.dat SY,.dat SY]
abbrev qfK:List Kd:=[.dat (.int .i64)]
abbrev qfI:Type:=Dens qfK
def qkF(_N:Nat):Ctx:={ T:=[(3,⟨.int .i64,1,8,some (.int .i64),[.int .i64 (0:Int)],false,[]⟩),(27,⟨.slice 3,1,24,some Sac,[.nil],false,[]⟩),(43,⟨.struct [(0,3),(1,27),(2,2)],3,40,some SY,[.int .i64 (0:Int),.nil,.int .i64 (0:Int)],false,[]⟩)],G:=findE [mkP 42 qbW qbV (qaB _N),mkP 43 qaZ qaY (qH _N),mkP 41 qfQ qfM (qch _N)],I:=findI [],N:=_N,n:=17,fx:=[],fl:=0,gs:=Gs }
def qfS(_N:Nat)(_x1:Int×List Int×Int)(_x2:Int×List Int×Int):Option qfI:=
 ((qaB _N (_x1.1,_x2.1,())).bind fun _y4=>((qH _N (_x1.2.1,_x2.2.1,())).bind fun _y5=>((qch _N ([_y4.1,_y5.1],())).bind fun _y6=>(some (_y6.1,())))))
def qar(_N:Nat)(_x:Dens qfO):Option qfI:=qfS _N _x.1 _x.2.1
theorem qjM(_N:Nat):SpecD Tryz.prog Gs 40 qfO qfK (qar _N):=mkSpD (fn:=Tryz.f40) (c:=qh Tryz.f40) (C:=qkF _N)
  (a:=.two .none (.two (.draw 1 [.pure,.rd [0],.pure,.rd [1],.pure,.pure,.rd [0],.pure,.rd [1],.pure,.new 2,.rd [2],.pure]) .none))
  (by kernel_rfl) rfl (by kernel_rfl) (by kernel_rfl) ⟨rfl,by unfold TOk;kernel_rfl,qak rfl rfl (zD.2 ⟨qfF _N,(zD.2 ⟨qeu _N,(zD.2 ⟨qnY _N,(zC _)⟩)⟩)⟩),qaj rfl rfl (zC _),rfl⟩ (fun _x=>by kernel_rfl)
shelf_lay_g SlLaysF0.n6 Slsf 6 at Tryz 39 as lay_sortMark
theorem qxV:qcN Tryz.prog 39:=⟨Tryz.f39,qh Tryz.f39,by kernel_rfl,by kernel_rfl,rfl⟩
theorem qxU:qcN Tryz.prog 40:=⟨Tryz.f40,qh Tryz.f40,by kernel_rfl,by kernel_rfl,rfl⟩
theorem qrH(_N:Nat):EntOk Tryz.prog Gs (mkS 39 43 SY 40 (fun p q=>(qar _N (p,q,())).map (·.1))):=entSK lay_sortMark Tryz.isAgg43 Tryz.sizeOf43 qxV qxU (by kernel_rfl) rfl (qjM _N)
theorem qAL(w:World)(hg:GW Gs w):Calls Tryz.prog 39 #[.slice none 0 0,cloV 40 #[]] w fun e w'=>e=.returned (.tuple #[])/\Go.Abs.Below w.heap.size w w':=by
 obtain⟨nx,hv⟩:=qxF (E:={ P:=Tryz.prog,C:=qoh 0,r:=none,n:=0,w0:=w,A:=fun _=>False,M0:=fun _=>False,Kp:=fun _ _ _ _=>True }) (h:=[]) (w:=w) (σ:=σ0) (qqF w (fun _ h=>h.elim)) 43 SY (by decide)
 have hs:sortR (fun p q=>(qar 0 (p,q,())).map (·.1)) ([]:List Yw)=some []:=by
  refine qqd ⟨by decide,fun a h=>(nomatch h),fun a h=>(nomatch h),fun a h=>(nomatch h),fun a h=>(nomatch h)⟩ ⟨.refl _,.nil⟩
 refine ((qrH 0).wr [.slc 0 0,.clo 40 []] [O.row false 0 43 SY []] _ _ [] (by rfl) rfl hs w (fun _=>False) (fun _=>False) w _ hg.gl nx.rep [.slice none 0 0,cloV 40 #[]] ?_).mono ?_
 ·simp only [RVs,RV] at hv ⊢
  exact⟨_,_,rfl,hv,_,_,rfl,⟨#[],rfl,rfl⟩,rfl⟩
 ·rintro e w' ⟨x,σ',rfl,nx',hx⟩
  simp only [RV,RVs] at hx
  obtain⟨cs,rfl,hc⟩:=hx
  have:cs = #[]:=by rw [<- Array.toList_inj];exact hc
  exact⟨by rw [this],nx'.rep.fr.below⟩
set_option maxRecDepth 100000 in
set_option maxHeartbeats 1500000 in
theorem qzU(w:World)(hg:GW Gs w):Calls Tryz.prog 17 #[.map none] w fun e w'=>e=.returned (.slice none 0 0)/\Go.Abs.Below w.heap.size w w':=by
 have hrg:=run_range_nilMap (P:=Tryz.prog) w 56 101 2 (by kernel_rfl)
 have hnx:∀ ty,(Instr.next (.pointer (some ⟨w.heap.size,0,none⟩)) false ty).run Tryz.prog (w.alloc (.mapIter none 0 #[] 0))=_:=fun ty=>run_next_nilMap w ty 0 0 #[]
 have hb:Go.Abs.Below w.heap.size w (w.alloc (.mapIter none 0 #[] 0)):=(Go.Abs.Below.refl _ _).alloc (Nat.le_refl _) _
 have hs:=qAL _ (hg.below hb)
 go_enter Tryz.func17,Tryz.ntmps17
 go_wp2
 refine wp_loop_rounds 1 ?_
 rw [rounds_succ]
 go_wp2_with (refine hs.mono ?_;rintro e w' ⟨rfl,hb'⟩)
 go_ret
 exact⟨rfl,hb.trans (hb'.mono hb.size)⟩
theorem qCa:EntOk Tryz.prog Gs (mkNm 17 SY):=entNm ⟨Tryz.f17,qh Tryz.f17,by kernel_rfl,by kernel_rfl,rfl⟩ qzU
abbrev qeA:Sig:=⟨[.form (.ptr 0 1000000),.dat false SY],[.oth false ⟨false,101,2,.pair (.int .i64) SX,.int .i64,false⟩],
 [],[.oth false ⟨false,101,2,.pair (.int .i64) SX,.int .i64,false⟩],[]⟩
abbrev qhe:Type:=(Int×List Yu)
def qnd(_N:Nat):Ctx:={ T:=[(2,⟨.int .i64,1,8,some (.int .i64),[.int .i64 (0:Int)],false,[]⟩),(3,⟨.int .i64,1,8,some (.int .i64),[.int .i64 (0:Int)],false,[]⟩),(27,⟨.slice 3,1,24,some Sac,[.nil],false,[]⟩),(43,⟨.struct [(0,3),(1,27),(2,2)],3,40,some SY,[.int .i64 (0:Int),.nil,.int .i64 (0:Int)],false,[]⟩),(56,⟨.map 101 2 (.pair (.int .i64) SX) (.int .i64),1,8,none,[.nl .map],false,[]⟩),(101,⟨.struct [(0,3),(1,3),(2,99)],6,48,some (.pair (.int .i64) SX),[.int .i64 (0:Int),.int .i64 (0:Int),.int .i64 (0:Int),.int .i64 (0:Int),.int .i64 (0:Int),.int .i64 (0:Int)],true,[]⟩)],G:=findE [mkP 68 qeO qeK (qcH _N)],I:=findI [],N:=_N,n:=24,fx:=[],fl:=1,gs:=Gs }
def qhD(_N:Nat)(_x1:Int×List Int×Int)(_x2:Int×List Yu):Option qhe:=
 ((qcH _N (_x1.1,_x1.2.1,())).bind fun _y2=>(bif (qjU (.pair (.int .i64) SX) (.int .i64) (mpEnt (.pair (.int .i64) SX) (.int .i64) _x2 (_y2.1.1,(_y2.1.2.1,(_y2.1.2.2.1,(_y2.1.2.2.2.1,(_y2.1.2.2.2.2.1,_y2.1.2.2.2.2.2)))))) (qgI (.pair (.int .i64) SX) (.int .i64) _x2 (_y2.1.1,(_y2.1.2.1,(_y2.1.2.2.1,(_y2.1.2.2.2.1,(_y2.1.2.2.2.2.1,_y2.1.2.2.2.2.2))))))) then (bif ((mpGet (.pair (.int .i64) SX) (.int .i64) (mpAt (.pair (.int .i64) SX) (.int .i64) (mpEnt (.pair (.int .i64) SX) (.int .i64) _x2 (_y2.1.1,(_y2.1.2.1,(_y2.1.2.2.1,(_y2.1.2.2.2.1,(_y2.1.2.2.2.2.1,_y2.1.2.2.2.2.2)))))) (qgI (.pair (.int .i64) SX) (.int .i64) _x2 (_y2.1.1,(_y2.1.2.1,(_y2.1.2.2.1,(_y2.1.2.2.2.1,(_y2.1.2.2.2.2.1,_y2.1.2.2.2.2.2)))))) (IntKind.i64.wrap ((mpGet (.pair (.int .i64) SX) (.int .i64) _x2 (_y2.1.1,(_y2.1.2.1,(_y2.1.2.2.1,(_y2.1.2.2.2.1,(_y2.1.2.2.2.2.1,_y2.1.2.2.2.2.2))))))+_x1.2.2))) (_y2.1.1,(_y2.1.2.1,(_y2.1.2.2.1,(_y2.1.2.2.2.1,(_y2.1.2.2.2.2.1,_y2.1.2.2.2.2.2))))))==(0:Int)) then (some (mpDel (.pair (.int .i64) SX) (.int .i64) (mpAt (.pair (.int .i64) SX) (.int .i64) (mpEnt (.pair (.int .i64) SX) (.int .i64) _x2 (_y2.1.1,(_y2.1.2.1,(_y2.1.2.2.1,(_y2.1.2.2.2.1,(_y2.1.2.2.2.2.1,_y2.1.2.2.2.2.2)))))) (qgI (.pair (.int .i64) SX) (.int .i64) _x2 (_y2.1.1,(_y2.1.2.1,(_y2.1.2.2.1,(_y2.1.2.2.2.1,(_y2.1.2.2.2.2.1,_y2.1.2.2.2.2.2)))))) (IntKind.i64.wrap ((mpGet (.pair (.int .i64) SX) (.int .i64) _x2 (_y2.1.1,(_y2.1.2.1,(_y2.1.2.2.1,(_y2.1.2.2.2.1,(_y2.1.2.2.2.2.1,_y2.1.2.2.2.2.2))))))+_x1.2.2))) (_y2.1.1,(_y2.1.2.1,(_y2.1.2.2.1,(_y2.1.2.2.2.1,(_y2.1.2.2.2.2.1,_y2.1.2.2.2.2.2))))))) else (some (mpAt (.pair (.int .i64) SX) (.int .i64) (mpEnt (.pair (.int .i64) SX) (.int .i64) _x2 (_y2.1.1,(_y2.1.2.1,(_y2.1.2.2.1,(_y2.1.2.2.2.1,(_y2.1.2.2.2.2.1,_y2.1.2.2.2.2.2)))))) (qgI (.pair (.int .i64) SX) (.int .i64) _x2 (_y2.1.1,(_y2.1.2.1,(_y2.1.2.2.1,(_y2.1.2.2.2.1,(_y2.1.2.2.2.2.1,_y2.1.2.2.2.2.2)))))) (IntKind.i64.wrap ((mpGet (.pair (.int .i64) SX) (.int .i64) _x2 (_y2.1.1,(_y2.1.2.1,(_y2.1.2.2.1,(_y2.1.2.2.2.1,(_y2.1.2.2.2.2.1,_y2.1.2.2.2.2.2))))))+_x1.2.2))))) else none))
def qbK(_N:Nat)(_x:Yw×(Int×List Yu)):Option qhe:=qhD _N _x.1 _x.2
theorem qlU(_N:Nat):SpecH Tryz.prog Gs 36 qeA (qbK _N):=mkSpH (fn:=Tryz.f36) (c:=qh Tryz.f36) (C:=(qnd _N))
  (a:=.two .none (.two .none (.two (.draw 0 [.pure,.rd [2],.rd [0],.pure,.rd [1],.pure,.wr [0],.pure,.wr [0]]) .none)))
  (by kernel_rfl) rfl (by kernel_rfl) (by kernel_rfl) (by kernel_rfl) rfl ⟨rfl,by unfold TOk;kernel_rfl,qak rfl rfl (zD.2 ⟨qmk _N,(zC _)⟩),qaj rfl rfl (zC _),rfl⟩ (fun _x=>by kernel_rfl)
theorem qlY(_N:Nat):EntOk Tryz.prog Gs (mkHe 36 qeA (qbK _N)):=entH ⟨Tryz.f36,qh Tryz.f36,by kernel_rfl,by kernel_rfl,rfl⟩ (qlU _N)
abbrev qeU:Sig:=⟨[.dat false (.pair (.sl SX) (.sl Saa)),.dat false (.sl SY)],[],
 [.form (.nl .map),.dat false (.int .i64)],[],[([.form (.ptr 1 1000000),.dat false (.int .i64)],[.none,.oth false ⟨false,101,2,.pair (.int .i64) SX,.int .i64,false⟩])]⟩
abbrev qcw:Type:=Int ⊕ (Int×(Int×List Yu))
def qrZ(_N:Nat):Ctx:={ T:=[(2,⟨.int .i64,1,8,some (.int .i64),[.int .i64 (0:Int)],false,[]⟩),(3,⟨.int .i64,1,8,some (.int .i64),[.int .i64 (0:Int)],false,[]⟩),(25,⟨.struct [(0,22),(1,23)],2,48,some (.pair (.sl SX) (.sl Saa)),[.nil,.nil],false,[]⟩),(26,⟨.slice 43,1,24,some (.sl SY),[.nil],false,[]⟩),(27,⟨.slice 3,1,24,some Sac,[.nil],false,[]⟩),(29,⟨.struct [(0,3),(1,27)],2,32,some Sab,[.int .i64 (0:Int),.nil],false,[]⟩),(43,⟨.struct [(0,3),(1,27),(2,2)],3,40,some SY,[.int .i64 (0:Int),.nil,.int .i64 (0:Int)],false,[]⟩),(56,⟨.map 101 2 (.pair (.int .i64) SX) (.int .i64),1,8,none,[.nl .map],false,[]⟩)],G:=findE [mkP 18 qeQ qeM (qcd _N),mkHe 36 qeA (qbK _N)],I:=findI [],N:=_N,n:=43,fx:=[],fl:=0,gs:=Gs }
def qkJ(_N:Nat)(_v11:Int×List Yu):Option qcw:=
 (some (Sum.inr ((0:Int),_v11)))
def qhC(_N:Nat)(_k12:(Int×List Yu)->Option qcw)(_v1:List Yw)(_v2:Int)(_v4:List Yy)(_v5:List YA)(_v3:Int)(_v6:Int×List Yu)(_kn13:((List Yw)×Int×(List Yy)×(List YA))×(Int×(Int×List Yu))->Option qcw):Option qcw:=
 (bif (decide (_v3<_v2)) then (bif (decide (0<=_v3)&&decide (_v3<(_v1.length:Int))) then ((qcd _N ((_v4,_v5),((nth ((0:Int),([],(0:Int))) _v1 (_v3).toNat).1,((nth ((0:Int),([],(0:Int))) _v1 (_v3).toNat).2).1),())).bind fun _y14=>(bif (_y14.1 != (0:Int)) then (some (Sum.inl _y14.1)) else (bif (decide ((((nth ((0:Int),([],(0:Int))) _v1 (_v3).toNat).2).2)<(-1099511627776:Int))) then (some (Sum.inl (2:Int))) else (bif (decide ((((nth ((0:Int),([],(0:Int))) _v1 (_v3).toNat).2).2)>(1099511627776:Int))) then (some (Sum.inl (2:Int))) else ((qbK _N (((nth ((0:Int),([],(0:Int))) _v1 (_v3).toNat).1,(((nth ((0:Int),([],(0:Int))) _v1 (_v3).toNat).2).1,((nth ((0:Int),([],(0:Int))) _v1 (_v3).toNat).2).2)),_v6)).bind fun _y15=>(_kn13 ((_v1,_v2,_v4,_v5),((IntKind.i64.wrap (_v3+(1:Int))),_y15)))))))) else none) else (_k12 _v6))
def qkI(_N:Nat)(_x1:List Yy×List YA)(_x2:List Yw):Option qcw:=
 (bif (decide ((_x2.length:Int)>(64:Int))) then (some (Sum.inl (1:Int))) else (joinD (fun (_s:(Int×List Yu))=>qkJ _N _s) fun _k12=>(loopE (fun (_c:(List Yw)×Int×(List Yy)×(List YA)) (_s:Int×(Int×List Yu)) _kn=>qhC _N _k12 _c.1 _c.2.1 _c.2.2.1 _c.2.2.2 _s.1 _s.2 _kn) _N (_x2,(_x2.length:Int),_x1.1,_x1.2) ((0:Int),((0:Int),([]:List Yu))))))
def qaT(_N:Nat)(_x:Yv×(List Yw)):Option qcw:=qkI _N _x.1 _x.2
theorem qpF(_N:Nat):SpecH Tryz.prog Gs 15 qeU (qaT _N):=mkSpH (fn:=Tryz.f15) (c:=qh Tryz.f15) (C:=(qrZ _N))
  (a:=.two .none (.two .none (.two .none (.join 2 ⟨[(6,.ptr 1 1000000)],[.none,.oth false ⟨false,101,2,.pair (.int .i64) SX,.int .i64,false⟩]⟩ (.two .none (.one (.loop 2 ⟨[(2,.ptr 0 0),(6,.ptr 1 1000000),(14,.sl SY),(15,.int .i64),(16,.int .i64)],[.cells [.sl SX,.sl Saa],.oth false ⟨false,101,2,.pair (.int .i64) SX,.int .i64,false⟩]⟩ [2,5] .none))) .none))))
  (by kernel_rfl) rfl (by kernel_rfl) (by kernel_rfl) (by kernel_rfl) rfl ⟨rfl,by unfold TOk;kernel_rfl,qak rfl rfl (zD.2 ⟨qmm _N,(zD.2 ⟨qlY _N,(zC _)⟩)⟩),qaj rfl rfl (zC _),rfl⟩ (fun _x=>by kernel_rfl)
theorem qku(_N:Nat):EntOk Tryz.prog Gs (mkHe 15 qeU (qaT _N)):=entH ⟨Tryz.f15,qh Tryz.f15,by kernel_rfl,by kernel_rfl,rfl⟩ (qpF _N)
abbrev qcs:Sig:=⟨[.form (.ptr 0 1000000)],[.oth false ⟨false,101,2,.pair (.int .i64) SX,.int .i64,false⟩],
 [.dat false (.sl SY)],[.oth true ⟨false,101,2,.pair (.int .i64) SX,.int .i64,false⟩],[]⟩
abbrev qbf:Type:=(List Yw)×(Int×List Yu)
def qlz(_N:Nat):Ctx:={ T:=[(2,⟨.int .i64,1,8,some (.int .i64),[.int .i64 (0:Int)],false,[]⟩),(3,⟨.int .i64,1,8,some (.int .i64),[.int .i64 (0:Int)],false,[]⟩),(26,⟨.slice 43,1,24,some (.sl SY),[.nil],false,[]⟩),(27,⟨.slice 3,1,24,some Sac,[.nil],false,[]⟩),(43,⟨.struct [(0,3),(1,27),(2,2)],3,40,some SY,[.int .i64 (0:Int),.nil,.int .i64 (0:Int)],false,[]⟩),(56,⟨.map 101 2 (.pair (.int .i64) SX) (.int .i64),1,8,none,[.nl .map],false,[]⟩),(99,⟨.array 4 3,4,32,some (.pair (.int .i64) Saa),[.int .i64 (0:Int),.int .i64 (0:Int),.int .i64 (0:Int),.int .i64 (0:Int)],false,[]⟩),(101,⟨.struct [(0,3),(1,3),(2,99)],6,48,some (.pair (.int .i64) SX),[.int .i64 (0:Int),.int .i64 (0:Int),.int .i64 (0:Int),.int .i64 (0:Int),.int .i64 (0:Int),.int .i64 (0:Int)],true,[]⟩)],G:=findE [mkS 39 43 SY 40 (fun p q=>(qar _N (p,q,())).map (·.1)),mkQ 38 qai [.dat Sac] (fun _x=>(qB _N _x).map fun _y=>(_y,()))],I:=findI [],N:=_N,n:=28,fx:=[2],fl:=1,gs:=Gs }
def qgC(_N:Nat)(_v13:Int×List Yu)(_v14:List Yw):Option qbf:=
 ((sortR (fun p q=>(qar _N (p,q,())).map (·.1)) _v14).bind fun _y16=>(some (_y16,_v13)))
def qgB(_N:Nat)(_k17:((Int×List Yu)×(List Yw))->Option qbf)(_v1:Int×List Yu)(_v2:Int×List Yu)(_v6:List Yw)(_kn18:(Int×List Yu)×((Int×List Yu)×(List Yw))->Option qbf):Option qbf:=
 (nextE (k:=.pair (.int .i64) SX) (v:=.int .i64) _v2 (_k17 (_v1,_v6)) (fun _y19=>fun _y20=>(bif (decide (0<=(((_y19.2.1.1,(_y19.2.1.2.1,(_y19.2.1.2.2.1,(_y19.2.1.2.2.2.1,(_y19.2.1.2.2.2.2.1,_y19.2.1.2.2.2.2.2))))).2).1))&&decide ((((_y19.2.1.1,(_y19.2.1.2.1,(_y19.2.1.2.2.1,(_y19.2.1.2.2.2.1,(_y19.2.1.2.2.2.2.1,_y19.2.1.2.2.2.2.2))))).2).1)<=(([(((_y19.2.1.1,(_y19.2.1.2.1,(_y19.2.1.2.2.1,(_y19.2.1.2.2.2.1,(_y19.2.1.2.2.2.2.1,_y19.2.1.2.2.2.2.2))))).2).2).1,((((_y19.2.1.1,(_y19.2.1.2.1,(_y19.2.1.2.2.1,(_y19.2.1.2.2.2.1,(_y19.2.1.2.2.2.2.1,_y19.2.1.2.2.2.2.2))))).2).2).2).1,(((((_y19.2.1.1,(_y19.2.1.2.1,(_y19.2.1.2.2.1,(_y19.2.1.2.2.2.1,(_y19.2.1.2.2.2.2.1,_y19.2.1.2.2.2.2.2))))).2).2).2).2).1,(((((_y19.2.1.1,(_y19.2.1.2.1,(_y19.2.1.2.2.1,(_y19.2.1.2.2.2.1,(_y19.2.1.2.2.2.2.1,_y19.2.1.2.2.2.2.2))))).2).2).2).2).2]:List Int).length:Int))) then (((fun _x=>(qB _N _x).map fun _y=>(_y,())) ((([(((_y19.2.1.1,(_y19.2.1.2.1,(_y19.2.1.2.2.1,(_y19.2.1.2.2.2.1,(_y19.2.1.2.2.2.2.1,_y19.2.1.2.2.2.2.2))))).2).2).1,((((_y19.2.1.1,(_y19.2.1.2.1,(_y19.2.1.2.2.1,(_y19.2.1.2.2.2.1,(_y19.2.1.2.2.2.2.1,_y19.2.1.2.2.2.2.2))))).2).2).2).1,(((((_y19.2.1.1,(_y19.2.1.2.1,(_y19.2.1.2.2.1,(_y19.2.1.2.2.2.1,(_y19.2.1.2.2.2.2.1,_y19.2.1.2.2.2.2.2))))).2).2).2).2).1,(((((_y19.2.1.1,(_y19.2.1.2.1,(_y19.2.1.2.2.1,(_y19.2.1.2.2.2.1,(_y19.2.1.2.2.2.2.1,_y19.2.1.2.2.2.2.2))))).2).2).2).2).2]:List Int).take (((_y19.2.1.1,(_y19.2.1.2.1,(_y19.2.1.2.2.1,(_y19.2.1.2.2.2.1,(_y19.2.1.2.2.2.2.1,_y19.2.1.2.2.2.2.2))))).2).1).toNat),())).bind fun _y21=>(bif (decide ((_v6.length+([((_y19.2.1.1,(_y19.2.1.2.1,(_y19.2.1.2.2.1,(_y19.2.1.2.2.2.1,(_y19.2.1.2.2.2.2.1,_y19.2.1.2.2.2.2.2))))).1,(_y21.1,_y19.2.2))]).length)*40<=140737488355328)&&Nat.ble 1 40) then (_kn18 (_v1,(((1:Int),_y19 :: _y20),(_v6 ++ [((_y19.2.1.1,(_y19.2.1.2.1,(_y19.2.1.2.2.1,(_y19.2.1.2.2.2.1,(_y19.2.1.2.2.2.2.1,_y19.2.1.2.2.2.2.2))))).1,(_y21.1,_y19.2.2))])))) else none)) else none)))
def qgA(_N:Nat)(_x1:Int×List Yu):Option qbf:=
 (joinD (fun (_s:(Int×List Yu)×(List Yw))=>qgC _N _s.1 _s.2) fun _k17=>(loopE (fun (_c:(Int×List Yu)) (_s:(Int×List Yu)×(List Yw)) _kn=>qgB _N _k17 _c _s.1 _s.2 _kn) _N _x1 (((0:Int),_x1.2),[])))
def qap(_N:Nat)(_x:(Int×List Yu)):Option qbf:=qgA _N _x
theorem qkB(_N:Nat):SpecH Tryz.prog Gs 17 qcs (qap _N):=mkSpH (fn:=Tryz.f17) (c:=qh Tryz.f17) (C:=(qlz _N))
  (a:=.two .none (.two .none (.join 3 ⟨[(3,.slc 2 0)],[.oth true ⟨false,101,2,.pair (.int .i64) SX,.int .i64,false⟩,.none,.row false 0 43 SY]⟩ (.two .none (.one (.obj 3 43 SY (.loop 3 ⟨[(3,.slc 2 0),(7,.ptr 1 1000000)],[.oth true ⟨false,101,2,.pair (.int .i64) SX,.int .i64,false⟩,.oth false ⟨true,101,2,.pair (.int .i64) SX,.int .i64,false⟩,.row false 0 43 SY]⟩ [1,2] (.two .nx (.two .none (.one (.two .none (.giv 4 (.pair (.int .i64) SX) (.draw 1 [.pure,.pure,.pure,.pure,.pure,.pure,.pure,.pure,.pure,.pure,.new 4,.wr [2,4],.pure])))))))))) .none)))
  (by kernel_rfl) rfl (by kernel_rfl) (by kernel_rfl) (by kernel_rfl) rfl ⟨rfl,by unfold TOk;kernel_rfl,qak rfl rfl (zD.2 ⟨qrH _N,(zD.2 ⟨qiU _N,(zC _)⟩)⟩),qaj rfl rfl (zC _),rfl⟩ (fun _x=>by kernel_rfl)
theorem qfV(_N:Nat):EntOk Tryz.prog Gs (mkHe 17 qcs (qap _N)):=entH ⟨Tryz.f17,qh Tryz.f17,by kernel_rfl,by kernel_rfl,rfl⟩ (qkB _N)
abbrev qfN:List Kd:=[.dat (.pair (.sl SX) (.sl Saa)),.dat (.sl SY)]
abbrev qfJ:List Kd:=[.dat (.sl SY),.dat (.int .i64)]
abbrev qlw:Type:=Dens qfJ
def qsQ(_N:Nat):Ctx:={ T:=[(25,⟨.struct [(0,22),(1,23)],2,48,some (.pair (.sl SX) (.sl Saa)),[.nil,.nil],false,[]⟩),(31,⟨.int .i64,1,8,some (.int .i64),[.int .i64 (0:Int)],false,[]⟩),(39,⟨.struct [(0,31),(1,3)],2,16,some (.pair (.int .i64) (.int .i64)),[.int .i64 (0:Int),.int .i64 (0:Int)],true,[]⟩)],G:=findE [mkHe 14 qfH (qbr _N),mkHe 15 qeU (qaT _N),mkNm 17 SY,mkHe 17 qcs (qap _N)],I:=findI [],N:=_N,n:=29,fx:=[],fl:=0,gs:=Gs }
def qmd(_N:Nat)(_x1:List Yy×List YA)(_x2:List Yw):Option qlw:=
 ((qbr _N (_x1.1,_x1.2)).bind fun _y14=>(caseD _y14 (fun _y15=>(bif (_y15.1 != (0:Int)) then (some ([],_y15.1,())) else ((qaT _N ((_x1.1,_x1.2),_x2)).bind fun _y17=>(caseD _y17 (fun _y18=>((some ()).bind fun _y20=>(some (([]:List Yw),_y18,())))) fun _y19=>((qap _N _y19.2).bind fun _y21=>(some (_y21.1,_y19.1,()))))))) fun _y16=>(bif (_y16.1.1 != (0:Int)) then (some ([],_y16.1.1,())) else ((qaT _N ((_x1.1,_x1.2),_x2)).bind fun _y22=>(caseD _y22 (fun _y23=>((some ()).bind fun _y25=>(some (([]:List Yw),_y23,())))) fun _y24=>((qap _N _y24.2).bind fun _y26=>(some (_y26.1,_y24.1,()))))))))
def qcO(_N:Nat)(_x:Dens qfN):Option qlw:=qmd _N _x.1 _x.2.1
theorem qqx(_N:Nat):SpecD Tryz.prog Gs 6 qfN qfJ (qcO _N):=mkSpD (fn:=Tryz.f6) (c:=qh Tryz.f6) (C:=qsQ _N)
  (a:=.two .none (.two (.two .none (.two .none (.two (.two (.draw 0 [.pure,.rd [1,6],.pure,.pure]) .none) .none))) .none))
  (by kernel_rfl) rfl (by kernel_rfl) (by kernel_rfl) ⟨rfl,by unfold TOk;kernel_rfl,qak rfl rfl (zD.2 ⟨qkg _N,(zD.2 ⟨qku _N,(zD.2 ⟨qCa,(zD.2 ⟨qfV _N,(zC _)⟩)⟩)⟩)⟩),qaj rfl rfl (zC _),rfl⟩ (fun _x=>by kernel_rfl)
theorem qpO(_N:Nat):EntOk Tryz.prog Gs (mkQ 6 qfN qfJ (qcO _N)):=entQ ⟨Tryz.f6,qh Tryz.f6,by kernel_rfl,by kernel_rfl,rfl⟩ (qqx _N)
end Go.Proofs.YtgnnhemoocfclaaGreatDoor
namespace Go.Proofs.YtgnnhemoocfclaaGreatDoor.Rea
open Go.Abs
open Go.Proofs.YtgnnhemoocfclaaGreatDoor.Gh (Nd Ed nsum qby GrOk qcR)
abbrev Mk:Type:=Int×List Int×Int
abbrev K6:Type:=Int×Int×Int×Int×Int×Int
abbrev kS:Sh:=.pair (.int .i64) SX
abbrev vS:Sh:=.int .i64
abbrev kSn:noSl kS=true:=rfl
abbrev Kn:Type:=Int×List (Int×K6×Int)
def kk(a:Int)(t:List Int):K6:=(a,(t.length:Int),nth 0 (cpy ([0,0,0,0]:List Int) t) 0,nth 0 (cpy ([0,0,0,0]:List Int) t) 1,nth 0 (cpy ([0,0,0,0]:List Int) t) 2,nth 0 (cpy ([0,0,0,0]:List Int) t) 3)
theorem quG(N:Nat)(a:Int)(t:List Int):qcH N (a,t,())=some (kk a t,()):=rfl
def kt(k:K6):List Int:=([k.2.2.1,k.2.2.2.1,k.2.2.2.2.1,k.2.2.2.2.2]:List Int).take k.2.1.toNat
theorem kt_kk{a:Int}{t:List Int}(h:t.length<=4):kt (kk a t)=t:=by
 rcases t with _ | ⟨x,_ | ⟨y,_ | ⟨z,_ | ⟨u,_ | ⟨v,r⟩⟩⟩⟩⟩
 ·rfl
 ·rfl
 ·rfl
 ·rfl
 ·rfl
 ·simp only [List.length_cons] at h;omega
theorem qEh{a b:Int}{t u:List Int}(ht:t.length<=4)(hu:u.length<=4)(h:kk a t=kk b u):a=b/\t=u:=by
 refine⟨congrArg Prod.fst h,?_⟩
 have:=congrArg kt h
 rwa [kt_kk ht,kt_kk hu] at this
def sumT:List Mk->Int->List Int->Int
 | [],_,_=>0
 | m :: r,a,t=>(if m.1=a/\m.2.1=t then m.2.2 else 0)+sumT r a t
theorem qmB(l r:List Mk)(a:Int)(t:List Int):sumT (l++r) a t=sumT l a t+sumT r a t:=by
 induction l with
 | nil=>simp [sumT]
 | cons m l ih=>simp only [List.cons_append,sumT,ih];omega
theorem qyx(m:Mk)(a:Int)(t:List Int):sumT [m] a t=if m.1=a/\m.2.1=t then m.2.2 else 0:=by simp [sumT]
theorem qzJ{l:List Mk}(h:∀ m∈l,-1099511627776<=m.2.2/\m.2.2<=1099511627776)(a:Int)(t:List Int):-(l.length*1099511627776:Int)<=sumT l a t/\sumT l a t<=(l.length:Int)*1099511627776:=by
 induction l with
 | nil=>simp [sumT]
 | cons m l ih=>
  have h1:=ih fun m hm=>h m (by simp [hm])
  have h2:=h m (by simp)
  simp only [sumT,List.length_cons,Int.natCast_add,Int.add_mul]
  split <;> omega
structure KOk (l:List Mk) (d:Kn):Prop where
 ok:MpOk kS vS d
 nz:∀ e∈d.2,e.2.2≠0
 key:∀ e∈d.2,∃ a t,t.length<=4/\e.2.1=kk a t
 val:∀ a t,t.length<=4->mpGet kS vS d (kk a t)=sumT l a t
 len:d.2.length<=l.length
theorem KOk.empty:KOk [] ((0:Int),[]):=⟨MpOk.empty,(fun e h=>by cases h),(fun e h=>by cases h),fun a t _=>rfl,Nat.le_refl _⟩
theorem qFn{N:Nat}{l:List Mk}{d:Kn}(h:KOk l d)(m:Mk)(hm:m.2.1.length<=4)(hb:-9223372036854775808<=sumT l m.1 m.2.1+m.2.2/\sumT l m.1 m.2.1+m.2.2<=9223372036854775807) :
  ∃ d',qbK N (m,d)=some d'/\KOk (l ++ [m]) d':=by
 obtain⟨a,t,n⟩:=m
 dsimp only at hm hb
 have hs:qjU kS vS (mpEnt kS vS d (kk a t)) (qgI kS vS d (kk a t))=true:=qwa (k:=kS) (v:=vS) d (kk a t)
 have hp:∀ y:Int,mpAt kS vS (mpEnt kS vS d (kk a t)) (qgI kS vS d (kk a t)) y=mpPut kS vS d (kk a t) y:=fun y=>qDc (k:=kS) (v:=vS) h.ok (kk a t) y
 have hg:∀ y:Int,mpGet kS vS (mpPut kS vS d (kk a t) y) (kk a t)=y:=fun y=>qDb (k:=kS) (v:=vS) kSn d (kk a t) y
 have hee:((kk a t).1,(kk a t).2.1,(kk a t).2.2.1,(kk a t).2.2.2.1,(kk a t).2.2.2.2.1,(kk a t).2.2.2.2.2)=kk a t:=rfl
 have hw:IntKind.i64.wrap (sumT l a t+n)=sumT l a t+n:=w64 hb.1 hb.2
 simp only [qbK,qhD,quG N a t,Option.bind_some,hee,hs,cond_true,hp,hg,h.val a t hm,hw]
 have hput:=h.ok.put kSn (kk a t) (sumT l a t+n)
 have hne:∀ z:K6,z≠kk a t->mpGet kS vS (mpPut kS vS d (kk a t) (sumT l a t+n)) z=mpGet kS vS d z:=fun z hz=>qqR (k:=kS) (v:=vS) kSn d hz _
 have hold:∀ x∈(mpPut kS vS d (kk a t) (sumT l a t+n)).2,x.2.1≠kk a t->∃ y∈d.2,y.2.1=x.2.1/\y.2.2=x.2.2:=fun x hx hxe=>by
  obtain⟨g1,g2⟩:=quv (k:=kS) (v:=vS) kSn hput hx
  rw [qqQ (k:=kS) (v:=vS) kSn d hxe] at g1
  rw [qqR (k:=kS) (v:=vS) kSn d hxe] at g2
  obtain⟨y,y1,y2,y3⟩:=qBF (k:=kS) (v:=vS) g1
  exact⟨y,y1,y2,y3.trans g2⟩
 have hkey:∀ x∈(mpPut kS vS d (kk a t) (sumT l a t+n)).2,∃ a t,t.length<=4/\x.2.1=kk a t:=fun x hx=>by
  by_cases hxe:x.2.1=kk a t
  ·exact⟨a,t,hm,hxe⟩
  ·obtain⟨y,y1,y2,-⟩:=hold x hx hxe
   obtain⟨b,u,hu,e⟩:=h.key y y1
   exact⟨b,u,hu,y2.symm.trans e⟩
 have hlen:=qEw (k:=kS) (v:=vS) d (kk a t) (sumT l a t+n)
 have hl1:=h.len
 have hval:∀ b u,u.length<=4->kk b u≠kk a t->mpGet kS vS d (kk b u)=sumT (l ++ [(a,t,n)]) b u:=fun b u hu hk=>by
  rw [h.val b u hu,qmB,qyx,zJ,Int.add_zero]
  rintro⟨e1,e2⟩
  exact hk (by rw [<- e1,<- e2])
 have hsame:sumT (l ++ [(a,t,n)]) a t=sumT l a t+n:=by rw [qmB,qyx,zH ⟨rfl,rfl⟩]
 by_cases q:sumT l a t+n=0
 ·rw [show (sumT l a t+n==0)=true from beq_iff_eq.2 q,cond_true]
  refine⟨_,rfl,⟨hput.del (kk a t),fun x hx=>?_,fun x hx=>?_,fun b u hu=>?_,?_⟩⟩
  ·have hx':=(qkh (k:=kS) (v:=vS) (x:=kk a t) (mpPut kS vS d (kk a t) (sumT l a t+n)).2).subset hx
   have hxe:x.2.1≠kk a t:=fun hxe=>by
    obtain⟨g1,-⟩:=quv (k:=kS) (v:=vS) kSn (hput.del (kk a t)) hx
    rw [hxe,qEV (k:=kS) (v:=vS) kSn hput] at g1
    cases g1
   obtain⟨y,y1,-,y3⟩:=hold x hx' hxe
   rw [<- y3];exact h.nz y y1
  ·exact hkey x ((qkh (k:=kS) (v:=vS) (x:=kk a t) (mpPut kS vS d (kk a t) (sumT l a t+n)).2).subset hx)
  ·by_cases hz:kk b u=kk a t
   ·obtain⟨rfl,rfl⟩:=qEh hu hm hz
    rw [qEW (k:=kS) (v:=vS) kSn hput,hsame,q];rfl
   ·rw [qAj (k:=kS) (v:=vS) _ hz,hne _ hz];exact hval b u hu hz
  ·refine zt (qEU (k:=kS) (v:=vS) (mpPut kS vS d (kk a t) (sumT l a t+n)) (kk a t)) (zt hlen ?_)
   rw [zQ,zg];omega
 ·rw [show (sumT l a t+n==0)=false from zb q,cond_false]
  refine⟨_,rfl,⟨hput,fun x hx=>?_,hkey,fun b u hu=>?_,?_⟩⟩
  ·by_cases hxe:x.2.1=kk a t
   ·obtain⟨-,g2⟩:=quv (k:=kS) (v:=vS) kSn hput hx
    rw [hxe,hg] at g2
    rw [<- g2];exact q
   ·obtain⟨y,y1,-,y3⟩:=hold x hx hxe
    rw [<- y3];exact h.nz y y1
  ·by_cases hz:kk b u=kk a t
   ·obtain⟨rfl,rfl⟩:=qEh hu hm hz
    rw [hg,hsame]
   ·rw [hne _ hz];exact hval b u hu hz
  ·rw [zQ,zg];omega
structure MksOk (ns:List Nd) (l:List Mk):Prop where
 len:l.length<=64
 st:∀ m∈l,Sok ns (m.1,m.2.1)
 n:∀ m∈l,-1099511627776<=m.2.2/\m.2.2<=1099511627776
section
variable {ns : List Nd} {es : List Ed}
theorem qBB{N:Nat}(hN:200000000<=N)(l:List Mk):(∃ e,qaT N ((ns,es),l)=some (Sum.inl e)/\e≠0/\¬ MksOk ns l)\/(MksOk ns l/\∃ d,qaT N ((ns,es),l)=some (Sum.inr (0,d))/\KOk l d):=by
 simp only [qaT,qkI]
 by_cases hl:(l.length:Int)>64
 ·exact .inl ⟨1,by rw [qy hl,cond_true],by decide,fun h=>by have:=h.len;omega⟩
 rw [qO hl,cond_false]
 simp only [joinD,loopE]
 refine qlK (fun st:Int×Kn=>∃ i:Nat,st.1=(i:Int)/\i<=l.length/\KOk (l.take i) st.2/\∀ m∈l.take i,Sok ns (m.1,m.2.1) /\ -1099511627776<=m.2.2/\m.2.2<=1099511627776) (fun st=>l.length - st.1.toNat)
  (fun o=>(∃ e,o=some (Sum.inl e)/\e≠0/\¬ MksOk ns l)\/(MksOk ns l/\∃ d,o=some (Sum.inr (0,d))/\KOk l d)) ?_ N _ ⟨0,rfl,zw _,KOk.empty,fun m hm=>(nomatch hm)⟩ (by simp;omega)
 rintro⟨_,d⟩ ⟨i,rfl,hi,hd,hp⟩ kn hkn
 dsimp only at hd hkn ⊢
 by_cases hlt:i<l.length
 ·have hm:=qbJ (z:=((0:Int),([]:List Int),(0:Int))) hlt
  obtain⟨e,h1,h2⟩:=qtI (ns:=ns) (es:=es) hN ((nth ((0:Int),([]:List Int),(0:Int)) l i).1,(nth ((0:Int),([]:List Int),(0:Int)) l i).2.1)
  have htk:l.take (i+1)=l.take i ++ [nth ((0:Int),([]:List Int),(0:Int)) l i]:=by rw [zW hlt,qcv hlt]
  simp only [qhC,lt_d hlt,ge0_d,Bool.and_self,cond_true,Int.toNat_natCast]
  have hmm:((nth ((0:Int),([]:List Int),(0:Int)) l i).1,(nth ((0:Int),([]:List Int),(0:Int)) l i).2.1,(nth ((0:Int),([]:List Int),(0:Int)) l i).2.2)=(nth ((0:Int),([]:List Int),(0:Int)) l i):=rfl
  simp only [h1,Option.bind_some,hmm]
  by_cases q1:e=0
  case neg=>exact .inl ⟨e,by rw [bne_iff_ne.2 q1,cond_true],q1,fun h=>q1 (h2.2 (h.st _ hm))⟩
  have hst:=h2.1 q1
  rw [q1,bne_self_eq_false,cond_false]
  by_cases q2:(nth ((0:Int),([]:List Int),(0:Int)) l i).2.2 < -1099511627776
  ·exact .inl ⟨2,by rw [qy q2,cond_true],by decide,fun h=>by have:=(h.n _ hm).1;omega⟩
  by_cases q3:(nth ((0:Int),([]:List Int),(0:Int)) l i).2.2>1099511627776
  ·exact .inl ⟨2,by rw [qO q2,qy q3,cond_true,cond_false],by decide,fun h=>by have:=(h.n _ hm).2;omega⟩
  rw [qO q2,qO q3,cond_false,cond_false]
  have hbd:=qzJ (fun m hm=>(hp m hm).2) (nth ((0:Int),([]:List Int),(0:Int)) l i).1 (nth ((0:Int),([]:List Int),(0:Int)) l i).2.1
  have hlen:(l.take i).length=i:=by rw [zd];omega
  rw [hlen] at hbd
  obtain⟨d',h3,h4⟩:=qFn (N:=N) hd (nth ((0:Int),([]:List Int),(0:Int)) l i) (qqq hst.tk).2 (by constructor <;> omega)
  simp only [h3,Option.bind_some,qK,ix1 hlt (show l.length<=1000000000 by omega)]
  refine hkn _ ⟨i+1,by simp,hlt,by rw [htk];exact h4,fun x hx=>?_⟩ (by simp;omega)
  rw [htk] at hx
  rcases zL.1 hx with hx | hx
  ·exact hp x hx
  ·rw [zM.1 hx];exact⟨hst,by omega,by omega⟩
 ·obtain rfl:i=l.length:=by omega
  rw [zAB] at hd hp
  simp only [qhC,qbb,cond_false,qkJ]
  exact .inr ⟨⟨by omega,fun m hm=>(hp m hm).1,fun m hm=>(hp m hm).2⟩,d,rfl,hd⟩
end
def mcmp(p q:Mk):Int:=if (if p.1<q.1 then (-1:Int) else if q.1<p.1 then 1 else 0)=0 then lexc p.2.1 q.2.1 else if p.1<q.1 then -1 else if q.1<p.1 then 1 else 0
def mlt(p q:Mk):Prop:=p.1<q.1\/p.1=q.1/\lexc p.2.1 q.2.1<0
theorem qjV(p q:Mk):mcmp p q<0↔mlt p q:=by
 unfold mcmp mlt
 by_cases h1:p.1<q.1
 ·simp [h1]
 ·by_cases h2:q.1<p.1
  ·simp only [h1,h2,if_false,if_true];constructor
   ·intro h;simp at h
   ·rintro (h | ⟨h,-⟩)
    ·exact h.elim
    ·omega
  ·simp only [h1,h2,if_false,if_true,false_or]
   exact⟨fun h=>⟨by omega,h⟩,fun h=>h.2⟩
theorem qlH(p:Mk):¬ mlt p p:=by
 rintro (h | ⟨-,h⟩)
 ·omega
 ·rw [qhR] at h;omega
theorem qqS{p q r:Mk}(h1:mlt p q)(h2:mlt q r):mlt p r:=by
 rcases h1 with h1 | ⟨e1,h1⟩ <;> rcases h2 with h2 | ⟨e2,h2⟩
 ·exact .inl (by omega)
 ·exact .inl (by omega)
 ·exact .inl (by omega)
 ·exact .inr ⟨by omega,qhv h1 h2⟩
theorem qwb{p q:Mk}(h1:¬ mlt p q)(h2:¬ mlt q p):p.1=q.1/\p.2.1=q.2.1:=by
 unfold mlt at h1 h2
 have e:p.1=q.1:=by omega
 exact⟨e,quB (fun h=>h1 (.inr ⟨e,h⟩)) (fun h=>h2 (.inr ⟨e.symm,h⟩))⟩
theorem qFH{N:Nat}(hN:10<=N)(a b:Int):qch N ([a,b],())=some (if a=0 then b else a,()):=by
 obtain⟨M,rfl⟩:∃ M,N=M+3:=⟨N - 3,by omega⟩
 simp only [qch,qlp,joinD,loopE]
 have hb:∀ (K:Int->_) (i:Nat),i<([a,b]:List Int).length->∀ kn,qfs (M+3) K 0 [a,b] (([a,b]:List Int).length:Int) (i:Int) (backE ((0:Int),[a,b],(([a,b]:List Int).length:Int)) kn)=if nth 0 [a,b] i=0 then kn ((i:Int)+1) else some (nth 0 [a,b] i,()):=fun K i hi kn=>by
  have hi2:i<2:=hi
  simp only [qfs,lt_d hi,ge0_d,Int.toNat_natCast,Bool.and_self,cond_true,ix1 hi2 (by omega),qK]
  by_cases q:nth 0 [a,b] i=0
  ·rw [zH q,q,bne_self_eq_false];rfl
  ·rw [zJ q,show (nth 0 [a,b] i != 0)=true from bne_iff_ne.2 q];rfl
 have h0:nth 0 [a,b] 0=a:=rfl
 have h1:nth 0 [a,b] 1=b:=rfl
 rw [lD2]
 have e0:=hb (fun s=>qgL (M+3) s) 0 (by simp)
 rw [h0] at e0
 refine (e0 _).trans ?_
 by_cases ha:a=0
 ·rw [zH ha,zH ha,lD2]
  have e1:=hb (fun s=>qgL (M+3) s) 1 (by simp)
  rw [h1] at e1
  refine (e1 _).trans ?_
  by_cases hbz:b=0
  ·rw [zH hbz,lD2]
   have:=qbb ([a,b]:List Int).length
   simp only [qfs]
   rw [show (((1:Nat):Int)+1)=(([a,b]:List Int).length:Int) from rfl,this,cond_false,qgL,hbz]
  ·rw [zJ hbz]
 ·rw [zJ ha,zJ ha]
theorem qBq{N:Nat}(hN:200000000<=N){p:Mk}(hp:p.2.1.length<=4)(q:Mk):qar N (p,q,())=some (mcmp p q,()):=by
 simp only [qar,qfS,qzF N p.1 q.1,qoW hp hN,Option.bind_some,qFH (show 10<=N by omega),mcmp]
theorem qsY{N:Nat}(hN:200000000<=N){xs:List Mk}(hl:xs.length<4611686018427387904)(h4:∀ m∈xs,m.2.1.length<=4)(hn:(xs.map fun m=>(m.1,m.2.1)).Nodup) :
  ∃ ys:List Mk,sortR (fun p q=>(qar N (p,q,())).map (·.1)) xs=some ys/\ys.Perm xs/\ys.Pairwise mlt:=by
 have hlt:∀ a b:Mk,ltB (fun p q:Mk=>some (mcmp p q)) a b=decide (mcmp a b<0):=fun a b=>rfl
 have inj:∀ a∈xs,∀ b∈xs,a.1=b.1/\a.2.1=b.2.1->a=b:=fun a ha b hb e=>by
  obtain⟨i,hi,rfl⟩:=zAf ha
  obtain⟨j,hj,rfl⟩:=zAf hb
  have hij:i=j:=by
   have h1:(xs.map fun m:Mk=>(m.1,m.2.1))[i]'(by rw [zh];exact hi)=(xs.map fun m:Mk=>(m.1,m.2.1))[j]'(by rw [zh];exact hj):=by
    rw [List.getElem_map,List.getElem_map,e.1,e.2]
   have hp:=zAY.1 hn
   rcases zBw i j with h | h | h
   ·exact absurd h1 (hp i j (by rw [zh];exact hi) (by rw [zh];exact hj) h)
   ·exact h
   ·exact absurd h1.symm (hp j i (by rw [zh];exact hj) (by rw [zh];exact hi) h)
  subst hij;rfl
 have hok:SortOk (fun p q:Mk=>some (mcmp p q)) xs:=by
  refine⟨hl,fun a _ b _=>⟨mcmp a b,rfl⟩,fun a _=>by rw [hlt];exact qO (fun h=>qlH a ((qjV a a).1 h)),fun a _ b _ c _ h1 h2=>?_,fun a ha b hb h1 h2=>?_⟩
  ·rw [hlt] at h1 h2 ⊢
   exact qy ((qjV _ _).2 (qqS ((qjV _ _).1 (zr h1)) ((qjV _ _).1 (zr h2))))
  ·rw [hlt] at h1 h2
   exact inj a ha b hb (qwb (fun h=>zAs h1 ((qjV _ _).2 h)) (fun h=>zAs h2 ((qjV _ _).2 h)))
 obtain⟨ys,h1,h2,h3⟩:=qtW hok
 refine⟨ys,qmJ (fun a ha b hb=>by rw [qBq hN (h4 a ha)];rfl) h1,h2,?_⟩
 have hny:(ys.map fun m=>(m.1,m.2.1)).Nodup:=(h2.map _).nodup_iff.2 hn
 have hny':ys.Pairwise fun a b=>(a.1,a.2.1)≠(b.1,b.2.1):=by rw [<- zAx];exact hny
 refine (h3.and hny').imp fun {a b} hab=>?_
 obtain⟨p1,p2⟩:=hab
 rw [hlt] at p1
 refine Classical.byContradiction fun hno=>p2 ?_
 obtain⟨e1,e2⟩:=qwb hno (fun h=>zAs p1 ((qjV _ _).2 h))
 rw [e1,e2]
structure Told (f:Int->List Int->Int) (L:List Mk):Prop where
 so:L.Pairwise mlt
 l4:∀ m∈L,m.2.1.length<=4
 mem:∀ a t n,t.length<=4->((a,t,n)∈L↔n=f a t/\n≠0)
theorem Told.uniq{f g:Int->List Int->Int}{L M:List Mk}(h:Told f L)(k:Told g M)(e:∀ a t,t.length<=4->f a t=g a t):L=M:=by
 have nd:∀ {L:List Mk},L.Pairwise mlt->L.Nodup:=fun h=>h.imp fun {a b} h e=>by subst e;exact qlH a h
 refine qjO (r:=mlt) L M (fun a _ b _ h1 h2=>absurd (qqS h1 h2) (qlH a)) ((List.perm_ext_iff_of_nodup (nd h.so) (nd k.so)).2 fun m=>?_) h.so k.so
 obtain⟨a,t,n⟩:=m
 constructor
 ·intro hm
  have h4:=h.l4 _ hm
  rw [k.mem a t n h4,<- e a t h4];exact (h.mem a t n h4).1 hm
 ·intro hm
  have h4:=k.l4 _ hm
  rw [h.mem a t n h4,e a t h4];exact (k.mem a t n h4).1 hm
def mkOf(e:Int×K6×Int):Mk:=(e.2.1.1,kt e.2.1,e.2.2)
theorem qDL{N:Nat}(hN:200000000<=N){l:List Mk}{d:Kn}(h:KOk l d)(hl:l.length<=1000) :
  ∃ out:List Mk,qap N d=some (out,d)/\Told (sumT l) out/\out.length<=l.length:=by
 have hdl:d.2.length<=1000:=zt h.len hl
 have hn:((d.2.map mkOf).map fun m=>(m.1,m.2.1)).Nodup:=by
  rw [List.map_map,List.Nodup,zAx]
  have hk:=h.ok.keys
  rw [List.Nodup,zAx] at hk
  refine hk.imp_of_mem fun {x y} hx hy hne e=>hne ?_
  obtain⟨a,t,ht,ex⟩:=h.key x hx
  obtain⟨b,u,hu,ey⟩:=h.key y hy
  simp only [Function.comp,mkOf,ex,ey,kt_kk ht,kt_kk hu] at e
  rw [ex,ey]
  have e1:a=b:=congrArg Prod.fst e
  have e2:t=u:=congrArg Prod.snd e
  rw [e1,e2]
 have h4:∀ m∈d.2.map mkOf,m.2.1.length<=4:=fun m hm=>by
  obtain⟨x,-,rfl⟩:=zo.1 hm
  simp only [mkOf,kt,zd,List.length_cons,List.length_nil]
  omega
 obtain⟨ys,s1,s2,s3⟩:=qsY hN (xs:=d.2.map mkOf) (by rw [zh];omega) h4 hn
 have hsort:∀ xs:List Mk,xs.Perm (d.2.map mkOf)->sortR (fun p q=>(qar N (p,q,())).map (·.1)) xs=some ys:=fun xs hp=>by
  obtain⟨zs,t1,t2,t3⟩:=qsY hN (xs:=xs) (by rw [hp.length_eq,zh];omega) (fun m hm=>h4 m (hp.subset hm)) ((hp.map _).nodup_iff.2 hn)
  rw [t1]
  exact congrArg some (qjO (r:=mlt) zs ys (fun a _ b _ h1 h2=>absurd (qqS h1 h2) (qlH a)) ((t2.trans hp).trans s2.symm) t3 s3)
 refine⟨ys,?_,⟨s3,fun m hm=>h4 m (s2.subset hm),fun a t n ht=>?_⟩,by rw [s2.length_eq,zh];exact h.len⟩
 ·simp only [qap,qgA,joinD,loopE]
  refine qtc (k:=kS) (v:=vS) (ys,d) (fun rest s=>(∃ sub:∀ x∈rest,x∈d.2,(s++rest.map mkOf).Perm (d.2.map mkOf))) (fun dd s kn hI hkn=>?_) N ((0:Int),d.2) [] ⟨fun x hx=>hx,.refl _⟩ (by show d.2.length<N;omega)
  obtain⟨hsub,hI⟩:=hI
  simp only [qgB]
  refine qBf (k:=kS) (v:=vS) (fun hr=>?_) (fun i x hx=>?_)
  ·rw [hr,List.map_nil,List.append_nil] at hI
   simp only [qgC,hsort s hI,Option.bind_some]
  ·have hl:=hI.length_eq
   simp only [zQ,zh] at hl
   have hpos:=(zU.1 hx).1
   have hxm:x∈restE dd:=zAC hx
   obtain⟨a,t,ht,ex⟩:=h.key x (hsub x hxm)
   have e1:x.2.1.2.1=(t.length:Int):=by rw [ex];rfl
   have hcl:=qoa (N:=N) (a:=([x.2.1.2.2.1,x.2.1.2.2.2.1,x.2.1.2.2.2.2.1,x.2.1.2.2.2.2.2]:List Int).take x.2.1.2.1.toNat) (by rw [zd];simp only [List.length_cons,List.length_nil];omega)
   simp only [hcl,Option.map_some,Option.bind_some]
   have g1:decide ((0:Int)<=x.2.1.2.1)=true:=by
    rw [ex]
    exact decide_eq_true (p:=(0:Int)<=(t.length:Int)) (by omega)
   have g2:decide (x.2.1.2.1<=(([x.2.1.2.2.1,x.2.1.2.2.2.1,x.2.1.2.2.2.2.1,x.2.1.2.2.2.2.2]:List Int).length:Int))=true:=by
    rw [ex]
    exact decide_eq_true (p:=(t.length:Int)<=4) (by omega)
   rw [g1,g2,Bool.and_self,cond_true]
   rw [qy (by simp only [zg];omega),show Nat.ble 1 40=true from rfl,Bool.and_self,cond_true,qK]
   refine hkn x _ _ ⟨fun y hy=>hsub y (List.mem_of_mem_eraseIdx hy),?_⟩ (qBX hx)
   refine List.Perm.trans ?_ hI
   rw [zT]
   exact (qAh mkOf hx).append_left s
 ·rw [s2.mem_iff,zo]
  constructor
  ·rintro⟨x,hx,e⟩
   obtain⟨b,u,hu,ex⟩:=h.key x hx
   simp only [mkOf,ex,kt_kk hu,zO] at e
   obtain⟨e1,rfl,rfl⟩:=e
   have e1:b=a:=e1
   subst e1
   obtain⟨-,g2⟩:=quv (k:=kS) (v:=vS) kSn h.ok hx
   rw [ex,h.val b u hu] at g2
   exact⟨g2.symm,h.nz x hx⟩
  ·rintro⟨rfl,hz⟩
   cases q:mpHas kS vS d (kk a t) with
   | true=>
    obtain⟨x,x1,x2,x3⟩:=qBF (k:=kS) (v:=vS) q
    refine⟨x,x1,?_⟩
    rw [h.val a t ht] at x3
    simp only [mkOf,x2,kt_kk ht,x3]
    rfl
   | false=>
    have:=qDw (k:=kS) (v:=vS) q
    rw [h.val a t ht] at this
    exact absurd this hz
theorem qyy{l:List Mk}{a:Int}{t:List Int}(h:sumT l a t≠0):∃ m∈l,m.1=a/\m.2.1=t:=by
 induction l with
 | nil=>exact absurd rfl h
 | cons m l ih=>
  simp only [sumT] at h
  by_cases e:m.1=a/\m.2.1=t
  ·exact⟨m,by simp,e⟩
  ·rw [zJ e,Int.zero_add] at h
   obtain⟨x,h1,h2⟩:=ih h
   exact⟨x,by simp [h1],h2⟩
section
variable {ns : List Nd} {es : List Ed}
end
end Go.Proofs.YtgnnhemoocfclaaGreatDoor.Rea
namespace Go.Proofs.YtgnnhemoocfclaaGreatDoor
open Go.Abs
abbrev qdn:Sig:=⟨[.form (.ptr 0 1000000),.form (.fptr (.pair (.pair (.sl SX) (.sl Saa)) (.sl (.sl (.pair (.int .i64) Sab)))))],[.oth false ⟨false,101,2,.pair (.int .i64) SX,.int .i64,false⟩],
 [.dat false (.sl (.sl Sac))],[.oth true ⟨false,101,2,.pair (.int .i64) SX,.int .i64,false⟩],[]⟩
abbrev qaW:Type:=List (List (List Int))×(Int×List Yu)
def qkG(_N:Nat):Ctx:={ T:=[(2,⟨.int .i64,1,8,some (.int .i64),[.int .i64 (0:Int)],false,[]⟩),(3,⟨.int .i64,1,8,some (.int .i64),[.int .i64 (0:Int)],false,[]⟩),(26,⟨.slice 43,1,24,some (.sl SY),[.nil],false,[]⟩),(27,⟨.slice 3,1,24,some Sac,[.nil],false,[]⟩),(29,⟨.struct [(0,3),(1,27)],2,32,some Sab,[.int .i64 (0:Int),.nil],false,[]⟩),(43,⟨.struct [(0,3),(1,27),(2,2)],3,40,some SY,[.int .i64 (0:Int),.nil,.int .i64 (0:Int)],false,[]⟩),(47,⟨.slice 29,1,24,some (.sl Sab),[.nil],false,[]⟩)],G:=findE [mkD 37 qcu qct (qaU _N),mkHe 17 qcs (qap _N)],I:=findI [],N:=_N,n:=30,fx:=[1],fl:=1,gs:=Gs }
def qfU(_N:Nat)(_v8:Yv×List Yx)(_v9:Int×List Yu)(_v10:List Yz):Option qaW:=
 ((qaU _N (_v8,_v10,())).bind fun _y12=>(some (_y12.1,_v9)))
def qdN(_N:Nat)(_k13:((Yv×List Yx)×(Int×List Yu)×(List Yz))->Option qaW)(_v2:Yv×List Yx)(_v3:List Yw)(_v4:Int)(_v6:Int×List Yu)(_v5:Int)(_v7:List Yz)(_kn15:((Yv×List Yx)×(List Yw)×Int×(Int×List Yu))×(Int×(List Yz))->Option qaW):Option qaW:=
 (bif (decide (_v5<_v4)) then (bif (decide (0<=_v5)&&decide (_v5<(_v3.length:Int))) then (bif (decide ((((nth ((0:Int),([],(0:Int))) _v3 (_v5).toNat).2).2)>(0:Int))) then (bif (decide ((_v7.length+([((nth ((0:Int),([],(0:Int))) _v3 (_v5).toNat).1,((nth ((0:Int),([],(0:Int))) _v3 (_v5).toNat).2).1)]:List Yz).length)*32<=140737488355328)&&Nat.ble 1 32) then (_kn15 ((_v2,_v3,_v4,_v6),((IntKind.i64.wrap (_v5+(1:Int))),(_v7++([((nth ((0:Int),([],(0:Int))) _v3 (_v5).toNat).1,((nth ((0:Int),([],(0:Int))) _v3 (_v5).toNat).2).1)]:List Yz))))) else none) else (_kn15 ((_v2,_v3,_v4,_v6),((IntKind.i64.wrap (_v5+(1:Int))),_v7)))) else none) else (_k13 (_v2,_v6,_v7)))
def qfT(_N:Nat)(_x1:Yv×List Yx)(_x2:Int×List Yu):Option qaW:=
 (joinD (fun (_s:(Yv×List Yx)×(Int×List Yu)×(List Yz))=>qfU _N _s.1 _s.2.1 _s.2.2) fun _k13=>((qap _N _x2).bind fun _y14=>(loopE (fun (_c:(Yv×List Yx)×(List Yw)×Int×(Int×List Yu)) (_s:Int×(List Yz)) _kn=>qdN _N _k13 _c.1 _c.2.1 _c.2.2.1 _c.2.2.2 _s.1 _s.2 _kn) _N (_x1,_y14.1,(_y14.1.length:Int),_y14.2) ((0:Int),[]))))
def qbg(_N:Nat)(_x:(Yv×List Yx)×(Int×List Yu)):Option qaW:=qfT _N _x.1 _x.2
theorem qjN(_N:Nat):SpecH Tryz.prog Gs 16 qdn (qbg _N):=mkSpH (fn:=Tryz.f16) (c:=qh Tryz.f16) (C:=(qkG _N))
  (a:=.two .none (.two .none (.join 2 ⟨[(1,.fptr (.pair (.pair (.sl SX) (.sl Saa)) (.sl (.sl (.pair (.int .i64) Sab))))),(5,.slc 1 0)],[.oth true ⟨false,101,2,.pair (.int .i64) SX,.int .i64,false⟩,.row false 0 29 Sab]⟩ (.two .none (.one (.obj 5 29 Sab (.loop 2 ⟨[(1,.fptr (.pair (.pair (.sl SX) (.sl Saa)) (.sl (.sl (.pair (.int .i64) Sab))))),(5,.slc 1 0),(9,.sl SY),(10,.int .i64),(11,.int .i64)],[.oth true ⟨false,101,2,.pair (.int .i64) SX,.int .i64,false⟩,.row false 0 29 Sab]⟩ [3,5] .none)))) .none)))
  (by kernel_rfl) rfl (by kernel_rfl) (by kernel_rfl) (by kernel_rfl) rfl ⟨rfl,by unfold TOk;kernel_rfl,qak rfl rfl (zD.2 ⟨qkE _N,(zD.2 ⟨qfV _N,(zC _)⟩)⟩),qaj rfl rfl (zC _),rfl⟩ (fun _x=>by kernel_rfl)
theorem qkf(_N:Nat):EntOk Tryz.prog Gs (mkHe 16 qdn (qbg _N)):=entH ⟨Tryz.f16,qh Tryz.f16,by kernel_rfl,by kernel_rfl,rfl⟩ (qjN _N)
abbrev qdc:List Kd:=[.dat (.pair (.sl SX) (.sl Saa)),.dat (.sl SY)]
abbrev qdb:List Kd:=[.dat (.sl (.sl Sac)),.dat (.int .i64)]
abbrev qlx:Type:=Dens qdb
def qsR(_N:Nat):Ctx:={ T:=[(25,⟨.struct [(0,22),(1,23)],2,48,some (.pair (.sl SX) (.sl Saa)),[.nil,.nil],false,[]⟩),(31,⟨.int .i64,1,8,some (.int .i64),[.int .i64 (0:Int)],false,[]⟩),(39,⟨.struct [(0,31),(1,3)],2,16,some (.pair (.int .i64) (.int .i64)),[.int .i64 (0:Int),.int .i64 (0:Int)],true,[]⟩)],G:=findE [mkHe 14 qfH (qbr _N),mkHe 15 qeU (qaT _N),mkHe 16 qdn (qbg _N)],I:=findI [],N:=_N,n:=32,fx:=[],fl:=0,gs:=Gs }
def qme(_N:Nat)(_x1:List Yy×List YA)(_x2:List Yw):Option qlx:=
 ((qbr _N (_x1.1,_x1.2)).bind fun _y11=>(caseD _y11 (fun _y12=>(bif (_y12.1 != (0:Int)) then (some ([],_y12.1,())) else ((qaT _N ((_x1.1,_x1.2),_x2)).bind fun _y14=>(caseD _y14 (fun _y15=>(bif (_y15 != (0:Int)) then (some ([],_y15,())) else none)) fun _y16=>(bif (_y16.1 != (0:Int)) then (some ([],_y16.1,())) else none))))) fun _y13=>(bif (_y13.1.1 != (0:Int)) then (some ([],_y13.1.1,())) else ((qaT _N ((_x1.1,_x1.2),_x2)).bind fun _y17=>(caseD _y17 (fun _y18=>(bif (_y18 != (0:Int)) then (some ([],_y18,())) else none)) fun _y19=>(bif (_y19.1 != (0:Int)) then (some ([],_y19.1,())) else ((qbg _N (((_y13.2.1,_y13.2.2.1),_y13.2.2.2),_y19.2)).bind fun _y20=>(some (_y20.1,(0:Int),())))))))))
def qbv(_N:Nat)(_x:Dens qdc):Option qlx:=qme _N _x.1 _x.2.1
theorem qkT(_N:Nat):SpecD Tryz.prog Gs 5 qdc qdb (qbv _N):=mkSpD (fn:=Tryz.f5) (c:=qh Tryz.f5) (C:=qsR _N)
  (a:=.two .none (.two .none (.two (.two .none (.two (.two (.draw 0 [.pure,.rd [1,6],.pure,.pure]) .none) .none)) (.two .none (.two .none (.two (.giv 6 (.pair (.pair (.sl SX) (.sl Saa)) (.sl (.sl (.pair (.int .i64) Sab)))) .none) .none))))))
  (by kernel_rfl) rfl (by kernel_rfl) (by kernel_rfl) ⟨rfl,by unfold TOk;kernel_rfl,qak rfl rfl (zD.2 ⟨qkg _N,(zD.2 ⟨qku _N,(zD.2 ⟨qkf _N,(zC _)⟩)⟩)⟩),qaj rfl rfl (zC _),rfl⟩ (fun _x=>by kernel_rfl)
theorem qrG(_N:Nat):EntOk Tryz.prog Gs (mkD 5 qdc qdb (qbv _N)):=entD ⟨Tryz.f5,qh Tryz.f5,by kernel_rfl,by kernel_rfl,rfl⟩ (qkT _N)
theorem qpP(_N:Nat):EntOk Tryz.prog Gs (mkQ 5 qdc qdb (qbv _N)):=entQ ⟨Tryz.f5,qh Tryz.f5,by kernel_rfl,by kernel_rfl,rfl⟩ (qkT _N)
namespace Rea
open Go.Proofs.YtgnnhemoocfclaaGreatDoor.Gh (Nd Ed nsum qby GrOk qcR)
def posS(L:List Mk):List Yz:=(L.filter fun m=>decide (m.2.2>0)).map fun m=>(m.1,m.2.1)
theorem quu{L:List Mk}{s:Int×List Int}:s∈posS L↔∃ n,(s.1,s.2,n)∈L/\n>0:=by
 unfold posS
 simp only [zo,zp,zN]
 constructor
 ·rintro⟨⟨a,t,n⟩,⟨h1,h2⟩,rfl⟩
  exact⟨n,h1,h2⟩
 ·rintro⟨n,h1,h2⟩
  exact⟨_,⟨h1,h2⟩,rfl⟩
theorem qAU(L:List Mk):(posS L).length<=L.length:=by
 unfold posS
 rw [zh]
 exact zAW _ _
theorem qCV{L:List Mk}{i:Nat}(hi:i<L.length):posS (L.take (i+1))=posS (L.take i)++if (nth ((0:Int),([]:List Int),(0:Int)) L i).2.2>0 then [((nth ((0:Int),([]:List Int),(0:Int)) L i).1,(nth ((0:Int),([]:List Int),(0:Int)) L i).2.1)] else []:=by
 unfold posS
 rw [zW hi,zAc,zAi,qcv hi]
 by_cases e:L[i].2.2>0
 ·rw [zH e,zAp (by simpa using e)];rfl
 ·rw [zJ e,zBG (by simpa using e)];rfl
section
variable {ns : List Nd} {es : List Ed} {P : List (List Tr)}
theorem qxr{l L:List Mk}(hm:MksOk ns l)(ht:Told (sumT l) L):∀ m∈L,Sok ns (m.1,m.2.1):=fun m hmL=>by
 obtain⟨a,t,n⟩:=m
 obtain⟨e1,e2⟩:=(ht.mem a t n (ht.l4 _ hmL)).1 hmL
 obtain⟨x,hx,rfl,rfl⟩:=qyy (l:=l) (a:=a) (t:=t) (by rw [<- e1];exact e2)
 exact hm.st x hx
theorem qyP{L:List Mk}(h:∀ m∈L,Sok ns (m.1,m.2.1)):∀ s∈posS L,Sok ns s:=fun s hs=>by
 obtain⟨n,h1,-⟩:=quu.1 hs
 exact h _ h1
theorem qAv{N:Nat}(hN:5000000000<=N)(w:(List Nd×List Ed)×List (List Tr)){d:Kn}{L:List Mk}(hm:qap N d=some (L,d))(hL:L.length<=64){f:List (List (List Int))}(hf:qaU N (w,posS L,())=some (f,())) :
  qbg N (w,d)=some (f,d):=by
 simp only [qbg,qfT,joinD,hm,Option.bind_some,loopE]
 refine qbS (N:=N) L.length (fun i=>((i:Int),posS (L.take i))) (fun i hi kn=>?_) (fun kn=>?_) (by omega)
 ·have hpl:=qAU (L.take i)
  rw [zd] at hpl
  simp only [qdN,lt_d hi,ge0_d,Bool.and_self,cond_true,Int.toNat_natCast,qK,ix1 hi (show L.length<=1000000000 by omega),qCV hi]
  by_cases q:(nth ((0:Int),([]:List Int),(0:Int)) L i).2.2>0
  ·rw [qy q,cond_true,zH q,qy (by simp only [List.length_cons,List.length_nil];omega)]
   rfl
  ·rw [qO q,cond_false,zJ q,List.append_nil]
   rfl
 ·simp only [qdN,qbb,cond_false,qfU,zAB,hf,Option.bind_some]
theorem qzB{N:Nat}(hN:5000000000<=N)(ns:List Nd)(es:List Ed)(l:List Mk) :
  (∃ e,qcO N ((ns,es),l,())=some ([],e,())/\qbv N ((ns,es),l,())=some ([],e,())/\e≠0/\¬ (GrOk ns es/\MksOk ns l)) \/
  (GrOk ns es/\MksOk ns l/\∃ L P f,qcO N ((ns,es),l,())=some (L,0,())/\Told (sumT l) L/\L.length<=64/\ReachOk ns es P/\qbr N (ns,es)=some (Sum.inr (((0:Int),(0:Int)),ns,es,P)) /\
   qbv N ((ns,es),l,())=some (f,0,())/\f.length=ns.length/\∀ i,i<ns.length->(∀ t,t∈nth [] f i↔isMin (allA ns es P (posS L) i) t)/\(nth [] f i).length<=2000000000):=by
 simp only [qcO,qmd,qbv,qme]
 rcases Of_eq (N:=N) (by omega) ns es with⟨c,p,h1,h2,h3⟩ | ⟨h1,P,h2,h3⟩
 ·refine .inl ⟨c,?_,?_,h1,fun h=>h3 h.1⟩ <;>
  ·simp only [h2,Option.bind_some,caseD]
   rw [bne_iff_ne.2 h1,cond_true]
 ·simp only [h3,Option.bind_some,caseD,bne_self_eq_false,cond_false]
  rcases qBB (ns:=ns) (es:=es) (N:=N) (by omega) l with⟨e,k1,k2,k3⟩ | ⟨k1,d,k2,k3⟩
  ·refine .inl ⟨e,?_,?_,k2,fun h=>k3 h.2⟩
   ·simp only [k1,Option.bind_some,caseD]
   ·simp only [k1,Option.bind_some,caseD]
    rw [bne_iff_ne.2 k2,cond_true]
  ·obtain⟨out,m1,m2,m3⟩:=qDL (N:=N) (by omega) k3 (zt k1.len (by decide))
   have hl64:=zt m3 k1.len
   obtain⟨f,f1,f2,f3⟩:=qAu hN h1 h2 (l:=posS out) (zt (qAU out) hl64) (qyP (qxr k1 m2))
   have hK:=qAv hN ((ns,es),P) m1 hl64 f1
   refine .inr ⟨h1,k1,out,P,f,?_,m2,hl64,h2,rfl,?_,f2,f3⟩
   ·simp only [k2,Option.bind_some,caseD,m1]
   ·simp only [k2,Option.bind_some,caseD,bne_self_eq_false,cond_false,hK]
end
end Rea
end Go.Proofs.YtgnnhemoocfclaaGreatDoor
end
