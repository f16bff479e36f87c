import Derived.Test.YtcjecibocjbdmaaQueT
import Derived.Test.YtcjecibocjbdmaaFrame0
noncomputable section
namespace Go.Proofs.Ytcjecibocjbdmaa
open Go Go.ChangeShapes Go.WideShapes Go.ChangeAt Go.WideMaps Go.WideElems Go.RowKit Go.Abs
abbrev Sr:Sh:=.sl (.int .i64)
abbrev Sm:Sh:=.pair (.int .i64) (.pair (.int .i64) (.int .i64))
abbrev Ye:Type:=Int×Int×Int
abbrev qbO:List Kd:=[.dat Sr,.dat Sr]
abbrev qbL:List Kd:=[.dat (.bool)]
abbrev qay:Type:=Dens qbL
def qkD(_N:Nat):Ctx:={ T:=[(2,⟨.int .i64,1,8,some (.int .i64),[.int .i64 (0:Int)],false,[]⟩),(24,⟨.slice 2,1,24,some Sr,[.nil],false,[]⟩)],G:=findE [],I:=findI [],N:=_N,n:=26,fx:=[],fl:=0,gs:=[] }
def qjV(_N:Nat):Option qay:=
 (some (true,()))
def qdy(_N:Nat)(_k4:Unit->Option qay)(_v1:List Int)(_v2:List Int)(_v3:Int)(_kn5:(List Int×List Int)×Int->Option qay):Option qay:=
 (bif (decide (_v3<(_v1.length:Int))) then (bif (decide (0<=_v3)&&decide (_v3<(_v1.length:Int))) then (bif (decide (0<=_v3)&&decide (_v3<(_v2.length:Int))) then (bif ((nth (0:Int) _v1 (_v3).toNat) != (nth (0:Int) _v2 (_v3).toNat)) then (some (false,())) else (_kn5 ((_v1,_v2),(IntKind.i64.wrap (_v3+(1:Int)))))) else none) else none) else (_k4 ()))
def qfs(_N:Nat)(_x1:List Int)(_x2:List Int):Option qay:=
 (bif ((_x1.length:Int) != (_x2.length:Int)) then (some (false,())) else (joinD (fun (_s:Unit)=>qjV _N) fun _k4=>(loopE (fun (_c:List Int×List Int) (_s:Int) _kn=>qdy _N _k4 _c.1 _c.2 _s _kn) _N (_x1,_x2) (0:Int))))
def qau(_N:Nat)(_x:Dens qbO):Option qay:=qfs _N _x.1 _x.2.1
theorem qiy(_N:Nat):SpecD Try.prog [] 11 qbO qbL (qau _N):=mkSpD (fn:=Try.f11) (c:=qbw Try.f11) (C:=qkD _N)
  (a:=.two .none (.two .none (.join 0 ⟨[],[]⟩ (.two .none (.one (.loop 0 ⟨[(0,.sl (.int .i64)),(1,.sl (.int .i64)),(5,.int .i64)],[]⟩ [2] (.two .none (.two (.one (.two (.draw 0 [.pure,.pure,.pure,.pure,.pure,.pure,.pure,.pure,.pure]) .none)) .none))))) .none)))
  (by kernel_rfl) rfl (by kernel_rfl) (by kernel_rfl) ⟨rfl,by unfold TOk;kernel_rfl,qfW rfl rfl (zj _),qfV rfl rfl (zj _),rfl⟩ (fun _x=>by kernel_rfl)
theorem qjt(_N:Nat):EntOk Try.prog [] (mkP 11 qbO qbL (qau _N)):=entP ⟨Try.f11,qbw Try.f11,by kernel_rfl,by kernel_rfl,rfl⟩ (by kernel_rfl) (qiy _N)
abbrev qbP:List Kd:=[.dat Sr,.dat Sr]
abbrev qbM:List Kd:=[.dat (.bool)]
abbrev qaz:Type:=Dens qbM
def qkE(_N:Nat):Ctx:={ T:=[(23,⟨.slice 28,1,24,some Sr,[.nil],false,[]⟩),(28,⟨.int .i64,1,8,some (.int .i64),[.int .i64 (0:Int)],false,[]⟩)],G:=findE [],I:=findI [],N:=_N,n:=26,fx:=[],fl:=0,gs:=[] }
def qjW(_N:Nat):Option qaz:=
 (some (true,()))
def qdz(_N:Nat)(_k4:Unit->Option qaz)(_v1:List Int)(_v2:List Int)(_v3:Int)(_kn5:(List Int×List Int)×Int->Option qaz):Option qaz:=
 (bif (decide (_v3<(_v1.length:Int))) then (bif (decide (0<=_v3)&&decide (_v3<(_v1.length:Int))) then (bif (decide (0<=_v3)&&decide (_v3<(_v2.length:Int))) then (bif ((nth (0:Int) _v1 (_v3).toNat) != (nth (0:Int) _v2 (_v3).toNat)) then (some (false,())) else (_kn5 ((_v1,_v2),(IntKind.i64.wrap (_v3+(1:Int)))))) else none) else none) else (_k4 ()))
def qft(_N:Nat)(_x1:List Int)(_x2:List Int):Option qaz:=
 (bif ((_x1.length:Int) != (_x2.length:Int)) then (some (false,())) else (joinD (fun (_s:Unit)=>qjW _N) fun _k4=>(loopE (fun (_c:List Int×List Int) (_s:Int) _kn=>qdz _N _k4 _c.1 _c.2 _s _kn) _N (_x1,_x2) (0:Int))))
def qaP(_N:Nat)(_x:Dens qbP):Option qaz:=qft _N _x.1 _x.2.1
theorem qiz(_N:Nat):SpecD Try.prog [] 12 qbP qbM (qaP _N):=mkSpD (fn:=Try.f12) (c:=qbw Try.f12) (C:=qkE _N)
  (a:=.two .none (.two .none (.join 0 ⟨[],[]⟩ (.two .none (.one (.loop 0 ⟨[(0,.sl (.int .i64)),(1,.sl (.int .i64)),(5,.int .i64)],[]⟩ [2] (.two .none (.two (.one (.two (.draw 0 [.pure,.pure,.pure,.pure,.pure,.pure,.pure,.pure,.pure]) .none)) .none))))) .none)))
  (by kernel_rfl) rfl (by kernel_rfl) (by kernel_rfl) ⟨rfl,by unfold TOk;kernel_rfl,qfW rfl rfl (zj _),qfV rfl rfl (zj _),rfl⟩ (fun _x=>by kernel_rfl)
theorem qju(_N:Nat):EntOk Try.prog [] (mkP 12 qbP qbM (qaP _N)):=entP ⟨Try.f12,qbw Try.f12,by kernel_rfl,by kernel_rfl,rfl⟩ (by kernel_rfl) (qiz _N)
abbrev qbQ:List Kd:=[.dat (.int .i64),.dat (.int .i64),.dat (.sl Sm),.dat (.int .i64)]
abbrev qbN:List Kd:=[.dat (.bool)]
abbrev qO:Type:=Dens qbN
def qeE(_N:Nat):Ctx:={ T:=[(2,⟨.int .i64,1,8,some (.int .i64),[.int .i64 (0:Int)],false,[]⟩),(3,⟨.int .i64,1,8,some (.int .i64),[.int .i64 (0:Int)],false,[]⟩),(22,⟨.slice 32,1,24,some (.sl Sm),[.nil],false,[]⟩),(23,⟨.slice 28,1,24,some Sr,[.nil],false,[]⟩),(24,⟨.slice 2,1,24,some Sr,[.nil],false,[]⟩),(25,⟨.slice 24,1,24,some (.sl Sr),[.nil],false,[]⟩),(27,⟨.struct [(0,23),(1,24),(2,25)],3,72,some (.pair Sr (.pair Sr (.sl Sr))),[.nil,.nil,.nil],false,[]⟩),(28,⟨.int .i64,1,8,some (.int .i64),[.int .i64 (0:Int)],false,[]⟩),(32,⟨.struct [(0,3),(1,3),(2,2)],3,24,some Sm,[.int .i64 (0:Int),.int .i64 (0:Int),.int .i64 (0:Int)],true,[]⟩)],G:=findE [mkQ 10 qaj qai (qL _N),mkD 10 qaj qai (qL _N),mkP 12 qbP qbM (qaP _N),mkP 11 qbO qbL (qau _N)],I:=findI [],N:=_N,n:=129,fx:=[1,2,3],fl:=0,gs:=[] }
def qck(_N:Nat)(_v14:Int)(_v15:Int)(_v16:Int)(_v19:List (List Int))(_v20:List Ye)(_v21:List Int)(_v22:List Int):Option qO:=
 ((qL _N (_v14,_v15,_v20,())).bind fun _y28=>(bif (_y28.2.1==(0:Int)) then (bif ((_y28.1.2.2.length:Int)==_v14) then ((qaP _N (_y28.1.1,_v21,())).bind fun _y29=>(bif _y29.1 then ((qau _N (_y28.1.2.1,_v22,())).bind fun _y30=>(bif _y30.1 then (bif (decide (0<=_v16)&&decide (_v16<(_y28.1.2.2.length:Int))) then (bif (decide (0<=_v16)&&decide (_v16<(_v19.length:Int))) then ((qau _N ((nth ([]) _y28.1.2.2 (_v16).toNat),(nth ([]) _v19 (_v16).toNat),())).bind fun _y31=>(some (_y31.1,()))) else none) else none) else (some (false,())))) else (some (false,())))) else (some (false,()))) else (some (false,()))))
def qaJ(_N:Nat)(_k32:(Int×Int×Int×List Int×List Int×List (List Int)×(List Ye)×List Int×List Int)->Option qO)(_v2:Int)(_v3:Int)(_v4:Int)(_v5:List Ye)(_v6:Int)(_v8:List Int)(_v9:List Int)(_v10:List (List Int))(_v7:Int)(_v11:List Ye)(_v12:List Int)(_v13:List Int)(_kn33:(Int×Int×Int×(List Ye)×Int×List Int×List Int×List (List Int))×(Int×(List Ye)×List Int×List Int)->Option qO):Option qO:=
 (bif (decide (_v7<_v6)) then (bif (decide (0<=_v7)&&decide (_v7<(_v5.length:Int))) then (bif ((((nth ((0:Int),((0:Int),(0:Int))) _v5 (_v7).toNat).2).1)==_v4) then (bif (decide ((_v11.length+([((nth ((0:Int),((0:Int),(0:Int))) _v5 (_v7).toNat).1,(((nth ((0:Int),((0:Int),(0:Int))) _v5 (_v7).toNat).2).1,((nth ((0:Int),((0:Int),(0:Int))) _v5 (_v7).toNat).2).2))]).length)*24<=140737488355328)&&Nat.ble 1 24) then (bif (decide (0<=_v7)&&decide (_v7<(_v8.length:Int))) then (bif (decide ((_v12.length+([(nth (0:Int) _v8 (_v7).toNat)]).length)*8<=140737488355328)&&Nat.ble 1 8) then (bif (decide (0<=_v7)&&decide (_v7<(_v9.length:Int))) then (bif (decide ((_v13.length+([(nth (0:Int) _v9 (_v7).toNat)]).length)*8<=140737488355328)&&Nat.ble 1 8) then (_kn33 ((_v2,_v3,_v4,_v5,_v6,_v8,_v9,_v10),((IntKind.i64.wrap (_v7+(1:Int))),(_v11 ++ [((nth ((0:Int),((0:Int),(0:Int))) _v5 (_v7).toNat).1,(((nth ((0:Int),((0:Int),(0:Int))) _v5 (_v7).toNat).2).1,((nth ((0:Int),((0:Int),(0:Int))) _v5 (_v7).toNat).2).2))]),(_v12 ++ [(nth (0:Int) _v8 (_v7).toNat)]),(_v13 ++ [(nth (0:Int) _v9 (_v7).toNat)])))) else none) else none) else none) else none) else none) else (_kn33 ((_v2,_v3,_v4,_v5,_v6,_v8,_v9,_v10),((IntKind.i64.wrap (_v7+(1:Int))),_v11,_v12,_v13)))) else none) else (_k32 (_v2,_v3,_v4,_v8,_v9,_v10,_v11,_v12,_v13)))
def qcj(_N:Nat)(_x1:Int)(_x2:Int)(_x3:List Ye)(_x4:Int):Option qO:=
 ((qL _N (_x1,_x2,_x3,())).bind fun _y27=>(bif (_y27.2.1 != (0:Int)) then (some (true,())) else (bif (decide (_x4<(0:Int))) then (some (true,())) else (bif (decide (_x4>=_x1)) then (some (true,())) else (bif ((_y27.1.1.length:Int) != (_x3.length:Int)) then (some (false,())) else (bif ((_y27.1.2.1.length:Int) != (_x3.length:Int)) then (some (false,())) else (bif ((_y27.1.2.2.length:Int) != _x1) then (some (false,())) else (joinD (fun (_s:Int×Int×Int×List Int×List Int×List (List Int)×(List Ye)×List Int×List Int)=>qck _N _s.1 _s.2.1 _s.2.2.1 _s.2.2.2.2.2.1 _s.2.2.2.2.2.2.1 _s.2.2.2.2.2.2.2.1 _s.2.2.2.2.2.2.2.2) fun _k32=>(loopE (fun (_c:Int×Int×Int×(List Ye)×Int×List Int×List Int×List (List Int)) (_s:Int×(List Ye)×List Int×List Int) _kn=>qaJ _N _k32 _c.1 _c.2.1 _c.2.2.1 _c.2.2.2.1 _c.2.2.2.2.1 _c.2.2.2.2.2.1 _c.2.2.2.2.2.2.1 _c.2.2.2.2.2.2.2 _s.1 _s.2.1 _s.2.2.1 _s.2.2.2 _kn) _N (_x1,_x2,_x4,_x3,(_x3.length:Int),_y27.1.1,_y27.1.2.1,_y27.1.2.2) ((0:Int),[],[],[]))))))))))
def qaQ(_N:Nat)(_x:Dens qbQ):Option qO:=qcj _N _x.1 _x.2.1 _x.2.2.1 _x.2.2.2.1
theorem qdS(_N:Nat):SpecD Try.prog [] 4 qbQ qbN (qaQ _N):=mkSpD (fn:=Try.f4) (c:=qbw Try.f4) (C:=qeE _N)
  (a:=.two .none (.two .none (.two .none (.two .none (.two .none (.two .none (.two .none (.join 4 ⟨[(0,.int .i64),(1,.int .i64),(3,.int .i64),(9,.ptr 0 0),(11,.slc 1 0),(12,.slc 2 0),(13,.slc 3 0)],[.cells [.sl (.int .i64),.sl (.int .i64),.sl Sr],.row false 0 32 Sm,.row false 0 28 (.int .i64),.row false 0 2 (.int .i64)]⟩ (.two .none (.one (.obj 11 32 Sm (.obj 12 28 (.int .i64) (.obj 13 2 (.int .i64) (.loop 4 ⟨[(0,.int .i64),(1,.int .i64),(3,.int .i64),(9,.ptr 0 0),(11,.slc 1 0),(12,.slc 2 0),(13,.slc 3 0),(56,.sl Sm),(57,.int .i64),(58,.int .i64)],[.cells [.sl (.int .i64),.sl (.int .i64),.sl Sr],.row false 0 32 Sm,.row false 0 28 (.int .i64),.row false 0 2 (.int .i64)]⟩ [5,9,10,11] .none)))))) (.two .none (.two (.draw 0 (.pure :: .pure :: .pure :: .pure :: .rd [4] :: .pure :: .pure :: .pure :: .pure :: .pure :: .pure :: .rd [4] :: .pure :: .rd [2] :: .pure :: .pure :: .pure :: .rd [4] :: .pure :: .rd [3] :: .pure :: .pure :: .pure :: .rd [4] :: .pure :: .pure :: .pure :: .pure :: .rd [0] :: .pure :: .pure :: .pure :: .pure :: .pure :: .pure :: [])) .none))))))))))
  (by kernel_rfl) rfl (by kernel_rfl) (by kernel_rfl) ⟨rfl,by unfold TOk;kernel_rfl,qfW rfl rfl (zAH.2 ⟨qgE _N,(zAH.2 ⟨qii _N,(zAH.2 ⟨qju _N,(zAH.2 ⟨qjt _N,(zj _)⟩)⟩)⟩)⟩),qfV rfl rfl (zj _),rfl⟩ (fun _x=>by kernel_rfl)
theorem qhx{N:Nat}(xs:List Int)(h:xs.length<1000)(hN:1000<=N):qau N (xs,xs,())=some (true,()):=by
 simp only [qau,qfs,bne_self_eq_false,cond_false,joinD,loopE]
 refine qdc xs.length (fun i=>(i:Int)) (fun i hi kn=>?_) (fun kn=>?_) (by omega)
 ·unfold qdy
  rw [lt_d hi,cond_true,ge0_d,Bool.and_self,cond_true,bne_self_eq_false,cond_false,w64 (show -9223372036854775808<=(i:Int)+1 by omega) (show (i:Int)+1<=9223372036854775807 by omega),qbK,cond_true]
  rfl
 ·unfold qdy
  rw [qfI,cond_false]
  rfl
theorem qmd{N:Nat}(xs:List Int)(h:xs.length<1000)(hN:1000<=N):qaP N (xs,xs,())=some (true,()):=by
 simp only [qaP,qft,bne_self_eq_false,cond_false,joinD,loopE]
 refine qdc xs.length (fun i=>(i:Int)) (fun i hi kn=>?_) (fun kn=>?_) (by omega)
 ·unfold qdz
  rw [lt_d hi,cond_true,ge0_d,Bool.and_self,cond_true,bne_self_eq_false,cond_false,w64 (show -9223372036854775808<=(i:Int)+1 by omega) (show (i:Int)+1<=9223372036854775807 by omega),qbK,cond_true]
  rfl
 ·unfold qdz
  rw [qfI,cond_false]
  rfl
theorem qnK{lanes room lane:Int}(ls:List (List Int))(m:Mv)(h0:0<=lane)(h:m.2.1≠lane):nth [] (oc lanes room ls m).1 lane.toNat=nth [] ls lane.toNat:=by
 unfold oc
 split
 ·rfl
 split
 ·rfl
 rename_i hb
 have hs:∀ q,nth [] (ls.set m.2.1.toNat q) lane.toNat=nth [] ls lane.toNat:=fun q=>by
  by_cases hl:m.2.1.toNat<ls.length
  ·rw [qbT hl,zP (by omega)]
  ·rw [zAt (by omega)]
 split
 ·split
  ·rfl
  ·exact hs _
 split
 ·rfl
 ·exact hs _
theorem qmx{lanes room:Int}:(l:List Mv)->(s:LS)->∃ c d,(l.foldl (stq lanes room) s).codes=s.codes++c/\(l.foldl (stq lanes room) s).taken=s.taken++d
 | [],s=>⟨[],[],by simp,by simp⟩
 | a :: l,s=>by
  obtain⟨c,d,h1,h2⟩:=qmx (lanes:=lanes) (room:=room) l (stq lanes room s a)
  exact⟨_,_,by rw [List.foldl_cons,h1];simp only [stq];rw [zN],by rw [List.foldl_cons,h2];simp only [stq];rw [zN]⟩
theorem qoT{lanes room:Int}(l:List Mv){i:Nat}(hi:i<l.length) :
  nth 0 (runQ lanes room l).codes i=(oc lanes room (runQ lanes room (l.take i)).ls (nth zm l i)).2.1/\nth 0 (runQ lanes room l).taken i=(oc lanes room (runQ lanes room (l.take i)).ls (nth zm l i)).2.2:=by
 obtain⟨c,d,h1,h2⟩:=qmx (lanes:=lanes) (room:=room) (l.drop (i+1)) (runQ lanes room (l.take (i+1)))
 have e:(l.drop (i+1)).foldl (stq lanes room) (runQ lanes room (l.take (i+1)))=runQ lanes room l:=by
  unfold runQ;rw [<- List.foldl_append,zAY]
 rw [e,qca l hi] at h1 h2
 obtain⟨-,g2,g3⟩:=qbD lanes room (l.take i)
 rw [zi,zAz (by omega)] at g2 g3
 simp only [stq] at h1 h2
 rw [h1,h2]
 constructor
 ·rw [qkc (by simp [g2])]
  have:=qkb (z:=(0:Int)) (x:=(oc lanes room (runQ lanes room (l.take i)).ls (nth zm l i)).2.1) (xs:=(runQ lanes room (l.take i)).codes)
  rwa [g2] at this
 ·rw [qkc (by simp [g3])]
  have:=qkb (z:=(0:Int)) (x:=(oc lanes room (runQ lanes room (l.take i)).ls (nth zm l i)).2.2) (xs:=(runQ lanes room (l.take i)).taken)
  rwa [g3] at this
theorem qoC{lanes room:Int}(ls:List (List Int))(m:Mv)(h:∀ j,((nth [] ls j).length:Int)<=room)(j:Nat):((nth [] (oc lanes room ls m).1 j).length:Int)<=room:=by
 have hs:∀ i q,((q.length:Nat):Int)<=room->((nth [] (ls.set i q) j).length:Int)<=room:=fun i q hq=>by
  by_cases hl:i<ls.length
  ·rw [qbT hl];split
   ·exact hq
   ·exact h j
  ·rw [zAt (by omega)];exact h j
 unfold oc
 split
 ·exact h j
 split
 ·exact h j
 split
 ·split
  ·exact h j
  ·exact hs _ _ (by have:=h m.2.1.toNat;simp;omega)
 have h1:=h m.2.1.toNat
 split
 ·exact h j
 ·rename_i hq
  rw [hq] at h1
  exact hs _ _ (by simp at h1;omega)
theorem qiH{lanes room:Int}(hr:0<=room)(l:List Mv):∀ i,i<=l.length->∀ j,((nth [] (runQ lanes room (l.take i)).ls j).length:Int)<=room
 | 0,_,j=>by
  have:nth ([]:List Int) (q0 lanes).ls j = []:=by
   unfold nth q0
   rw [zF,zBb]
   split <;> rfl
  show ((nth [] (q0 lanes).ls j).length:Int)<=room
  rw [this];exact hr
 | i+1,hi,j=>by
  rw [qca l (by omega)]
  exact qoC _ _ (qiH hr l i (by omega)) j
theorem qmF{lanes room:Int}(ls ls':List (List Int))(m:Mv)(h1:(ls.length:Int)=lanes)(h2:(ls'.length:Int)=lanes)(h:nth [] ls m.2.1.toNat=nth [] ls' m.2.1.toNat) :
  (oc lanes room ls m).2.1=(oc lanes room ls' m).2.1/\(oc lanes room ls m).2.2=(oc lanes room ls' m).2.2/\nth [] (oc lanes room ls m).1 m.2.1.toNat=nth [] (oc lanes room ls' m).1 m.2.1.toNat:=by
 unfold oc
 by_cases c1:m.1≠1/\m.1≠2
 ·rw [zG c1,zG c1];exact⟨rfl,rfl,h⟩
 rw [zP c1,zP c1]
 by_cases c2:m.2.1<0\/m.2.1>=lanes
 ·rw [zG c2,zG c2];exact⟨rfl,rfl,h⟩
 rw [zP c2,zP c2]
 have l1:m.2.1.toNat<ls.length:=by omega
 have l2:m.2.1.toNat<ls'.length:=by omega
 by_cases c3:m.1=1
 ·rw [zG c3,zG c3,<- h]
  by_cases c4:((nth [] ls m.2.1.toNat).length:Int)=room
  ·rw [zG c4,zG c4];exact⟨rfl,rfl,h⟩
  ·rw [zP c4,zP c4]
   refine⟨rfl,rfl,?_⟩
   dsimp only
   rw [qbT l1,qbT l2,zG rfl,zG rfl]
 ·rw [zP c3,zP c3,<- h]
  cases hq:nth [] ls m.2.1.toNat with
  | nil=>exact⟨rfl,rfl,by dsimp only;rw [<- h]⟩
  | cons y t=>
   refine⟨rfl,rfl,?_⟩
   dsimp only
   rw [qbT l1,qbT l2,zG rfl,zG rfl]
def ownM(lane:Int)(l:List Mv):List Mv:=l.filter fun m=>m.2.1==lane
theorem qmD{lane:Int}(l:List Mv){i:Nat}(hi:i<l.length)(h:(nth zm l i).2.1=lane):ownM lane (l.take (i+1))=ownM lane (l.take i) ++ [nth zm l i]:=by
 unfold ownM
 rw [qcf hi] at h ⊢
 rw [zAR hi,zBJ,zBc (by simpa using h)]
 rfl
theorem qkV{lane:Int}(l:List Mv){i:Nat}(hi:i<l.length)(h:(nth zm l i).2.1≠lane):ownM lane (l.take (i+1))=ownM lane (l.take i):=by
 unfold ownM
 rw [qcf hi] at h
 rw [zAR hi,zBJ,zBd (by simpa using h)]
 simp
theorem qkW(lane:Int)(l:List Mv)(i:Nat):(ownM lane (l.take i)).length<=i:=by
 unfold ownM
 refine zq (List.length_filter_le _ _) ?_
 rw [zi];omega
theorem own_q{lanes room lane:Int}(h0:0<=lane)(hl:0<=lanes)(l:List Mv):∀ i,i<=l.length->nth [] (runQ lanes room (ownM lane (l.take i))).ls lane.toNat=nth [] (runQ lanes room (l.take i)).ls lane.toNat
 | 0,_=>rfl
 | i+1,hi=>by
  have ih:=own_q (room:=room) h0 hl l i (by omega)
  rw [qca l (by omega)]
  by_cases e:(nth zm l i).2.1=lane
  ·rw [qmD l (by omega) e,qfo]
   simp only [stq]
   have:=(qmF (lanes:=lanes) (room:=room) (runQ lanes room (ownM lane (l.take i))).ls (runQ lanes room (l.take i)).ls (nth zm l i) (by rw [(qbD lanes room _).1];omega) (by rw [(qbD lanes room _).1];omega) (by rw [e];exact ih)).2.2
   rwa [e] at this
  ·rw [qkV l (by omega) e,ih]
   simp only [stq]
   rw [qnK _ _ h0 e]
theorem law_QueueApart(lanes room:Int)(l:List Mv)(lane:Int)(_h1:wfS (.int .i64) lanes)(_h2:wfS (.int .i64) room)(_h3:wfS (.sl Sm) l)(_h4:wfS (.int .i64) lane):∃ N,qaQ N (lanes,room,l,lane,())=some (true,()):=by
 refine⟨1000,?_⟩
 simp only [qaQ,qcj]
 by_cases hbad:lanes<1\/lanes>8\/room<0\/room>16\/l.length>60
 ·rw [qoj lanes room l hbad,Option.bind_some];rfl
 rw [qnD (by omega) lanes room l (by omega) (by omega) (by omega) (by omega) (by omega),Option.bind_some]
 dsimp only
 rw [bne_self_eq_false,cond_false]
 by_cases hl0:lane<0
 ·rw [qag hl0,cond_true]
 rw [qW hl0,cond_false]
 by_cases hl1:lane>=lanes
 ·rw [qag hl1,cond_true]
 rw [qW hl1,cond_false]
 obtain⟨g1,g2,g3⟩:=qbD lanes room l
 rw [g2,g3,bne_self_eq_false,cond_false,cond_false,show (((runQ lanes room l).ls.length:Int) != lanes)=false by rw [g1];simp;omega,cond_false]
 simp only [joinD,loopE]
 refine qdc l.length (fun i=>((i:Int),ownM lane (l.take i),(runQ lanes room (ownM lane (l.take i))).codes,(runQ lanes room (ownM lane (l.take i))).taken)) (fun i hi kn=>?_) (fun kn=>?_) (by omega)
 ·dsimp only
  obtain⟨c1,c2⟩:=qoT (lanes:=lanes) (room:=room) l hi
  have hle:=qkW lane l i
  obtain⟨p1,p2,p3⟩:=qbD lanes room (ownM lane (l.take i))
  have hix:decide ((i:Int)<((runQ lanes room l).codes.length:Int))=true:=by rw [g2];exact lt_d hi
  have hiy:decide ((i:Int)<((runQ lanes room l).taken.length:Int))=true:=by rw [g3];exact lt_d hi
  have hw:IntKind.i64.wrap ((i:Int)+1)=((i+1:Nat):Int):=w64 (by omega) (by omega)
  unfold qaJ
  rw [lt_d hi,cond_true,ge0_d,Bool.and_self,cond_true,Int.toNat_natCast]
  by_cases e:(nth zm l i).2.1=lane
  ·have hs:=qmF (lanes:=lanes) (room:=room) (runQ lanes room (l.take i)).ls (runQ lanes room (ownM lane (l.take i))).ls (nth zm l i) (by rw [(qbD lanes room _).1];omega) (by rw [p1];omega) (by rw [e];exact (own_q (by omega) (by omega) l i (by omega)).symm)
   rw [show ((nth ((0:Int),((0:Int),(0:Int))) l i).2.1==lane)=true from beq_iff_eq.2 e,cond_true,hix,hiy,c1,c2,hs.1,hs.2.1,qmD l hi e,qfo,
    qag (show ((ownM lane (l.take i)).length + [((nth ((0:Int),((0:Int),(0:Int))) l i).1,(((nth ((0:Int),((0:Int),(0:Int))) l i).2).1,((nth ((0:Int),((0:Int),(0:Int))) l i).2).2))].length)*24<=140737488355328 by simp only [zx];omega),
    qag (show ((runQ lanes room (ownM lane (l.take i))).codes.length + [(oc lanes room (runQ lanes room (ownM lane (l.take i))).ls (nth zm l i)).2.1].length)*8<=140737488355328 by simp only [zx];omega),
    qag (show ((runQ lanes room (ownM lane (l.take i))).taken.length + [(oc lanes room (runQ lanes room (ownM lane (l.take i))).ls (nth zm l i)).2.2].length)*8<=140737488355328 by simp only [zx];omega),
    show Nat.ble 1 24=true from rfl,show Nat.ble 1 8=true from rfl,Bool.and_self,cond_true,cond_true,cond_true,cond_true,cond_true,hw,qbK]
   rfl
  ·rw [show ((nth ((0:Int),((0:Int),(0:Int))) l i).2.1==lane)=false from zAX e,cond_false,hw,qbK,qkV l hi e]
 ·dsimp only
  unfold qaJ
  rw [qfI,cond_false]
  rw [zAK]
  have hle:=qkW lane l l.length
  have hq:=own_q (room:=room) (lane:=lane) (by omega) (show 0<=lanes by omega) l l.length (Nat.le_refl _)
  rw [zAK] at hle hq
  obtain⟨p1,p2,p3⟩:=qbD lanes room (ownM lane l)
  dsimp only
  unfold qck
  rw [qnD (by omega) lanes room (ownM lane l) (by omega) (by omega) (by omega) (by omega) (by omega),Option.bind_some]
  dsimp only
  obtain⟨j,rfl⟩:∃ j:Nat,lane=(j:Int):=⟨lane.toNat,by omega⟩
  rw [Int.toNat_natCast] at hq
  have hroom:(nth [] (runQ lanes room l).ls j).length<1000:=by have:=qiH (lanes:=lanes) (room:=room) (by omega) l l.length (Nat.le_refl _) j;rw [zAK] at this;omega
  rw [zAf,cond_true,beq_iff_eq.2 (show ((runQ lanes room (ownM (j:Int) l)).ls.length:Int)=lanes by rw [p1];omega),cond_true,qmd _ (by omega) (Nat.le_refl _),Option.bind_some,cond_true,
   qhx _ (by omega) (Nat.le_refl _),Option.bind_some,cond_true,ge0_d,lt_d (show j<(runQ lanes room (ownM (j:Int) l)).ls.length by rw [p1];omega),lt_d (show j<(runQ lanes room l).ls.length by rw [g1];omega),Bool.and_self,cond_true,cond_true,
   Int.toNat_natCast,hq,qhx _ hroom (Nat.le_refl _),Option.bind_some]
set_option maxRecDepth 100000 in
theorem lifted_QueueApart(os:Os)(started:os.Started)(H:Type)(enc:TypeId×Value->H) :
  ReturnsInHanded {} Try.checked os 4 .any (Rows.queueApartSpec.pre6 enc Try.prog Try.f4 Rows.queueApartRow.domain false) (Rows.queueApartSpec.post enc Try.prog Try.f4 false true false false):=by
 refine returnsInHanded_of_change_sized (C:=Try.checked) own started (by kernel_rfl) Try.func4
  (ChangeSpec.witness6 (enc:=enc) (C:=Try.checked) false ⟨#[],#[.int .i64 0,.int .i64 0,.slice none 0 0,.int .i64 0],[]⟩ 8 (by kernel_rfl) (by kernel_rfl) (by kernel_rfl) (by kernel_rfl)) ?_
 intro W base args ds gs before hval0 hW _ hsz0 _
 have hgw:GW [] W:=fun _ h=>nomatch h
 have hval:∀ (j:Nat) t v,Try.f4.params[j]? = some t->args[j]? = some v->Value.okWide Try.prog W .any base t v:=hval0
 have hW':=hW
 obtain⟨p,q,hA0,hV,rfl,_,_⟩:=hW
 have hA:DataW.TrodAll enc Try.prog W 0 (fun _=>true) true Try.f4.params.toList args.toList ds p:=hA0
 rw [Try.params4] at hA hval
 obtain⟨v0,vs0,d0,ds0,p0,q0,hargs,rfl,rfl,h0,r0⟩:=trodAll_cons hA
 obtain⟨v1,vs1,d1,ds1,p1,q1,rfl,rfl,rfl,h1,r1⟩:=trodAll_cons r0
 obtain⟨v2,vs2,d2,ds2,p2,q2,rfl,rfl,rfl,h2,r2⟩:=trodAll_cons r1
 obtain⟨v3,vs3,d3,ds3,p3,q3,rfl,rfl,rfl,h3,r3⟩:=trodAll_cons r2
 obtain⟨rfl,rfl,rfl⟩:=trodAll_nil r3
 obtain rfl:args = #[v0,v1,v2,v3]:=by cases args;simp_all
 obtain⟨rfl,rfl⟩:=trodVars_none hV
 have hall:=zd.1 hsz0
 clear hA0 hval0 hsz0
 simp only [List.append_nil] at hW'
 have hlt0:∀ x∈p0,x.block<W.heap.size:=fun x hx=>hW'.lt x (by simp [hx])
 have hlt1:∀ x∈p1,x.block<W.heap.size:=fun x hx=>hW'.lt x (by simp [hx])
 have hlt2:∀ x∈p2,x.block<W.heap.size:=fun x hx=>hW'.lt x (by simp [hx])
 have hlt3:∀ x∈p3,x.block<W.heap.size:=fun x hx=>hW'.lt x (by simp [hx])
 obtain⟨x0,g0,w0⟩:=qhL (k:=.dat (.int .i64)) (by kernel_rfl) (hval 0 3 v0 rfl rfl) h0
 obtain⟨x1,g1,w1⟩:=qhL (k:=.dat (.int .i64)) (by kernel_rfl) (hval 1 3 v1 rfl rfl) h1
 obtain⟨x2,g2,w2⟩:=qhL (k:=.dat (.sl Sm)) (by kernel_rfl) (hval 2 22 v2 rfl rfl) h2
 obtain⟨x3,g3,w3⟩:=qhL (k:=.dat (.int .i64)) (by kernel_rfl) (hval 3 3 v3 rfl rfl) h3
 obtain⟨N,hN⟩:=law_QueueApart x0 x1 x2 x3 w0 w1 w2 w3
 refine (qdS N (fun _=>False) W (x0,x1,x2,x3,()) (true,()) [v0,v1,v2,v3] (fun _ h=>h.elim) hgw ⟨v0,_,rfl,g0,⟨v1,_,rfl,g1,⟨v2,_,rfl,g2,⟨v3,_,rfl,g3,rfl⟩⟩⟩⟩ hN).mono ?_
 rintro e W' ⟨v,rfl,hg,hr⟩
 replace hg:=hg.old
 have hr:v=.bool true:=by simpa only [kvals,retV,Kd.val,Go.Abs.enc,RV] using hr
 subst hr
 exact⟨_,rfl,_,_,_,[],p0++(p1++(p2++(p3 ++ []))),[],hW',(trodAll_cons_mk (shut_bool (show Try.prog.underlying 4=some .bool by kernel_rfl) _) trodAll_mk0),(trodAll_cons_mk (Below.trod laidOut (by kernel_rfl) (zp (by kernel_rfl)) h0 hg hlt0) (trodAll_cons_mk (Below.trod laidOut (by kernel_rfl) (zp (by kernel_rfl)) h1 hg hlt1) (trodAll_cons_mk (Below.trod laidOut (by kernel_rfl) (zp (by kernel_rfl)) h2 hg hlt2) (trodAll_cons_mk (Below.trod laidOut (by kernel_rfl) (zp (by kernel_rfl)) h3 hg hlt3) trodAll_mk0)))),rfl,hg.frame _,fun h=>by cases h⟩
theorem queueApart_holds:Rows.QueueApartSaid:=
 OpenClaim.holds_of_wide 4 Try.f4 rfl rfl rfl rfl rfl rfl rfl ⟨rfl,rfl,rfl,rfl,rfl⟩ rfl rfl rfl rfl rfl (by kernel_rfl) Try.func4 (by kernel_rfl)
  (zp (by kernel_rfl)) (by unfold Func.isWrapper;first | (rw [zG (by decide +kernel)];kernel_rfl) | (rw [zP (by decide +kernel)];exact⟨rfl,rfl⟩))
  (fun os started H enc _=>lifted_QueueApart os started H enc)
end Go.Proofs.Ytcjecibocjbdmaa
end
