import Derived.Test.YtnhjpicdijeagaaDoorMeaQ
noncomputable section
namespace Go.Proofs.YtnhjpicdijeagaaDoor
open Go.Abs Go.Bag Go.RowKit
abbrev SG:Sh:=.pair (.int .i64) (.pair (.int .i64) (.sl (.pair (.int .i64) (.pair (.int .i64) (.int .i64)))))
abbrev Yp:Type:=Int×Int×List (Int×Int×Int)
abbrev qbY:List Kd:=[.dat (.sl SG),.dat (.sl SG)]
abbrev qar:Type:=List Yp
def qmy(_N:Nat):Ctx:={ T:=[(41,⟨.slice 43,1,24,some (.sl SG),[.nil],false,[]⟩),(43,⟨.struct [(0,3),(1,3),(2,29)],3,40,some SG,[.int .i64 (0:Int),.int .i64 (0:Int),.nil],false,[]⟩)],G:=findE [],I:=findI [],N:=_N,n:=33,fx:=[0],fl:=0,gs:=Gs }
def qeq(_N:Nat)(_v12:List Yp):Option qar:=
 (some _v12)
def qcP(_N:Nat)(_k13:(List Yp)->Option qar)(_v8:List Yp)(_v9:Int)(_v10:Int)(_v11:List Yp)(_kn14:((List Yp)×Int)×(Int×(List Yp))->Option qar):Option qar:=
 (bif (decide (_v10<_v9)) then (bif (decide (0<=_v10)&&decide (_v10<(_v8.length:Int))) then (bif (decide ((_v11.length+([((nth ((0:Int),((0:Int),[])) _v8 (_v10).toNat).1,(((nth ((0:Int),((0:Int),[])) _v8 (_v10).toNat).2).1,((nth ((0:Int),((0:Int),[])) _v8 (_v10).toNat).2).2))]:List Yp).length)*40<=140737488355328)&&Nat.ble 1 40) then (_kn14 ((_v8,_v9),((IntKind.i64.wrap (_v10+(1:Int))),(_v11++([((nth ((0:Int),((0:Int),[])) _v8 (_v10).toNat).1,(((nth ((0:Int),((0:Int),[])) _v8 (_v10).toNat).2).1,((nth ((0:Int),((0:Int),[])) _v8 (_v10).toNat).2).2))]:List Yp))))) else none) else none) else (_k13 _v11))
def qcO(_N:Nat)(_v6:List Yp)(_v7:List Yp):Option qar:=
 (joinD (fun (_s:(List Yp))=>qeq _N _s) fun _k13=>(loopE (fun (_c:(List Yp)×Int) (_s:Int×(List Yp)) _kn=>qcP _N _k13 _c.1 _c.2 _s.1 _s.2 _kn) _N (_v6,(_v6.length:Int)) ((0:Int),_v7)))
def qcN(_N:Nat)(_k15:((List Yp)×(List Yp))->Option qar)(_v1:List Yp)(_v2:List Yp)(_v3:Int)(_v4:Int)(_v5:List Yp)(_kn16:((List Yp)×(List Yp)×Int)×(Int×(List Yp))->Option qar):Option qar:=
 (bif (decide (_v4<_v3)) then (bif (decide (0<=_v4)&&decide (_v4<(_v2.length:Int))) then (bif (decide ((_v5.length+([((nth ((0:Int),((0:Int),[])) _v2 (_v4).toNat).1,(((nth ((0:Int),((0:Int),[])) _v2 (_v4).toNat).2).1,((nth ((0:Int),((0:Int),[])) _v2 (_v4).toNat).2).2))]:List Yp).length)*40<=140737488355328)&&Nat.ble 1 40) then (_kn16 ((_v1,_v2,_v3),((IntKind.i64.wrap (_v4+(1:Int))),(_v5++([((nth ((0:Int),((0:Int),[])) _v2 (_v4).toNat).1,(((nth ((0:Int),((0:Int),[])) _v2 (_v4).toNat).2).1,((nth ((0:Int),((0:Int),[])) _v2 (_v4).toNat).2).2))]:List Yp))))) else none) else none) else (_k15 (_v1,_v5)))
def qhb(_N:Nat)(_x1:List Yp)(_x2:List Yp):Option qar:=
 (joinD (fun (_s:(List Yp)×(List Yp))=>qcO _N _s.1 _s.2) fun _k15=>(loopE (fun (_c:(List Yp)×(List Yp)×Int) (_s:Int×(List Yp)) _kn=>qcN _N _k15 _c.1 _c.2.1 _c.2.2 _s.1 _s.2 _kn) _N (_x2,_x1,(_x1.length:Int)) ((0:Int),[])))
def qaT(_N:Nat)(_x:Dens qbY):Option qar:=qhb _N _x.1 _x.2.1
theorem qkJ(_N:Nat):SpecF Tryd.prog Gs 8 qbY 43 SG (qaT _N):=mkSpF (fn:=Tryd.f8) (c:=ql Tryd.f8) (C:=qmy _N)
  (a:=.two .none (.two .none (.join 1 ⟨[(1,.sl SG),(5,.slc 0 0)],[.row false 0 43 SG]⟩ (.two .none (.one (.obj 5 43 SG (.loop 1 ⟨[(1,.sl SG),(5,.slc 0 0),(10,.sl SG),(11,.int .i64),(12,.int .i64)],[.row false 0 43 SG]⟩ [3,4] .none)))) (.join 1 ⟨[(5,.slc 0 0)],[.row false 0 43 SG]⟩ (.two .none (.one (.loop 1 ⟨[(5,.slc 0 0),(21,.sl SG),(22,.int .i64),(23,.int .i64)],[.row false 0 43 SG]⟩ [2,3] .none))) .none))))
  (by kernel_rfl) rfl (by kernel_rfl) (by kernel_rfl) ⟨rfl,by unfold TOk;kernel_rfl,qao rfl rfl (zC _),qan rfl rfl (zC _),rfl⟩ (fun _x=>by kernel_rfl)
theorem qft(_N:Nat):EntOk Tryd.prog Gs (mkQ 8 qbY [.dat (.sl SG)] (fun _x=>(qaT _N _x).map fun _y=>(_y,()))):=entQ ⟨Tryd.f8,ql Tryd.f8,by kernel_rfl,by kernel_rfl,rfl⟩ (qro (qkJ _N))
theorem qAA(x:Fd):(x.1,x.2.1,x.2.2)=x:=rfl
theorem quF{N:Nat}{a b:List Fd}(ha:a.length<=1048576)(hb:b.length<=1048576)(hN:1048576<N):qaT N (a,b,())=some (a++b):=by
 have h2:∀ c:List Fd,c.length<=1048576->qcO N b c=some (c++b):=fun c hc=>by
  simp only [qcO,joinD,loopE]
  have key:=qcJ (g:=fun (s:Int×List Fd) kn=>qcP N (fun s=>qeq N s) b (b.length:Int) s.1 s.2 (backE (b,(b.length:Int)) kn)) (k:=some (c++b)) b.length (fun i=>((i:Int),c++b.take i))
   (fun i hi kn=>by
    have e0:nth ((0:Int),(0:Int),([]:List Row)) b i=nth zF b i:=rfl
    have hl:((c++b.take i).length+1)*40<=140737488355328:=by
     rw [zq,zAN];omega
    simp only [qcP,lt_d hi,ge0_d,Int.toNat_natCast,Bool.and_self,cond_true,e0,qAA,zBP,qY hl,ix1 hi (by omega),qaq,qeS (z:=zF) hi,zj,show Nat.ble 1 40=true from rfl]
    rfl)
   (fun kn=>by
    simp only [qcP,qbb,cond_false,qeq,zAR])
   (N:=N) (by omega)
  simpa using key
 simp only [qaT,qhb,joinD,loopE]
 have key:=qcJ (g:=fun (s:Int×List Fd) kn=>qcN N (fun s=>qcO N s.1 s.2) b a (a.length:Int) s.1 s.2 (backE (b,a,(a.length:Int)) kn)) (k:=some (a++b)) a.length (fun i=>((i:Int),a.take i))
  (fun i hi kn=>by
   have e0:nth ((0:Int),(0:Int),([]:List Row)) a i=nth zF a i:=rfl
   have hl:((a.take i).length+1)*40<=140737488355328:=by
    rw [zAN];omega
   simp only [qcN,lt_d hi,ge0_d,Int.toNat_natCast,Bool.and_self,cond_true,e0,qAA,zBP,qY hl,ix1 hi (by omega),qaq,qeS (z:=zF) hi,show Nat.ble 1 40=true from rfl]
   rfl)
  (fun kn=>by
   simp only [qcN,qbb,cond_false,zAR]
   exact h2 a ha)
  (N:=N) (by omega)
 simpa using key
theorem qDG{ns:List Nd}{es:List Ed}(h:Gh.GrOk ns es){rd:Int}{s' s:Nat×List Int}(a:Ask ns es rd s' s):s'.2.headD 0<=s.2.headD 0:=by
 have hd:1<=(ndA ns s.1).2.1/\(ndA ns s.1).2.1<=4:=h.deep a.l
 have hlen:=a.len
 have hnn:=a.nn
 rw [a.tm]
 obtain⟨n,t⟩:=s
 simp only at hd hlen hnn ⊢
 cases t with
 | nil=>simp at hlen;omega
 | cons x r=>
  have hx:=hnn x (zAH ..)
  cases r with
  | nil=>
   split
   ·exact hx
   split
   ·exact zBE _
   split
   ·show x - 1<=x;omega
   ·exact zBE _
  | cons y r=>
   split
   ·exact zBE _
   split
   ·exact zBE _
   split
   ·exact zBE _
   ·exact zBE _
open Classical in
theorem qrr{ns:List Nd}{es:List Ed}(h:Gh.GrOk ns es)(rd:Int){fs fs':List Fd}{e0:Int}(hin:∀ n e,e<=e0->inpF fs n e=inpF fs' n e):∀ s:S3,s.2.2.headD 0<=e0->semC ns es rd fs s=semC ns es rd fs' s:=by
 intro s
 induction s using (r3_wf h rd).induction with
 | _ s IH=>
  intro hs
  rw [qsv h,qsv h]
  have hr:(fun s'=>if R3 ns es rd s' s then semC ns es rd fs s' else none)=(fun s'=>if R3 ns es rd s' s then semC ns es rd fs' s' else none):=by
   funext s'
   split
   ·rename_i q
    exact IH s' q (Int.le_trans (qDG h q) hs)
   ·rfl
  rw [hr]
  unfold bodyC bodyG
  rw [hin _ _ hs]
theorem qCj(fs:List Fd)(n:Nat)(e:Int):inpF fs.reverse n e=inpF fs n e:=by
 funext z
 induction fs with
 | nil=>rfl
 | cons f r ih=>
  rw [List.reverse_cons,qix,ih]
  simp only [inpF]
  omega
theorem qAm{fs:List Fd}{e0:Int}(h:∀ f∈fs,e0<f.2.1)(n:Nat){e:Int}(he:e<=e0):inpF fs n e=fun _=>0:=by
 funext z
 induction fs with
 | nil=>rfl
 | cons f r ih=>
  have h1:=h f (zAH ..)
  simp only [inpF]
  rw [zL (by omega),ih fun x hx=>h x (zb _ hx)]
  rfl
theorem qxU(ns:List Nd)(es:List Ed)(rd:Int)(fs fs':List Fd)(node port:Int)(t:List Int):codeP ⟨ns,es,rd,fs⟩ node port t=codeP ⟨ns,es,rd,fs'⟩ node port t:=by
 have h:=(qmd ⟨ns,es,rd,fs⟩ node port t).1.symm.trans (qmd ⟨ns,es,rd,fs'⟩ node port t).1
 exact congrArg Prod.fst (zAj h)
open Classical in
theorem qAV(ns:List Nd)(es:List Ed)(rd:Int)(fs:List Fd):codeF ⟨ns,es,rd,fs.reverse⟩=codeF ⟨ns,es,rd,fs⟩:=by
 unfold codeF
 exact ite_congr (by simp only [zBD,List.mem_reverse]) (fun _=>rfl) fun _=>ite_congr (by simp only [List.mem_reverse]) (fun _=>rfl) fun _=>rfl
open Classical in
theorem qvj{ns:List Nd}{es:List Ed}{rd:Int}{a b:List Fd}(h:codeF ⟨ns,es,rd,a⟩=0)(hl:a.length+b.length<=60):codeF ⟨ns,es,rd,a++b⟩=codeF ⟨ns,es,rd,b⟩:=by
 unfold codeF at h ⊢
 simp only at h ⊢
 split at h
 ·cases h
 rename_i k1
 split at h
 ·cases h
 rename_i k2
 have e1:(60<(a++b).length\/∃ f∈a++b,128<f.2.2.length)↔(60<b.length\/∃ f∈b,128<f.2.2.length):=by
  rw [zq]
  constructor
  ·rintro (q | ⟨f,hf,q⟩)
   ·omega
   ·rcases zU.1 hf with hf | hf
    ·exact absurd (.inr ⟨f,hf,q⟩) k1
    ·exact .inr ⟨f,hf,q⟩
  ·rintro (q | ⟨f,hf,q⟩)
   ·omega
   ·exact .inr ⟨f,zf _ hf,q⟩
 have e2:(∃ f∈a++b,badF ns f)↔∃ f∈b,badF ns f:=by
  constructor
  ·rintro⟨f,hf,q⟩
   rcases zU.1 hf with hf | hf
   ·exact absurd ⟨f,hf,q⟩ k2
   ·exact⟨f,hf,q⟩
  ·rintro⟨f,hf,q⟩
   exact⟨f,zf _ hf,q⟩
 exact ite_congr (propext e1) (fun _=>rfl) fun _=>ite_congr (propext e2) (fun _=>rfl) fun _=>rfl
theorem qvz{p p':Pl}{node port:Int}{t:List Int}(h1:codeM p=codeM p')(h2:codeF p=codeF p')(h3:codeP p node port t=codeP p' node port t)(h4:codeM p=0->codeF p=0->codeP p node port t=0->p.sem (node.toNat,port,t)=p'.sem (node.toNat,port,t)):atF p node port t=atF p' node port t:=by
 unfold atF
 by_cases k1:codeM p=0
 case neg=>rw [zJ k1,<- h1,zJ k1]
 by_cases k2:codeF p=0
 case neg=>rw [zL (fun q=>q k1),zJ k2,<- h1,<- h2,zL (fun q=>q k1),zJ k2]
 by_cases k3:codeP p node port t=0
 case neg=>rw [zL (fun q=>q k1),zL (fun q=>q k2),zJ k3,<- h1,<- h2,<- h3,zL (fun q=>q k1),zL (fun q=>q k2),zJ k3]
 rw [h4 k1 k2 k3,<- h1,<- h2,<- h3]
theorem qno{p:Pl}{node port:Int}{t:List Int}(h:(atF p node port t).2=0):codeM p=0/\codeF p=0/\codeP p node port t=0/\∃ F,p.sem (node.toNat,port,t)=some F/\(atF p node port t).1=rowsF F:=by
 unfold atF at h ⊢
 by_cases k1:codeM p=0
 case neg=>rw [zJ k1] at h;exact absurd h k1
 by_cases k2:codeF p=0
 case neg=>rw [zL (fun q=>q k1),zJ k2] at h;exact absurd h k2
 by_cases k3:codeP p node port t=0
 case neg=>rw [zL (fun q=>q k1),zL (fun q=>q k2),zJ k3] at h;exact absurd h k3
 rw [zL (fun q=>q k1),zL (fun q=>q k2),zL (fun q=>q k3)] at h ⊢
 refine⟨k1,k2,k3,?_⟩
 cases hs:p.sem (node.toNat,port,t) with
 | none=>rw [hs] at h;cases h
 | some F=>exact⟨F,rfl,rfl⟩
theorem at_len(p:Pl)(node port:Int)(t:List Int):(atF p node port t).1.length<=128:=by
 by_cases h:(atF p node port t).2=0
 ·obtain⟨k1,k2,-,F,hs,e⟩:=qno h
  rw [e]
  rw [sem_g (qmc k1 k2)] at hs
  cases hg:gF p (node.toNat,port,t) with
  | none=>rw [hg] at hs;cases hs
  | some G=>
   rw [hg,Option.bind_some] at hs
   split at hs
   ·cases hs
   ·rename_i q
    cases hs
    omega
 ·have:(atF p node port t).1 = []:=by
   unfold atF at h ⊢
   by_cases k1:codeM p=0
   case neg=>rw [zJ k1]
   by_cases k2:codeF p=0
   case neg=>rw [zL (fun q=>q k1),zJ k2]
   by_cases k3:codeP p node port t=0
   case neg=>rw [zL (fun q=>q k1),zL (fun q=>q k2),zJ k3]
   rw [zL (fun q=>q k1),zL (fun q=>q k2),zL (fun q=>q k3)] at h ⊢
   cases hs:p.sem (node.toNat,port,t) with
   | none=>rfl
   | some F=>rw [hs] at h;exact absurd rfl h
  rw [this]
  exact zAE _
theorem at_neg(p:Pl)(port:Int)(t:List Int):(atF p (-1) port t).2≠0:=fun h=>qAU p port t (qno h).2.2.1
theorem qEE(ns:List Nd)(es:List Ed)(rd:Int)(fs:List Fd)(node port:Int)(t:List Int):atF ⟨ns,es,rd,fs.reverse⟩ node port t=atF ⟨ns,es,rd,fs⟩ node port t:=
 qvz rfl (qAV ns es rd fs) (qxU ..) fun k1 k2 _=>qrr (qmc k1 k2).gr rd (e0:=t.headD 0) (fun n e _=>qCj fs n e) _ (zBE _)
end Go.Proofs.YtnhjpicdijeagaaDoor
end
