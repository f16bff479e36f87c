import Derived.Test.YtcjecibocjbdmaaWirF
import Derived.Test.YtcjecibocjbdmaaFrame0
namespace Go.Proofs.Ytcjecibocjbdmaa
open Go Go.ChangeShapes Go.WideShapes Go.ChangeAt Go.WideMaps Go.WideElems Go.RowKit Go.Abs Go.Bag Go.His Go.Wir
abbrev SH:Sh:=.sl (.pair (.sl (.int .i64)) (.sl (.pair (.int .i64) (.pair (.int .i64) (.int .i64)))))
abbrev Ks_keep_WireBack:List Kd:=[.dat SH]
abbrev Rk_keep_WireBack:List Kd:=[.dat (.bool)]
abbrev Rt_keep_WireBack:Type:=Dens Rk_keep_WireBack
noncomputable def C_keep_WireBack(_N:Nat):Ctx:={ T:=[(61,⟨.slice 5,1,24,some (.sl (.int .u8)),[.nil],false,[]⟩)],G:=findE [mkQ 19 Ks_diffs_Tidy Rk_diffs_Tidy (D_diffs_Tidy _N),mkQ 22 Ks_wire_Put Rk_wire_Put (D_wire_Put _N),mkQ 23 Ks_wire_Get Rk_wire_Get (D_wire_Get _N),mkP 21 Ks_ref_DiffsSame Rk_ref_DiffsSame (D_ref_DiffsSame _N)],I:=findI [],N:=_N,n:=53,fx:=[],fl:=0,gs:=[] }
noncomputable def keep_WireBack_1(_N:Nat)(_x1:List (List Int×List (Int×Int×Int))):Option Rt_keep_WireBack:=
 ((D_diffs_Tidy _N (_x1,())).bind fun _y5=>((D_wire_Put _N (_x1,())).bind fun _y6=>(bif (_y5.2.1 != (0:Int)) then (bif (_y5.2.1==_y6.2.1) then (bif (_y5.2.1 != (0:Int)) then (some (((_y6.1.length:Int)==(0:Int)),())) else (some (false,()))) else (some (false,()))) else (bif (_y6.2.1 != (0:Int)) then (bif (_y5.2.1==_y6.2.1) then (bif (_y5.2.1 != (0:Int)) then (some (((_y6.1.length:Int)==(0:Int)),())) else (some (false,()))) else (some (false,()))) else (bif (decide ((_y6.1.length:Int)<(3:Int))) then (bif (_y5.2.1==_y6.2.1) then (bif (_y5.2.1 != (0:Int)) then (some (((_y6.1.length:Int)==(0:Int)),())) else (some (false,()))) else (some (false,()))) else ((D_wire_Get _N (_y6.1,())).bind fun _y7=>(bif (_y7.2.1==(0:Int)) then ((D_ref_DiffsSame _N (_y7.1,_y5.1,())).bind fun _y8=>(some (_y8.1,()))) else (some (false,())))))))))
noncomputable def D_keep_WireBack(_N:Nat)(_x:Dens Ks_keep_WireBack):Option Rt_keep_WireBack:=keep_WireBack_1 _N _x.1
theorem sp_keep_WireBack(_N:Nat):SpecD Try.prog [] 8 Ks_keep_WireBack Rk_keep_WireBack (D_keep_WireBack _N):=mkSpD (fn:=Try.f8) (c:=bodyOf Try.f8) (C:=C_keep_WireBack _N)
  (a:=.none)
  (by kernel_rfl) rfl (by kernel_rfl) (by kernel_rfl) ⟨rfl,by unfold TOk;kernel_rfl,gOk_of rfl rfl (zI.2 ⟨qen_diffs_Tidy _N,(zI.2 ⟨qen_wire_Put _N,(zI.2 ⟨qen_wire_Get _N,(zI.2 ⟨en_ref_DiffsSame _N,(zF _)⟩)⟩)⟩)⟩),iOk_of rfl rfl (zF _),rfl⟩ (fun _x=>by kernel_rfl)
theorem Tidy_told{N:Nat}(hN:1000<=N){G:List Int->Key->Int}{l:List Df}(hi:IsHis G l)(H:HOkk l):D_diffs_Tidy N (l,())=some (l,0,()):=by
 have h64:=H.len
 obtain⟨l2,e,h1,h2⟩:=dTidy_eq hN (h:=l) (by omega) (by omega)
 rcases h2 with⟨rfl,-,i2,-⟩ | ⟨-,hno,-⟩
 ·rw [h1,i2.uniq hi.self]
 ·exact absurd H hno
theorem tok_range{t:List Int}(h:tok t=true):∀ x∈t,0<=x/\x<=1048576:=fun x hx=>by
 unfold tok at h
 simp only [zB,zZ,zM] at h
 exact h.2 x hx
theorem told_fine{h l:List Df}(wh:wfS histS h)(H:HOkk h)(i1:IsHis (fun t=>amt (rowsAt h t)) l)(O1:HOkk l):Fine l:=by
 refine⟨O1,fun d hd=>⟨fun x hx=>?_,fun r hr=>?_⟩⟩
 ·exact tok_range (O1.tok hd) x hx
 ·obtain⟨hb,-⟩:=i1.mem.1 hd
  obtain⟨g1,g2⟩:=hb.mem.1 hr
  have hw:=w_range (amt (rowsAt h d.1) (ky r))
  have hne:amt (rowsAt h d.1) (ky r)≠0:=fun h0=>by rw [h0,w_zero] at g2;exact g1 g2.symm
  obtain⟨s,hs,hk⟩:∃ s∈rowsAt h d.1,ky s=ky r:=Classical.byContradiction fun hno=>hne (amt_notin fun s hs hk=>hno ⟨s,hs,hk⟩)
  unfold rowsAt His.sel at hs
  obtain⟨d',hd',hs⟩:=List.mem_flatMap.1 hs
  have hs:s∈d'.2:=by split at hs;exact hs;cases hs
  have hf:=((wh.2 d' hd').2.2 s hs)
  have e1:s.1=r.1:=congrArg (fun k:Key=>k.1) hk
  have e2:s.2.1=r.2.1:=congrArg (fun k:Key=>k.2) hk
  refine⟨?_,?_,?_⟩
  ·rw [<- e1];exact⟨hf.1.1,hf.1.2⟩
  ·rw [<- e2];exact⟨hf.2.1.1,hf.2.1.2⟩
  ·rw [<- g2];exact hw
theorem law_WireBack(h:List Df)(wh:wfS SH h)(hz:h.length*48<=reachBytes):∃ N,D_keep_WireBack N (h,())=some (true,()):=by
 have hw:h.length<1000000000000000000:=by unfold reachBytes at hz;omega
 obtain⟨N,hN⟩:∃ N,N=h.length+100000:=⟨_,rfl⟩
 refine⟨N,?_⟩
 obtain⟨l,e,a1,a2⟩:=dTidy_eq (N:=N) (by omega) (h:=h) (by omega) (by omega)
 simp only [D_keep_WireBack,keep_WireBack_1,D_wire_Put,wire_Put_1,a1,Option.bind_some]
 rcases a2 with⟨rfl,H,i1,O1⟩ | ⟨he,-,rfl⟩
 case inr=>
  rw [bne_iff_ne.2 he]
  simp only [cond_true,Option.bind_some,zAf]
  rfl
 have F:=told_fine wh H i1 O1
 obtain⟨body,b1,b2,b3,b4⟩:=bytesOf_eq (N:=N) (by omega) O1
 rw [bne_self_eq_false,cond_false,b1]
 simp only [Option.bind_some,bne_self_eq_false,cond_false]
 obtain⟨s1,s2⟩:=smA_lt body
 have hlo:IntKind.u8.wrap (smA body)=smA body % 256:=wrap_mod _
 have hs:ishr .i64 (smA body) 8=smA body / 256:=by
  unfold ishr
  have:(2:Int) ^ (min (8:Int).toNat IntKind.i64.bits)=256:=by decide
  rw [this,zAU _ (by decide)]
 have hhi:IntKind.u8.wrap (ishr .i64 (smA body) 8)=smA body / 256:=by rw [hs];exact wrap_byt (by omega) (by omega)
 have hb1:1<=body.length:=by
  rw [b4]
  obtain⟨bs,-,n1,-,-,n5⟩:=Num_eq' (N:=N) (by omega) (l.length:Int)
  unfold hisB
  rw [zY,<- n5]
  omega
 rw [d_false (show ¬ ((body ++ [IntKind.u8.wrap (smA body),IntKind.u8.wrap (ishr .i64 (smA body) 8)]).length:Int)<3 by simp;omega),cond_false]
 have hget:D_wire_Get N (body ++ [IntKind.u8.wrap (smA body),IntKind.u8.wrap (ishr .i64 (smA body) 8)],())=some (l,0,()):=by
  have hlen:(((body ++ [IntKind.u8.wrap (smA body),IntKind.u8.wrap (ishr .i64 (smA body) 8)]:List Int).length:Nat):Int)=(body.length:Int)+2:=by simp
  have w1:IntKind.i64.wrap ((body.length:Int)+2 - 2)=(body.length:Int):=by rw [w64 (by omega) (by omega)];omega
  have w2:IntKind.i64.wrap ((body.length:Int)+1)=(body.length:Int)+1:=w64 (by omega) (by omega)
  have t2:((body.length:Int)+1).toNat=body.length+1:=by omega
  have n1:nth 0 (body ++ [IntKind.u8.wrap (smA body),IntKind.u8.wrap (ishr .i64 (smA body) 8)]) body.length=smA body % 256:=by rw [nth_lt (by simp)];simp [hlo]
  have n2:nth 0 (body ++ [IntKind.u8.wrap (smA body),IntKind.u8.wrap (ishr .i64 (smA body) 8)]) (body.length+1)=smA body / 256:=by rw [nth_lt (by simp)];simp [hhi]
  have htk:((body ++ [IntKind.u8.wrap (smA body),IntKind.u8.wrap (ishr .i64 (smA body) 8)]).take body.length).drop (0:Int).toNat=body:=by simp
  have hback:=hist_back (N:=N) (by omega) F []
  rw [List.append_nil,<- b4] at hback
  have ht:=Tidy_told (N:=N) (by omega) i1 O1
  simp only [D_wire_Get,wire_Get_1,hlen,w1,w2,Int.toNat_natCast,t2,n1,n2,htk]
  rw [d_false (show ¬ (body.length:Int)+2>8192 by omega),cond_false,d_false (show ¬ (body.length:Int)<0 by omega),cond_false,show decide ((0:Int)<=0)=true from rfl,d_true (show (0:Int)<=(body.length:Int) by omega),d_true (show (body.length:Int)<=(body.length:Int)+2 by omega),Bool.and_self,Bool.and_self,cond_true,
   Sum_eq (N:=N) (b:=body) (by omega) (by omega) b3,Option.bind_some,d_true (show (body.length:Int)<(body.length:Int)+2 by omega),d_true (show (0:Int)<=(body.length:Int)+1 by omega),d_true (show (body.length:Int)+1<(body.length:Int)+2 by omega)]
  simp only [Bool.and_self,cond_true,show decide ((8:Int)<0)=false from rfl,cond_false]
  rw [w64 (n:=smA body % 256) (by omega) (by omega),w64 (n:=smA body / 256) (by omega) (by omega),ior_two (a:=smA body % 256) (c:=smA body / 256) (by unfold Byt;omega) (by unfold Byt;omega),show smA body % 256+256*(smA body / 256)=smA body by omega,bne_self_eq_false,cond_false,
   hh_eq (by omega),hback]
  simp only [Option.bind_some,Bool.not_true,cond_false,ht,bne_self_eq_false,b1,D_eqB,zAf]
 rw [hget,Option.bind_some]
 simp only [zAf,cond_true]
 have h64:=O1.len
 rw [DSame_eq (N:=N) (by omega) (fun d hd=>by have:=tok4 (O1.tok hd);omega) (fun d hd=>by have:=O1.row hd;omega) (by omega),decide_eq_true rfl]
 rfl
set_option maxRecDepth 100000 in
theorem lifted_WireBack(os:Os)(started:os.Started)(H:Type)(enc:TypeId×Value->H) :
  ReturnsInHanded {} Try.checked os 8 .any (Rows.wireBackSpec.pre6 enc Try.prog Try.f8 Rows.wireBackRow.domain false) (Rows.wireBackSpec.post enc Try.prog Try.f8 false true false false):=by
 refine returnsInHanded_of_change_sized (C:=Try.checked) own started (by kernel_rfl) Try.func8
  (ChangeSpec.witness6 (enc:=enc) (C:=Try.checked) false ⟨#[],#[.slice none 0 0],[]⟩ 8 (by kernel_rfl) (by kernel_rfl) (by kernel_rfl) (by kernel_rfl)) ?_
 intro W base args ds gs before hval0 hW _ hsz0 _
 have hgw:GW [] W:=fun _ h=>nomatch h
 have hval:∀ (j:Nat) t v,Try.f8.params[j]? = some t->args[j]? = some v->Value.okWide Try.prog W .any base t v:=hval0
 have hW':=hW
 obtain⟨p,q,hA0,hV,rfl,_,_⟩:=hW
 have hA:DataW.TrodAll enc Try.prog W 0 (fun _=>true) true Try.f8.params.toList args.toList ds p:=hA0
 rw [Try.params8] at hA hval
 obtain⟨v0,vs0,d0,ds0,p0,q0,hargs,rfl,rfl,h0,r0⟩:=trodAll_cons hA
 obtain⟨rfl,rfl,rfl⟩:=trodAll_nil r0
 obtain rfl:args = #[v0]:=by cases args;simp_all
 obtain⟨rfl,rfl⟩:=trodVars_none hV
 have hall:=zZ.1 hsz0
 clear hA0 hval0 hsz0
 simp only [List.append_nil] at hW'
 have hlt0:∀ x∈p0,x.block<W.heap.size:=fun x hx=>hW'.lt x (by simp [hx])
 obtain⟨x0,g0,w0⟩:=open_kd (k:=.dat SH) (by kernel_rfl) (hval 0 53 v0 rfl rfl) h0
 have z0:x0.length*Try.prog.bytesOf 59<=reachBytes:=open_room (t:=53) (r1:=[]) (by kernel_rfl) g0 h0 fun n hn=>by
  refine zl (hall n ?_)
  rw [Try.params8]
  change n∈DataW.weightsEach Try.prog [53] [d0]
  simp only [DataW.weightsEach]
  exact zr _ (by simpa using hn)
 obtain⟨N,hN⟩:=law_WireBack x0 w0 (by simpa only [show Try.prog.bytesOf 59=48 by kernel_rfl] using z0)
 refine (sp_keep_WireBack N (fun _=>False) W (x0,()) (true,()) [v0] (fun _ h=>h.elim) hgw ⟨v0,_,rfl,g0,rfl⟩ hN).mono ?_
 rintro e W' ⟨v,rfl,hg,hr⟩
 replace hg:=hg.old
 have hr:v=.bool true:=by simpa only [kvals,retV,Kd.val,Go.Abs.enc,RV] using hr
 subst hr
 exact⟨_,rfl,_,_,_,[],p0 ++ [],[],hW',(trodAll_cons_mk (shut_bool (show Try.prog.underlying 4=some .bool by kernel_rfl) _) trodAll_mk0),(trodAll_cons_mk (Below.trod laidOut (by kernel_rfl) (zl (by kernel_rfl)) h0 hg hlt0) trodAll_mk0),rfl,hg.frame _,fun h=>by cases h⟩
theorem wireBack_holds:Rows.WireBackSaid:=
 OpenClaim.holds_of_wide 8 Try.f8 rfl rfl rfl rfl rfl rfl rfl ⟨rfl,rfl,rfl,rfl,rfl⟩ rfl rfl rfl rfl rfl (by kernel_rfl) Try.func8 (by kernel_rfl)
  (zl (by kernel_rfl)) (by unfold Func.isWrapper;first | (rw [zH (by decide +kernel)];kernel_rfl) | (rw [zK (by decide +kernel)];exact⟨rfl,rfl⟩))
  (fun os started H enc _=>lifted_WireBack os started H enc)
end Go.Proofs.Ytcjecibocjbdmaa
