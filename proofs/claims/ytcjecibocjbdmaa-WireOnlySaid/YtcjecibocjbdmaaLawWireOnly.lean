import Derived.Test.YtcjecibocjbdmaaWirD
import Derived.Test.YtcjecibocjbdmaaFrame0
namespace Go.Proofs.Ytcjecibocjbdmaa
open Go Go.ChangeShapes Go.WideShapes Go.ChangeAt Go.WideMaps Go.WideElems Go.RowKit Go.Abs Go.Bag Go.His Go.Wir
abbrev Ks_keep_WireOnly:List Kd:=[.dat (.sl (.int .u8))]
abbrev Rk_keep_WireOnly:List Kd:=[.dat (.bool)]
abbrev Rt_keep_WireOnly:Type:=Dens Rk_keep_WireOnly
noncomputable def C_keep_WireOnly(_N:Nat):Ctx:={ T:=[(53,⟨.slice 59,1,24,some (.sl (.pair (.sl (.int .i64)) (.sl (.pair (.int .i64) (.pair (.int .i64) (.int .i64)))))),[.nil],false,[]⟩)],G:=findE [mkQ 23 Ks_wire_Get Rk_wire_Get (D_wire_Get _N),mkQ 22 Ks_wire_Put Rk_wire_Put (D_wire_Put _N),mkQ 19 Ks_diffs_Tidy Rk_diffs_Tidy (D_diffs_Tidy _N),mkP 24 Ks_ref_Bytes Rk_ref_Bytes (D_ref_Bytes _N),mkP 21 Ks_ref_DiffsSame Rk_ref_DiffsSame (D_ref_DiffsSame _N)],I:=findI [],N:=_N,n:=44,fx:=[],fl:=0,gs:=[] }
noncomputable def keep_WireOnly_1(_N:Nat)(_x1:List Int):Option Rt_keep_WireOnly:=
 ((D_wire_Get _N (_x1,())).bind fun _y6=>(bif (_y6.2.1 != (0:Int)) then (some (((_y6.1.length:Int)==(0:Int)),())) else ((D_wire_Put _N (_y6.1,())).bind fun _y7=>((D_diffs_Tidy _N (_y6.1,())).bind fun _y8=>(bif (_y7.2.1==(0:Int)) then (bif (_y8.2.1==(0:Int)) then ((D_ref_Bytes _N (_x1,_y7.1,())).bind fun _y9=>(bif _y9.1 then ((D_ref_DiffsSame _N (_y6.1,_y8.1,())).bind fun _y10=>(some (_y10.1,()))) else (some (false,())))) else (some (false,()))) else (some (false,())))))))
noncomputable def D_keep_WireOnly(_N:Nat)(_x:Dens Ks_keep_WireOnly):Option Rt_keep_WireOnly:=keep_WireOnly_1 _N _x.1
theorem sp_keep_WireOnly(_N:Nat):SpecD Try.prog [] 9 Ks_keep_WireOnly Rk_keep_WireOnly (D_keep_WireOnly _N):=mkSpD (fn:=Try.f9) (c:=bodyOf Try.f9) (C:=C_keep_WireOnly _N)
  (a:=.none)
  (by kernel_rfl) rfl (by kernel_rfl) (by kernel_rfl) ⟨rfl,by unfold TOk;kernel_rfl,gOk_of rfl rfl (zH.2 ⟨qen_wire_Get _N,(zH.2 ⟨qen_wire_Put _N,(zH.2 ⟨qen_diffs_Tidy _N,(zH.2 ⟨en_ref_Bytes _N,(zH.2 ⟨en_ref_DiffsSame _N,(zF _)⟩)⟩)⟩)⟩)⟩),iOk_of rfl rfl (zF _),rfl⟩ (fun _x=>by kernel_rfl)
theorem nums_inj{xs ys:List Int}(hx:∀ x∈xs,Byt x)(hy:∀ x∈ys,Byt x)(h:(strOfNums xs).toList=(strOfNums ys).toList):xs=ys:=by
 rw [Lib.strOfNums_toList,Lib.strOfNums_toList] at h
 have key:∀ l:List Int,(∀ x∈l,Byt x)->(Lib.bytesOf l).map (fun u=>(u.toNat:Int))=l:=fun l hl=>by
  unfold Lib.bytesOf
  rw [zBs]
  conv=>rhs;rw [<- List.map_id l]
  refine List.map_congr_left fun x hx=>?_
  have:=hl x hx
  unfold Byt at this
  simp only [Function.comp,UInt8.toNat_ofNat',id]
  omega
 have:=congrArg (List.map fun u:UInt8=>(u.toNat:Int)) h
 rwa [key xs hx,key ys hy] at this
theorem Bytes_refl{N:Nat}(xs:List Int)(h:xs.length<N)(h2:xs.length<=1000000):D_ref_Bytes N (xs,xs,())=some (true,()):=by
 simp only [D_ref_Bytes,ref_Bytes_3,bne_self_eq_false,cond_false,joinD,loopE]
 refine loopD_path xs.length (fun i=>(i:Int)) (fun i hi kn=>?_) (fun kn=>?_) h
 ·unfold ref_Bytes_2
  rw [lt_d hi,cond_true,ge0_d,Bool.and_self,cond_true,bne_self_eq_false,cond_false,w64 (show -9223372036854775808<=(i:Int)+1 by omega) (show (i:Int)+1<=9223372036854775807 by omega),backE_eq,cond_true]
  rfl
 ·unfold ref_Bytes_2
  rw [lt_self,cond_false]
  rfl
theorem Tidy_told{N:Nat}(hN:1000<=N){G:List Int->Key->Int}{l:List Df}(hi:IsHis G l)(H:HOkk l):D_diffs_Tidy N (l,())=some (l,0,()):=by
 have h64:=H.len
 obtain⟨l2,e,h1,h2⟩:=dTidy_eq hN (h:=l) (by omega) (by omega)
 rcases h2 with⟨rfl,-,i2,-⟩ | ⟨-,hno,-⟩
 ·rw [h1,i2.uniq hi.self]
 ·exact absurd H hno
theorem law_WireOnly(b:List Int)(wb:wfS (.sl (.int .u8)) b):∃ N,D_keep_WireOnly N (b,())=some (true,()):=by
 refine⟨100000,?_⟩
 generalize hN:100000=N
 have hN:100000<=N:=by omega
 have hb:∀ x∈b,Byt x:=fun x hx=>⟨(wb.2 x hx).1,(wb.2 x hx).2⟩
 have hbl:(b.length:Int)<=9223372036854775807:=by have:=wb.1;unfold maxI at this;omega
 suffices hg:∃ l c,D_wire_Get N (b,())=some (l,c,())/\(c≠0/\l = []\/c=0/\HOkk l/\(∃ G,IsHis G l)/\b.length<=8192/\D_wire_bytesOf N (l,())=some b) by
  obtain⟨l,c,g1,g2⟩:=hg
  simp only [D_keep_WireOnly,keep_WireOnly_1,g1,Option.bind_some]
  rcases g2 with⟨hc,rfl⟩ | ⟨rfl,H,⟨G,hi⟩,hl,hp⟩
  ·rw [bne_iff_ne.2 hc,cond_true];rfl
  ·have ht:=Tidy_told (N:=N) (by omega) hi H
   have h64:=H.len
   simp only [D_wire_Put,wire_Put_1,ht,hp,Option.bind_some,bne_self_eq_false,cond_false,zAu,cond_true,Bytes_refl (N:=N) b (by omega) (by omega)]
   rw [DSame_eq (N:=N) (by omega) (fun d hd=>by have:=tok4 (H.tok hd);omega) (fun d hd=>by have:=H.row hd;omega) (by omega),decide_eq_true rfl]
   rfl
 simp only [D_wire_Get,wire_Get_1]
 by_cases h1:(b.length:Int)>8192
 ·rw [d_true h1,cond_true]
  exact⟨[],1,rfl,.inl ⟨by decide,rfl⟩⟩
 rw [d_false h1,cond_false,w64 (n:=(b.length:Int) - 2) (by omega) (by omega)]
 by_cases h2:(b.length:Int) - 2<0
 ·rw [d_true h2,cond_true]
  exact⟨[],16,rfl,.inl ⟨by decide,rfl⟩⟩
 obtain⟨n,hn⟩:∃ n:Nat,(b.length:Int) - 2=n:=⟨b.length - 2,by omega⟩
 rw [d_false h2,cond_false,hn]
 have w2:IntKind.i64.wrap ((n:Int)+1)=((n+1:Nat):Int):=by rw [w64 (by omega) (by omega)];omega
 have htk:((b.take n).drop (0:Int).toNat)=b.take n:=by simp
 simp only [w2,Int.toNat_natCast,htk]
 rw [show decide ((0:Int)<=0)=true from rfl,ge0_d,d_true (show (n:Int)<=(b.length:Int) by omega),d_true (show (n:Int)<(b.length:Int) by omega),ge0_d,d_true (show ((n+1:Nat):Int)<(b.length:Int) by omega)]
 simp only [Bool.and_self,cond_true,show decide ((8:Int)<0)=false from rfl,cond_false]
 rw [Sum_eq (N:=N) (b:=b.take n) (by rw [zAD];omega) (by rw [zAD];omega) (fun x hx=>hb x (zAJ hx)),Option.bind_some,hh_eq (by omega),Option.bind_some]
 generalize ior .i64 (IntKind.i64.wrap (nth 0 b n)) (ishl .i64 (IntKind.i64.wrap (nth 0 b (n+1))) 8)=sm
 by_cases hs:smA (b.take n) != sm
 ·rw [hs,cond_true]
  exact⟨[],16,rfl,.inl ⟨by decide,rfl⟩⟩
 rw [show (smA (b.take n) != sm)=false from zAY.2 hs,cond_false]
 cases hh:histD (b.take n) with
 | none=>exact⟨[],3,rfl,.inl ⟨by decide,rfl⟩⟩
 | some h=>
  obtain⟨h,r⟩:=h
  have hl:=hist_len hh
  simp only [Bool.not_true,cond_false]
  obtain⟨l,e,a1,a2⟩:=dTidy_eq (N:=N) (by omega) (h:=h) (by omega) (by omega)
  rw [a1,Option.bind_some]
  rcases a2 with⟨rfl,H,i1,O1⟩ | ⟨he,-,-⟩
  ·rw [bne_self_eq_false,cond_false]
   obtain⟨body,b1,b2,b3⟩:=bytesOf_eq (N:=N) (by omega) O1
   rw [b1,Option.bind_some]
   simp only [D_eqB,Option.bind_some]
   cases hq:(strOfNums (body ++ [IntKind.u8.wrap (smA body),IntKind.u8.wrap (ishr .i64 (smA body) 8)])).toList==(strOfNums b).toList with
   | false=>exact⟨[],3,rfl,.inl ⟨by decide,rfl⟩⟩
   | true=>
    have:=nums_inj (fun x hx=>?_) hb (eq_of_beq hq)
    ·exact⟨l,0,rfl,.inr ⟨rfl,O1,⟨_,i1⟩,by omega,by rw [b1,this]⟩⟩
    ·rcases zU.1 hx with hx | hx
     ·exact b3 x hx
     ·simp only [zc,List.not_mem_nil,or_false] at hx
      rcases hx with rfl | rfl <;> exact byt_wrap _
  ·rw [bne_iff_ne.2 he,cond_true]
   exact⟨[],3,rfl,.inl ⟨by decide,rfl⟩⟩
set_option maxRecDepth 100000 in
theorem lifted_WireOnly(os:Os)(started:os.Started)(H:Type)(enc:TypeId×Value->H) :
  ReturnsInHanded {} Try.checked os 9 .any (Rows.wireOnlySpec.pre6 enc Try.prog Try.f9 Rows.wireOnlyRow.domain false) (Rows.wireOnlySpec.post enc Try.prog Try.f9 false true false false):=by
 refine returnsInHanded_of_change_sized (C:=Try.checked) own started (by kernel_rfl) Try.func9
  (ChangeSpec.witness6 (enc:=enc) (C:=Try.checked) false ⟨#[],#[.slice none 0 0],[]⟩ 8 (by kernel_rfl) (by kernel_rfl) (by kernel_rfl) (by kernel_rfl)) ?_
 intro W base args ds gs before hval0 hW _ hsz0 _
 have hgw:GW [] W:=fun _ h=>nomatch h
 have hval:∀ (j:Nat) t v,Try.f9.params[j]? = some t->args[j]? = some v->Value.okWide Try.prog W .any base t v:=hval0
 have hW':=hW
 obtain⟨p,q,hA0,hV,rfl,_,_⟩:=hW
 have hA:DataW.TrodAll enc Try.prog W 0 (fun _=>true) true Try.f9.params.toList args.toList ds p:=hA0
 rw [Try.params9] at hA hval
 obtain⟨v0,vs0,d0,ds0,p0,q0,hargs,rfl,rfl,h0,r0⟩:=trodAll_cons hA
 obtain⟨rfl,rfl,rfl⟩:=trodAll_nil r0
 obtain rfl:args = #[v0]:=by cases args;simp_all
 obtain⟨rfl,rfl⟩:=trodVars_none hV
 have hall:=za.1 hsz0
 clear hA0 hval0 hsz0
 simp only [List.append_nil] at hW'
 have hlt0:∀ x∈p0,x.block<W.heap.size:=fun x hx=>hW'.lt x (by simp [hx])
 obtain⟨x0,g0,w0⟩:=open_kd (k:=.dat (.sl (.int .u8))) (by kernel_rfl) (hval 0 61 v0 rfl rfl) h0
 obtain⟨N,hN⟩:=law_WireOnly x0 w0
 refine (sp_keep_WireOnly N (fun _=>False) W (x0,()) (true,()) [v0] (fun _ h=>h.elim) hgw ⟨v0,_,rfl,g0,rfl⟩ hN).mono ?_
 rintro e W' ⟨v,rfl,hg,hr⟩
 replace hg:=hg.old
 have hr:v=.bool true:=by simpa only [kvals,retV,Kd.val,Go.Abs.enc,RV] using hr
 subst hr
 exact⟨_,rfl,_,_,_,[],p0 ++ [],[],hW',(trodAll_cons_mk (shut_bool (show Try.prog.underlying 4=some .bool by kernel_rfl) _) trodAll_mk0),(trodAll_cons_mk (Below.trod laidOut (by kernel_rfl) (zo (by kernel_rfl)) h0 hg hlt0) trodAll_mk0),rfl,hg.frame _,fun h=>by cases h⟩
theorem wireOnly_holds:Rows.WireOnlySaid:=
 OpenClaim.holds_of_wide 9 Try.f9 rfl rfl rfl rfl rfl rfl rfl ⟨rfl,rfl,rfl,rfl,rfl⟩ rfl rfl rfl rfl rfl (by kernel_rfl) Try.func9 (by kernel_rfl)
  (zo (by kernel_rfl)) (by unfold Func.isWrapper;first | (rw [zI (by decide +kernel)];kernel_rfl) | (rw [zK (by decide +kernel)];exact⟨rfl,rfl⟩))
  (fun os started H enc _=>lifted_WireOnly os started H enc)
end Go.Proofs.Ytcjecibocjbdmaa
