import Derived.Test.YtcjecibocjbdmaaTowF
import Derived.Test.YtcjecibocjbdmaaFrame0
namespace Go.Proofs.Ytcjecibocjbdmaa
open Go Go.ChangeShapes Go.WideShapes Go.ChangeAt Go.WideMaps Go.WideElems Go.RowKit Go.Abs Go.His
section
variable {H : Type} {enc : TypeId × Value -> H} {P : Program} {w : World} {spare : Nat -> Bool} {held : Bool}
theorem open_room2{t e e2:TypeId}{s:Sh}{xs:List (Sh.sl s).den}{v:Value}{d:DataW H}{ps:List MemPlace}{r1:List Nat}(ht:P.underlying t=some (.slice e))(hc:P.cellsOf e=1)(ht2:P.underlying e=some (.slice e2))(hg:RV w (fun _=>False) [] σ0 ((Kd.dat (.sl (.sl s))).val xs) v)
  (hd:DataW.Trod enc P w 0 spare held t v d ps) (hw:∀ n∈d.weights P t++r1,n<=reachBytes):∀ x∈xs,x.length*P.bytesOf e2<=reachBytes:=by
 obtain⟨fuel,hf⟩:=hd
 have hg:RV w (fun _=>False) [] σ0 (.sl (.sl s) xs) v:=hg
 simp only [RV] at hg
 unfold RC at hg
 obtain⟨a,cap,hv,-,-,hrow⟩:=hg
 obtain rfl:v=.slice a xs.length cap:=by simpa using hv
 simp only [Value.cells] at hf
 intro x hx
 obtain⟨i,hi,rfl⟩:=List.mem_iff_getElem.1 hx
 rcases Go.Deep.open_slice1 ht hc hf with⟨h1,_⟩ | ⟨a',len,cap',m,n',V,D,Pl,h1,hb,hl,hm,hmm,h2,hx⟩
 ·simp only [zd,Value.slice.injEq,and_true] at h1
  omega
 ·simp only [zd,Value.slice.injEq,and_true] at h1
  obtain⟨ha,hlen,-⟩:=h1
  obtain⟨b,q,hab,-,-,hr⟩:=hrow (fun e=>by rw [e] at hi;simp at hi)
  rw [ha] at hab
  cases hab
  obtain⟨cs,hcs,hrc⟩:=hr i xs[i] (zM hi)
  obtain⟨g1,g2⟩:=hx i (by rw [hmm];split <;> omega)
  unfold RC at hrc
  obtain⟨a2,cap2,rfl,-⟩:=hrc
  have g3:=hcs 0 _ rfl
  rw [addr_add] at g1
  simp only [Sh.n,Nat.mul_one,Nat.add_zero] at g3
  rw [g3] at g1
  rw [<- Option.some.inj g1] at g2
  refine open_roomC (r1:=[]) ht2 g2 fun n hn=>hw n ?_
  rw [List.append_nil] at hn
  refine za _ ?_
  have h3:d=(.slice ((List.range len).map D) ((List.range (m - len)).map fun j=>D (len+j))):=(Prod.mk.inj h2).1
  have key:∀ l:List (DataW H),D i∈l->n∈DataW.weightsAll P e l:=fun l hl=>by
   induction l with
   | nil=>cases hl
   | cons y l ih=>
    simp only [DataW.weightsAll]
    rcases zb.1 hl with rfl | hl
    ·exact za _ hn
    ·exact zV _ (ih hl)
  rw [h3]
  simp only [DataW.weights,ht]
  exact zZ _ (za _ (key _ (zt.2 ⟨i,by simp;omega,rfl⟩)))
end
theorem InOk.write{w:World}{B:Nat}{l:Abs.Loc}{c:Value}(h:InOk w B l c)(p:Addr)(v:Value)(hs:p.spot=none):InOk (w.setCell p v) B l c:=by
 obtain⟨a,n,cap,rfl,hm,h⟩:=h
 refine⟨a,n,cap,rfl,hm,fun hn=>?_⟩
 obtain⟨b,cur,e,h1,h2,h3,h4,h5⟩:=h hn
 by_cases hb:b=p.block
 ·subst hb
  refine⟨p.block,cur.setIfInBounds p.off v,e,h1,h2,h3,?_,by simpa using h5⟩
  have:p=⟨p.block,p.off,none⟩:=by cases p;simp_all
  rw [this]
  exact heap_setCell_same w p.block p.off cur e v h4
 ·exact⟨b,cur,e,h1,h2,h3,by rw [heap_setCell_other w p b v hb];exact h4,h5⟩
theorem own_end{N:Nat}(hN:1000<=N)(hN2:N<=1000000000){W w:World}{xs:List (List Int)}{a0:Option Addr}{c0:Nat}(hB:Go.Abs.Below W.heap.size W w)(h0:RC w (fun _=>False) (.sl iL) xs [.slice a0 xs.length c0]){fa:Option Addr}{fl fc:Nat}(hg:RC w (fun _=>False) (.sl iL) xs [.slice fa fl fc]) :
  Calls Try.prog 17 #[.slice fa fl fc] w (FEnd a0 xs.length c0 fa fl fc fun w'=>Go.Abs.Below W.heap.size W w'):=by
 obtain⟨e,he,hT⟩:=List_eq hN xs
 refine callsIn_wide (n:=0) |>.1 ?_
 refine (front_in 0 (.slice fa fl fc) e w (fun w'=>Go.Abs.Below w.heap.size w w') (fun a m c r w'=>Go.Abs.Below w.heap.size w w'/\(r≠0\/(r=0/\TL xs/\∃ (F:List (List Int)) (l:Abs.Loc) (cs:List Value),Value.slice a m c=rowV l F.length/\FreshL w' w.heap.size l F cs/\(xs ≠ []->F ≠ [])/\F.length<=64))) ?_ ?_ ?_).mono ?_
 ·refine (sp_times_List N (fun _=>False) w (xs,()) (e,()) [.slice fa fl fc] (fun b h=>h.elim) (fun p hp=>(by cases hp)) ⟨_,_,rfl,hg,rfl⟩ he).mono ?_
  rintro e' w' ⟨v,rfl,h1,h2⟩
  have h2:RV w' (fun _=>False) [] σ0 (.int .i64 e) v:=h2
  simp only [RV] at h2
  exact⟨by rw [h2],h1⟩
 ·intro w' h1 h2
  refine (least_fresh hN (hT.1 h2) (RC.keeps ⟨h1.size,fun x hx _=>h1.block x hx,fun _ _ h=>h⟩ hg)).mono ?_
  rintro e' w'' ⟨F,l,cs,rfl,h3,h4,h5,h6⟩
  exact⟨l.addr,F.length,l.cap,rfl,h1.trans (h3.mono h1.size),.inr ⟨rfl,hT.1 h2,F,l,cs,rfl,h4.mono h1.size,h5,h6⟩⟩
 ·intro w' h1 h2
  exact⟨h1,.inl h2⟩
 rintro e' w' ⟨a,m,c,r,rfl,h1,h2⟩
 have hW:Go.Abs.Below W.heap.size W w':=hB.trans (h1.mono hB.size)
 refine⟨a,m,c,r,rfl,?_⟩
 rcases h2 with h2 | ⟨rfl,hTL,F,l,cs,hv,hF,hne,h64⟩
 ·exact .inl ⟨h2,hW⟩
 have hm:m=F.length:=by simp only [rowV,Value.slice.injEq] at hv;exact hv.2.1
 by_cases hF0:F = []
 ·refine .inr (.inl ⟨rfl,by rw [hm,hF0];rfl,?_,hW⟩)
  by_cases hx:xs = []
  ·rw [hx];rfl
  ·exact absurd hF0 (hne hx)
 have hF1:0<F.length:=zAJ.2 hF0
 refine .inr (.inr ⟨rfl,by omega,by omega,fun w2=>Go.Abs.Below w.heap.size w w2/\w'.heap.size<=w2.heap.size/\(∀ b,l.a=some b->w2.heap[b]? = w'.heap[b]?)/\∀ c∈cs,InOk w2 w.heap.size l c,
  fun k=>(match cs[k]? with | some (.slice a _ _)=>a | _=>none),fun k=>(match cs[k]? with | some (.slice _ n _)=>n | _=>0),fun k=>(match cs[k]? with | some (.slice _ _ c)=>c | _=>0),⟨h1,Nat.le_refl _,fun _ _=>rfl,hF.inn⟩,?_,?_⟩)
 ·rintro w2 k ⟨k1,k2,k3,k4⟩ hk
  rw [hm] at hk
  have hcl:cs.length=F.length:=by have:=hF.own.1;omega
  obtain⟨b,hb⟩:∃ b,l.a=some b:=by
   cases h:l.a with
   | some b=>exact⟨b,rfl⟩
   | none=>
    rcases hF.own.2 with⟨-,h0⟩ | ⟨g,cp,cur,hv5,-⟩
    ·omega
    ·simp [rowV,Abs.Loc.addr,h] at hv5
  have hw2:w2.ownsRow 0 48 1 (rowV l F.length) F.length cs:=ownsRow_block hF.own fun x hx=>k3 x (rowV_own hx)
  have hcell:w2.cell? ⟨b,0+k,none⟩=cs[k]?:=by
   rw [Nat.zero_add]
   have e1:rowV l F.length=.slice (some ⟨b,0,none⟩) F.length l.cap:=by simp [rowV,Abs.Loc.addr,hb]
   rw [e1] at hw2
   exact World.ownsRow.cellAt hw2 k (by omega)
  have hck:cs[k]? = some cs[k]:=zM (by omega)
  obtain⟨a',n',cap',hc',hm',hin⟩:=k4 cs[k] (zAN (by omega))
  rw [hck,hc'] at hcell
  refine⟨b,0,?_,?_⟩
  ·simp only [rowV,Value.slice.injEq] at hv
   rw [hv.1,Abs.Loc.addr,hb];rfl
  simp only [hck,hc']
  refine⟨hcell,hm',fun j hj=>?_⟩
  obtain⟨d,cur,e,rfl,g2,g3,g4,g5⟩:=hin (by omega)
  refine⟨d,0,cur[j],rfl,by simp [World.cell?,g4,show j<cur.size by omega],by simp [World.frozen?,g4],?_,?_,?_,?_⟩
  ·refine⟨k1.os,k1.tape,k1.output,by rw [World.size_setCell];exact k1.size,fun x hx=>?_⟩
   rw [heap_setCell_other _ _ _ _ (show x≠d by omega)]
   exact k1.block x hx
  ·rw [World.size_setCell];exact k2
  ·intro b' hb'
   rw [heap_setCell_other _ _ _ _ (fun e=>by subst e;exact g3 hb')]
   exact k3 b' hb'
  ·exact fun c hc=>(k4 c hc).write _ _ rfl
 ·rintro w2 ⟨k1,-⟩
  have kp:Keeps w (fun _=>False) w2 (fun _=>False):=⟨k1.size,fun x hx _=>k1.block x hx,fun _ _ h=>h⟩
  refine (sp_ref_Lists N (fun _=>False) w2 (xs,xs,()) (true,()) [.slice fa fl fc,.slice a0 xs.length c0] (fun b h=>h.elim) (fun p hp=>(by cases hp)) ⟨_,_,rfl,RC.keeps kp hg,_,_,rfl,RC.keeps kp h0,rfl⟩ (Lists_self hN hN2 hTL.len fun t ht=>(tok_len (hTL.tok t ht)).2)).mono ?_
  rintro e' w3 ⟨v,rfl,h3,h4⟩
  have h4:RV w3 (fun _=>False) [] σ0 (.bool true) v:=h4
  simp only [RV] at h4
  exact⟨by rw [h4],hB.trans ((k1.trans (h3.mono k1.size)).mono hB.size)⟩
abbrev Ks_keep_TimesOwn:List Kd:=[.dat (.sl (.sl (.int .i64)))]
abbrev Rk_keep_TimesOwn:List Kd:=[.dat (.bool)]
abbrev Rt_keep_TimesOwn:Type:=Dens Rk_keep_TimesOwn
def D_keep_TimesOwn(N:Nat)(x:Dens Ks_keep_TimesOwn):Option Rt_keep_TimesOwn:=
 bif decide (1000<=N)&&decide (N<=1000000000)&&decide ((x.1.length+1)*24<=140737488355328)&&x.1.all (fun t=>decide (t.length*8<=140737488355328)) then some (true,()) else none
theorem sp_keep_TimesOwn(N:Nat):SpecD Try.prog [] 6 Ks_keep_TimesOwn Rk_keep_TimesOwn (D_keep_TimesOwn N):=by
 rintro M W ⟨xs,⟨⟩⟩ y vs hM hgw hv hD
 obtain⟨hc,hy⟩:=cond_some hD
 cases hy
 simp only [zB,zI,zX] at hc
 obtain⟨⟨⟨hN,hN2⟩,h1⟩,h2⟩:=hc
 obtain⟨v,_,rfl,hv,rfl⟩:=hv
 have hv:RC W M (.sl iL) xs [v]:=hv
 have hv0:RC W (fun _=>False) (.sl iL) xs [v]:=RC.sub (fun b h=>h.elim) hv
 have hv1:=hv0
 unfold RC at hv1
 obtain⟨a0,c0,e1,g1,g2,-⟩:=hv1
 obtain rfl:v=.slice a0 xs.length c0:=by simpa using e1
 refine Calls.mono (callsIn_wide (n:=0) |>.1 (own_in 0 a0 xs.length c0 ⟨g1,g2⟩ W (GJ W xs) (fun w'=>Go.Abs.Below W.heap.size W w') ⟨⟨none,0,[]⟩,[],Go.Abs.Below.refl _ _,rfl,⟨World.ownsRow_nil _ _ _ _,fun b hb=>(by cases hb),rfl,fun c hc=>(by cases hc)⟩⟩
  (fun i fa fl fc w hG hi=>build_round hv0 h1 h2 hG hi) ?_)) ?_
 ·rintro fa fl fc w ⟨l,cs,hB,hfv,hF⟩
  refine own_end hN hN2 hB (RC.keeps ⟨hB.size,fun x hx _=>hB.block x hx,fun _ _ h=>h⟩ hv0) ?_
  have hF2:=hF
  rw [zBK] at hF2
  rw [hfv]
  exact rowV_sl (M:=fun b=>l.a=some b) hF2.own hF2.rl (fun x h=>h.elim) fun x _ h=>h
 ·rintro e w' ⟨rfl,h3⟩
  exact⟨_,rfl,h3,rfl⟩
theorem law_TimesOwn(l:List (List Int))(wl:wfS (.sl (.sl (.int .i64))) l)(hz:l.length*24<=reachBytes)(hy:∀ t∈l,t.length*8<=reachBytes):∃ N,D_keep_TimesOwn N (l,())=some (true,()):=by
 refine⟨1000,?_⟩
 unfold reachBytes at hz hy
 unfold D_keep_TimesOwn
 rw [zX.2 fun t ht=>d_true (by have:=hy t ht;omega),d_true (show (l.length+1)*24<=140737488355328 by omega)]
 rfl
set_option maxRecDepth 100000 in
theorem lifted_TimesOwn(os:Os)(started:os.Started)(H:Type)(enc:TypeId×Value->H) :
  ReturnsInHanded {} Try.checked os 6 .any (Rows.timesOwnSpec.pre6 enc Try.prog Try.f6 Rows.timesOwnRow.domain false) (Rows.timesOwnSpec.post enc Try.prog Try.f6 false true false false):=by
 refine returnsInHanded_of_change_sized (C:=Try.checked) own started (by kernel_rfl) Try.func6
  (ChangeSpec.witness6 (enc:=enc) (C:=Try.checked) false ⟨#[],#[.slice none 0 0],[]⟩ 8 (by kernel_rfl) (by kernel_rfl) (by kernel_rfl) (by kernel_rfl)) ?_
 intro W base args ds gs before hval0 hW _ hsz0 _
 have hgw:GW [] W:=fun _ h=>nomatch h
 have hval:∀ (j:Nat) t v,Try.f6.params[j]? = some t->args[j]? = some v->Value.okWide Try.prog W .any base t v:=hval0
 have hW':=hW
 obtain⟨p,q,hA0,hV,rfl,_,_⟩:=hW
 have hA:DataW.TrodAll enc Try.prog W 0 (fun _=>true) true Try.f6.params.toList args.toList ds p:=hA0
 rw [Try.params6] at hA hval
 obtain⟨v0,vs0,d0,ds0,p0,q0,hargs,rfl,rfl,h0,r0⟩:=trodAll_cons hA
 obtain⟨rfl,rfl,rfl⟩:=trodAll_nil r0
 obtain rfl:args = #[v0]:=by cases args;simp_all
 obtain⟨rfl,rfl⟩:=trodVars_none hV
 have hall:=zX.1 hsz0
 clear hA0 hval0 hsz0
 simp only [List.append_nil] at hW'
 have hlt0:∀ x∈p0,x.block<W.heap.size:=fun x hx=>hW'.lt x (by simp [hx])
 obtain⟨x0,g0,w0⟩:=open_kd (k:=.dat (.sl (.sl (.int .i64)))) (by kernel_rfl) (hval 0 47 v0 rfl rfl) h0
 have z0:x0.length*Try.prog.bytesOf 48<=reachBytes:=open_room (t:=47) (r1:=[]) (by kernel_rfl) g0 h0 fun n hn=>by
  refine zu (hall n ?_)
  rw [Try.params6]
  change n∈DataW.weightsEach Try.prog [47] [d0]
  simp only [DataW.weightsEach]
  exact za _ (by simpa using hn)
 have y0:∀ t∈x0,t.length*Try.prog.bytesOf 3<=reachBytes:=open_room2 (P:=Try.prog) (t:=47) (e:=48) (r1:=[]) (by kernel_rfl) (by kernel_rfl) (by kernel_rfl) g0 h0 fun n hn=>by
  refine zu (hall n ?_)
  rw [Try.params6]
  change n∈DataW.weightsEach Try.prog [47] [d0]
  simp only [DataW.weightsEach]
  exact za _ (by simpa using hn)
 obtain⟨N,hN⟩:=law_TimesOwn x0 w0 (by simpa only [show Try.prog.bytesOf 48=24 by kernel_rfl] using z0) (by simpa only [show Try.prog.bytesOf 3=8 by kernel_rfl] using y0)
 refine (sp_keep_TimesOwn N (fun _=>False) W (x0,()) (true,()) [v0] (fun _ h=>h.elim) hgw ⟨v0,_,rfl,g0,rfl⟩ hN).mono ?_
 rintro e W' ⟨v,rfl,hg,hr⟩
 replace hg:=hg.old
 have hr:v=.bool true:=by simpa only [kvals,retV,Kd.val,Go.Abs.enc,RV] using hr
 subst hr
 exact⟨_,rfl,_,_,_,[],p0 ++ [],[],hW',(trodAll_cons_mk (shut_bool (show Try.prog.underlying 4=some .bool by kernel_rfl) _) trodAll_mk0),(trodAll_cons_mk (Below.trod laidOut (by kernel_rfl) (zu (by kernel_rfl)) h0 hg hlt0) trodAll_mk0),rfl,hg.frame _,fun h=>by cases h⟩
theorem timesOwn_holds:Rows.TimesOwnSaid:=
 OpenClaim.holds_of_wide 6 Try.f6 rfl rfl rfl rfl rfl rfl rfl ⟨rfl,rfl,rfl,rfl,rfl⟩ rfl rfl rfl rfl rfl (by kernel_rfl) Try.func6 (by kernel_rfl)
  (zu (by kernel_rfl)) (by unfold Func.isWrapper;first | (rw [zF (by decide +kernel)];kernel_rfl) | (rw [zH (by decide +kernel)];exact⟨rfl,rfl⟩))
  (fun os started H enc _=>lifted_TimesOwn os started H enc)
end Go.Proofs.Ytcjecibocjbdmaa
