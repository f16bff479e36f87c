import Derived.Test.YtcjecibocjbdmaaTidW
import Derived.Test.YtcjecibocjbdmaaFrame0
namespace Go.Proofs.Ytcjecibocjbdmaa
open Go Go.ChangeShapes Go.WideShapes Go.ChangeAt Go.WideMaps Go.WideElems Go.RowKit Go.Abs Go.Bag Go.His
abbrev tmS:Sh:=.sl (.int .i64)
abbrev rsS:Sh:=.sl (.pair (.int .i64) (.pair (.int .i64) (.int .i64)))
theorem Tidy_again{N:Nat}(hN:1000<=N){G:List Int->Key->Int}{l:List Df}(hi:IsHis G l)(H:HOkk l):D_diffs_Tidy N (l,())=some (l,0,()):=by
 have h64:=H.len
 obtain⟨l2,e,h1,h2⟩:=dTidy_eq hN (h:=l) (by omega) (by omega)
 rcases h2 with⟨rfl,-,i2,-⟩ | ⟨-,hno,-⟩
 ·rw [h1,i2.uniq hi.self]
 ·exact absurd H hno
structure KW0 (B:Nat) (U u:World):Prop where
 bel:Go.Abs.Below B U u
 sl:∀ p a n c,U.cell? p=some (.slice a n c)->u.cell? p=some (.slice a n c)
 int:∀ p k n,U.cell? p=some (.int k n)->(∃ k' n',u.cell? p=some (.int k' n'))/\u.frozen? p=U.frozen? p
theorem KW0.set{B:Nat}{U u:World}(h:KW0 B U u){p:Addr}{k:IntKind}{n:Int}(hp:U.cell? p=some (.int k n))(hb:B<=p.block)(k2:IntKind)(n2:Int):KW0 B U (u.setCell p (.int k2 n2)) where
 bel:=⟨h.bel.os,h.bel.tape,h.bel.output,by rw [World.size_setCell];exact h.bel.size,fun x hx=>by rw [heap_setCell_other _ _ _ _ (show x≠p.block by omega)];exact h.bel.block x hx⟩
 sl:=fun q a n' c hq=>by
  rw [World.cell?_setCell_other u _ _ _ (fun e=>by subst e;rw [hp] at hq;cases hq)]
  exact h.sl q a n' c hq
 int:=fun q k' n' hq=>by
  refine⟨?_,by rw [World.frozen?_setCell];exact (h.int q k' n' hq).2⟩
  by_cases e:p=q
  ·subst e
   obtain⟨⟨_,_,h1⟩,-⟩:=h.int p k n hp
   exact⟨k2,n2,World.cell?_setCell_same' _ _ _ (by rw [h1];rfl)⟩
  ·rw [World.cell?_setCell_other u _ _ _ e]
   exact (h.int q k' n' hq).1
theorem KW0.alloc{B:Nat}{U u:World}(h:KW0 B U u)(hB:B<=u.heap.size)(o:Obj):KW0 B U (u.alloc o) where
 bel:=h.bel.alloc hB o
 sl:=fun p a n c hp=>by
  have h1:=h.sl p a n c hp
  rw [World.cell?_alloc_lt u o p (World.block_lt_of_cell? u p h1)]
  exact h1
 int:=fun p k n hp=>by
  obtain⟨⟨k',n',h1⟩,h2⟩:=h.int p k n hp
  have hlt:=World.block_lt_of_cell? u p h1
  exact⟨⟨k',n',by rw [World.cell?_alloc_lt u o p hlt];exact h1⟩,by rw [World.frozen?_alloc_old u o p (Nat.ne_of_lt hlt)];exact h2⟩
structure DAt (U:World) (B b q:Nat) (l:List Df) (k:Nat) (p:(Option Addr×Nat)×(Option Addr×Nat)):Prop where
 c0:U.cell? ⟨b,q+k*2,none⟩=some (.slice p.1.1 (nth zd l k).1.length p.1.2)
 c1:U.cell? ⟨b,q+k*2+1,none⟩=some (.slice p.2.1 (nth zd l k).2.length p.2.2)
 m0:(nth zd l k).1.length<=maxI
 m1:(nth zd l k).2.length<=maxI
 t:∀ j,j<(nth zd l k).1.length->∃ d x n,p.1.1=some ⟨d,x,none⟩/\B<=d/\U.cell? ⟨d,x+j,none⟩=some (.int .i64 n)/\U.frozen? ⟨d,x+j,none⟩=false
 r:∀ j,j<(nth zd l k).2.length->∃ d x n,p.2.1=some ⟨d,x,none⟩/\B<=d/\U.cell? ⟨d,x+j*3+2,none⟩=some (.int .i64 n)/\U.frozen? ⟨d,x+j*3+2,none⟩=false
theorem dAt_of{U:World}{B:Nat}{l:List Df}{a:Option Addr}{m c:Nat}(h:RC U (fun b=>b<B) hisS l [.slice a m c]):m=l.length/\m<=maxI/\∃ b q,∀ k,∃ p,k<l.length->a=some ⟨b,q,none⟩/\DAt U B b q l k p:=by
 unfold RC at h
 obtain⟨a',c',e,h1,h2,h3⟩:=h
 simp only [zy,Value.slice.injEq,and_true] at e
 obtain⟨rfl,rfl,rfl⟩:=e
 refine⟨rfl,zm h1 h2,?_⟩
 by_cases hl:l = []
 ·exact⟨0,0,fun k=>⟨((none,0),(none,0)),fun hk=>by rw [hl] at hk;simp at hk⟩⟩
 obtain⟨b,q,rfl,-,-,hrow⟩:=h3 hl
 refine⟨b,q,fun k=>?_⟩
 by_cases hk:k<l.length
 case neg=>exact⟨((none,0),(none,0)),fun h=>absurd h hk⟩
 have hget:l[k]? = some (nth zd l k):=by rw [nth_lt hk];exact zP hk
 obtain⟨cs,g1,g2⟩:=hrow k _ hget
 have g2':∃ c d',cs=c++d'/\RC U (fun b=>b<B) tmS (nth zd l k).1 c/\RC U (fun b=>b<B) rsS (nth zd l k).2 d':=by unfold RC at g2;exact g2
 clear g2
 obtain⟨x,y,rfl,hx,hy⟩:=g2'
 unfold RC at hx hy
 obtain⟨ta,tc,rfl,t1,t2,t3⟩:=hx
 obtain⟨ra,rc,rfl,r1,r2,r3⟩:=hy
 refine⟨((ta,tc),(ra,rc)),fun _=>⟨rfl,(g1 0 _ rfl).1,(g1 1 _ rfl).1,zm t1 t2,zm r1 r2,fun j hj=>?_,fun j hj=>?_⟩⟩
 ·obtain⟨d,x,rfl,-,hd,hr⟩:=t3 (fun e=>by rw [e] at hj;simp at hj)
  obtain⟨cs,g3,g4⟩:=hr j _ (zP hj)
  unfold RC at g4
  subst g4
  have g5:=g3 0 _ rfl
  simp only [Sh.n,Nat.mul_one,Nat.add_zero] at g5
  exact⟨d,x,_,rfl,zBl hd,g5⟩
 ·obtain⟨d,x,rfl,-,hd,hr⟩:=r3 (fun e=>by rw [e] at hj;simp at hj)
  obtain⟨cs,g3,g4⟩:=hr j _ (zP hj)
  simp only [RC] at g4
  obtain⟨_,_,rfl,rfl,_,_,rfl,rfl,rfl⟩:=g4
  exact⟨d,x,_,rfl,zBl hd,g3 2 _ rfl⟩
theorem own_mid{N:Nat}(hN:1000<=N)(hM:N<=4611686018427387903){W u:World}{h l:List Df}{v0:Value}{a:Option Addr}{m c:Nat}(hB:Go.Abs.Below W.heap.size W u)(hv:RC W (fun _=>False) hisS h [v0])(hl:RC u (fun b=>b<W.heap.size) hisS l [.slice a m c])
  (hD:D_diffs_Tidy N (h,())=some (l,0,())) (hD2:D_diffs_Tidy N (l,())=some (l,0,())) (H:HOkk l):DMid v0 a m c (fun u'=>Go.Abs.Below W.heap.size W u') u:=by
 have hl0:RC u (fun _=>False) hisS l [.slice a m c]:=RC.sub (fun b h=>h.elim) hl
 have hS:D_ref_DiffsSame N (l,l,())=some (true,()):=by
  have h64:=H.len
  rw [DSame_eq (N:=N) (by omega) (fun d hd=>by have:=tok4 (H.tok hd);omega) (fun d hd=>by have:=H.row hd;omega) (by omega),decide_eq_true rfl]
 have same:∀ {u u':World} {vs:List Value},RVs u' (fun _=>False) [] σ0 (kvals Ks_ref_DiffsSame (l,l,())) vs->Calls Try.prog 21 vs.toArray u' fun e u2=>e=.returned (.bool true)/\Go.Abs.Below u'.heap.size u' u2:=fun {u u' vs} hvs=>by
  refine (sp_ref_DiffsSame N (fun _=>False) u' (l,l,()) (true,()) vs (fun b h=>h.elim) (fun p hp=>(by cases hp)) hvs hS).mono ?_
  rintro e u2 ⟨v,rfl,h3,h4⟩
  have h4:RV u2 (fun _=>False) [] σ0 (.bool true) v:=h4
  simp only [RV] at h4
  exact⟨by rw [h4],h3⟩
 unfold DMid
 refine (tidy_fresh hl0 hD2).mono ?_
 rintro e u1 ⟨a2,m2,c2,rfl,b1,k1⟩
 refine⟨a2,m2,c2,rfl,?_⟩
 have kp1:Keeps u (fun _=>False) u1 (fun _=>False):=⟨b1.size,fun x hx _=>b1.block x hx,fun _ _ h=>h⟩
 refine (same (u:=u) (u':=u1) (vs:=[.slice a m c,.slice a2 m2 c2]) ⟨_,_,rfl,RC.keeps kp1 hl0,_,_,rfl,RC.sub (fun b h=>h.elim) k1,rfl⟩).mono ?_
 rintro e u2 ⟨rfl,b2⟩
 have k2:RC u2 (fun b=>b<u.heap.size) hisS l [.slice a2 m2 c2]:=RC.keeps ⟨b2.size,fun x hx _=>b2.block x hx,fun _ _ h=>h⟩ k1
 obtain⟨rfl,hmi,b,q,hat⟩:=dAt_of k2
 obtain⟨f,hf⟩:=Classical.axiomOfChoice hat
 have bu2:Go.Abs.Below u.heap.size u u2:=b1.trans (b2.mono b1.size)
 refine⟨rfl,hmi,KW0 u.heap.size u2,fun k bx u'=>KW0 u.heap.size u2 u'/\u'.cell? ⟨bx,0,none⟩=some (.slice (f k).1.1 (nth zd l k).1.length (f k).1.2)/\u'.cell? ⟨bx,1,none⟩=some (.slice (f k).2.1 (nth zd l k).2.length (f k).2.2),
  fun k=>(f k).1.1,fun k=>(nth zd l k).1.length,fun k=>(f k).1.2,fun k=>(f k).2.1,fun k=>(nth zd l k).2.length,fun k=>(f k).2.2,⟨Go.Abs.Below.refl _ _,fun _ _ _ _ h=>h,fun _ k n h=>⟨⟨k,n,h⟩,rfl⟩⟩,⟨?_,?_,?_,?_,?_,?_⟩,?_⟩
 ·intro u' k hK hk
  obtain⟨rfl,D⟩:=hf k hk
  exact⟨b,q,rfl,hK.sl _ _ _ _ D.c0,hK.sl _ _ _ _ D.c1,D.m0,D.m1⟩
 ·intro u' k hK hk
  refine⟨hK.alloc (zm bu2.size hK.bel.size) _,?_,?_⟩
  ·rw [cell_of_row _ _ _ _ _ (0,0) (heap_alloc_new _ _)];rfl
  ·rw [cell_of_row _ _ _ _ _ (0,0) (heap_alloc_new _ _)];rfl
 ·rintro u' k bx ⟨-,h1,h2⟩
  exact⟨h1,h2⟩
 ·rintro u' k bx j ⟨hK,h1,h2⟩ hk hj
  obtain⟨-,D⟩:=hf k hk
  obtain⟨d,x,n,e1,e2,e3,e4⟩:=D.r j hj
  obtain⟨⟨k',n',e5⟩,e6⟩:=hK.int _ _ _ e3
  refine⟨d,x,_,e1,e5,e6.trans e4,hK.set e3 e2 _ _,?_,?_⟩
  ·rw [World.cell?_setCell_other u' _ _ _ (fun e=>by rw [<- e,e5] at h1;cases h1)];exact h1
  ·rw [World.cell?_setCell_other u' _ _ _ (fun e=>by rw [<- e,e5] at h2;cases h2)];exact h2
 ·rintro u' k bx j ⟨hK,h1,h2⟩ hk hj
  obtain⟨-,D⟩:=hf k hk
  obtain⟨d,x,n,e1,e2,e3,e4⟩:=D.t j hj
  obtain⟨⟨k',n',e5⟩,e6⟩:=hK.int _ _ _ e3
  refine⟨d,x,_,e1,e5,e6.trans e4,hK.set e3 e2 _ _,?_,?_⟩
  ·rw [World.cell?_setCell_other u' _ _ _ (fun e=>by rw [<- e,e5] at h1;cases h1)];exact h1
  ·rw [World.cell?_setCell_other u' _ _ _ (fun e=>by rw [<- e,e5] at h2;cases h2)];exact h2
 ·rintro u' k bx ⟨hK,-⟩
  exact hK
 ·intro u' hK
  have bu:Go.Abs.Below u.heap.size u u':=⟨hK.bel.os.trans bu2.os,hK.bel.tape.trans bu2.tape,hK.bel.output.trans bu2.output,zm bu2.size hK.bel.size,fun x hx=>(hK.bel.block x hx).trans (bu2.block x hx)⟩
  have bW:Go.Abs.Below W.heap.size W u':=hB.trans (bu.mono hB.size)
  unfold DEnd
  refine (tidy_fresh (RC.keeps ⟨bW.size,fun x hx _=>bW.block x hx,fun _ _ h=>h⟩ hv) hD).mono ?_
  rintro e u3 ⟨a3,m3,c3,rfl,b3,k3⟩
  refine⟨a3,m3,c3,rfl,?_⟩
  have b03:Go.Abs.Below u.heap.size u u3:=bu.trans (b3.mono bu.size)
  refine (same (u:=u) (u':=u3) (vs:=[.slice a m c,.slice a3 m3 c3]) ⟨_,_,rfl,RC.keeps ⟨b03.size,fun x hx _=>b03.block x hx,fun _ _ h=>h⟩ hl0,_,_,rfl,RC.sub (fun b h=>h.elim) k3,rfl⟩).mono ?_
  rintro e u4 ⟨rfl,b4⟩
  exact⟨rfl,(bW.trans (b3.mono bW.size)).trans (b4.mono (by have:=bW.size;have:=b3.size;omega))⟩
abbrev Ks_keep_DiffsOwn:List Kd:=[.dat (.sl (.pair (.sl (.int .i64)) (.sl (.pair (.int .i64) (.pair (.int .i64) (.int .i64))))))]
abbrev Rk_keep_DiffsOwn:List Kd:=[.dat (.bool)]
abbrev Rt_keep_DiffsOwn:Type:=Dens Rk_keep_DiffsOwn
def D_keep_DiffsOwn(N:Nat)(x:Dens Ks_keep_DiffsOwn):Option Rt_keep_DiffsOwn:=
 bif decide (1000<=N)&&decide (N<=4611686018427387903)&&decide (x.1.length<N) then some (true,()) else none
theorem sp_keep_DiffsOwn(N:Nat):SpecD Try.prog [] 7 Ks_keep_DiffsOwn Rk_keep_DiffsOwn (D_keep_DiffsOwn N):=by
 rintro M W ⟨h,⟨⟩⟩ y vs hMM hgw hv hD
 obtain⟨hc,hy⟩:=cond_some hD
 cases hy
 simp only [zB,zK] at hc
 obtain⟨⟨hN,hM⟩,hlen⟩:=hc
 obtain⟨v0,_,rfl,hv,rfl⟩:=hv
 have hv:RC W M hisS h [v0]:=hv
 have hv0:RC W (fun _=>False) hisS h [v0]:=RC.sub (fun b h=>h.elim) hv
 obtain⟨l,e,hD1,hcase⟩:=dTidy_eq hN hlen (by omega)
 refine Calls.mono (callsIn_wide (n:=0) |>.1 (dif_in 0 v0 W (fun u=>Go.Abs.Below W.heap.size W u) ?_)) ?_
 ·refine (tidy_fresh hv0 hD1).mono ?_
  rintro e' u1 ⟨a,m,c,rfl,b1,k1⟩
  refine⟨a,m,c,e,rfl,?_⟩
  rcases hcase with⟨rfl,H,hi,HL⟩ | ⟨he,-,-⟩
  ·refine .inr ⟨rfl,Go.Bag.w (tots l),?_⟩
   have hq:Go.His.HEq l h:=fun t z=>hi.rows t z
   have htot:Go.Bag.w (tots l)=Go.Bag.w (tots h):=hq.tots
   have hl64:=HL.len
   have t1:=totals_eq (N:=N) (h:=l) (by omega) (fun d hd=>by have:=HL.row hd;omega) hM
   have t2:=totals_eq (N:=N) (h:=h) hlen (fun d hd=>by have:=H.row hd;omega) hM
   rw [<- htot] at t2
   refine (sp_keep_totals N (fun _=>False) u1 (l,()) _ [.slice a m c] (fun b h=>h.elim) (fun p hp=>(by cases hp)) ⟨_,_,rfl,RC.sub (fun b h=>h.elim) k1,rfl⟩ t1).mono ?_
   rintro e' u2 ⟨v,rfl,b2,h2⟩
   have h2:RV u2 (fun _=>False) [] σ0 (.int .i64 (Go.Bag.w (tots l))) v:=h2
   simp only [RV] at h2
   refine⟨by rw [h2],?_⟩
   have bW2:Go.Abs.Below W.heap.size W u2:=b1.trans (b2.mono b1.size)
   refine (sp_keep_totals N (fun _=>False) u2 (h,()) _ [v0] (fun b h=>h.elim) (fun p hp=>(by cases hp)) ⟨_,_,rfl,RC.keeps ⟨bW2.size,fun x hx _=>bW2.block x hx,fun _ _ h=>h⟩ hv0,rfl⟩ t2).mono ?_
   rintro e' u3 ⟨v',rfl,b3,h3⟩
   have h3:RV u3 (fun _=>False) [] σ0 (.int .i64 (Go.Bag.w (tots l))) v':=h3
   simp only [RV] at h3
   refine⟨by rw [h3],?_⟩
   have b13:Go.Abs.Below u1.heap.size u1 u3:=b2.trans (b3.mono b2.size)
   exact own_mid hN hM (bW2.trans (b3.mono bW2.size)) hv0 (RC.keeps ⟨b13.size,fun x hx _=>b13.block x hx,fun _ _ h=>h⟩ k1) hD1 (Tidy_again hN hi HL) HL
  ·exact .inl ⟨he,b1⟩
 ·rintro e' w' ⟨rfl,h3⟩
  exact⟨_,rfl,h3,rfl⟩
theorem law_DiffsOwn(h:List Df)(wh:wfS (.sl (.pair (.sl (.int .i64)) (.sl (.pair (.int .i64) (.pair (.int .i64) (.int .i64)))))) h)(hz:h.length*48<=reachBytes):∃ N,D_keep_DiffsOwn N (h,())=some (true,()):=by
 refine⟨h.length+1000,?_⟩
 unfold reachBytes at hz
 unfold D_keep_DiffsOwn
 rw [d_true (show 1000<=h.length+1000 by omega),d_true (show h.length+1000<=4611686018427387903 by omega),d_true (show h.length<h.length+1000 by omega)]
 rfl
set_option maxRecDepth 100000 in
theorem lifted_DiffsOwn(os:Os)(started:os.Started)(H:Type)(enc:TypeId×Value->H) :
  ReturnsInHanded {} Try.checked os 7 .any (Rows.diffsOwnSpec.pre6 enc Try.prog Try.f7 Rows.diffsOwnRow.domain false) (Rows.diffsOwnSpec.post enc Try.prog Try.f7 false true false false):=by
 refine returnsInHanded_of_change_sized (C:=Try.checked) own started (by kernel_rfl) Try.func7
  (ChangeSpec.witness6 (enc:=enc) (C:=Try.checked) false ⟨#[],#[.slice none 0 0],[]⟩ 8 (by kernel_rfl) (by kernel_rfl) (by kernel_rfl) (by kernel_rfl)) ?_
 intro W base args ds gs before hval0 hW _ hsz0 _
 have hgw:GW [] W:=fun _ h=>nomatch h
 have hval:∀ (j:Nat) t v,Try.f7.params[j]? = some t->args[j]? = some v->Value.okWide Try.prog W .any base t v:=hval0
 have hW':=hW
 obtain⟨p,q,hA0,hV,rfl,hnf,_⟩:=hW
 have hA:DataW.TrodAll enc Try.prog W 0 (fun _=>true) true Try.f7.params.toList args.toList ds p:=hA0
 rw [Try.params7] at hA hval
 obtain⟨v0,vs0,d0,ds0,p0,q0,hargs,rfl,rfl,h0,r0⟩:=trodAll_cons hA
 obtain⟨rfl,rfl,rfl⟩:=trodAll_nil r0
 obtain rfl:args = #[v0]:=by cases args;simp_all
 obtain⟨rfl,rfl⟩:=trodVars_none hV
 have hall:=za.1 hsz0
 clear hA0 hval0 hsz0
 simp only [List.append_nil] at hW'
 have hlt0:∀ x∈p0,x.block<W.heap.size:=fun x hx=>hW'.lt x (by simp [hx])
 obtain⟨x0,g0,w0⟩:=open_kd (k:=.dat (.sl (.pair (.sl (.int .i64)) (.sl (.pair (.int .i64) (.pair (.int .i64) (.int .i64))))))) (by kernel_rfl) (hval 0 53 v0 rfl rfl) h0 (fun b off hm=>hnf b off (by simp [hm]))
 have z0:x0.length*Try.prog.bytesOf 59<=reachBytes:=open_room (t:=53) (r1:=[]) (by kernel_rfl) g0 h0 fun n hn=>by
  refine zk (hall n ?_)
  rw [Try.params7]
  change n∈DataW.weightsEach Try.prog [53] [d0]
  simp only [DataW.weightsEach]
  exact zo _ (by simpa using hn)
 obtain⟨N,hN⟩:=law_DiffsOwn x0 w0 (by simpa only [show Try.prog.bytesOf 59=48 by kernel_rfl] using z0)
 refine (sp_keep_DiffsOwn N (fun _=>False) W (x0,()) (true,()) [v0] (fun _ h=>h.elim) hgw ⟨v0,_,rfl,g0,rfl⟩ hN).mono ?_
 rintro e W' ⟨v,rfl,hg,hr⟩
 replace hg:=hg.old
 have hr:v=.bool true:=by simpa only [kvals,retV,Kd.val,Go.Abs.enc,RV] using hr
 subst hr
 exact⟨_,rfl,_,_,_,[],p0 ++ [],[],hW',(trodAll_cons_mk (shut_bool (show Try.prog.underlying 4=some .bool by kernel_rfl) _) trodAll_mk0),(trodAll_cons_mk (Below.trod laidOut (by kernel_rfl) (zk (by kernel_rfl)) h0 hg hlt0) trodAll_mk0),rfl,hg.frame _,fun h=>by cases h⟩
theorem diffsOwn_holds:Rows.DiffsOwnSaid:=
 OpenClaim.holds_of_wide 7 Try.f7 rfl rfl rfl rfl rfl rfl rfl ⟨rfl,rfl,rfl,rfl,rfl⟩ rfl rfl rfl rfl rfl (by kernel_rfl) Try.func7 (by kernel_rfl)
  (zk (by kernel_rfl)) (by unfold Func.isWrapper;first | (rw [zG (by decide +kernel)];kernel_rfl) | (rw [zJ (by decide +kernel)];exact⟨rfl,rfl⟩))
  (fun os started H enc _=>lifted_DiffsOwn os started H enc)
end Go.Proofs.Ytcjecibocjbdmaa
