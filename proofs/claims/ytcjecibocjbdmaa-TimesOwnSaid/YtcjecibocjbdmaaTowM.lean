import Derived.Test.YtcjecibocjbdmaaTowL
namespace Go.Proofs.Ytcjecibocjbdmaa
open Go.Abs Go.RowKit Go.His
theorem first_ix{n:Nat}{p:Nat->Prop}(h:∃ i,i<n/\p i):∃ i,i<n/\p i/\∀ j,j<i->¬ p j:=by
 induction n with
 | zero=>obtain⟨i,hi,-⟩:=h;exact absurd hi (zAx _)
 | succ n ih=>
  by_cases q:∃ i,i<n/\p i
  ·obtain⟨i,h1,h2,h3⟩:=ih q
   exact⟨i,by omega,h2,h3⟩
  ·obtain⟨i,h1,h2⟩:=h
   have:i=n:=Classical.byContradiction fun hne=>q ⟨i,by omega,h2⟩
   subst this
   exact⟨i,by omega,h2,fun j hj hp=>q ⟨j,hj,hp⟩⟩
theorem loopD_seek{R S:Type}{g:Int×S->(Int×S->Option R)->Option R}{t:S}{n:Nat}(hit:Nat->Prop)(r:Nat->Option R)(h1:∀ i,i<n->hit i->∀ kn,g ((i:Int),t) kn=r i)(h2:∀ i,i<n->¬ hit i->∀ kn,g ((i:Int),t) kn=kn ((i:Int)+1,t))
  {N:Nat} (hN:n<N) (hex:∃ i,i<n/\hit i):∃ i,i<n/\hit i/\loopD g N ((0:Int),t)=r i:=by
 obtain⟨i0,a1,a2,a3⟩:=first_ix hex
 refine⟨i0,a1,a2,loopD_const (fun s=>∃ i:Nat,s=((i:Int),t)/\i<=i0) (fun s=>n - s.1.toNat) _ ?_ N _ ⟨0,rfl,zk _⟩ (by simp;omega)⟩
 rintro s ⟨i,rfl,hi⟩ kn hkn
 by_cases q:i=i0
 ·subst q;exact h1 i a1 a2 kn
 ·rw [h2 i (by omega) (a3 i (by omega))]
  exact hkn _ ⟨i+1,by simp,by omega⟩ (by simp;omega)
theorem sortR_congr{α:Type}{D D':α->α->Option Int}{xs ys:List α}(h:∀ a∈xs,∀ b∈xs,D a b=D' a b)(hs:sortR D' xs=some ys):sortR D xs=some ys:=by
 obtain⟨h1,h2,h3⟩:=sortR_some hs
 have hl:∀ a∈xs,∀ b∈xs,ltB D a b=ltB D' a b:=fun a ha b hb=>by unfold ltB;rw [h a ha b hb]
 refine sortR_eq ⟨h1.lt,fun a ha b hb=>by rw [h a ha b hb];exact h1.tot a ha b hb,fun a ha=>by rw [hl a ha a ha];exact h1.irrefl a ha,
  fun a ha b hb c hc p q=>by rw [hl a ha c hc];rw [hl a ha b hb] at p;rw [hl b hb c hc] at q;exact h1.trans a ha b hb c hc p q,
  fun a ha b hb p q=>by rw [hl a ha b hb] at p;rw [hl b hb a ha] at q;exact h1.anti a ha b hb p q⟩ ⟨h2,h3.imp_of_mem fun {a b} ha hb p=>by rw [hl b (h2.subset hb) a (h2.subset ha)];exact p⟩
theorem cloneL_eq{N:Nat}{a:List (List Int)}(h:a.length<=2000000000):D_slices_Clone_LLint_Lint N (a,())=some a:=by
 simp only [D_slices_Clone_LLint_Lint,slices_Clone_LLint_Lint_1]
 rw [d_true (by simp;omega)]
 cases a with
 | nil=>simp [dem2];rfl
 | cons x xs=>simp;rfl
theorem ContH_eq{N:Nat}(hN:1000<=N){f:List (List Int)}{t:List Int}(hf:f.length<=64)(hl:∀ u∈f,u.length=t.length)(h4:t.length<=4):D_slices_ContainsFunc_LLint_Lint_h N (f,t)=some (f.any (fun u=>undr u t),t):=by
 have hbody:∀ i,i<f.length->∀ kn,slices_IndexFunc_LLint_Lint_h_2 N (fun s=>slices_IndexFunc_LLint_Lint_h_1 N s) f (f.length:Int) (i:Int) t (backE (f,(f.length:Int)) kn)=if undr (nth [] f i) t=true then some ((i:Int),t) else kn ((i:Int)+1,t):=fun i hi kn=>by
  have hu:=hl _ (nth_mem (z:=([]:List Int)) hi)
  simp only [slices_IndexFunc_LLint_Lint_h_2,lt_d hi,ge0_d,Bool.and_self,cond_true,Int.toNat_natCast,D_times_Least_c1_h,times_Least_c1_h_1,Under_eq hu (by omega) hN,Option.bind_some,backE_eq,ix1 hi (by omega)]
  cases undr (nth [] f i) t <;> rfl
 simp only [D_slices_ContainsFunc_LLint_Lint_h,slices_ContainsFunc_LLint_Lint_h_1,D_slices_IndexFunc_LLint_Lint_h,slices_IndexFunc_LLint_Lint_h_3,joinD,loopE]
 cases hany:f.any (fun u=>undr u t) with
 | false=>
  have hno:∀ i,i<f.length->¬ undr (nth [] f i) t=true:=fun i hi h=>by
   have:f.any (fun u=>undr u t)=true:=zAv.2 ⟨_,nth_mem (z:=([]:List Int)) hi,h⟩
   rw [hany] at this;cases this
  obtain⟨-,-,e⟩:=loopD_inv (N:=N) (g:=fun (s:Int×List Int) kn=>slices_IndexFunc_LLint_Lint_h_2 N (fun s=>slices_IndexFunc_LLint_Lint_h_1 N s) f (f.length:Int) s.1 s.2 (backE (f,(f.length:Int)) kn)) (s:=((0:Int),t)) (k:=fun _=>some (-1,t)) f.length (fun i s=>s=((i:Int),t))
   (fun i s hi hs=>⟨((i:Int)+1,t),rfl,fun kn=>by subst hs;simp only;rw [hbody i hi,zH (hno i hi)]⟩) (fun s hs kn=>by subst hs;simp only [slices_IndexFunc_LLint_Lint_h_2,lt_self,cond_false,slices_IndexFunc_LLint_Lint_h_1]) (by omega) rfl
  rw [e];rfl
 | true=>
  obtain⟨u,hu,hut⟩:=zAv.1 hany
  obtain⟨i,hi,rfl⟩:=mem_nth (z:=([]:List Int)) hu
  obtain⟨j,-,-,e⟩:=loopD_seek (N:=N) (g:=fun (s:Int×List Int) kn=>slices_IndexFunc_LLint_Lint_h_2 N (fun s=>slices_IndexFunc_LLint_Lint_h_1 N s) f (f.length:Int) s.1 s.2 (backE (f,(f.length:Int)) kn)) (t:=t) (n:=f.length) (fun i=>undr (nth [] f i) t=true) (fun i=>some ((i:Int),t))
   (fun i hi hb kn=>by simp only;rw [hbody i hi,zF hb]) (fun i hi hb kn=>by simp only;rw [hbody i hi,zH hb]) (by omega) ⟨i,hi,hut⟩
  rw [e,Option.bind_some,d_true (by omega)]
theorem least_fresh{N:Nat}(hN:1000<=N){xs:List (List Int)}(h:TL xs){v:Value}{W:World}(hv:RC W (fun _=>False) (.sl iL) xs [v]) :
  Calls Try.prog 35 #[v] W fun e w'=>∃ (F:List (List Int)) (l:Abs.Loc) (cs:List Value),e=.returned (rowV l F.length)/\Go.Abs.Below W.heap.size W w'/\FreshL w' W.heap.size l F cs/\(xs ≠ []->F ≠ [])/\F.length<=64:=by
 have hlen:=h.len
 obtain⟨ys,y1,y2⟩:=sortR_ok (lex_ok xs (by omega))
 have hsort:sortR (fun p q=>(D_slices_Compare_Lint_int N (p,q,())).map (·.1)) xs=some ys:=sortR_congr (fun a ha b hb=>by rw [lexC_eq (tok_len (h.tok a ha)).2 hN];rfl) y1
 have hyl:ys.length=xs.length:=y2.1.length_eq
 have hym:∀ t∈ys,t∈xs:=fun t ht=>y2.1.subset ht
 refine callsIn_wide (n:=0) |>.1 ?_
 refine (least_in 0 ys.length v W (fun la lc w'=>∃ (l:Abs.Loc) (cs:List Value),Value.slice la ys.length lc=rowV l xs.length/\Go.Abs.Below W.heap.size W w'/\w'.ownsRow 0 48 1 (rowV l xs.length) xs.length cs/\RL w' (fun b=>l.a=some b) iL xs cs/\(∀ b,l.a=some b->W.heap.size<=b))
  (LJ W ys) (fun v w'=>∃ (F:List (List Int)) (l:Abs.Loc) (cs:List Value),v=rowV l F.length/\Go.Abs.Below W.heap.size W w'/\FreshL w' W.heap.size l F cs/\(xs ≠ []->F ≠ [])/\F.length<=64) ?_ ?_ ?_ ?_).mono ?_
 ·refine (sp_slices_Clone_LLint_Lint N (fun _=>False) W (xs,()) xs [v] (fun b h=>h.elim) (fun p hp=>(by cases hp)) ⟨_,_,rfl,hv,rfl⟩ (cloneL_eq (by omega))).mono ?_
  rintro e w' ⟨l,cs,rfl,h1,h2,h3,h4⟩
  exact⟨l.addr,l.cap,by rw [hyl];rfl,l,cs,by rw [hyl];rfl,h1,h2,RL.keeps (keepsId fun b hb=>.inr hb) h3,h4⟩
 ·rintro la lc w' ⟨l,cs,hl,h1,h2,h3,h4⟩
  rw [hl]
  refine (sort_rc (s:=iL) (en_sortT N) (by rfl) (by decide) h2 h3 hsort).mono ?_
  rintro e w'' ⟨rfl,f1,-,cs',o1,r1⟩
  have hz:RC w'' (fun _=>False) (.sl iL) ys [rowV l ys.length]:=rowV_sl (M:=fun b=>l.a=some b) o1 r1 (fun x h=>h.elim) fun x _ h=>h
  have hle:ys.length<=lc/\lc<=maxI:=by
   unfold RC at hz
   obtain⟨a,cap,e1,g1,g2,-⟩:=hz
   have e2:rowV l ys.length=.slice la ys.length lc:=by rw [hl,hyl]
   rw [e2] at e1
   simp only [zd,Value.slice.injEq,and_true,true_and] at e1
   obtain⟨rfl,rfl⟩:=e1
   exact⟨g1,g2⟩
  refine⟨rfl,⟨[],⟨none,0,[]⟩,[],below_fr h1 f1 h4 h1.size,rfl,⟨World.ownsRow_nil _ _ _ _,fun b hb=>(by cases hb),rfl,fun c hc=>(by cases hc)⟩,?_,fun x hx=>(by cases hx),zk _,fun h=>absurd h (Nat.lt_irrefl 0)⟩,hle⟩
  rw [hl,<- hyl]
  exact RC.sub (fun b hb=>by cases hb) hz
 ·intro la lc k fa fl fc wr hJ hk
  exact cont_round (N:=N) (by omega) (fun F hF hFl t ht=>ContH_eq hN hFl (fun u hu=>h.eqL (hym u (hF u hu)) (hym t ht)) (tok_len (h.tok t (hym t ht))).2) (fun t ht=>clone_eq (by have:=(tok_len (h.tok t (hym t ht))).2;omega)) hJ hk
 ·rintro la lc fa fl fc wr ⟨F,l,cs,h1,h2,h3,h4,h5,h6,h7⟩
  refine⟨F,l,cs,h2,h1,h3,fun hne=>h7 ?_,by omega⟩
  rw [hyl];exact zAJ.2 hne
 ·rintro e w' ⟨v',rfl,F,l,cs,rfl,h⟩
  exact⟨F,l,cs,rfl,h⟩
end Go.Proofs.Ytcjecibocjbdmaa
