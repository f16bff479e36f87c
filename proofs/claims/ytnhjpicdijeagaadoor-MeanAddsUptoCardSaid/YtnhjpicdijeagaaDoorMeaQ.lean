import Derived.Test.YtnhjpicdijeagaaDoorMeaN
import Derived.Defers
import Derived.Recover
import Derived.Laws.Pointers
namespace Go.Proofs.YtnhjpicdijeagaaDoor
open Go.RowKit
theorem catch_idle(p q:Addr)(w:World) :
  CallsD Tryd.prog 15 #[.pointer (some p),.pointer (some q)] .returning w fun e u' w'=>e=.returned (.tuple #[])/\u'=.returning/\w'=w:=by
 refine callsD_of_wpS Tryd.func15 rfl fun c₀ cs hu=>?_
 apply wpS_seq
 apply wpS_region
 simp [wpOpsS,go_sem,recoverD,hu,Tryd.ntmps15,Exit.thenS]
 apply wpS_seq
 apply wpS_region
 simp [wpOpsS,go_sem,recoverD,hu,Tryd.ntmps15,Exit.thenS]
 refine wpS_cond (t:=false) (by simp [Act.eval,Array.replicate]) ?_
 simp only [Bool.false_eq_true,if_false]
 refine wpS_of_wp (wp_skip ?_)
 cases c₀
 simp_all [bodyPostS,results,Tryd.results15]
theorem hta(w:World):(Instr.typeAssert (.iface 53 (.agg #[])) 20 53 true).run Tryd.prog w=.ok (.tuple #[.agg #[],.bool true]) w:=by
 have hu:Tryd.prog.underlying 53=some (.struct #[]):=by kernel_rfl
 unfold Instr.typeAssert
 simp only [Sem.run_bind,run_underlying hu,Result.andThen_ok,if_true,Sem.run_pure]
theorem qyO(p q:Addr)(w:World)(x y:Value)(h1:(w.alloc (Obj.cells #[] 53)).cell? p=some x)(h2:(w.alloc (Obj.cells #[] 53)).frozen? p=false)(h3:((w.alloc (Obj.cells #[] 53)).setCell p (.slice none 0 0)).cell? q=some y)(h4:((w.alloc (Obj.cells #[] 53)).setCell p (.slice none 0 0)).frozen? q=false) :
  CallsD Tryd.prog 15 #[.pointer (some p),.pointer (some q)] (.panicking [{ v:=.iface 53 (.agg #[]),recovered:=false }]) w fun e u' w'=>e=.returned (.tuple #[])/\u'=.panicking [{ v:=.iface 53 (.agg #[]),recovered:=true }]/\w'=((w.alloc (Obj.cells #[] 53)).setCell p (.slice none 0 0)).setCell q (.int .i64 1):=by
 refine callsD_of_wpS Tryd.func15 rfl fun c₀ cs hu=>?_
 have hta:=hta
 apply wpS_seq
 apply wpS_region
 simp [wpOpsS,go_sem,recoverD,hu,Tryd.ntmps15,Exit.thenS]
 apply wpS_seq
 apply wpS_region
 simp [wpOpsS,go_sem,recoverD,hu,Tryd.ntmps15,Exit.thenS]
 refine wpS_cond (t:=true) (by simp [Act.eval,Array.replicate]) ?_
 simp only [if_true]
 apply wpS_seq
 apply wpS_seq
 apply wpS_region
 simp [wpOpsS,go_sem,recoverD,hu,Tryd.ntmps15,Exit.thenS,hta]
 apply wpS_seq
 apply wpS_region
 simp [wpOpsS,go_sem,recoverD,hu,Tryd.ntmps15,Exit.thenS]
 refine wpS_cond (t:=false) (by simp [Act.eval,Array.replicate]) ?_
 simp only [Bool.false_eq_true,if_false]
 refine wpS_of_wp (wp_skip ?_)
 simp only [Exit.thenS]
 apply wpS_region
 simp [wpOpsS,go_sem,h1,h2,h3,h4,bodyPostS,results,Tryd.results15]
def APost(W:World)(M:Nat->Prop)(out:List Go.Bag.Row×Int)(e:Ending)(w':World):Prop:=
 ∃ r,e=.returned (.tuple #[r,.int .i64 out.2])/\Go.Abs.Below W.heap.size W w'/\Go.Abs.RC w' M rlS out.1 [r]
theorem qsB(w:World)(M:Nat->Prop):Go.Abs.RC w M rlS ([]:List Go.Bag.Row) [.slice none 0 0]:=by
 simp only [Go.Abs.RC]
 exact⟨none,0,rfl,Nat.le_refl _,Nat.zero_le _,fun h=>absurd rfl h⟩
theorem cells_at{w:World}{b:Nat}{v:Value}{t:TypeId}(h:w.heap[b]? = some (.cells #[v] t (0,0))):w.cell? ⟨b,0,none⟩=some v/\w.frozen? ⟨b,0,none⟩=false:=by
 simp [World.cell?,World.frozen?,h]
theorem cells3{w:World}{b:Nat}{x y z:Value}{t:TypeId}(h:w.heap[b]? = some (.cells #[x,y,z] t (0,0))):w.cell? ⟨b,0,none⟩=some x/\w.cell? ⟨b,1,none⟩=some y/\w.cell? ⟨b,2,none⟩=some z:=by
 simp [World.cell?,h]
theorem qui(w:World):(Instr.makeMap 56 none).run Tryd.prog w=.ok (.map (some w.heap.size)) (w.alloc (.map #[] 0)):=by
 simp [Instr.makeMap,run_newObj]
theorem set_self{w:World}{b:Nat}{x x0:Value}{t:TypeId}(h:w.heap[b]? = some (.cells #[x0] t (0,0))):(w.setCell ⟨b,0,none⟩ x).heap[b]? = some (.cells #[x] t (0,0)):=by
 simp only [World.setCell,Array.getElem?_modify,if_true,h,Option.map_some]
 rfl
theorem qls{w:World}{b b':Nat}{y:Value}{o:Obj}(h:w.heap[b]? = some o)(hne:b≠b'):(w.setCell ⟨b',0,none⟩ y).heap[b]? = some o:=by
 simp only [World.setCell,Array.getElem?_modify]
 rw [if_neg (Ne.symm hne)]
 exact h
theorem qir{w:World}{b10 b11:Nat}{x y x0 y0:Value}{t t':TypeId}(h10:w.heap[b10]? = some (.cells #[x0] t (0,0)))(h11:w.heap[b11]? = some (.cells #[y0] t' (0,0)))(hne:b10≠b11) :
  ((w.setCell ⟨b10,0,none⟩ x).setCell ⟨b11,0,none⟩ y).cell? ⟨b10,0,none⟩=some x/\((w.setCell ⟨b10,0,none⟩ x).setCell ⟨b11,0,none⟩ y).cell? ⟨b11,0,none⟩=some y /\
   (w.setCell ⟨b10,0,none⟩ x).cell? ⟨b11,0,none⟩=some y0/\(w.setCell ⟨b10,0,none⟩ x).frozen? ⟨b11,0,none⟩=false:=by
 have q1:=qls (set_self (x:=x) h10) (y:=y) (b':=b11) hne
 have q2:=set_self (x:=y) (qls h11 (y:=x) (b':=b10) (Ne.symm hne))
 exact⟨(cells_at q1).1,(cells_at q2).1,(cells_at (qls h11 (y:=x) (b':=b10) (Ne.symm hne))).1,(cells_at (qls h11 (y:=x) (b':=b10) (Ne.symm hne))).2⟩
theorem qdC{B:Nat}{a w:World}(h:Go.Abs.Below B a w){b:Nat}(hb:B<=b)(v:Value):Go.Abs.Below B a (w.setCell ⟨b,0,none⟩ v):=h.setCell hb v
set_option maxRecDepth 100000 in
set_option maxHeartbeats 3000000 in
theorem at_in(na ea fa:Option Addr)(nn nc en ec fn fc:Nat)(vt:Value)(rd node port code atx fe pe:Int)(W:World)(M:Nat->Prop)(out:List Go.Bag.Row×Int)(B:Value->World->Prop)(Bad:Prop)(rows:List Go.Bag.Row)
  (hCk:∀ w,Go.Abs.Below W.heap.size W w->Calls Tryd.prog 7 #[.agg #[(.slice na nn nc),(.slice ea en ec),.int .i64 rd]] w fun e w'=>e=.returned (.agg #[.int .i64 code,.int .i64 atx])/\Go.Abs.Below w.heap.size w w')
  (hFe:code=0->∀ w,Go.Abs.Below W.heap.size W w->Calls Tryd.prog 13 #[.agg #[(.slice na nn nc),(.slice ea en ec),.int .i64 rd],(.slice fa fn fc)] w fun e w'=>e=.returned (.int .i64 fe)/\Go.Abs.Below w.heap.size w w')
  (hPo:code=0->fe=0->∀ w,Go.Abs.Below W.heap.size W w->Calls Tryd.prog 14 #[.agg #[(.slice na nn nc),(.slice ea en ec),.int .i64 rd],.int .i64 node,.int .i64 port,vt] w fun e w'=>e=.returned (.int .i64 pe)/\Go.Abs.Below w.heap.size w w')
  (hC:code=0->fe=0->pe=0->∀ w,Go.Abs.Below W.heap.size W w->Calls Tryd.prog 16 #[.pointer (some ⟨w.heap.size+1,0,none⟩),.int .i64 node,.int .i64 port,vt] ((w.alloc (.map #[] 0)).alloc (.cells #[(.slice na nn nc),(.slice ea en ec),.int .i64 rd,(.slice fa fn fc),.map (some w.heap.size)] 58)) fun e w2=>
   Fb W.heap.size w.heap.size ((w.alloc (.map #[] 0)).alloc (.cells #[(.slice na nn nc),(.slice ea en ec),.int .i64 rd,(.slice fa fn fc),.map (some w.heap.size)] 58)) w2/\((∃ v,e=.returned v/\B v w2)\/(e=.panicked large/\Bad)))
  (hR:∀ w v b10 b11,Go.Abs.Below W.heap.size W w->W.heap.size<=b10->W.heap.size<=b11->(∃ c t,w.heap[b10]? = some (.cells c t (0,0)))->(∃ c t,w.heap[b11]? = some (.cells c t (0,0)))->B v w->Calls Tryd.prog 17 #[v] w fun e w'=>Go.Abs.Below w.heap.size w w'/\∃ r,e=.returned r/\Go.Abs.RC w' (fun b=>b=b10\/b=b11\/M b) rlS rows [r])
  (o1:code≠0->out=([],code)) (o2:code=0->fe≠0->out=([],fe)) (o3:code=0->fe=0->pe≠0->out=([],pe)) (o4:code=0->fe=0->pe=0->(∀ v w,B v w->out=(rows,0))/\(Bad->out=([],1))) :
  Calls Tryd.prog 6 #[.agg #[(.slice na nn nc),(.slice ea en ec),.int .i64 rd],(.slice fa fn fc),.int .i64 node,.int .i64 port,vt] W (APost W M out):=by
 have hmf:∀ (fn:Go.Fn) (first cap:Array Value) (w:World),(Instr.makeFunc fn first cap).run Tryd.prog w=.ok (.func fn first cap) w:=fun _ _ _ _=>rfl
 go_enter_defers Tryd.func6,Tryd.ntmps6
 go_wp2_with fail
 have hB1:Go.Abs.Below W.heap.size W (((W.alloc (.cells #[(.slice na nn nc),(.slice ea en ec),.int .i64 rd] 27)).alloc (.cells #[.slice none 0 0] 29)).alloc (.cells #[.int .i64 0] 30)):=(((Go.Abs.Below.refl _ _).alloc (Nat.le_refl _) _).alloc (by simp) _).alloc (by simp;omega) _
 obtain⟨h5,h10,h11⟩:(((W.alloc (.cells #[(.slice na nn nc),(.slice ea en ec),.int .i64 rd] 27)).alloc (.cells #[.slice none 0 0] 29)).alloc (.cells #[.int .i64 0] 30)).heap[W.heap.size]? = some (.cells #[(.slice na nn nc),(.slice ea en ec),.int .i64 rd] 27 (0,0)) /\
   (((W.alloc (.cells #[(.slice na nn nc),(.slice ea en ec),.int .i64 rd] 27)).alloc (.cells #[.slice none 0 0] 29)).alloc (.cells #[.int .i64 0] 30)).heap[W.heap.size+1]? = some (.cells #[.slice none 0 0] 29 (0,0)) /\
   (((W.alloc (.cells #[(.slice na nn nc),(.slice ea en ec),.int .i64 rd] 27)).alloc (.cells #[.slice none 0 0] 29)).alloc (.cells #[.int .i64 0] 30)).heap[W.heap.size+1+1]? = some (.cells #[.int .i64 0] 30 (0,0)):=by
  refine⟨?_,?_,?_⟩
  ·rw [Go.Abs.Below.heap_alloc _ _ _ (by simp;omega),Go.Abs.Below.heap_alloc _ _ _ (by simp)];exact heap_alloc_new _ _
  ·have e:(W.alloc (.cells #[(.slice na nn nc),(.slice ea en ec),.int .i64 rd] 27)).heap.size=W.heap.size+1:=by simp
   rw [Go.Abs.Below.heap_alloc _ _ _ (by simp),<- e];exact heap_alloc_new _ _
  ·have e:((W.alloc (.cells #[(.slice na nn nc),(.slice ea en ec),.int .i64 rd] 27)).alloc (.cells #[.slice none 0 0] 29)).heap.size=W.heap.size+1+1:=by simp
   rw [<- e];exact heap_alloc_new _ _
 generalize ((W.alloc (.cells #[(.slice na nn nc),(.slice ea en ec),.int .i64 rd] 27)).alloc (.cells #[.slice none 0 0] 29)).alloc (.cells #[.int .i64 0] 30)=W1 at *
 have hge:W.heap.size<W.heap.size+1:=by omega
 have hge2:W.heap.size<W.heap.size+1+1:=by omega
 have hne:W.heap.size+1≠W.heap.size+1+1:=by omega
 generalize W.heap.size+1+1=b11 at *
 generalize W.heap.size+1=b10 at *
 replace hge:=hid hge
 replace hge2:=hid hge2
 replace hFe:=hid hFe
 replace hPo:=hid hPo
 replace hC:=hid hC
 replace hR:=hid hR
 replace o1:=hid o1
 replace o2:=hid o2
 replace o3:=hid o3
 replace o4:=hid o4
 refine (hCk _ hB1).mono ?_
 rintro e w2 ⟨rfl,hb2⟩
 clear hCk
 have hB2:=hB1.trans (hb2.mono hB1.size)
 replace h5:=(hb2.block _ (Array.getElem?_eq_some_iff.1 h5).1).trans h5
 replace h10:=(hb2.block _ (Array.getElem?_eq_some_iff.1 h10).1).trans h10
 replace h11:=(hb2.block _ (Array.getElem?_eq_some_iff.1 h11).1).trans h11
 clear hB1 hb2
 replace hB2:=hid hB2
 replace h5:=hid h5
 replace h10:=hid h10
 replace h11:=hid h11
 have hz:∀ x:Int,(x != 0)=decide (x≠0):=fun x=>by by_cases h:x=0 <;> simp [h]
 have hB3:=hid (hB2.out.alloc hB2.out.size (.cells #[.int .i64 code,.int .i64 atx] 34))
 have g5:=(Go.Abs.Below.heap_alloc w2 (.cells #[.int .i64 code,.int .i64 atx] 34) _ (Array.getElem?_eq_some_iff.1 h5.out).1).trans h5.out
 have g10:=(Go.Abs.Below.heap_alloc w2 (.cells #[.int .i64 code,.int .i64 atx] 34) _ (Array.getElem?_eq_some_iff.1 h10.out).1).trans h10.out
 have g11:=(Go.Abs.Below.heap_alloc w2 (.cells #[.int .i64 code,.int .i64 atx] 34) _ (Array.getElem?_eq_some_iff.1 h11.out).1).trans h11.out
 have cF:(w2.alloc (.cells #[.int .i64 code,.int .i64 atx] 34)).cell? ⟨w2.heap.size,0,none⟩=some (.int .i64 code):=by simp
 obtain⟨c10,f10⟩:=cells_at g10
 obtain⟨c11,f11⟩:=cells_at g11
 obtain⟨p0,p1,p2⟩:=cells3 g5
 replace g5:=hid g5
 replace g10:=hid g10
 replace g11:=hid g11
 have h10':=h10
 have h11':=h11
 by_cases k1:code=0
 ·subst k1
  go_wp2_with fail
  clear c10 c11 f10 f11 cF p0 p1 p2 h5 h10 h11 h10' h11' hB2
  generalize w2.alloc (.cells #[.int .i64 0,.int .i64 atx] 34)=w3 at *
  generalize w2.heap.size=bF at *
  refine (hFe.out (by simp) _ hB3.out).mono ?_
  rintro e w4 ⟨rfl,hb4⟩
  replace g5:=hid ((hb4.block _ (Array.getElem?_eq_some_iff.1 g5.out).1).trans g5.out)
  replace g10:=hid ((hb4.block _ (Array.getElem?_eq_some_iff.1 g10.out).1).trans g10.out)
  replace g11:=hid ((hb4.block _ (Array.getElem?_eq_some_iff.1 g11.out).1).trans g11.out)
  have hB4:=hid (hB3.out.trans (hb4.mono hB3.out.size))
  clear hB3 hb4 hFe
  obtain⟨c10,f10⟩:=cells_at g10.out
  obtain⟨c11,f11⟩:=cells_at g11.out
  obtain⟨p0,p1,p2⟩:=cells3 g5.out
  by_cases k2:fe=0
  ·subst k2
   go_wp2_with fail
   clear c10 c11 f10 f11 p0 p1 p2
   refine (hPo.out (by simp) (by simp) _ hB4.out).mono ?_
   rintro e w5 ⟨rfl,hb5⟩
   replace g5:=hid ((hb5.block _ (Array.getElem?_eq_some_iff.1 g5.out).1).trans g5.out)
   replace g10:=hid ((hb5.block _ (Array.getElem?_eq_some_iff.1 g10.out).1).trans g10.out)
   replace g11:=hid ((hb5.block _ (Array.getElem?_eq_some_iff.1 g11.out).1).trans g11.out)
   have hB5:=hid (hB4.out.trans (hb5.mono hB4.out.size))
   clear hB4 hb5 hPo
   obtain⟨c10,f10⟩:=cells_at g10.out
   obtain⟨c11,f11⟩:=cells_at g11.out
   obtain⟨p0,p1,p2⟩:=cells3 g5.out
   by_cases k3:pe=0
   ·subst k3
    have hmk:=qui w5
    go_wp2_with fail
    obtain⟨o4a,o4b⟩:=o4.out (by simp) (by simp) (by simp)
    clear c10 c11 f10 f11 p0 p1 p2 hmk
    have hB6:Go.Abs.Below W.heap.size W ((w5.alloc (.map #[] 0)).alloc (.cells #[.slice na nn nc,.slice ea en ec,.int .i64 rd,.slice fa fn fc,.map (some w5.heap.size)] 58)):=(hB5.out.alloc hB5.out.size _).alloc (by simp;have:=hB5.out.size;omega) _
    have hB56:Go.Abs.Below w5.heap.size w5 ((w5.alloc (.map #[] 0)).alloc (.cells #[.slice na nn nc,.slice ea en ec,.int .i64 rd,.slice fa fn fc,.map (some w5.heap.size)] 58)):=((Go.Abs.Below.refl _ _).alloc (Nat.le_refl _) _).alloc (by simp) _
    replace g10:=(hB56.block _ (Array.getElem?_eq_some_iff.1 g10.out).1).trans g10.out
    replace g11:=(hB56.block _ (Array.getElem?_eq_some_iff.1 g11.out).1).trans g11.out
    refine (hC.out (by simp) (by simp) (by simp) w5 hB5.out).mono ?_
    generalize (w5.alloc (.map #[] 0)).alloc (.cells #[.slice na nn nc,.slice ea en ec,.int .i64 rd,.slice fa fn fc,.map (some w5.heap.size)] 58)=w6 at *
    rintro e w7 ⟨hf,hcase⟩
    replace g10:=hf.heap g10
    replace g11:=hf.heap g11
    have hB7:Go.Abs.Below W.heap.size W w7:=⟨hf.os.trans hB6.os,Go.Abs.TDr.trans hf.tape hB6.tape,hf.output.trans hB6.output,Nat.le_trans hB6.size hf.size,fun k hk=>by
     have e1:=Array.getElem?_eq_getElem (Nat.lt_of_lt_of_le hk hB6.size)
     rw [hf.block k _ e1 (.inl hk),<- e1]
     exact hB6.block k hk⟩
    clear hf hB6 hB56 hB5 hC
    rcases hcase with⟨v,rfl,hv⟩ | ⟨rfl,hbad⟩
    ·have hR':=hR.out w7 v b10 b11 hB7 (Nat.le_of_lt hge.out) (Nat.le_of_lt hge2.out) ⟨_,_,g10⟩ ⟨_,_,g11⟩ hv
     have hout:=o4a v w7 hv
     subst hout
     replace g10:=hid g10
     replace g11:=hid g11
     replace hB7:=hid hB7
     clear hR hv
     go_wp2_with fail
     refine hR'.mono ?_
     rintro e w8 ⟨hb8,r,rfl,hr⟩
     replace g10:=hid ((hb8.block _ (Array.getElem?_eq_some_iff.1 g10.out).1).trans g10.out)
     replace g11:=hid ((hb8.block _ (Array.getElem?_eq_some_iff.1 g11.out).1).trans g11.out)
     have hB8:=hid (hB7.out.trans (hb8.mono hB7.out.size))
     clear hB7 hb8 hR'
     obtain⟨c10,f10⟩:=cells_at g10.out
     obtain⟨c11,f11⟩:=cells_at g11.out
     have hrr:=hid hr
     obtain⟨ra,rn,rc,rfl⟩:∃ a n c,r=.slice a n c:=by
      obtain⟨a,c,e,-⟩:=row_of hr
      exact⟨a,_,c,e⟩
     clear hr
     obtain⟨r10,r11,r12,r13⟩:=qir (x:=.slice ra rn rc) (y:=.int .i64 0) g10.out g11.out hne
     go_wp2_with fail
     refine leaves_cons (f:=15) (args:=#[.pointer (some ⟨b10,0,none⟩),.pointer (some ⟨b11,0,none⟩)]) (by simp) (by simp [go_sem]) ?_
     refine (catch_idle ⟨b10,0,none⟩ ⟨b11,0,none⟩ _).mono ?_
     rintro e u' w9 ⟨rfl,rfl,rfl⟩
     refine (show ∃ v,_/\_ from⟨.tuple #[.slice ra rn rc,.int .i64 0],by simp [results,Tryd.results6,go_sem,r10,r11],.slice ra rn rc,rfl,qdC (qdC hB8.out (Nat.le_of_lt hge.out) _) (Nat.le_of_lt hge2.out) _,?_⟩)
     refine Go.Abs.RC.keeps ⟨by simp [World.setCell],fun k hk hn=>?_,fun k _ hn hm=>hn (.inr (.inr hm))⟩ hrr.out
     simp only [not_or] at hn
     simp only [World.setCell,Array.getElem?_modify]
     rw [if_neg (Ne.symm hn.2.1),if_neg (Ne.symm hn.1)]
    ·have hout:=o4b hbad
     subst hout
     have a10:=(Go.Abs.Below.heap_alloc w7 (Obj.cells #[] 53) _ (Array.getElem?_eq_some_iff.1 g10).1).trans g10
     have a11:=(Go.Abs.Below.heap_alloc w7 (Obj.cells #[] 53) _ (Array.getElem?_eq_some_iff.1 g11).1).trans g11
     obtain⟨c10,f10⟩:=cells_at a10
     obtain⟨r10,r11,r12,r13⟩:=qir (x:=.slice none 0 0) (y:=.int .i64 1) a10 a11 hne
     refine leaves_cons (f:=15) (args:=#[.pointer (some ⟨b10,0,none⟩),.pointer (some ⟨b11,0,none⟩)]) (by simp) (by simp [go_sem]) ?_
     refine (qyO ⟨b10,0,none⟩ ⟨b11,0,none⟩ w7 _ _ c10 f10 r12 r13).mono ?_
     rintro e u' w9 ⟨rfl,rfl,rfl⟩
     exact (show ∃ v,_/\_ from⟨.tuple #[.slice none 0 0,.int .i64 1],by simp [results,Tryd.results6,go_sem,r10,r11],.slice none 0 0,rfl,qdC (qdC (hB7.alloc hB7.size _) (Nat.le_of_lt hge.out) _) (Nat.le_of_lt hge2.out) _,qsB _ _⟩)
   ·have k3':(pe != 0)=true:=by simp [k3]
    go_wp2_with fail
    have hout:=o3.out (by simp) (by simp) k3
    subst hout
    obtain⟨r10,r11,-,-⟩:=qir (x:=.slice none 0 0) (y:=.int .i64 pe) g10.out g11.out hne
    refine⟨.tuple #[.slice none 0 0,.int .i64 pe],by simp [results,Tryd.results6,go_sem,r10,r11],.slice none 0 0,rfl,qdC (qdC hB5.out (Nat.le_of_lt hge.out) _) (Nat.le_of_lt hge2.out) _,qsB _ _⟩
  ·have k2':(fe != 0)=true:=by simp [k2]
   go_wp2_with fail
   have hout:=o2.out (by simp) k2
   subst hout
   obtain⟨r10,r11,-,-⟩:=qir (x:=.slice none 0 0) (y:=.int .i64 fe) g10.out g11.out hne
   refine⟨.tuple #[.slice none 0 0,.int .i64 fe],by simp [results,Tryd.results6,go_sem,r10,r11],.slice none 0 0,rfl,qdC (qdC hB4.out (Nat.le_of_lt hge.out) _) (Nat.le_of_lt hge2.out) _,qsB _ _⟩
 ·have k1':(code != 0)=true:=by simp [k1]
  go_wp2_with fail
  clear p0 p1 p2 h5 h10 h11 hB2
  have hbF:b10≠w2.heap.size/\b11≠w2.heap.size:=by
   have q1:=(Array.getElem?_eq_some_iff.1 h10'.out).1
   have q2:=(Array.getElem?_eq_some_iff.1 h11'.out).1
   exact⟨by omega,by omega⟩
  generalize w2.alloc (.cells #[.int .i64 code,.int .i64 atx] 34)=w3 at *
  generalize w2.heap.size=bF at *
  obtain⟨hbF1,hbF2⟩:=hbF
  have e1:∀ v,(w3.setCell ⟨b10,0,none⟩ v).cell? ⟨bF,0,none⟩=some (.int .i64 code):=fun v=>by rw [World.cell?_setCell_far _ _ _ _ hbF1];exact cF
  have e2:=fun v=>(qir (x:=v) (y:=v) g10.out g11.out hne).2.2.1
  have e3:=fun v=>(qir (x:=v) (y:=v) g10.out g11.out hne).2.2.2
  have e4:=fun v=>(qir (x:=v) (y:=v) g11.out g10.out (Ne.symm hne)).2.2.1
  have e5:=fun v=>(qir (x:=v) (y:=v) g11.out g10.out (Ne.symm hne)).2.2.2
  have hout:=o1.out k1
  subst hout
  have hB3d:=hid hB3.out.drew
  go_region
  go_wp2_with fail
  obtain⟨r10,r11,-,-⟩:=qir (x:=.slice none 0 0) (y:=.int .i64 code) g10.out g11.out hne
  exact⟨.tuple #[.slice none 0 0,.int .i64 code],by simp [results,Tryd.results6,go_sem,r10,r11],.slice none 0 0,rfl,(qdC (qdC hB3.out (Nat.le_of_lt hge.out) _) (Nat.le_of_lt hge2.out) _).drew,qsB _ _⟩
end Go.Proofs.YtnhjpicdijeagaaDoor

namespace Go.Proofs.YtnhjpicdijeagaaDoor
open Go.Abs Go.Bag Go.RowKit
def opP(k:Int):Int:=if 1<=k/\k<=8 then 1 else if k=9\/k=10 then 2 else 0
theorem qzG(N:Nat)(k A B:Int):qdV N ((k,A,B),())=some (opP k,()):=by
 unfold opP
 simp only [qdV,qpm]
 by_cases h1:k>=1
 ·rw [qY h1,cond_true]
  by_cases h2:k<=8
  ·rw [qY h2,cond_true,zJ ⟨h1,h2⟩]
  ·rw [qah h2,cond_false,zL (fun h=>h2 h.2)]
   by_cases h3:k=9
   ·rw [show (k==9)=true from beq_iff_eq.2 h3,cond_true,zJ (.inl h3)]
   ·rw [show (k==9)=false from zO h3,cond_false]
    by_cases h4:k=10
    ·rw [show (k==10)=true from beq_iff_eq.2 h4,cond_true,zJ (.inr h4)]
    ·rw [show (k==10)=false from zO h4,cond_false,zL (by omega)]
 ·rw [qah h1,cond_false,zL (fun h=>h1 h.1),show (k==9)=false from zO (by omega),cond_false,show (k==10)=false from zO (by omega),cond_false,zL (by omega)]
def badN(x:Nd):Prop:=(x.1=2/\opP x.2.2.1≠1)\/(x.1=3/\opP x.2.2.1≠2)
open Classical in
noncomputable def codeM(p:Pl):Int:=if Gh.codeG p.ns p.es≠0 then Gh.codeG p.ns p.es else if ∃ i,i<p.ns.length/\badN (ndA p.ns i) then 17 else if p.rd<0\/8<p.rd then 2 else 0
theorem qAb{N:Nat}(hN:1000<=N)(p:Pl):∃ a,qjO N (((p.ns,p.es),p.rd),())=some ((codeM p,a),()):=by
 obtain⟨a,ha⟩:=Gh.Check_eq (N:=N) hN p.ns p.es
 simp only [qjO,qnG]
 unfold codeM
 simp only [ha,Option.bind_some]
 by_cases k0:Gh.codeG p.ns p.es=0
 ·have hG:=Gh.codeG_zero.1 k0
  have hn:=hG.n12
  rw [zL (fun h=>h k0),show (Gh.codeG p.ns p.es != 0)=false from by simp [k0],cond_false]
  simp only [joinD,loopE]
  have hb:∀ (K:_->Option qbI) (i:Nat),i<p.ns.length->∀ kn,qgX N K p.ns (p.ns.length:Int) p.ns p.es p.rd 0 0 (i:Int) (backE (p.ns,(p.ns.length:Int),p.ns,p.es,p.rd,(0:Int),(0:Int)) kn) =
    open Classical in if badN (ndA p.ns i) then some (((17:Int),(i:Int)),()) else kn ((i:Int)+1):=fun K i hi kn=>by
   have e0:nth ((0:Int),(0:Int),(0:Int),(0:Int),(0:Int)) p.ns i=ndA p.ns i:=rfl
   simp only [qgX,joinD,lt_d hi,ge0_d,Int.toNat_natCast,Bool.and_self,cond_true,e0,qnH,ix1 hi (by omega),qaq]
   have e1:=Gh.gPorts_eq N (ndA p.ns i)
   have e2:((ndA p.ns i).1,(ndA p.ns i).2.1,(ndA p.ns i).2.2.1,(ndA p.ns i).2.2.2.1,(ndA p.ns i).2.2.2.2)=ndA p.ns i:=rfl
   rw [e2,e1,qzG N (ndA p.ns i).2.2.1 (ndA p.ns i).2.2.2.1 (ndA p.ns i).2.2.2.2]
   simp only [Option.bind_some]
   unfold badN Gh.prt
   by_cases q2:(ndA p.ns i).1=2
   ·rw [show ((ndA p.ns i).1==2)=true from beq_iff_eq.2 q2,cond_true,zL (by omega),zL (by omega)]
    by_cases q:opP (ndA p.ns i).2.2.1=1
    ·rw [show (opP (ndA p.ns i).2.2.1 != 1)=false from by simp [q],cond_false,zL (by rintro (h | h);exact h.2 q;omega)]
    ·rw [show (opP (ndA p.ns i).2.2.1 != 1)=true from by simp [q],cond_true,zJ (.inl ⟨q2,q⟩)]
   ·rw [show ((ndA p.ns i).1==2)=false from zO q2,cond_false]
    by_cases q3:(ndA p.ns i).1=3
    ·rw [show ((ndA p.ns i).1==3)=true from beq_iff_eq.2 q3,cond_true,zL (by omega),zJ q3]
     by_cases q:opP (ndA p.ns i).2.2.1=2
     ·rw [show (opP (ndA p.ns i).2.2.1 != 2)=false from by simp [q],cond_false,zL (by rintro (h | h);omega;exact h.2 q)]
     ·rw [show (opP (ndA p.ns i).2.2.1 != 2)=true from by simp [q],cond_true,zJ (.inr ⟨q3,q⟩)]
    ·rw [show ((ndA p.ns i).1==3)=false from zO q3,cond_false,zL (by rintro (h | h);omega;omega)]
  by_cases hex:∃ i,i<p.ns.length/\badN (ndA p.ns i)
  ·rw [zJ hex]
   obtain⟨i0,⟨a1,a2⟩,a3⟩:=least hex
   refine⟨(i0:Int),qcJ i0 (fun i=>(i:Int)) (fun i hi kn=>?_) (fun kn=>?_) (by omega)⟩
   ·rw [hb _ i (by omega),zL (fun h=>by have:=a3 i ⟨by omega,h⟩;omega)];rfl
   ·rw [hb _ i0 a1,zJ a2]
  ·rw [zL hex]
   refine⟨0,qcK (n:=p.ns.length) (by omega) (fun i hi kn=>?_) (fun kn=>?_) (by omega)⟩
   ·rw [hb _ i hi,zL (fun h=>hex ⟨i,hi,h⟩)]
   ·simp only [qgX,qbb,cond_false,qnI]
    by_cases r1:p.rd<0
    ·rw [qY r1,cond_true,zJ (.inl r1)]
    ·rw [qah r1,cond_false]
     by_cases r2:p.rd>8
     ·rw [qY r2,cond_true,zJ (.inr r2)]
     ·rw [qah r2,cond_false,zL (by omega)]
 ·rw [zJ k0,show (Gh.codeG p.ns p.es != 0)=true from by simp [k0],cond_true]
  exact⟨_,rfl⟩
def badF(ns:List Nd)(f:Fd):Prop:=f.1<0\/(ns.length:Int)<=f.1\/(ndA ns f.1.toNat).1≠1\/f.2.1<0\/1048576<f.2.1
open Classical in
noncomputable def codeF(p:Pl):Int:=if 60<p.fs.length\/∃ f∈p.fs,128<f.2.2.length then 1 else if ∃ f∈p.fs,badF p.ns f then 2 else 0
theorem quR{N:Nat}{fs:List Fd}(hN:fs.length<N)(hl:fs.length<=1000):∃ b,qp N (fs,(),())=some (b,())/\(b=true↔∃ f∈fs,128<f.2.2.length):=by
 simp only [qp,qaA]
 have key:∃ i:Int,qC N (fs,(),())=some (i,())/\(0<=i↔∃ f∈fs,128<f.2.2.length):=by
  simp only [qC,qaI,joinD,loopE]
  have hb:∀ (K:Unit->_) (i:Nat),i<fs.length->∀ kn,qW N K fs (fs.length:Int) (i:Int) (backE (fs,(fs.length:Int)) kn)=if 128<(nth zF fs i).2.2.length then some ((i:Int),()) else kn ((i:Int)+1):=fun K i hi kn=>by
   have e0:nth ((0:Int),(0:Int),([]:List Row)) fs i=nth zF fs i:=rfl
   simp only [qW,lt_d hi,ge0_d,Int.toNat_natCast,Bool.and_self,cond_true,qdf,qjt,Option.bind_some,ix1 hi (by omega),qaq,e0]
   by_cases q:128<(nth zF fs i).2.2.length
   ·rw [qY (show ((nth zF fs i).2.2.length:Int)>128 by omega),zJ q];rfl
   ·rw [qah (show ¬ ((nth zF fs i).2.2.length:Int)>128 by omega),zL q];rfl
  by_cases hex:∃ i,i<fs.length/\128<(nth zF fs i).2.2.length
  ·obtain⟨i0,⟨a1,a2⟩,a3⟩:=least hex
   refine⟨(i0:Int),qcJ i0 (fun i=>(i:Int)) (fun i hi kn=>?_) (fun kn=>?_) (by omega),⟨fun _=>⟨_,qdP a1,a2⟩,fun _=>by omega⟩⟩
   ·rw [hb _ i (by omega),zL (fun h=>by have:=a3 i ⟨by omega,h⟩;omega)];rfl
   ·rw [hb _ i0 a1,zJ a2]
  ·refine⟨-1,qcK (n:=fs.length) (by omega) (fun i hi kn=>?_) (fun kn=>?_) hN,⟨fun h=>by omega,fun ⟨f,hf,h⟩=>?_⟩⟩
   ·rw [hb _ i hi,zL (fun h=>hex ⟨i,hi,h⟩)]
   ·simp only [qW,qbb,cond_false,qaJ]
   ·obtain⟨i,hi,rfl⟩:=qds (z:=zF) hf
    exact absurd ⟨i,hi,h⟩ hex
 obtain⟨i,h1,h2⟩:=key
 rw [h1]
 exact⟨decide (i>=0),rfl,by rw [zQ];exact h2⟩
theorem qAa{N:Nat}(hN:1000<=N)(p:Pl):qjN N (((p.ns,p.es),p.rd),p.fs,())=some (codeF p,()):=by
 simp only [qjN,qnD]
 unfold codeF
 by_cases k0:(p.fs.length:Int)>60
 ·rw [qY k0,cond_true,zJ (.inl (by omega))]
 rw [qah k0,cond_false]
 obtain⟨b,h1,h2⟩:=quR (N:=N) (fs:=p.fs) (by omega) (by omega)
 simp only [h1,Option.bind_some]
 by_cases k1:∃ f∈p.fs,128<f.2.2.length
 ·rw [h2.2 k1,cond_true,zJ (.inr k1)]
 rw [show b=false from by cases b with | false=>rfl | true=>exact absurd (h2.1 rfl) k1,cond_false,zL (by rintro (h | h);omega;exact k1 h)]
 simp only [joinD,loopE]
 have hb:∀ (K:Unit->Option qbH) (i:Nat),i<p.fs.length->∀ kn,qgW N K p.fs (p.fs.length:Int) p.ns p.es p.rd (i:Int) (backE (p.fs,(p.fs.length:Int),p.ns,p.es,p.rd) kn) =
   open Classical in if badF p.ns (nth zF p.fs i) then some ((2:Int),()) else kn ((i:Int)+1):=fun K i hi kn=>by
  have e0:nth ((0:Int),(0:Int),([]:List Row)) p.fs i=nth zF p.fs i:=rfl
  simp only [qgW,joinD,lt_d hi,ge0_d,Int.toNat_natCast,Bool.and_self,cond_true,e0,qnE,ix1 hi (by omega),qaq]
  unfold badF
  by_cases q1:(nth zF p.fs i).1<0
  ·rw [qY q1,cond_true,zJ (.inl q1)]
  rw [qah q1,cond_false]
  by_cases q2:(nth zF p.fs i).1>=(p.ns.length:Int)
  ·rw [qY q2,cond_true,zJ (.inr (.inl q2))]
  rw [qah q2,cond_false,qY (show (0:Int)<=(nth zF p.fs i).1 by omega),qY (show (nth zF p.fs i).1<(p.ns.length:Int) by omega),Bool.and_self,cond_true]
  have e1:nth ((0:Int),(0:Int),(0:Int),(0:Int),(0:Int)) p.ns (nth zF p.fs i).1.toNat=ndA p.ns (nth zF p.fs i).1.toNat:=rfl
  rw [e1]
  by_cases q3:(ndA p.ns (nth zF p.fs i).1.toNat).1=1
  ·rw [show ((ndA p.ns (nth zF p.fs i).1.toNat).1 != 1)=false from by simp [q3],cond_false]
   by_cases q4:(nth zF p.fs i).2.1<0
   ·rw [qY q4,cond_true,zJ (.inr (.inr (.inr (.inl q4))))]
   rw [qah q4,cond_false]
   by_cases q5:(nth zF p.fs i).2.1>1048576
   ·rw [qY q5,cond_true,zJ (.inr (.inr (.inr (.inr q5))))]
   ·rw [qah q5,cond_false,zL (by rintro (h | h | h | h | h);exact q1 h;exact q2 h;exact h q3;exact q4 h;exact q5 h)]
  ·rw [show ((ndA p.ns (nth zF p.fs i).1.toNat).1 != 1)=true from by simp [q3],cond_true,zJ (.inr (.inr (.inl q3)))]
 by_cases hex:∃ f∈p.fs,badF p.ns f
 ·rw [zJ hex]
  obtain⟨f,hf,h⟩:=hex
  obtain⟨i,hi,rfl⟩:=qds (z:=zF) hf
  exact qju (n:=p.fs.length) (by omega) (fun i=>badF p.ns (nth zF p.fs i)) (fun i hi hq kn=>by rw [hb _ i hi,zJ hq]) (fun i hi hq kn=>by rw [hb _ i hi,zL hq]) (by omega) ⟨i,hi,h⟩
 ·rw [zL hex]
  refine qcK (n:=p.fs.length) (by omega) (fun i hi kn=>?_) (fun kn=>?_) (by omega)
  ·rw [hb _ i hi,zL (fun h=>hex ⟨_,qdP hi,h⟩)]
  ·simp only [qgW,qbb,cond_false,qnF]
theorem n1:¬ ((1:Int)=0):=by decide
theorem n2:¬ ((2:Int)=0):=by decide
theorem n7:¬ ((7:Int)=0):=by decide
theorem qzk{N:Nat}(hN:1000<=N)(t:List Int):∃ e,qdp N (t,())=some (e,())/\(e=0↔(1<=t.length/\t.length<=4/\∀ x∈t,0<=x/\x<=1048576)):=by
 simp only [qdp,qli]
 by_cases k0:(t.length:Int)=0
 ·rw [show ((t.length:Int)==0)=true from beq_iff_eq.2 k0,cond_true];exact⟨1,rfl,⟨fun h=>absurd h n1,fun h=>by have:=h.1;have:=h.2.1;omega⟩⟩
 rw [show ((t.length:Int)==0)=false from zO k0,cond_false]
 by_cases k1:(t.length:Int)>4
 ·rw [qY k1,cond_true];exact⟨1,rfl,⟨fun h=>absurd h n1,fun h=>by have:=h.1;have:=h.2.1;omega⟩⟩
 rw [qah k1,cond_false]
 simp only [joinD,loopE]
 have hb:∀ (K:Unit->Option qck) (i:Nat),i<t.length->∀ kn,qfz N K t (t.length:Int) (i:Int) (backE (t,(t.length:Int)) kn)=if nth 0 t i<0\/1048576<nth 0 t i then some ((2:Int),()) else kn ((i:Int)+1):=fun K i hi kn=>by
  simp only [qfz,lt_d hi,ge0_d,Int.toNat_natCast,Bool.and_self,cond_true,ix1 hi (by omega),qaq]
  by_cases q1:nth 0 t i<0
  ·rw [qY q1,cond_true,zJ (.inl q1)]
  rw [qah q1,cond_false]
  by_cases q2:nth 0 t i>1048576
  ·rw [qY q2,cond_true,zJ (.inr q2)]
  ·rw [qah q2,cond_false,zL (by omega)]
 by_cases hex:∃ i,i<t.length/\(nth 0 t i<0\/1048576<nth 0 t i)
 ·refine⟨2,qju (n:=t.length) (by omega) (fun i=>nth 0 t i<0\/1048576<nth 0 t i) (fun i hi hq kn=>by rw [hb _ i hi,zJ hq]) (fun i hi hq kn=>by rw [hb _ i hi,zL hq]) (by omega) hex,⟨fun h=>absurd h n2,fun ⟨_,_,h⟩=>?_⟩⟩
  obtain⟨i,hi,hq⟩:=hex
  have:=h _ (qdP (z:=(0:Int)) hi)
  omega
 ·refine⟨0,qcK (n:=t.length) (by omega) (fun i hi kn=>?_) (fun kn=>?_) (by omega),⟨fun _=>⟨by omega,by omega,fun x hx=>?_⟩,fun _=>rfl⟩⟩
  ·rw [hb _ i hi,zL (fun h=>hex ⟨i,hi,h⟩)]
  ·simp only [qfz,qbb,cond_false,qlj]
  ·obtain⟨i,hi,rfl⟩:=qds (z:=(0:Int)) hx
   have:¬ (nth 0 t i<0\/1048576<nth 0 t i):=fun h=>hex ⟨i,hi,h⟩
   omega
theorem quJ{N:Nat}{t:List Int}(ns:List Nd)(es:List Ed)(rd:Int)(hN:t.length<N)(hl:t.length<=1000):∃ b,qaj N (t,ns,es,rd)=some (b,ns,es,rd)/\(b=true↔∃ x∈t,rd<x):=by
 simp only [qaj,qcm]
 have key:∃ i:Int,qap N (t,ns,es,rd)=some (i,ns,es,rd)/\(0<=i↔∃ x∈t,rd<x):=by
  simp only [qap,qcG,joinD,loopE]
  have hb:∀ (K:_->Option qaf) (i:Nat),i<t.length->∀ kn,qav N K t (t.length:Int) (i:Int) ns es rd (backE (t,(t.length:Int)) kn)=if rd<nth 0 t i then some ((i:Int),ns,es,rd) else kn ((i:Int)+1,ns,es,rd):=fun K i hi kn=>by
   simp only [qav,lt_d hi,ge0_d,Int.toNat_natCast,Bool.and_self,cond_true,qcI,qiQ,Option.bind_some,ix1 hi (by omega),qaq]
   by_cases q:rd<nth 0 t i
   ·rw [qY (show nth 0 t i>rd from q),zJ q];rfl
   ·rw [qah (show ¬ nth 0 t i>rd from q),zL q];rfl
  by_cases hex:∃ i,i<t.length/\rd<nth 0 t i
  ·obtain⟨i0,⟨a1,a2⟩,a3⟩:=least hex
   refine⟨(i0:Int),qcJ i0 (fun i=>((i:Int),ns,es,rd)) (fun i hi kn=>?_) (fun kn=>?_) (by omega),⟨fun _=>⟨_,qdP a1,a2⟩,fun _=>by omega⟩⟩
   ·rw [hb _ i (by omega),zL (fun h=>by have:=a3 i ⟨by omega,h⟩;omega)];rfl
   ·rw [hb _ i0 a1,zJ a2]
  ·refine⟨-1,?_,⟨fun h=>by omega,fun ⟨x,hx,h⟩=>?_⟩⟩
   ·obtain⟨s',h1,h2⟩:=qhT (g:=fun (s:Int×List Nd×List Ed×Int) kn=>qav N (fun s=>qbz N s.1 s.2.1 s.2.2) t (t.length:Int) s.1 s.2.1 s.2.2.1 s.2.2.2 (backE (t,(t.length:Int)) kn)) (k:=fun s=>some ((-1:Int),s.2.1,s.2.2.1,s.2.2.2)) t.length (fun i s=>s=((i:Int),ns,es,rd))
     (fun i s hi hs=>⟨((i:Int)+1,ns,es,rd),by simp,fun kn=>by subst hs;rw [hb _ i hi,zL (fun h=>hex ⟨i,hi,h⟩)]⟩) (fun s hs kn=>by subst hs;simp only [qav,qbb,cond_false,qbz]) (N:=N) hN (s:=((0:Int),ns,es,rd)) rfl
    rw [h2,h1]
   ·obtain⟨i,hi,rfl⟩:=qds (z:=(0:Int)) hx
    exact absurd ⟨i,hi,h⟩ hex
 obtain⟨i,h1,h2⟩:=key
 rw [h1]
 exact⟨decide (i>=0),rfl,by rw [zQ];exact h2⟩
def qya(p:Pl)(node port:Int)(t:List Int):Prop:=
 0<=node/\node<p.ns.length/\0<=port/\port<Gh.prt (ndA p.ns node.toNat)/\(1<=t.length/\t.length<=4/\∀ x∈t,0<=x/\x<=1048576)/\(t.length:Int)=(ndA p.ns node.toNat).2.1/\¬ ∃ x∈t.drop 1,p.rd<x
theorem qxC{N:Nat}(hN:1000<=N)(p:Pl)(node port:Int)(t:List Int):∃ c,qiL N (((p.ns,p.es),p.rd),node,port,t,())=some (c,())/\(c=0↔qya p node port t):=by
 simp only [qiL,qpw]
 unfold qya
 by_cases k1:node<0
 ·rw [qY k1,cond_true];exact⟨2,rfl,⟨fun h=>absurd h n2,fun h=>by have:=h.1;have:=h.2.1;have:=h.2.2.1;have:=h.2.2.2.1;omega⟩⟩
 rw [qah k1,cond_false]
 by_cases k2:node>=(p.ns.length:Int)
 ·rw [qY k2,cond_true];exact⟨2,rfl,⟨fun h=>absurd h n2,fun h=>by have:=h.1;have:=h.2.1;have:=h.2.2.1;have:=h.2.2.2.1;omega⟩⟩
 rw [qah k2,cond_false]
 by_cases k3:port<0
 ·rw [qY k3,cond_true];exact⟨2,rfl,⟨fun h=>absurd h n2,fun h=>by have:=h.1;have:=h.2.1;have:=h.2.2.1;have:=h.2.2.2.1;omega⟩⟩
 rw [qah k3,cond_false,qY (show (0:Int)<=node by omega),qY (show node<(p.ns.length:Int) by omega),Bool.and_self,cond_true]
 have e1:nth ((0:Int),(0:Int),(0:Int),(0:Int),(0:Int)) p.ns node.toNat=ndA p.ns node.toNat:=rfl
 have e2:((ndA p.ns node.toNat).1,(ndA p.ns node.toNat).2.1,(ndA p.ns node.toNat).2.2.1,(ndA p.ns node.toNat).2.2.2.1,(ndA p.ns node.toNat).2.2.2.2)=ndA p.ns node.toNat:=rfl
 rw [e1,e2,Gh.gPorts_eq]
 simp only [Option.bind_some]
 by_cases k4:port>=Gh.prt (ndA p.ns node.toNat)
 ·rw [qY k4,cond_true];exact⟨2,rfl,⟨fun h=>absurd h n2,fun h=>by have:=h.1;have:=h.2.1;have:=h.2.2.1;have:=h.2.2.2.1;omega⟩⟩
 rw [qah k4,cond_false]
 obtain⟨e,h1,h2⟩:=qzk hN t
 simp only [h1,Option.bind_some]
 by_cases k5:e=0
 ·rw [show (e != 0)=false from by simp [k5],cond_false,cond_true]
  have h3:=h2.1 k5
  by_cases k6:(t.length:Int)=(ndA p.ns node.toNat).2.1
  ·rw [show ((t.length:Int) != (ndA p.ns node.toNat).2.1)=false from by simp [k6],cond_false,qY (show (0:Int)<=1 by omega),qY (show (1:Int)<=(t.length:Int) by omega),qY (show (t.length:Int)<=(t.length:Int) by omega),Bool.and_self,Bool.and_self,cond_true]
   have e3:(t.take (t.length:Int).toNat).drop (1:Int).toNat=t.drop 1:=by rw [Int.toNat_natCast,zAR];rfl
   rw [e3]
   obtain⟨b,q1,q2⟩:=quJ (N:=N) (t:=t.drop 1) p.ns p.es p.rd (by simp;omega) (by simp;omega)
   simp only [q1,Option.bind_some]
   cases b with
   | true=>exact⟨2,rfl,⟨fun h=>absurd h n2,fun h=>absurd (q2.1 rfl) h.2.2.2.2.2.2⟩⟩
   | false=>exact⟨0,rfl,⟨fun _=>⟨by omega,by omega,by omega,by omega,h3,k6,fun h=>by have:=q2.2 h;cases this⟩,fun _=>rfl⟩⟩
  ·rw [show ((t.length:Int) != (ndA p.ns node.toNat).2.1)=true from by simp [k6],cond_true];exact⟨7,rfl,⟨fun h=>absurd h n7,fun h=>absurd h.2.2.2.2.2.1 k6⟩⟩
 ·rw [show (e != 0)=true from by simp [k5],cond_true];exact⟨e,rfl,⟨fun h=>absurd h k5,fun h=>absurd (h2.2 h.2.2.2.2.1) k5⟩⟩
end Go.Proofs.YtnhjpicdijeagaaDoor

noncomputable section
namespace Go.Proofs.YtnhjpicdijeagaaDoor
open Go.Abs Go.Bag Go.RowKit
theorem qmc{p:Pl}(h:codeM p=0)(h2:codeF p=0):POk p:=by
 unfold codeM at h
 split at h
 ·rename_i k;exact absurd h k
 rename_i k
 split at h
 ·cases h
 rename_i kn
 split at h
 ·cases h
 rename_i kr
 unfold codeF at h2
 split at h2
 ·cases h2
 rename_i kf
 have hG:=Gh.codeG_zero.1 (Classical.not_not.1 k)
 refine⟨hG,fun x hx q=>?_,fun x hx q=>?_,by omega,?_,fun f hf=>?_⟩
 ·obtain⟨i,hi,rfl⟩:=qds (z:=Gh.z5) hx
  have:opP (ndA p.ns i).2.2.1=1:=Classical.byContradiction fun hh=>kn ⟨i,hi,.inl ⟨q,hh⟩⟩
  unfold opP at this
  split at this
  ·rename_i h1;exact h1.1
  ·split at this
   ·cases this
   ·cases this
 ·obtain⟨i,hi,rfl⟩:=qds (z:=Gh.z5) hx
  have:opP (ndA p.ns i).2.2.1=2:=Classical.byContradiction fun hh=>kn ⟨i,hi,.inr ⟨q,hh⟩⟩
  unfold opP at this
  split at this
  ·cases this
  ·split at this
   ·rename_i h1;exact h1
   ·cases this
 ·exact zBC fun q=>kf (.inl q)
 ·exact zBC fun q=>kf (.inr ⟨f,hf,q⟩)
theorem qxp{p:Pl}{node port:Int}{t:List Int}(h:qya p node port t):Val p (node.toNat,port,t)/\((node.toNat:Nat):Int)=node:=by
 obtain⟨h1,h2,h3,h4,⟨h5,h6,h7⟩,h8,h9⟩:=h
 exact⟨⟨by show node.toNat<_;omega,h3,h4,h8,h7⟩,by omega⟩
open Classical in
def codeP(p:Pl)(node port:Int)(t:List Int):Int:=Classical.choose (qxC (N:=1000) (Nat.le_refl _) p node port t)
theorem qmd(p:Pl)(node port:Int)(t:List Int):qiL 1000 (((p.ns,p.es),p.rd),node,port,t,())=some (codeP p node port t,())/\(codeP p node port t=0↔qya p node port t):=zAg (qxC (N:=1000) (Nat.le_refl _) p node port t)
def semO(o:Option Fn):List Row×Int:=match o with | some F=>(rowsF F,0) | none=>([],1)
def atF(p:Pl)(node port:Int)(t:List Int):List Row×Int:=
 if codeM p≠0 then ([],codeM p) else if codeF p≠0 then ([],codeF p) else if codeP p node port t≠0 then ([],codeP p node port t) else semO (p.sem (node.toNat,port,t))
abbrev qin:List Kd:=[.dat (.pair (.pair (.sl (.pair (.int .i64) (.pair (.int .i64) (.pair (.int .i64) (.pair (.int .i64) (.int .i64)))))) (.sl (.pair (.int .i64) (.pair (.int .i64) (.int .i64))))) (.int .i64)),.dat (.sl (.pair (.int .i64) (.pair (.int .i64) (.sl (.pair (.int .i64) (.pair (.int .i64) (.int .i64))))))),.dat (.int .i64),.dat (.int .i64),.dat (.sl (.int .i64))]
abbrev qil:List Kd:=[.dat (.sl (.pair (.int .i64) (.pair (.int .i64) (.int .i64)))),.dat (.int .i64)]
abbrev qyX:Type:=Dens qil
def qci(_N:Nat)(x:Dens qin):Option qyX:=some ((atF ⟨x.1.1.1,x.1.1.2,x.1.2,x.2.1⟩ x.2.2.1 x.2.2.2.1 x.2.2.2.2.1).1,(atF ⟨x.1.1.1,x.1.1.2,x.1.2,x.2.1⟩ x.2.2.1 x.2.2.2.1 x.2.2.2.2.1).2,())
theorem pl_rv{w:World}{M:Nat->Prop}{p:Pl}{na ea:Option Addr}{nn nc en ec:Nat}(h1:RC w M (.sl ndS) p.ns [.slice na nn nc])(h2:RC w M (.sl edS) p.es [.slice ea en ec]) :
  RV w M [] σ0 (.agg [.sl ndS p.ns,.sl edS p.es,.int .i64 p.rd]) (.agg #[.slice na nn nc,.slice ea en ec,.int .i64 p.rd]):=
 ⟨_,rfl,by simp [Value.oneCell'],_,_,rfl,h1,_,_,rfl,h2,_,_,rfl,rfl,rfl⟩
theorem qdF{w w':World}{M M':Nat->Prop}{s:Sh}{x:s.den}{v:List Value}(h:RC w M s x v)(b:Go.Abs.Below w.heap.size w w')(hm:∀ k,k<w.heap.size->¬ M k->¬ M' k):RC w' M' s x v:=RC.keeps ⟨b.size,fun k hk _=>b.block k hk,hm⟩ h
theorem qyj(N:Nat):SpecD Tryd.prog Gs 6 qin qil (qci N):=by
 rintro M W ⟨⟨⟨ns,es⟩,rd⟩,fs,node,port,t,⟨⟩⟩ y vs hMM hgw hv hD
 cases hD
 obtain⟨_,_,rfl,hv1,_,_,rfl,hv2,_,_,rfl,hv3,_,_,rfl,hv4,_,_,rfl,hv5,rfl⟩:=hv
 obtain⟨cs,rfl,-,hc⟩:=hv1
 obtain⟨n1,_,hc0,hn1,e1,_,rfl,he1,r1,_,rfl,hr1,rfl⟩:=hc
 have hn:RC W M (.sl ndS) ns [n1]:=hn1
 have he:RC W M (.sl edS) es [e1]:=he1
 have hr:r1=.int .i64 rd:=hr1
 have hf:RC W M (.sl fdS) fs [_]:=hv2
 have h3:_=Value.int .i64 node:=hv3
 have h4:_=Value.int .i64 port:=hv4
 have ht:RC W M iL t [_]:=hv5
 subst hr;subst h3;subst h4
 obtain⟨na,nc,rfl,-⟩:=row_of hn
 obtain⟨ea,ec,rfl,-⟩:=row_of he
 obtain⟨fa,fc,rfl,-⟩:=row_of hf
 have hcs:cs = #[.slice na ns.length nc,.slice ea es.length ec,.int .i64 rd]:=by apply Array.ext';rw [hc0]
 subst hcs
 clear hc0
 obtain⟨cat,hck⟩:=qAb (N:=1000) (Nat.le_refl _) ⟨ns,es,rd,fs⟩
 have hfk:=qAa (N:=1000) (Nat.le_refl _) ⟨ns,es,rd,fs⟩
 have hpk:=qmd ⟨ns,es,rd,fs⟩ node port t
 have hno:∀ k,k<W.heap.size->¬ M k->¬ False:=fun _ _ _ q=>q
 refine (at_in na ea fa ns.length nc es.length ec fs.length fc _ rd node port (codeM ⟨ns,es,rd,fs⟩) cat (codeF ⟨ns,es,rd,fs⟩) (codeP ⟨ns,es,rd,fs⟩ node port t) W M (atF ⟨ns,es,rd,fs⟩ node port t)
  (fun v w=>∃ bt,BG W.heap.size bt 128 ((Pl.mk ns es rd fs).sem (node.toNat,port,t)) v w) ((Pl.mk ns es rd fs).sem (node.toNat,port,t)=none) (semO ((Pl.mk ns es rd fs).sem (node.toNat,port,t))).1
  (fun w hb=>?_) (fun k1 w hb=>?_) (fun k1 k2 w hb=>?_) (fun k1 k2 k3 w hb=>?_) (fun w v b10 b11 hb g10 g11 q10 q11 hB=>?_) (fun k1=>?_) (fun k1 k2=>?_) (fun k1 k2 k3=>?_) (fun k1 k2 k3=>⟨fun v w hB=>?_,fun hB=>?_⟩)).mono ?_
 ·refine (qsn 1000 (fun _=>False) w (((ns,es),rd),()) _ [_] (fun _ q=>q.elim) (GW.below hgw hb) ⟨_,_,rfl,pl_rv (p:=⟨ns,es,rd,fs⟩) (qdF hn hb hno) (qdF he hb hno),rfl⟩ hck).mono ?_
  rintro e w' ⟨x,rfl,hb',hx⟩
  obtain⟨cs,rfl,-,_,_,q0,q1,_,_,rfl,q2,rfl⟩:=hx
  have q1:_=Value.int .i64 (codeM ⟨ns,es,rd,fs⟩):=q1
  have q2:_=Value.int .i64 cat:=q2
  subst q1;subst q2
  have:cs = #[.int .i64 (codeM ⟨ns,es,rd,fs⟩),.int .i64 cat]:=by apply Array.ext';rw [q0]
  subst this
  exact⟨rfl,hb'⟩
 ·refine (qsm 1000 (fun _=>False) w (((ns,es),rd),fs,()) _ [_,_] (fun _ q=>q.elim) (GW.below hgw hb) ⟨_,_,rfl,pl_rv (p:=⟨ns,es,rd,fs⟩) (qdF hn hb hno) (qdF he hb hno),_,_,rfl,qdF hf hb hno,rfl⟩ hfk).mono ?_
  rintro e w' ⟨x,rfl,hb',hx⟩
  have hx:x=Value.int .i64 (codeF ⟨ns,es,rd,fs⟩):=hx
  subst hx
  exact⟨rfl,hb'⟩
 ·refine (qtX 1000 (fun _=>False) w (((ns,es),rd),node,port,t,()) _ [_,_,_,_] (fun _ q=>q.elim) (GW.below hgw hb) ⟨_,_,rfl,pl_rv (p:=⟨ns,es,rd,fs⟩) (qdF hn hb hno) (qdF he hb hno),_,_,rfl,rfl,_,_,rfl,rfl,_,_,rfl,qdF ht hb hno,rfl⟩ hpk.1).mono ?_
  rintro e w' ⟨x,rfl,hb',hx⟩
  have hx:x=Value.int .i64 (codeP ⟨ns,es,rd,fs⟩ node port t):=hx
  subst hx
  exact⟨rfl,hb'⟩
 ·have hP:=qmc k1 k2
  obtain⟨hV,hnode⟩:=qxp (hpk.2.1 k3)
  have hb6:Go.Abs.Below W.heap.size W ((w.alloc (.map #[] 0)).alloc (.cells #[.slice na ns.length nc,.slice ea es.length ec,.int .i64 rd,.slice fa fs.length fc,.map (some w.heap.size)] 58)):=(hb.alloc hb.size _).alloc (by simp;have:=hb.size;omega) _
  have hsz:(w.alloc (.map #[] 0)).heap.size=w.heap.size+1:=by simp
  have hI:Inv W.heap.size (w.heap.size+1) w.heap.size ⟨ns,es,rd,fs⟩ (.slice na ns.length nc) (.slice ea es.length ec) (.slice fa fs.length fc) ((w.alloc (.map #[] 0)).alloc (.cells #[.slice na ns.length nc,.slice ea es.length ec,.int .i64 rd,.slice fa fs.length fc,.map (some w.heap.size)] 58)):=by
   have hd:∀ k,k<W.heap.size->¬ M k->¬ DM W.heap.size ((w.alloc (.map #[] 0)).alloc (.cells #[.slice na ns.length nc,.slice ea es.length ec,.int .i64 rd,.slice fa fs.length fc,.map (some w.heap.size)] 58)) k:=fun k hk _ q=>by have:=q.1;omega
   refine⟨GW.below hgw hb6,fun g hg=>(hgw g hg).1,hb.size,?_,qdF hn hb6 hd,qdF he hb6 hd,qdF hf hb6 hd,⟨#[],0,[],?_,rfl,fun j e y hj=>by simp at hj⟩⟩
   ·rw [<- hsz];exact heap_alloc_new _ _
   ·rw [Go.Abs.Below.heap_alloc _ _ _ (by simp)];exact heap_alloc_new _ _
  have hc:=qED hP (by omega) _ hV _ _ hI (qzh (qdF ht hb6 hno))
  simp only [hnode] at hc
  refine hc.mono ?_
  rintro e w2 ⟨hfb,⟨v,h1,h2,-⟩ | h4⟩
  ·exact⟨hfb,.inl ⟨v,h1,w.heap.size,h2⟩⟩
  ·exact⟨hfb,.inr h4⟩
 ·obtain⟨bt,F,c,d,h1,rfl,h3,h4,h5,h6,h7⟩:=hB
  obtain⟨es',cl',hm⟩:=qnn h5
  rw [h1]
  refine rows_call (GW.below hgw hb) h5 h6 (by omega) (fun b hb'=>?_) (fun q=>?_)
  ·rcases hb' with rfl | rfl | hb'
   ·obtain⟨_,_,q⟩:=q10;exact (zI.1 q).1
   ·obtain⟨_,_,q⟩:=q11;exact (zI.1 q).1
   ·exact zM (hMM b hb') hb.size
  ·rcases q with rfl | rfl | q
   ·obtain⟨_,_,q⟩:=q10;rw [hm] at q;cases q
   ·obtain⟨_,_,q⟩:=q11;rw [hm] at q;cases q
   ·have:=hMM c q;omega
 ·unfold atF;rw [zJ k1]
 ·unfold atF;rw [zL (fun q=>q k1),zJ k2]
 ·unfold atF;rw [zL (fun q=>q k1),zL (fun q=>q k2),zJ k3]
 ·obtain⟨bt,F,c,d,h1,-⟩:=hB
  unfold atF;rw [zL (fun q=>q k1),zL (fun q=>q k2),zL (fun q=>q k3),h1];rfl
 ·unfold atF;rw [zL (fun q=>q k1),zL (fun q=>q k2),zL (fun q=>q k3),hB];rfl
 ·rintro e w' ⟨r,rfl,hb,hr⟩
  exact⟨_,rfl,hb,_,rfl,_,_,rfl,hr,_,_,rfl,rfl,rfl⟩
theorem qyC:qeO Tryd.prog 6:=⟨Tryd.f6,ql Tryd.f6,by kernel_rfl,by kernel_rfl,rfl⟩
theorem qrR(_N:Nat):EntOk Tryd.prog Gs (mkD 6 qin qil (qci _N)):=entD qyC (qyj _N)
end Go.Proofs.YtnhjpicdijeagaaDoor
end

namespace Go.Proofs.YtnhjpicdijeagaaDoor
open Go.Abs Go.Bag Go.RowKit
theorem At_eq(N:Nat)(ns:List Nd)(es:List Ed)(rd:Int)(fs:List Fd)(node port:Int)(t:List Int):qci N (((ns,es),rd),fs,node,port,t,())=some ((atF ⟨ns,es,rd,fs⟩ node port t).1,(atF ⟨ns,es,rd,fs⟩ node port t).2,()):=rfl
theorem w0:w 0=0:=by decide
theorem POk.kinds{p:Pl}(h:POk p){i:Nat}(hi:i<p.ns.length):(ndA p.ns i).1=1\/(ndA p.ns i).1=2\/(ndA p.ns i).1=3\/(ndA p.ns i).1=4\/(ndA p.ns i).1=5\/(ndA p.ns i).1=6:=by
 have:=h.nd hi;omega
theorem qAU(p:Pl)(port:Int)(t:List Int):codeP p (-1) port t≠0:=fun h=>by
 have:=((qmd p (-1) port t).2.1 h).1
 omega
end Go.Proofs.YtnhjpicdijeagaaDoor
