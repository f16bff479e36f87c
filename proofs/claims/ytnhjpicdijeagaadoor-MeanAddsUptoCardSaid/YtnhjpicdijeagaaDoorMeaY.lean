import Derived.Orders
import Derived.OrdersHeld
import Derived.Below
import Derived.Test.YtnhjpicdijeagaaDoorAbsDraw
import Derived.Test.YtnhjpicdijeagaaDoorProg
import Derived.WalkKit
import Derived.BigQuiet
import Derived.Handy
import Derived.Deep.RegionHeld3
import Derived.Laws.AppendOwn
import Derived.LoopN
import Derived.RowKit3
namespace Go.Abs
open Go
section
variable {P : Program} {ops : Array Oper} {Q : Exit -> Act -> World -> Prop}
theorem any_inv(J:(Nat->Bool)->Act->World->Prop)
  (hlt:∀ i o,ops[i]? = some o->∀ e∈o.after,Region.binds .any e=true->e.on<i)
  (hs:∀ D i o a w,(∀ k x,ops[k]? = some x->D k=true->∀ e∈x.after,Region.binds .any e=true->D e.on=true)->ops[i]? = some o->D i=false->(∀ e∈o.after,Region.binds .any e=true->D e.on=true)->J D a w ->
   ∀ K:Act->World->Prop,RowKit.Hid (∀ a w,J (fun j=>D j||(i==j)) a w->K a w)->if Region.wanted o (yielded ops a.tmps)=true then o.wp P a w K Q else K (a.put o.dst undef) w)
  (hq:∀ D a w,(∀ i,i<ops.size->D i=true)->J D a w->Q .normal a w) :
  ∀ fuel (listed:Array Bool) a w,listed.size=ops.size->(left ops listed).length<=fuel->(∀ k x,ops[k]? = some x->listed.getD k false=true->∀ e∈x.after,Region.binds .any e=true->listed.getD e.on false=true)->J (fun j=>listed.getD j false) a w->wpAny P .any ops Q fuel listed a w:=by
 have hall:∀ listed:Array Bool,listed.size=ops.size->Region.ready .any ops listed = []->∀ i,i<ops.size->listed.getD i false=true:=fun listed hl hr i=>by
  induction i using Nat.strongRecOn with
  | _ i ih=>
   intro hi
   cases hb:listed.getD i false with
   | true=>rfl
   | false=>
    exfalso
    have hi':i<listed.size:=by omega
    have:i∈Region.ready .any ops listed:=mem_ready.2 ⟨by
     rw [zP,zd hi'] at hb ⊢
     exact hb,ops[i],zd hi,fun e he h=>by
      have:=hlt i _ (zd hi) e he h
      exact ih e.on this (by omega)⟩
    rw [hr] at this;cases this
 intro fuel
 induction fuel with
 | zero=>
  intro listed a w hl hf hc hJ
  have h0:left ops listed = []:=zBL.1 (by omega)
  have hr:Region.ready .any ops listed = []:=by
   cases h:Region.ready .any ops listed with
   | nil=>rfl
   | cons i r=>
    exfalso
    obtain⟨h1,o,h2,_⟩:=mem_ready.1 (show i∈Region.ready .any ops listed by rw [h];exact zAH)
    have:i∈left ops listed:=by
     simp only [left,zc,zg,h1]
     exact⟨(zI.1 h2).1,rfl⟩
    rw [h0] at this;cases this
  exact⟨hr,hq _ a w (hall listed hl hr) hJ⟩
 | succ fuel ih=>
  intro listed a w hl hf hc hJ
  refine⟨fun hr=>hq _ a w (hall listed hl hr) hJ,fun i hi=>?_⟩
  obtain⟨h1,o,h2,h3⟩:=mem_ready.1 hi
  have hi':i<ops.size:=(zI.1 h2).1
  have hil:i<listed.size:=by omega
  refine wpOp_step h2 fun K hK=>hs _ i o a w hc h2 ?_ h3 hJ K fun a w hJ'=>hK a w (ih _ a w (by simp [hl]) ?_ ?_ ?_)
  ·rw [zP,zd hil] at h1 ⊢
   exact h1
  ·rw [qsU hl hi']
   have hm:i∈left ops listed:=by
    simp only [left,zc,zg,h1]
    exact⟨hi',rfl⟩
   have:((left ops listed).filter fun j=>j != i).length<(left ops listed).length:=by
    rw [List.length_filter_lt_length_iff_exists]
    exact⟨i,hm,by simp⟩
   omega
  ·intro k x hx hk e he hb
   by_cases h:i=k
   ·subst h
    rw [h2] at hx;cases hx
    exact getD_set_true (h3 e he hb)
   ·rw [getD_set_ne false h] at hk
    exact getD_set_true (hc k x hx hk e he hb)
  ·have e:(fun j=>(listed.setIfInBounds i true).getD j false)=fun j=>listed.getD j false||(i==j):=by
    funext j
    by_cases h:i=j
    ·subst h;simp [hil]
    ·rw [getD_set_ne false h]
     simp [h]
   rw [e];exact hJ'
theorem fresh_not(n k:Nat):¬ ((Array.replicate n false).getD k false=true):=by
 rw [zP,zAh]
 split <;> simp
theorem notyet{D:Nat->Bool}(hcl:∀ k x,ops[k]? = some x->D k=true->∀ e∈x.after,Region.binds .any e=true->D e.on=true){k:Nat}{x:Oper}(hx:ops[k]? = some x){e:Edge}(he:e∈x.after)(hb:Region.binds .any e=true)(hD:D e.on=false):D k=false:=by
 cases h:D k with
 | false=>rfl
 | true=>rw [hcl k x hx h e he hb] at hD;cases hD
end
end Go.Abs

namespace Go.Proofs.YtnhjpicdijeagaaDoor
open Go.RowKit
theorem hid{p:Prop}(h:p):Hid p:=h
theorem _root_.Go.Abs.Below.keepsC{w w':World}(h:Go.Abs.Below w.heap.size w w'){a:Addr}{v:Value}(hc:w.cell? a=some v):w'.cell? a=some v:=(h.cell (World.block_lt_of_cell? w a hc)).trans hc
theorem qbP(w:World):Go.Abs.Below w.heap.size w w.drew:=(Go.Abs.Below.refl _ _).drew
theorem qaZ(w:World)(o:Obj):Go.Abs.Below w.heap.size w (w.alloc o):=(Go.Abs.Below.refl _ _).alloc (Nat.le_refl _) o
abbrev bq:Go.Abs.Oth:=⟨false,88,2,.pair (.int .i64) (.int .i64),.int .i64,false⟩
abbrev BagD:Type:=Int×List (Int×((Int×Int)×Int))
def BagAt(w:World)(c:Nat)(d:BagD):Prop:=Go.Abs.RQ w (fun _=>False) ⟨some c,0,[]⟩ bq d
def isMap:Obj->Bool
 | .map _ _=>true
 | _=>false
structure Fb (s0 bt:Nat) (w w':World):Prop where
 os:w'.os=w.os
 tape:Go.Abs.TDr w w'
 output:w'.output=w.output
 size:w.heap.size<=w'.heap.size
 block:∀ k o,w.heap[k]? = some o->k<s0\/isMap o=false->w'.heap[k]? = some o
 bag:∀ c d,s0<=c->c≠bt->BagAt w c d->BagAt w' c d
theorem Fb.heap{s0 bt:Nat}{w w':World}(h:Fb s0 bt w w'){k:Nat}{c:Array Value}{t:TypeId}{f:Nat×Nat}(hc:w.heap[k]? = some (.cells c t f)):w'.heap[k]? = some (.cells c t f):=h.block k _ hc (.inr rfl)
theorem qwC{w:World}{a:Addr}{v:Value}(hc:w.cell? a=some v):∃ o,w.heap[a.block]? = some o/\isMap o=false:=by
 have hl:=World.block_lt_of_cell? w a hc
 cases ho:w.heap[a.block] with
 | map es cl=>simp [World.cell?,Array.getElem?_eq_getElem hl,ho] at hc
 | _=>exact⟨_,by rw [Array.getElem?_eq_getElem hl,ho],rfl⟩
theorem Fb.cell{s0 bt:Nat}{w w':World}(h:Fb s0 bt w w'){a:Addr}{v:Value}(hc:w.cell? a=some v):w'.cell? a=some v:=by
 obtain⟨o,h1,h2⟩:=qwC hc
 exact (World.cell?_of_block (w:=w) ((h.block _ _ h1 (.inr h2)).trans h1.symm)).trans hc
theorem qoL{w w':World}{M M':Nat->Prop}:{xs:List (Int×((Int×Int)×Int))} -> {es:List MapEntry}->Go.Abs.MEs w M (.pair (.int .i64) (.int .i64)) (.int .i64) xs es->Go.Abs.MEs w' M' (.pair (.int .i64) (.int .i64)) (.int .i64) xs es
 | [],_,h=>h
 | _ :: _,_,⟨e,r,h1,h2,h3⟩=>⟨e,r,h1,⟨h2.born,h2.key,h2.val⟩,qoL h3⟩
theorem qnn{w:World}{c:Nat}{d:BagD}(h:BagAt w c d):∃ es cl,w.heap[c]? = some (.map es cl):=by
 obtain⟨b,es,cl,h1,h2,_⟩:=h
 cases h1
 exact⟨_,_,h2⟩
theorem qtw{w w':World}{c:Nat}{d:BagD}(h:BagAt w c d)(hb:w'.heap[c]? = w.heap[c]?):BagAt w' c d:=by
 obtain⟨b,es,cl,h1,h2,h3,h4,h5,h6⟩:=h
 cases h1
 exact⟨_,es,cl,rfl,hb.trans h2,h3,qoL h4,h5,h6⟩
theorem qzn{P:Program}{t e:TypeId}{i:TypeInfo}(hi:P.info? t=some i){b:Nat}{cur:Array Value}{v:Value}{w:World}(hb:w.heap[b]? = some (.cells cur e (0,0)))(hv:v.cells.size=i.size)(hc:cur.size=i.size)
  (h1:∀ c∈v.cells.toList,c.oneCell'=true):(Instr.storeAt t (.pointer (some ⟨b,0,none⟩)) v).run P w=.ok () (w.setRow b v.cells):=by
 have:=run_storeCells_at P b 0 e v.cells.toList 0 cur w hb (by simp [hv,hc]) h1
 have hsz:(sizeOf t).run P w=.ok i.size w:=by simp [Go.sizeOf,typeInfo,hi]
 simp [Instr.storeAt,Instr.sureAddr,storeVar,hsz,hv]
 have e2:cur.toList.drop i.size = []:=List.drop_eq_nil_of_le (by simp;omega)
 simpa [hv,e2] using this
def ltOk(ops:Array Oper):Bool:=(List.range ops.size).all fun i=>match ops[i]? with | some o=>o.after.all (fun e=>!Region.binds .any e||decide (e.on<i)) | none=>true
theorem qlH{ops:Array Oper}(h:ltOk ops=true):∀ i o,ops[i]? = some o->∀ e∈o.after,Region.binds .any e=true->e.on<i:=fun i o ho e he hb=>by
 have hi:i<ops.size:=(Array.getElem?_eq_some_iff.1 ho).1
 have:=List.all_eq_true.1 h i (List.mem_range.2 hi)
 rw [ho] at this
 have:=Array.all_eq_true_iff_forall_mem.1 this e he
 rw [hb] at this
 simpa using this
abbrev large:List PanicEntry:=[{ v:=.iface 53 (.agg #[]),recovered:=false }]
theorem Fb.refl(s0 bt:Nat)(w:World):Fb s0 bt w w:=⟨rfl,Go.Abs.TDr.rfl,rfl,Nat.le_refl _,fun _ _ h _=>h,fun _ _ _ _ h=>h⟩
theorem Fb.of{s0 bt:Nat}{w w':World}(h:Go.Abs.Below w.heap.size w w'):Fb s0 bt w w':=
 ⟨h.os,h.tape,h.output,h.size,fun k o hk _=>(h.block k (Array.getElem?_eq_some_iff.1 hk).1).trans hk,fun c d _ _ hb=>qtw hb (by obtain⟨_,_,hc⟩:=qnn hb;exact h.block c (Array.getElem?_eq_some_iff.1 hc).1)⟩
theorem Fb.trans{s0 bt:Nat}{a b c:World}(h:Fb s0 bt a b)(k:Fb s0 bt b c):Fb s0 bt a c:=
 ⟨k.os.trans h.os,Go.Abs.TDr.trans k.tape h.tape,k.output.trans h.output,Nat.le_trans h.size k.size,fun x o hx hb=>k.block x o (h.block x o hx hb) hb,fun c d h1 h2 hb=>k.bag c d h1 h2 (h.bag c d h1 h2 hb)⟩
theorem _root_.Go.Abs.Below.setRow_new{B:Nat}{a w:World}(h:Go.Abs.Below B a w){b:Nat}(hb:B<=b)(cs:Array Value):Go.Abs.Below B a (w.setRow b cs):=
 ⟨h.os,h.tape,h.output,by rw [size_setRow];exact h.size,fun k hk=>(setRow_other w b k cs (by omega)).trans (h.block k hk)⟩
theorem qDb{w:World}{b:Nat}{c0 c1 c2 c3 c4 c5 c6:Value}{t:TypeId}(h:w.heap[b]? = some (.cells (Value.agg #[c0,c1,c2,c3,c4,c5,c6]).cells t (0,0))) :
  w.cell? ⟨b,0,none⟩=some c0/\w.cell? ⟨b,1,none⟩=some c1/\w.cell? ⟨b,2,none⟩=some c2/\w.cell? ⟨b,3,none⟩=some c3/\w.cell? ⟨b,4,none⟩=some c4/\w.cell? ⟨b,5,none⟩=some c5/\w.cell? ⟨b,6,none⟩=some c6:=by
 simp [World.cell?,h,Value.cells]
theorem qvU(w:World):(Instr.panic (.iface 53 (.agg #[]))).run Tryd.prog w=.halt (.panic (.iface 53 (.agg #[]))) w:=by
 simp [Instr.panic,go_sem]
abbrev plV(i p k0 k1 k2 k3 k4:Int):Value:=.agg #[.int .i64 i,.int .i64 p,.int .i64 k0,.int .i64 k1,.int .i64 k2,.int .i64 k3,.int .i64 k4]
def J1(ba b5 b6:Nat)(i p k0 k1 k2 k3 k4:Int)(vt:Value)(W1:World)(D:Nat->Bool)(a:Act)(w:World):Prop:=
 ∃ v9 v14 v15 v16 v17 v18,a=⟨List.toArray (.pointer (some ⟨ba,0,none⟩) :: .int .i64 i :: .int .i64 p :: vt :: undef :: .pointer (some ⟨b5,0,none⟩) :: .pointer (some ⟨b6,0,none⟩) :: undef :: .map none :: v9 :: undef :: undef :: undef :: undef :: v14 :: v15 :: v16 :: v17 :: v18 :: undef :: undef :: undef :: undef :: undef :: undef :: undef :: undef :: undef :: undef :: undef :: undef :: undef :: undef :: undef :: undef :: undef :: undef :: undef :: undef :: undef :: undef :: undef :: undef :: undef :: undef :: undef :: undef :: undef :: undef :: undef :: undef :: undef :: undef :: undef :: undef :: undef :: undef :: undef :: undef :: undef :: undef :: undef :: undef :: []),[]⟩/\Go.Abs.Below W1.heap.size W1 w/\(D 0=true->v14=.int .i64 i)/\(D 1=true->v15=.int .i64 p)/\(D 2=true->v16=vt)/\(D 3=true->v17=.agg #[.int .i64 k0,.int .i64 k1,.int .i64 k2,.int .i64 k3,.int .i64 k4]) /\
  (D 4=true->v18=plV i p k0 k1 k2 k3 k4)/\(D 5=true->∃ b,v9=.pointer (some ⟨b,0,none⟩)/\W1.heap.size<=b/\w.heap[b]? = some (.cells (if D 6 then (plV i p k0 k1 k2 k3 k4).cells else (plV 0 0 0 0 0 0 0).cells) 80 (0,0)))/\(D 6=true->D 5=true)
set_option maxRecDepth 100000 in
set_option maxHeartbeats 3000000 in
theorem qCz(s0 ba bt le ce be qe j:Nat)(fr i p k0 k1 k2 k3 k4:Int)(vt:Value)(W:World)(I:World->Prop)(B:Value->World->Prop)(Bad:Prop)
  (hI:∀ w,I w->w.cell? ⟨ba,1,none⟩=some (.slice (some ⟨be,qe,none⟩) le ce)/\w.cell? ⟨ba,4,none⟩=some (.map (some bt))/\bt<w.heap.size/\w.cell? ⟨be,qe+j*3,none⟩=some (.int .i64 fr))
  (hG:∀ w w',I w->Go.Abs.Below w.heap.size w w'->I w')
  (hBG:∀ v w w',B v w->Go.Abs.Below w.heap.size w w'->B v w')
  (h0:I W) (hj:j<le) (hle:le<=1000000)
  (hK:∀ w,I w->Calls Tryd.prog 28 #[vt] w fun e w'=>e=.returned (.agg #[.int .i64 k0,.int .i64 k1,.int .i64 k2,.int .i64 k3,.int .i64 k4])/\Go.Abs.Below w.heap.size w w')
  (hL:∀ w,I w->(∃ v,B v w/\(Instr.lookup 56 (.map (some bt)) (plV i p k0 k1 k2 k3 k4) true).run Tryd.prog w=.ok (.tuple #[v,.bool true]) w)\/(Instr.lookup 56 (.map (some bt)) (plV i p k0 k1 k2 k3 k4) true).run Tryd.prog w=.ok (.tuple #[.map none,.bool false]) w)
  (hX:∀ W0 w b5 b6,I W0->Go.Abs.Below W0.heap.size W0 w->W0.heap.size<=b5->b5<b6->w.heap[b5]? = some (.cells #[.int .i64 i] 3 (0,0))->w.heap[b6]? = some (.cells #[.int .i64 p] 3 (0,0)) ->
   Calls Tryd.prog 29 #[.slice (some ⟨be,qe,none⟩) le ce,.func (.func 30) #[] #[.pointer (some ⟨b5,0,none⟩),.pointer (some ⟨b6,0,none⟩)]] w fun e w'=>e=.returned (.int .i64 (j:Int))/\Go.Abs.Below W0.heap.size W0 w'/\∀ k,k<w.heap.size->k≠b5->k≠b6->w'.heap[k]? = w.heap[k]?)
  (hS:∀ w,I w->Calls Tryd.prog 31 #[.pointer (some ⟨ba,0,none⟩),.int .i64 fr,vt] w fun e w'=>Fb s0 bt w w' /\
   ((∃ bm m,e=.returned (.map bm)/\I w'/\(Builtin.len_ #[60] 3 #[.map bm]).run Tryd.prog w'=.ok (.int .i64 m) w'/\(m<=128->B (.map bm) w')/\(128<m->Bad))\/(e=.panicked large/\Bad)))
  (hU:∀ w v,I w->B v w->∃ w2,(Instr.mapUpdate 56 (.map (some bt)) (plV i p k0 k1 k2 k3 k4) v).run Tryd.prog w=.ok () w2/\I w2/\B v w2/\Fb s0 bt w w2) :
  Calls Tryd.prog 16 #[.pointer (some ⟨ba,0,none⟩),.int .i64 i,.int .i64 p,vt] W fun e w'=>Fb s0 bt W w'/\((∃ v,e=.returned v/\B v w'/\I w')\/(e=.panicked large/\Bad)):=by
 have c5:((W.alloc (.cells #[.int .i64 i] 3)).alloc (.cells #[.int .i64 p] 3)).cell? ⟨W.heap.size,0,none⟩=some (.int .i64 i):=by simp
 have c6:((W.alloc (.cells #[.int .i64 i] 3)).alloc (.cells #[.int .i64 p] 3)).cell? ⟨W.heap.size+1,0,none⟩=some (.int .i64 p):=by simp
 have hW1:I ((W.alloc (.cells #[.int .i64 i] 3)).alloc (.cells #[.int .i64 p] 3)):=hG _ _ h0 (((Go.Abs.Below.refl _ _).alloc (Nat.le_refl _) _).alloc (by simp) _)
 go_enter Tryd.func16,Tryd.ntmps16
 go_wp2_with fail
 have hB1:Go.Abs.Below W.heap.size W ((W.alloc (.cells #[.int .i64 i] 3)).alloc (.cells #[.int .i64 p] 3)):=((Go.Abs.Below.refl _ _).alloc (Nat.le_refl _) _).alloc (by simp) _
 have hfb1:Fb s0 bt W _:=Fb.of hB1
 have hb5:W.heap.size+1<((W.alloc (.cells #[.int .i64 i] 3)).alloc (.cells #[.int .i64 p] 3)).heap.size:=by simp
 have h5:((W.alloc (.cells #[.int .i64 i] 3)).alloc (.cells #[.int .i64 p] 3)).heap[W.heap.size]? = some (.cells #[.int .i64 i] 3 (0,0)):=by
  rw [Go.Abs.Below.heap_alloc _ _ _ (by simp)];exact heap_alloc_new _ _
 have h6:((W.alloc (.cells #[.int .i64 i] 3)).alloc (.cells #[.int .i64 p] 3)).heap[W.heap.size+1]? = some (.cells #[.int .i64 p] 3 (0,0)):=by
  have e:(W.alloc (.cells #[.int .i64 i] 3)).heap.size=W.heap.size+1:=by simp
  rw [<- e];exact heap_alloc_new _ _
 generalize (W.alloc (.cells #[.int .i64 i] 3)).alloc (.cells #[.int .i64 p] 3)=W1 at *
 generalize hsz:W.heap.size=b5 at *
 replace hsz:=hid hsz
 replace h5:=hid h5
 replace h6:=hid h6
 generalize hb6:b5+1=b6 at *
 replace hG:=hid hG
 replace hK:=hid hK
 replace hI:=hid hI
 replace hW1:=hid hW1
 replace hB1:=hid hB1
 replace hb6:=hid hb6
 replace hb5:=hid hb5
 replace hL:=hid hL
 replace hX:=hid hX
 replace hS:=hid hS
 replace hU:=hid hU
 refine wp_region_any (by kernel_rfl) ?_
 refine Go.Abs.any_inv (J1 ba b5 b6 i p k0 k1 k2 k3 k4 vt W1) (qlH (by kernel_rfl)) ?hs ?hq _ _ _ _ rfl (by decide) (by intro k x hx hk;exact absurd hk (Go.Abs.fresh_not _ _)) ?h0
 case h0=>exact⟨_,_,_,_,_,_,rfl,qbP _,by simp,by simp,by simp,by simp,by simp,by simp,by simp⟩
 case hs=>
  intro D j o a w _ ho hD hdep hJ K hK'
  obtain⟨v9,v14,v15,v16,v17,v18,rfl,hBw,d0,d1,d2,d3,d4,d5,d6⟩:=hJ
  have e5:=hBw.keepsC c5
  have e6:=hBw.keepsC c6
  have hIw:=hG.out _ _ hW1.out hBw
  have hj:=(Array.getElem?_eq_some_iff.1 ho).1
  simp only [List.size_toArray,List.length_cons,List.length_nil,Nat.reduceAdd] at hj
  replace hIw:=hid hIw
  replace hBw:=hid hBw
  have hj:j=0\/j=1\/j=2\/j=3\/j=4\/j=5\/j=6:=by omega
  rcases hj with rfl | rfl | rfl | rfl | rfl | rfl | rfl
  all_goals (simp only [List.getElem?_toArray,List.getElem?_cons_succ,List.getElem?_cons_zero,Option.some.injEq] at ho;subst ho;simp [Region.binds] at hdep)
  ·go_simp
   exact hK'.out _ _ ⟨v9,_,v15,v16,v17,v18,rfl,hBw.out,by simp,by simpa using d1,by simpa using d2,by simpa using d3,by simpa using d4,by simpa using d5,by simpa using d6⟩
  ·go_simp
   exact hK'.out _ _ ⟨v9,v14,_,v16,v17,v18,rfl,hBw.out,by simpa using d0,by simp,by simpa using d2,by simpa using d3,by simpa using d4,by simpa using d5,by simpa using d6⟩
  ·go_simp
   exact hK'.out _ _ ⟨v9,v14,v15,_,v17,v18,rfl,hBw.out,by simpa using d0,by simpa using d1,by simp,by simpa using d3,by simpa using d4,by simpa using d5,by simpa using d6⟩
  ·obtain rfl:=d2 hdep
   go_simp
   refine (hK.out _ hIw.out).mono ?_
   rintro e w2 ⟨rfl,hx2⟩
   refine hK'.out _ _ ⟨v9,v14,v15,_,_,v18,rfl,hBw.out.trans (hx2.mono hBw.out.size),by simpa using d0,by simpa using d1,by simp,by simp,by simpa using d4,?_,by simpa using d6⟩
   intro h5
   obtain⟨b,q1,q2,q3⟩:=d5 (by simpa using h5)
   exact⟨b,q1,q2,by rw [hx2.block b (Array.getElem?_eq_some_iff.1 q3).1];simpa using q3⟩
  ·obtain rfl:=d0 hdep.1
   obtain rfl:=d1 hdep.2.1
   obtain rfl:=d3 hdep.2.2
   go_simp
   exact hK'.out _ _ ⟨v9,_,_,v16,_,_,rfl,hBw.out,by simp,by simp,by simpa using d2,by simp,by simp,by simpa using d5,by simpa using d6⟩
  ·have h6:D 6=false:=by
    cases h:D 6 with
    | false=>rfl
    | true=>rw [d6 h] at hD;cases hD
   go_simp
   refine hK'.out _ _ ⟨_,v14,v15,v16,v17,v18,rfl,hBw.out.alloc hBw.out.size _,by simpa using d0,by simpa using d1,by simpa using d2,by simpa using d3,by simpa using d4,?_,by simp⟩
   intro _
   refine⟨w.heap.size,rfl,hBw.out.size,?_⟩
   rw [heap_alloc_new]
   simp [h6]
   rfl
  ·obtain⟨b,rfl,q2,q3⟩:=d5 hdep.1
   obtain rfl:=d4 hdep.2.1
   simp only [hD,Bool.false_eq_true,if_false] at q3
   obtain⟨ti,hti,hsz⟩:=Option.map_eq_some_iff.1 (show (Tryd.prog.info? 80).map (·.size)=some 7 by kernel_rfl)
   have hst:=qzn (P:=Tryd.prog) (t:=80) (v:=plV i p k0 k1 k2 k3 k4) hti q3 (by rw [hsz];rfl) (by rw [hsz];rfl) (by simp [Value.cells,Value.oneCell'])
   simp only [Region.wanted,if_true]
   unfold Oper.wp
   simp only [execOp,Act.eval,Array.getD_eq_getD_getElem?,List.getElem?_toArray,List.getElem?_cons_succ,List.getElem?_cons_zero,Option.getD_some,Sem.run_bind,hst,Result.andThen_ok,Sem.run_pure]
   show K _ _
   refine hK'.out _ _ ⟨_,v14,v15,v16,v17,_,rfl,Go.Abs.Below.setRow_new hBw.out q2 _,by simpa using d0,by simpa using d1,by simpa using d2,by simpa using d3,by simp,?_,fun _=>by simp [hdep.1]⟩
   intro _
   refine⟨b,rfl,q2,?_⟩
   rw [setRow_heap w b _ _ 80 _ q3]
   simp
 case hq=>
  intro D a w hD hJ
  obtain⟨v9,v14,v15,v16,v17,v18,rfl,hBw,d0,d1,d2,d3,d4,d5,d6⟩:=hJ
  obtain⟨b,rfl,q2,q3⟩:=d5 (hD 5 (by decide))
  obtain rfl:=d0 (hD 0 (by decide))
  obtain rfl:=d1 (hD 1 (by decide))
  obtain rfl:=d2 (hD 2 (by decide))
  obtain rfl:=d3 (hD 3 (by decide))
  obtain rfl:=d4 (hD 4 (by decide))
  simp only [hD 6 (by decide),if_true] at q3
  clear hD d0 d1 d2 d3 d4 d5 d6
  have e5:=hBw.keepsC c5
  have e6:=hBw.keepsC c6
  have hIw:=hG.out _ _ hW1.out hBw
  obtain⟨i1,i2,i3,i4⟩:=hI.out _ hIw
  obtain⟨p0,p1,p2,p3,p4,p5,p6⟩:=qDb q3
  replace hIw:=hG.out _ _ hIw (qbP _)
  rcases hL.out w.drew hIw with⟨v,hv,hl⟩ | hl
  ·replace hIw:=hid hIw
   replace hv:=hid hv
   clear e5 e6 i1 i3 i4
   go_wp2_with fail
   go_region
   go_wp2_with fail
   refine bodyPost_ret (v:=v) (by simp [results,Tryd.results16,go_sem]) rfl ?_
   exact⟨hfb1.trans ((Fb.of hBw).trans (Fb.of (qbP _))),.inl ⟨v,rfl,hv.out,hIw.out⟩⟩
  ·replace hIw:=hid hIw
   have hb5':b5<b6:=by have:=hb6.out;omega
   have hbb6:b6<b:=by have:=hb6.out;have:=hb5.out;omega
   have e5':w.drew.heap[b5]? = some (.cells #[.int .i64 i] 3 (0,0)):=(hBw.block _ (Array.getElem?_eq_some_iff.1 h5.out).1).trans h5.out
   have e6':w.drew.heap[b6]? = some (.cells #[.int .i64 p] 3 (0,0)):=(hBw.block _ (Array.getElem?_eq_some_iff.1 h6.out).1).trans h6.out
   have hbel:Go.Abs.Below W.heap.size W w.drew:=by
    rw [hsz.out]
    exact (hB1.out.trans (hBw.mono (by have:=hB1.out.size;rw [hsz.out] at this;exact this))).drew
   replace hbel:=hid hbel
   replace hb5':=hid hb5'
   replace hbb6:=hid hbb6
   have q4:w.drew.heap[b]? = some (.cells (plV i p k0 k1 k2 k3 k4).cells 80 (0,0)):=q3
   have hbb:b≠bt:=by have:=(hI.out _ hW1.out).2.2.1;omega
   have hfb:Fb s0 bt W w.drew:=hfb1.trans ((Fb.of hBw).trans (Fb.of (qbP _)))
   replace e5':=hid e5'
   replace e6':=hid e6'
   replace q4:=hid q4
   replace hfb:=hid hfb
   clear i3 i4 e5 e6 q3
   go_wp2_with fail
   go_region
   clear p0 p1 p2 p3 p4 p5 p6
   clear hl
   go_wp2_with fail
   clear i1 i2 c5 c6
   generalize w.drew=w2 at *
   refine (hX.out W w2 b5 b6 h0 hbel.out (by rw [hsz.out];exact Nat.le_refl _) hb5'.out e5'.out e6'.out).mono ?_
   rintro e w3 ⟨rfl,hx3,hk3⟩
   have hI3:=hid (hG.out _ _ h0 hx3)
   replace q4:Hid (w3.heap[b]? = _):=hid ((hk3 b (Array.getElem?_eq_some_iff.1 q4.out).1 (by have:=hbb6.out;have:=hb5'.out;omega) (by have:=hbb6.out;omega)).trans q4.out)
   obtain⟨i1,i2,i3,i4⟩:=hI.out _ hI3.out
   replace hfb:Hid (Fb s0 bt W w3):=hid (Fb.of hx3)
   clear e5' e6' i3 hx3 hk3
   have hjj:(j:Int)<(le:Int):=by omega
   go_wp2_with fail
   clear i1 i2 i4
   refine (hS.out _ hI3.out).mono ?_
   rintro e w4 ⟨hf,⟨bm,m,rfl,hI4,hlen,hBm,hbm⟩ | ⟨rfl,hbad⟩⟩
   ·replace q4:Hid (w4.heap[b]? = _):=hid (hf.heap q4.out)
    replace hfb:=hid (hfb.out.trans hf)
    clear hf hI3
    by_cases hm:128<m
    ·clear hBm
     have hpan:=qvU w4
     go_wp2_with fail
     exact⟨rfl,hfb.out,.inr ⟨rfl,hbm hm⟩⟩
    ·have hmm:¬ (128<m):=hm
     have hBm':=hBm (by omega)
     have hIw4:=hG.out _ _ hI4 (qbP _)
     replace hI4:=hid hI4
     clear hBm hbm
     obtain⟨w5,hu,hI5,hB5,hf5⟩:=hU.out w4.drew (.map bm) hIw4 (hBG _ _ _ hBm' (qbP _))
     obtain⟨j1,j2,j3,j4⟩:=hI.out _ hIw4
     obtain⟨p0,p1,p2,p3,p4,p5,p6⟩:=qDb q4.out
     replace hfb:=hid (hfb.out.trans ((Fb.of (qbP _)).trans hf5))
     replace hIw4:=hid hIw4
     replace hI5:=hid hI5
     replace hB5:=hid hB5
     replace hf5:=hid hf5
     replace hBm':=hid hBm'
     replace j4:=hid j4
     replace j3:=hid j3
     replace hi1:=hid j1
     clear j1
     go_wp2_with fail
     go_region
     go_wp2_with fail
     refine bodyPost_ret (v:=.map bm) (by simp [results,Tryd.results16,go_sem]) rfl ?_
     exact⟨hfb.out,.inl ⟨_,rfl,hB5.out,hI5.out⟩⟩
   ·exact⟨rfl,hfb.out.trans hf,.inr ⟨rfl,hbad⟩⟩
end Go.Proofs.YtnhjpicdijeagaaDoor

namespace Go.Proofs.YtnhjpicdijeagaaDoor
open Go.RowKit
def GPost(s0 bt:Nat)(W:World)(I:World->Prop)(G:Value->World->Prop)(Bad:Prop)(e:Ending)(w':World):Prop:=
 Fb s0 bt W w'/\((∃ v,e=.returned v/\G v w'/\I w')\/(e=.panicked large/\Bad))
def CPost(s0 bt:Nat)(W:World)(I:World->Prop)(B:Value->World->Prop)(Bad:Prop)(e:Ending)(w':World):Prop:=
 Fb s0 bt W w'/\((∃ v,e=.returned v/\B v w'/\I w')\/(e=.panicked large/\Bad))
structure NodeAt (ba bt bn qn nd ln cn:Nat) (kind deep ok oa ob:Int) (I:World->Prop):Prop where
 nodes:∀ w,I w->w.cell? ⟨ba,0,none⟩=some (.slice (some ⟨bn,qn,none⟩) ln cn)
 c0:∀ w,I w->w.cell? ⟨bn,qn+nd*5,none⟩=some (.int .i64 kind)
 c1:∀ w,I w->w.cell? ⟨bn,qn+nd*5+1,none⟩=some (.int .i64 deep)
 c2:∀ w,I w->w.cell? ⟨bn,qn+nd*5+2,none⟩=some (.int .i64 ok)
 c3:∀ w,I w->w.cell? ⟨bn,qn+nd*5+3,none⟩=some (.int .i64 oa)
 c4:∀ w,I w->w.cell? ⟨bn,qn+nd*5+4,none⟩=some (.int .i64 ob)
 told:∀ w,I w->bt<w.heap.size
 grow:∀ w w',I w->Go.Abs.Below w.heap.size w w'->I w'
 lt:nd<ln
 le:ln<=1000000
theorem wrap4(m:Nat)(h:m<=4):IntKind.i64.wrap (m:Int)=(m:Int):=by
 have:m=0\/m=1\/m=2\/m=3\/m=4:=by omega
 rcases this with rfl | rfl | rfl | rfl | rfl <;> decide
theorem orn{b c:Bool}(hc:c=false)(h:(b||c)=true):b=true:=by subst hc;simpa using h
theorem orf{b c:Bool}(h:(b||c)=false):b=false:=by cases b;rfl;cases h
theorem qEe(w:World)(n:Nat):Go.Abs.Below w.heap.size w (w.drewN n):=⟨rfl,⟨rfl,Nat.le_add_right _ _⟩,rfl,Nat.le_refl _,fun _ _=>rfl⟩
theorem qoY(w:World):(Instr.makeMap 60 none).run Tryd.prog w=.ok (.map (some w.heap.size)) (w.alloc (.map #[] 0)):=by
 simp [Instr.makeMap,run_newObj]
abbrev opV(ok oa ob:Int):Value:=.agg #[.int .i64 ok,.int .i64 oa,.int .i64 ob]
def J13(s0 ba bt bn qn nd ln cn bx:Nat)(deep ok oa ob:Int)(vt:Value)(W:World)(I:World->Prop)(G B:Value->World->Prop)(D:Nat->Bool)(a:Act)(w:World):Prop:=
 ∃ v55 v56 v57 v58 v59 v60 v61 v6,a=⟨List.toArray (.pointer (some ⟨ba,0,none⟩) :: .int .i64 (nd:Int) :: vt :: undef :: undef :: undef :: v6 :: .pointer (some ⟨bx,0,none⟩) :: undef :: undef :: undef :: undef :: .pointer (some ⟨ba,0,none⟩) :: .pointer (some ⟨ba,0,none⟩) :: .pointer (some ⟨ba,0,none⟩) :: .pointer (some ⟨ba,0,none⟩) :: .pointer (some ⟨ba,0,none⟩) :: .slice (some ⟨bn,qn,none⟩) ln cn :: .int .i64 (nd:Int) :: .pointer (some ⟨bn,qn+nd*5,none⟩) :: .agg #[.int .i64 2,.int .i64 deep,.int .i64 ok,.int .i64 oa,.int .i64 ob] :: .pointer (some ⟨bx,0,none⟩) :: .int .i64 2 :: .bool false :: .bool false :: undef :: undef :: undef :: undef :: undef :: undef :: undef :: undef :: undef :: undef :: undef :: undef :: undef :: undef :: undef :: undef :: undef :: undef :: undef :: undef :: undef :: undef :: undef :: undef :: undef :: undef :: undef :: undef :: .bool true :: .bool true :: v55 :: v56 :: v57 :: v58 :: v59 :: v60 :: v61 :: undef :: undef :: undef :: undef :: undef :: undef :: undef :: undef :: undef :: undef :: undef :: undef :: undef :: undef :: undef :: undef :: undef :: undef :: undef :: undef :: undef :: undef :: undef :: undef :: undef :: undef :: undef :: undef :: undef :: undef :: undef :: undef :: undef :: undef :: undef :: undef :: undef :: undef :: undef :: undef :: undef :: undef :: undef :: undef :: undef :: undef :: undef :: undef :: undef :: undef :: undef :: undef :: undef :: []),[]⟩/\(I w/\Fb s0 bt W w/\w.cell? ⟨bx,2,none⟩=some (.int .i64 ok)/\w.cell? ⟨bx,3,none⟩=some (.int .i64 oa)/\w.cell? ⟨bx,4,none⟩=some (.int .i64 ob))/\(D 0=true->v55=.pointer (some ⟨bx,2,none⟩))/\(D 1=true->v56=opV ok oa ob)/\(D 2=true->v57=.pointer (some ⟨ba,0,none⟩))/\(D 3=true->v58=.int .i64 (nd:Int))/\(D 4=true->v59=vt)/\(D 5=true->B v60 w)/\(D 6=true->G v61 w)/\(D 7=true->v6=v61)
def J15(s0 ba bt bn qn nd ln cn bx:Nat)(deep ok oa ob:Int)(vt:Value)(W:World)(I:World->Prop)(G B B1:Value->World->Prop)(D:Nat->Bool)(a:Act)(w:World):Prop:=
 ∃ v64 v65 v66 v67 v68 v69 v70 v71 v72 v73 v74 v6,a=⟨List.toArray (.pointer (some ⟨ba,0,none⟩) :: .int .i64 (nd:Int) :: vt :: undef :: undef :: undef :: v6 :: .pointer (some ⟨bx,0,none⟩) :: undef :: undef :: undef :: undef :: .pointer (some ⟨ba,0,none⟩) :: .pointer (some ⟨ba,0,none⟩) :: .pointer (some ⟨ba,0,none⟩) :: .pointer (some ⟨ba,0,none⟩) :: .pointer (some ⟨ba,0,none⟩) :: .slice (some ⟨bn,qn,none⟩) ln cn :: .int .i64 (nd:Int) :: .pointer (some ⟨bn,qn+nd*5,none⟩) :: .agg #[.int .i64 3,.int .i64 deep,.int .i64 ok,.int .i64 oa,.int .i64 ob] :: .pointer (some ⟨bx,0,none⟩) :: .int .i64 3 :: .bool false :: .bool false :: undef :: undef :: undef :: undef :: undef :: undef :: undef :: undef :: undef :: undef :: undef :: undef :: undef :: undef :: undef :: undef :: undef :: undef :: undef :: undef :: undef :: undef :: undef :: undef :: undef :: undef :: undef :: undef :: .bool false :: .bool false :: undef :: undef :: undef :: undef :: undef :: undef :: undef :: .bool true :: .bool true :: v64 :: v65 :: v66 :: v67 :: v68 :: v69 :: v70 :: v71 :: v72 :: v73 :: v74 :: undef :: undef :: undef :: undef :: undef :: undef :: undef :: undef :: undef :: undef :: undef :: undef :: undef :: undef :: undef :: undef :: undef :: undef :: undef :: undef :: undef :: undef :: undef :: undef :: undef :: undef :: undef :: undef :: undef :: undef :: undef :: undef :: undef :: undef :: undef :: undef :: undef :: undef :: undef :: undef :: []),[]⟩/\(I w/\Fb s0 bt W w/\w.cell? ⟨bx,2,none⟩=some (.int .i64 ok)/\w.cell? ⟨bx,3,none⟩=some (.int .i64 oa)/\w.cell? ⟨bx,4,none⟩=some (.int .i64 ob))/\(D 0=true->v64=.pointer (some ⟨bx,2,none⟩))/\(D 1=true->v65=opV ok oa ob)/\(D 2=true->v66=.pointer (some ⟨ba,0,none⟩))/\(D 3=true->v67=.int .i64 (nd:Int))/\(D 4=true->v68=vt)/\(D 5=true->B v69 w)/\(D 6=true->v70=.pointer (some ⟨ba,0,none⟩))/\(D 7=true->v71=.int .i64 (nd:Int))/\(D 8=true->v72=vt)/\(D 9=true->B1 v73 w)/\(D 10=true->G v74 w)/\(D 11=true->v6=v74)
def J19(s0 ba bt bn qn nd ln cn bx:Nat)(deep ok oa ob rounds:Int)(vt:Value)(W:World)(I:World->Prop)(G CL Tm:Value->World->Prop)(D:Nat->Bool)(a:Act)(w:World):Prop:=
 ∃ v87 v88 v89 v90 v91 v92 v93 v94 v95 v96 v97 v98 v6,a=⟨List.toArray (.pointer (some ⟨ba,0,none⟩) :: .int .i64 (nd:Int) :: vt :: undef :: undef :: undef :: v6 :: .pointer (some ⟨bx,0,none⟩) :: undef :: undef :: undef :: undef :: .pointer (some ⟨ba,0,none⟩) :: .pointer (some ⟨ba,0,none⟩) :: .pointer (some ⟨ba,0,none⟩) :: .pointer (some ⟨ba,0,none⟩) :: .pointer (some ⟨ba,0,none⟩) :: .slice (some ⟨bn,qn,none⟩) ln cn :: .int .i64 (nd:Int) :: .pointer (some ⟨bn,qn+nd*5,none⟩) :: .agg #[.int .i64 5,.int .i64 deep,.int .i64 ok,.int .i64 oa,.int .i64 ob] :: .pointer (some ⟨bx,0,none⟩) :: .int .i64 5 :: .bool false :: .bool false :: undef :: undef :: undef :: undef :: undef :: undef :: undef :: undef :: undef :: undef :: undef :: undef :: undef :: undef :: undef :: undef :: undef :: undef :: undef :: undef :: undef :: undef :: undef :: undef :: undef :: undef :: undef :: undef :: .bool false :: .bool false :: undef :: undef :: undef :: undef :: undef :: undef :: undef :: .bool false :: .bool false :: undef :: undef :: undef :: undef :: undef :: undef :: undef :: undef :: undef :: undef :: undef :: .bool false :: .bool false :: undef :: undef :: undef :: undef :: undef :: undef :: undef :: undef :: .bool true :: .bool true :: v87 :: v88 :: v89 :: v90 :: v91 :: v92 :: v93 :: v94 :: v95 :: v96 :: v97 :: v98 :: undef :: undef :: undef :: undef :: undef :: undef :: undef :: undef :: undef :: undef :: undef :: undef :: undef :: undef :: undef :: undef :: []),[]⟩/\(I w/\Fb s0 bt W w)/\(D 0=true->v87=.pointer (some ⟨ba,0,none⟩))/\(D 1=true->v88=.int .i64 (nd:Int))/\(D 2=true->v89=vt)/\(D 3=true->D 10=false->CL v90 w)/\(D 4=true->v91=.pointer (some ⟨ba,0,none⟩))/\(D 5=true->v92=.pointer (some ⟨ba,0,none⟩))/\(D 6=true->v93=.pointer (some ⟨ba,0,none⟩))/\(D 7=true->v94=.pointer (some ⟨ba,2,none⟩))/\(D 8=true->v95=.int .i64 rounds)/\(D 9=true->D 10=false->∃ b,v96=.slice (some ⟨b,0,none⟩) 1 1/\w.cell? ⟨b,0,none⟩=some (.int .i64 rounds))/\(D 10=true->D 11=false->Tm v97 w)/\(D 11=true->G v98 w)/\(D 12=true->v6=v98)
set_option maxRecDepth 100000 in
set_option maxHeartbeats 3000000 in
theorem qCp(s0 ba bt bn qn nd ln cn:Nat)(deep ok oa ob:Int)(vt:Value)(W:World)(I:World->Prop)(G:Value->World->Prop)(Bad:Prop)
  (hN:NodeAt ba bt bn qn nd ln cn 2 deep ok oa ob I) (h0:I W) (B:Value->World->Prop)
  (hBF:∀ v w w',B v w->Fb s0 bt w w'->B v w')
  (hC:∀ w,I w->Calls Tryd.prog 16 #[.pointer (some ⟨ba,0,none⟩),.int .i64 (nd:Int),.int .i64 0,vt] w (CPost s0 bt w I B Bad))
  (hM:∀ w v,I w->B v w->Calls Tryd.prog 48 #[opV ok oa ob,v] w fun e w'=>Fb s0 bt w w'/\I w'/\∃ v,e=.returned v/\G v w') :
  Calls Tryd.prog 31 #[.pointer (some ⟨ba,0,none⟩),.int .i64 (nd:Int),vt] W (GPost s0 bt W I G Bad):=by
 go_enter Tryd.func31,Tryd.ntmps31
 have n0:=hN.nodes W h0
 have n1:=hN.c0 W h0
 have n2:=hN.c1 W h0
 have n3:=hN.c2 W h0
 have n4:=hN.c3 W h0
 have n5:=hN.c4 W h0
 have nn:(nd:Int)<(ln:Int):=by have:=hN.lt;omega
 have hle:=hN.le
 have hlt:=hN.lt
 have hbt:=hN.told W h0
 replace hbt:=hid hbt
 replace hC:=hid hC
 replace hM:=hid hM
 replace hBF:=hid hBF
 go_wp2_with fail
 have hwf:(I (W.alloc (.cells #[.int .i64 2,.int .i64 deep,.int .i64 ok,.int .i64 oa,.int .i64 ob] 39))/\Fb s0 bt W (W.alloc (.cells #[.int .i64 2,.int .i64 deep,.int .i64 ok,.int .i64 oa,.int .i64 ob] 39))/\(W.alloc (.cells #[.int .i64 2,.int .i64 deep,.int .i64 ok,.int .i64 oa,.int .i64 ob] 39)).cell? ⟨W.heap.size,2,none⟩=some (.int .i64 ok)/\(W.alloc (.cells #[.int .i64 2,.int .i64 deep,.int .i64 ok,.int .i64 oa,.int .i64 ob] 39)).cell? ⟨W.heap.size,3,none⟩=some (.int .i64 oa)/\(W.alloc (.cells #[.int .i64 2,.int .i64 deep,.int .i64 ok,.int .i64 oa,.int .i64 ob] 39)).cell? ⟨W.heap.size,4,none⟩=some (.int .i64 ob)):=⟨hN.grow _ _ h0 (qaZ _ _),Fb.of (qaZ _ _),by simp,by simp,by simp⟩
 have hbx:W.heap.size≠bt:=by have:=hbt.out;omega
 generalize W.alloc (.cells #[.int .i64 2,.int .i64 deep,.int .i64 ok,.int .i64 oa,.int .i64 ob] 39)=W1 at *
 generalize W.heap.size=bx at *
 replace hwf:=hid hwf
 replace hbx:=hid hbx
 refine wp_region_any (by kernel_rfl) ?_
 refine Go.Abs.any_inv (J13 s0 ba bt bn qn nd ln cn bx deep ok oa ob vt W I G B) (qlH (by kernel_rfl)) ?hs ?hq _ _ _ _ rfl (by decide) (by intro k x hx hk;exact absurd hk (Go.Abs.fresh_not _ _)) ?h0
 case h0=>exact⟨_,_,_,_,_,_,_,_,rfl,⟨hN.grow _ _ hwf.out.1 (qbP _),hwf.out.2.1.trans (Fb.of (qbP _)),hwf.out.2.2.1,hwf.out.2.2.2.1,hwf.out.2.2.2.2⟩,by simp,by simp,by simp,by simp,by simp,by simp,by simp,by simp⟩
 case hs=>
  intro D jj o a w hcl ho hD hdep hJ K hK'
  obtain⟨v55,v56,v57,v58,v59,v60,v61,v6,rfl,hwf,d0,d1,d2,d3,d4,d5,d6,d7⟩:=hJ
  have hj:=(Array.getElem?_eq_some_iff.1 ho).1
  simp only [List.size_toArray,List.length_cons,List.length_nil,Nat.reduceAdd] at hj
  have hj:jj=0\/jj=1\/jj=2\/jj=3\/jj=4\/jj=5\/jj=6\/jj=7:=by omega
  rcases hj with rfl | rfl | rfl | rfl | rfl | rfl | rfl | rfl
  all_goals (simp only [List.getElem?_toArray,List.getElem?_cons_succ,List.getElem?_cons_zero,Option.some.injEq] at ho;subst ho;simp [Region.binds] at hdep)
  ·go_simp
   exact hK'.out _ _ ⟨_,_,_,_,_,_,_,_,rfl,hwf,by simp,fun h=>d1 (orn rfl h),fun h=>d2 (orn rfl h),fun h=>d3 (orn rfl h),fun h=>d4 (orn rfl h),fun h=>d5 (orn rfl h),fun h=>d6 (orn rfl h),fun h=>d7 (orn rfl h)⟩
  ·obtain rfl:=d0 hdep
   go_simp
   exact hK'.out _ _ ⟨_,_,_,_,_,_,_,_,rfl,hwf,fun h=>d0 (orn rfl h),by simp,fun h=>d2 (orn rfl h),fun h=>d3 (orn rfl h),fun h=>d4 (orn rfl h),fun h=>d5 (orn rfl h),fun h=>d6 (orn rfl h),fun h=>d7 (orn rfl h)⟩
  ·go_simp
   exact hK'.out _ _ ⟨_,_,_,_,_,_,_,_,rfl,hwf,fun h=>d0 (orn rfl h),fun h=>d1 (orn rfl h),by simp,fun h=>d3 (orn rfl h),fun h=>d4 (orn rfl h),fun h=>d5 (orn rfl h),fun h=>d6 (orn rfl h),fun h=>d7 (orn rfl h)⟩
  ·go_simp
   exact hK'.out _ _ ⟨_,_,_,_,_,_,_,_,rfl,hwf,fun h=>d0 (orn rfl h),fun h=>d1 (orn rfl h),fun h=>d2 (orn rfl h),by simp,fun h=>d4 (orn rfl h),fun h=>d5 (orn rfl h),fun h=>d6 (orn rfl h),fun h=>d7 (orn rfl h)⟩
  ·go_simp
   exact hK'.out _ _ ⟨_,_,_,_,_,_,_,_,rfl,hwf,fun h=>d0 (orn rfl h),fun h=>d1 (orn rfl h),fun h=>d2 (orn rfl h),fun h=>d3 (orn rfl h),by simp,fun h=>d5 (orn rfl h),fun h=>d6 (orn rfl h),fun h=>d7 (orn rfl h)⟩
  ·obtain rfl:=d2 hdep.1
   obtain rfl:=d3 hdep.2.1
   obtain rfl:=d4 hdep.2.2
   have n6:=Go.Abs.notyet (k:=6) hcl rfl (Array.mem_of_getElem? (i:=1) rfl) rfl hD
   have n7:=Go.Abs.notyet (k:=7) hcl rfl (Array.mem_of_getElem? (i:=0) rfl) rfl n6
   go_simp
   refine (hC.out _ hwf.1).mono ?_
   rintro e w2 ⟨hf,⟨r,rfl,hr,hI2⟩ | ⟨rfl,hb⟩⟩
   ·exact hK'.out _ _ ⟨_,_,_,_,_,_,_,_,rfl,⟨hI2,hwf.2.1.trans hf,hf.cell hwf.2.2.1,hf.cell hwf.2.2.2.1,hf.cell hwf.2.2.2.2⟩,fun h=>d0 (orn rfl h),fun h=>d1 (orn rfl h),fun h=>d2 (orn rfl h),fun h=>d3 (orn rfl h),fun h=>d4 (orn rfl h),fun _=>hr,by simp [n6],by simp [n7]⟩
   ·exact And.intro rfl ⟨hwf.2.1.trans hf,.inr ⟨rfl,hb⟩⟩
  ·obtain rfl:=d1 hdep.1
   have u5:=d5 hdep.2
   have n7:=Go.Abs.notyet (k:=7) hcl rfl (Array.mem_of_getElem? (i:=0) rfl) rfl hD
   go_simp
   refine (hM.out _ _ hwf.1 u5).mono ?_
   rintro e w2 ⟨hf,hI2,bm,rfl,hg⟩
   exact hK'.out _ _ ⟨_,_,_,_,_,_,_,_,rfl,⟨hI2,hwf.2.1.trans hf,hf.cell hwf.2.2.1,hf.cell hwf.2.2.2.1,hf.cell hwf.2.2.2.2⟩,fun h=>d0 (orn rfl h),fun h=>d1 (orn rfl h),fun h=>d2 (orn rfl h),fun h=>d3 (orn rfl h),fun h=>d4 (orn rfl h),fun _=>hBF.out _ _ _ u5 hf,fun _=>hg,by simp [n7]⟩
  ·go_simp
   exact hK'.out _ _ ⟨_,_,_,_,_,_,_,_,rfl,hwf,fun _=>rfl,fun _=>rfl,fun _=>rfl,fun _=>rfl,fun _=>rfl,fun h=>d5 (orn rfl h),fun h=>d6 (orn rfl h),fun _=>rfl⟩
 case hq=>
  intro D a w hD hJ
  obtain⟨v55,v56,v57,v58,v59,v60,v61,v6,rfl,hwf,d0,d1,d2,d3,d4,d5,d6,d7⟩:=hJ
  have hg:=d6 (hD 6 (by decide))
  obtain rfl:=d7 (hD 7 (by decide))
  clear d0 d1 d2 d3 d4 d5 d6 d7 hD
  go_wp2_with fail
  refine bodyPost_ret (v:=v6) (by simp [results,Tryd.results31,go_sem]) rfl ?_
  exact⟨hwf.2.1,.inl ⟨_,rfl,hg,hwf.1⟩⟩
set_option maxRecDepth 100000 in
set_option maxHeartbeats 3000000 in
theorem qCo(s0 ba bt bn qn nd ln cn:Nat)(deep ok oa ob:Int)(vt:Value)(W:World)(I:World->Prop)(G:Value->World->Prop)(Bad:Prop)
  (hN:NodeAt ba bt bn qn nd ln cn 3 deep ok oa ob I) (h0:I W) (B B1:Value->World->Prop)
  (hBF:∀ v w w',B v w->Fb s0 bt w w'->B v w') (hBF1:∀ v w w',B1 v w->Fb s0 bt w w'->B1 v w')
  (hC:∀ w,I w->Calls Tryd.prog 16 #[.pointer (some ⟨ba,0,none⟩),.int .i64 (nd:Int),.int .i64 0,vt] w (CPost s0 bt w I B Bad))
  (hC1:∀ w,I w->Calls Tryd.prog 16 #[.pointer (some ⟨ba,0,none⟩),.int .i64 (nd:Int),.int .i64 1,vt] w (CPost s0 bt w I B1 Bad))
  (hM:∀ w v v1,I w->B v w->B1 v1 w->Calls Tryd.prog 49 #[opV ok oa ob,v,v1] w fun e w'=>Fb s0 bt w w'/\I w'/\∃ v,e=.returned v/\G v w') :
  Calls Tryd.prog 31 #[.pointer (some ⟨ba,0,none⟩),.int .i64 (nd:Int),vt] W (GPost s0 bt W I G Bad):=by
 go_enter Tryd.func31,Tryd.ntmps31
 have n0:=hN.nodes W h0
 have n1:=hN.c0 W h0
 have n2:=hN.c1 W h0
 have n3:=hN.c2 W h0
 have n4:=hN.c3 W h0
 have n5:=hN.c4 W h0
 have nn:(nd:Int)<(ln:Int):=by have:=hN.lt;omega
 have hle:=hN.le
 have hlt:=hN.lt
 have hbt:=hN.told W h0
 replace hbt:=hid hbt
 replace hC:=hid hC
 replace hC1:=hid hC1
 replace hM:=hid hM
 replace hBF:=hid hBF
 replace hBF1:=hid hBF1
 go_wp2_with fail
 have hwf:(I (W.alloc (.cells #[.int .i64 3,.int .i64 deep,.int .i64 ok,.int .i64 oa,.int .i64 ob] 39))/\Fb s0 bt W (W.alloc (.cells #[.int .i64 3,.int .i64 deep,.int .i64 ok,.int .i64 oa,.int .i64 ob] 39))/\(W.alloc (.cells #[.int .i64 3,.int .i64 deep,.int .i64 ok,.int .i64 oa,.int .i64 ob] 39)).cell? ⟨W.heap.size,2,none⟩=some (.int .i64 ok)/\(W.alloc (.cells #[.int .i64 3,.int .i64 deep,.int .i64 ok,.int .i64 oa,.int .i64 ob] 39)).cell? ⟨W.heap.size,3,none⟩=some (.int .i64 oa)/\(W.alloc (.cells #[.int .i64 3,.int .i64 deep,.int .i64 ok,.int .i64 oa,.int .i64 ob] 39)).cell? ⟨W.heap.size,4,none⟩=some (.int .i64 ob)):=⟨hN.grow _ _ h0 (qaZ _ _),Fb.of (qaZ _ _),by simp,by simp,by simp⟩
 have hbx:W.heap.size≠bt:=by have:=hbt.out;omega
 generalize W.alloc (.cells #[.int .i64 3,.int .i64 deep,.int .i64 ok,.int .i64 oa,.int .i64 ob] 39)=W1 at *
 generalize W.heap.size=bx at *
 replace hwf:=hid hwf
 replace hbx:=hid hbx
 refine wp_region_any (by kernel_rfl) ?_
 refine Go.Abs.any_inv (J15 s0 ba bt bn qn nd ln cn bx deep ok oa ob vt W I G B B1) (qlH (by kernel_rfl)) ?hs ?hq _ _ _ _ rfl (by decide) (by intro k x hx hk;exact absurd hk (Go.Abs.fresh_not _ _)) ?h0
 case h0=>exact⟨_,_,_,_,_,_,_,_,_,_,_,_,rfl,⟨hN.grow _ _ hwf.out.1 (qbP _),hwf.out.2.1.trans (Fb.of (qbP _)),hwf.out.2.2.1,hwf.out.2.2.2.1,hwf.out.2.2.2.2⟩,by simp,by simp,by simp,by simp,by simp,by simp,by simp,by simp,by simp,by simp,by simp,by simp⟩
 case hs=>
  intro D jj o a w hcl ho hD hdep hJ K hK'
  obtain⟨v64,v65,v66,v67,v68,v69,v70,v71,v72,v73,v74,v6,rfl,hwf,d0,d1,d2,d3,d4,d5,d6,d7,d8,d9,d10,d11⟩:=hJ
  have hj:=(Array.getElem?_eq_some_iff.1 ho).1
  simp only [List.size_toArray,List.length_cons,List.length_nil,Nat.reduceAdd] at hj
  have hj:jj=0\/jj=1\/jj=2\/jj=3\/jj=4\/jj=5\/jj=6\/jj=7\/jj=8\/jj=9\/jj=10\/jj=11:=by omega
  rcases hj with rfl | rfl | rfl | rfl | rfl | rfl | rfl | rfl | rfl | rfl | rfl | rfl
  all_goals (simp only [List.getElem?_toArray,List.getElem?_cons_succ,List.getElem?_cons_zero,Option.some.injEq] at ho;subst ho;simp [Region.binds] at hdep)
  ·go_simp
   exact hK'.out _ _ ⟨_,_,_,_,_,_,_,_,_,_,_,_,rfl,hwf,by simp,fun h=>d1 (orn rfl h),fun h=>d2 (orn rfl h),fun h=>d3 (orn rfl h),fun h=>d4 (orn rfl h),fun h=>d5 (orn rfl h),fun h=>d6 (orn rfl h),fun h=>d7 (orn rfl h),fun h=>d8 (orn rfl h),fun h=>d9 (orn rfl h),fun h=>d10 (orn rfl h),fun h=>d11 (orn rfl h)⟩
  ·obtain rfl:=d0 hdep
   go_simp
   exact hK'.out _ _ ⟨_,_,_,_,_,_,_,_,_,_,_,_,rfl,hwf,fun h=>d0 (orn rfl h),by simp,fun h=>d2 (orn rfl h),fun h=>d3 (orn rfl h),fun h=>d4 (orn rfl h),fun h=>d5 (orn rfl h),fun h=>d6 (orn rfl h),fun h=>d7 (orn rfl h),fun h=>d8 (orn rfl h),fun h=>d9 (orn rfl h),fun h=>d10 (orn rfl h),fun h=>d11 (orn rfl h)⟩
  ·go_simp
   exact hK'.out _ _ ⟨_,_,_,_,_,_,_,_,_,_,_,_,rfl,hwf,fun h=>d0 (orn rfl h),fun h=>d1 (orn rfl h),by simp,fun h=>d3 (orn rfl h),fun h=>d4 (orn rfl h),fun h=>d5 (orn rfl h),fun h=>d6 (orn rfl h),fun h=>d7 (orn rfl h),fun h=>d8 (orn rfl h),fun h=>d9 (orn rfl h),fun h=>d10 (orn rfl h),fun h=>d11 (orn rfl h)⟩
  ·go_simp
   exact hK'.out _ _ ⟨_,_,_,_,_,_,_,_,_,_,_,_,rfl,hwf,fun h=>d0 (orn rfl h),fun h=>d1 (orn rfl h),fun h=>d2 (orn rfl h),by simp,fun h=>d4 (orn rfl h),fun h=>d5 (orn rfl h),fun h=>d6 (orn rfl h),fun h=>d7 (orn rfl h),fun h=>d8 (orn rfl h),fun h=>d9 (orn rfl h),fun h=>d10 (orn rfl h),fun h=>d11 (orn rfl h)⟩
  ·go_simp
   exact hK'.out _ _ ⟨_,_,_,_,_,_,_,_,_,_,_,_,rfl,hwf,fun h=>d0 (orn rfl h),fun h=>d1 (orn rfl h),fun h=>d2 (orn rfl h),fun h=>d3 (orn rfl h),by simp,fun h=>d5 (orn rfl h),fun h=>d6 (orn rfl h),fun h=>d7 (orn rfl h),fun h=>d8 (orn rfl h),fun h=>d9 (orn rfl h),fun h=>d10 (orn rfl h),fun h=>d11 (orn rfl h)⟩
  ·obtain rfl:=d2 hdep.1
   obtain rfl:=d3 hdep.2.1
   obtain rfl:=d4 hdep.2.2
   have n9:=Go.Abs.notyet (k:=9) hcl rfl (Array.mem_of_getElem? (i:=3) rfl) rfl hD
   have n10:=Go.Abs.notyet (k:=10) hcl rfl (Array.mem_of_getElem? (i:=2) rfl) rfl n9
   have n11:=Go.Abs.notyet (k:=11) hcl rfl (Array.mem_of_getElem? (i:=0) rfl) rfl n10
   go_simp
   refine (hC.out _ hwf.1).mono ?_
   rintro e w2 ⟨hf,⟨r,rfl,hr,hI2⟩ | ⟨rfl,hb⟩⟩
   ·exact hK'.out _ _ ⟨_,_,_,_,_,_,_,_,_,_,_,_,rfl,⟨hI2,hwf.2.1.trans hf,hf.cell hwf.2.2.1,hf.cell hwf.2.2.2.1,hf.cell hwf.2.2.2.2⟩,fun h=>d0 (orn rfl h),fun h=>d1 (orn rfl h),fun h=>d2 (orn rfl h),fun h=>d3 (orn rfl h),fun h=>d4 (orn rfl h),fun _=>hr,fun h=>d6 (orn rfl h),fun h=>d7 (orn rfl h),fun h=>d8 (orn rfl h),by simp [n9],by simp [n10],by simp [n11]⟩
   ·exact And.intro rfl ⟨hwf.2.1.trans hf,.inr ⟨rfl,hb⟩⟩
  ·go_simp
   exact hK'.out _ _ ⟨_,_,_,_,_,_,_,_,_,_,_,_,rfl,hwf,fun h=>d0 (orn rfl h),fun h=>d1 (orn rfl h),fun h=>d2 (orn rfl h),fun h=>d3 (orn rfl h),fun h=>d4 (orn rfl h),fun h=>d5 (orn rfl h),by simp,fun h=>d7 (orn rfl h),fun h=>d8 (orn rfl h),fun h=>d9 (orn rfl h),fun h=>d10 (orn rfl h),fun h=>d11 (orn rfl h)⟩
  ·go_simp
   exact hK'.out _ _ ⟨_,_,_,_,_,_,_,_,_,_,_,_,rfl,hwf,fun h=>d0 (orn rfl h),fun h=>d1 (orn rfl h),fun h=>d2 (orn rfl h),fun h=>d3 (orn rfl h),fun h=>d4 (orn rfl h),fun h=>d5 (orn rfl h),fun h=>d6 (orn rfl h),by simp,fun h=>d8 (orn rfl h),fun h=>d9 (orn rfl h),fun h=>d10 (orn rfl h),fun h=>d11 (orn rfl h)⟩
  ·go_simp
   exact hK'.out _ _ ⟨_,_,_,_,_,_,_,_,_,_,_,_,rfl,hwf,fun h=>d0 (orn rfl h),fun h=>d1 (orn rfl h),fun h=>d2 (orn rfl h),fun h=>d3 (orn rfl h),fun h=>d4 (orn rfl h),fun h=>d5 (orn rfl h),fun h=>d6 (orn rfl h),fun h=>d7 (orn rfl h),by simp,fun h=>d9 (orn rfl h),fun h=>d10 (orn rfl h),fun h=>d11 (orn rfl h)⟩
  ·obtain rfl:=d6 hdep.1
   obtain rfl:=d7 hdep.2.1
   obtain rfl:=d8 hdep.2.2.1
   have u5:=d5 hdep.2.2.2
   have n10:=Go.Abs.notyet (k:=10) hcl rfl (Array.mem_of_getElem? (i:=2) rfl) rfl hD
   have n11:=Go.Abs.notyet (k:=11) hcl rfl (Array.mem_of_getElem? (i:=0) rfl) rfl n10
   go_simp
   refine (hC1.out _ hwf.1).mono ?_
   rintro e w2 ⟨hf,⟨r,rfl,hr,hI2⟩ | ⟨rfl,hb⟩⟩
   ·exact hK'.out _ _ ⟨_,_,_,_,_,_,_,_,_,_,_,_,rfl,⟨hI2,hwf.2.1.trans hf,hf.cell hwf.2.2.1,hf.cell hwf.2.2.2.1,hf.cell hwf.2.2.2.2⟩,fun h=>d0 (orn rfl h),fun h=>d1 (orn rfl h),fun h=>d2 (orn rfl h),fun h=>d3 (orn rfl h),fun h=>d4 (orn rfl h),fun _=>hBF.out _ _ _ u5 hf,fun h=>d6 (orn rfl h),fun h=>d7 (orn rfl h),fun h=>d8 (orn rfl h),fun _=>hr,by simp [n10],by simp [n11]⟩
   ·exact And.intro rfl ⟨hwf.2.1.trans hf,.inr ⟨rfl,hb⟩⟩
  ·obtain rfl:=d1 hdep.1
   have u5:=d5 hdep.2.1
   have u9:=d9 hdep.2.2
   have n11:=Go.Abs.notyet (k:=11) hcl rfl (Array.mem_of_getElem? (i:=0) rfl) rfl hD
   go_simp
   refine (hM.out _ _ _ hwf.1 u5 u9).mono ?_
   rintro e w2 ⟨hf,hI2,bm,rfl,hg⟩
   exact hK'.out _ _ ⟨_,_,_,_,_,_,_,_,_,_,_,_,rfl,⟨hI2,hwf.2.1.trans hf,hf.cell hwf.2.2.1,hf.cell hwf.2.2.2.1,hf.cell hwf.2.2.2.2⟩,fun h=>d0 (orn rfl h),fun h=>d1 (orn rfl h),fun h=>d2 (orn rfl h),fun h=>d3 (orn rfl h),fun h=>d4 (orn rfl h),fun _=>hBF.out _ _ _ u5 hf,fun h=>d6 (orn rfl h),fun h=>d7 (orn rfl h),fun h=>d8 (orn rfl h),fun _=>hBF1.out _ _ _ u9 hf,fun _=>hg,by simp [n11]⟩
  ·go_simp
   exact hK'.out _ _ ⟨_,_,_,_,_,_,_,_,_,_,_,_,rfl,hwf,fun _=>rfl,fun _=>rfl,fun _=>rfl,fun _=>rfl,fun _=>rfl,fun h=>d5 (orn rfl h),fun _=>rfl,fun _=>rfl,fun _=>rfl,fun h=>d9 (orn rfl h),fun h=>d10 (orn rfl h),fun _=>rfl⟩
 case hq=>
  intro D a w hD hJ
  obtain⟨v64,v65,v66,v67,v68,v69,v70,v71,v72,v73,v74,v6,rfl,hwf,d0,d1,d2,d3,d4,d5,d6,d7,d8,d9,d10,d11⟩:=hJ
  have hg:=d10 (hD 10 (by decide))
  obtain rfl:=d11 (hD 11 (by decide))
  clear d0 d1 d2 d3 d4 d5 d6 d7 d8 d9 d10 d11 hD
  go_wp2_with fail
  refine bodyPost_ret (v:=v6) (by simp [results,Tryd.results31,go_sem]) rfl ?_
  exact⟨hwf.2.1,.inl ⟨_,rfl,hg,hwf.1⟩⟩
set_option maxRecDepth 100000 in
set_option maxHeartbeats 3000000 in
theorem qyG(s0 ba bt bn qn nd ln cn:Nat)(deep ok oa ob:Int)(W:World)(I:World->Prop)(G:Value->World->Prop)(Bad:Prop)(tb tq m tc:Nat)(hm:m+1<=tc)(hm4:m<=4)(htc:tc<=9223372036854775807)
  (hN:NodeAt ba bt bn qn nd ln cn 4 deep ok oa ob I) (h0:I W)
  (hC:∀ w,I w->Calls Tryd.prog 16 #[.pointer (some ⟨ba,0,none⟩),.int .i64 (nd:Int),.int .i64 0,.slice (some ⟨tb,tq,none⟩) m tc] w (CPost s0 bt w I G Bad)) :
  Calls Tryd.prog 31 #[.pointer (some ⟨ba,0,none⟩),.int .i64 (nd:Int),.slice (some ⟨tb,tq,none⟩) (m+1) tc] W (GPost s0 bt W I G Bad):=by
 go_enter Tryd.func31,Tryd.ntmps31
 have n0:=hN.nodes W h0
 have n1:=hN.c0 W h0
 have n2:=hN.c1 W h0
 have n3:=hN.c2 W h0
 have n4:=hN.c3 W h0
 have n5:=hN.c4 W h0
 have nn:(nd:Int)<(ln:Int):=by have:=hN.lt;omega
 have hle:=hN.le
 have hlt:=hN.lt
 have hbt:=hN.told W h0
 replace hbt:=hid hbt
 replace hC:=hid hC
 have a1:((m+1:Nat):Int) - 1=(m:Int):=by omega
 have a2:=wrap4 m hm4
 have a3:(m:Int)<=(tc:Int):=by omega
 go_wp2_with fail
 refine (hC.out _ (hN.grow _ _ h0 (qaZ _ _))).mono ?_
 rintro e w2 ⟨hf,⟨r,rfl,hr,hI2⟩ | ⟨rfl,hb⟩⟩
 ·have hff:=(Fb.of (qaZ _ _)).trans hf
  go_wp2_with fail
  refine bodyPost_ret (v:=r) (by simp [results,Tryd.results31,go_sem]) rfl ?_
  exact⟨hff,.inl ⟨_,rfl,hr,hI2⟩⟩
 ·exact⟨rfl,(Fb.of (qaZ _ _)).trans hf,.inr ⟨rfl,hb⟩⟩
set_option maxRecDepth 100000 in
set_option maxHeartbeats 3000000 in
theorem qyD(s0 ba bt bn qn nd ln cn:Nat)(deep ok oa ob rounds:Int)(vt:Value)(W:World)(I:World->Prop)(G:Value->World->Prop)(Bad:Prop)(CL Tm:Value->World->Prop)
  (hN:NodeAt ba bt bn qn nd ln cn 5 deep ok oa ob I) (h0:I W)
  (hRd:∀ w,I w->w.cell? ⟨ba,2,none⟩=some (.int .i64 rounds))
  (hCL:∀ v w w',CL v w->Go.Abs.Below w.heap.size w w'->CL v w')
  (hCl:∀ w,I w->Fb s0 bt W w->Calls Tryd.prog 50 #[vt] w fun e w'=>Go.Abs.Below w.heap.size w w'/\∃ v,e=.returned v/\CL v w')
  (hAp:∀ w va b,I w->Fb s0 bt W w->CL va w->w.cell? ⟨b,0,none⟩=some (.int .i64 rounds)->∃ v' w',(Builtin.append_ #[28,28] 28 #[va,.slice (some ⟨b,0,none⟩) 1 1]).run Tryd.prog w=.ok v' w'/\Tm v' w'/\I w'/\Fb s0 bt W w')
  (hC:∀ w v,I w->Tm v w->Calls Tryd.prog 16 #[.pointer (some ⟨ba,0,none⟩),.int .i64 (nd:Int),.int .i64 0,v] w (CPost s0 bt w I G Bad)) :
  Calls Tryd.prog 31 #[.pointer (some ⟨ba,0,none⟩),.int .i64 (nd:Int),vt] W (GPost s0 bt W I G Bad):=by
 go_enter Tryd.func31,Tryd.ntmps31
 have n0:=hN.nodes W h0
 have n1:=hN.c0 W h0
 have n2:=hN.c1 W h0
 have n3:=hN.c2 W h0
 have n4:=hN.c3 W h0
 have n5:=hN.c4 W h0
 have nn:(nd:Int)<(ln:Int):=by have:=hN.lt;omega
 have hle:=hN.le
 have hlt:=hN.lt
 have hbt:=hN.told W h0
 replace hbt:=hid hbt
 have hG:=hN.grow
 replace hC:=hid hC
 replace hG:=hid hG
 replace hRd:=hid hRd
 replace hCL:=hid hCL
 replace hCl:=hid hCl
 replace hAp:=hid hAp
 go_wp2_with fail
 have hwf:(I (W.alloc (.cells #[.int .i64 5,.int .i64 deep,.int .i64 ok,.int .i64 oa,.int .i64 ob] 39))/\Fb s0 bt W (W.alloc (.cells #[.int .i64 5,.int .i64 deep,.int .i64 ok,.int .i64 oa,.int .i64 ob] 39))):=⟨hN.grow _ _ h0 (qaZ _ _),Fb.of (qaZ _ _)⟩
 generalize W.alloc (.cells #[.int .i64 5,.int .i64 deep,.int .i64 ok,.int .i64 oa,.int .i64 ob] 39)=W1 at *
 generalize W.heap.size=bx at *
 replace hwf:=hid hwf
 refine wp_region_any (by kernel_rfl) ?_
 refine Go.Abs.any_inv (J19 s0 ba bt bn qn nd ln cn bx deep ok oa ob rounds vt W I G CL Tm) (qlH (by kernel_rfl)) ?hs ?hq _ _ _ _ rfl (by decide) (by intro k x hx hk;exact absurd hk (Go.Abs.fresh_not _ _)) ?h0
 case h0=>exact⟨_,_,_,_,_,_,_,_,_,_,_,_,_,rfl,⟨hN.grow _ _ hwf.out.1 (qbP _),hwf.out.2.trans (Fb.of (qbP _))⟩,by simp,by simp,by simp,by simp,by simp,by simp,by simp,by simp,by simp,by simp,by simp,by simp,by simp⟩
 case hs=>
  intro D jj o a w hcl ho hD hdep hJ K hK'
  obtain⟨v87,v88,v89,v90,v91,v92,v93,v94,v95,v96,v97,v98,v6,rfl,hwf,d0,d1,d2,d3,d4,d5,d6,d7,d8,d9,d10,d11,d12⟩:=hJ
  have hj:=(Array.getElem?_eq_some_iff.1 ho).1
  simp only [List.size_toArray,List.length_cons,List.length_nil,Nat.reduceAdd] at hj
  have hj:jj=0\/jj=1\/jj=2\/jj=3\/jj=4\/jj=5\/jj=6\/jj=7\/jj=8\/jj=9\/jj=10\/jj=11\/jj=12:=by omega
  rcases hj with rfl | rfl | rfl | rfl | rfl | rfl | rfl | rfl | rfl | rfl | rfl | rfl | rfl
  all_goals (simp only [List.getElem?_toArray,List.getElem?_cons_succ,List.getElem?_cons_zero,Option.some.injEq] at ho;subst ho;simp [Region.binds] at hdep)
  ·go_simp
   exact hK'.out _ _ ⟨_,_,_,_,_,_,_,_,_,_,_,_,_,rfl,hwf,by simp,fun h=>d1 (orn rfl h),fun h=>d2 (orn rfl h),fun h h2=>d3 (orn rfl h) (orf h2),fun h=>d4 (orn rfl h),fun h=>d5 (orn rfl h),fun h=>d6 (orn rfl h),fun h=>d7 (orn rfl h),fun h=>d8 (orn rfl h),fun h h2=>d9 (orn rfl h) (orf h2),fun h h2=>d10 (orn rfl h) (orf h2),fun h=>d11 (orn rfl h),fun h=>d12 (orn rfl h)⟩
  ·go_simp
   exact hK'.out _ _ ⟨_,_,_,_,_,_,_,_,_,_,_,_,_,rfl,hwf,fun h=>d0 (orn rfl h),by simp,fun h=>d2 (orn rfl h),fun h h2=>d3 (orn rfl h) (orf h2),fun h=>d4 (orn rfl h),fun h=>d5 (orn rfl h),fun h=>d6 (orn rfl h),fun h=>d7 (orn rfl h),fun h=>d8 (orn rfl h),fun h h2=>d9 (orn rfl h) (orf h2),fun h h2=>d10 (orn rfl h) (orf h2),fun h=>d11 (orn rfl h),fun h=>d12 (orn rfl h)⟩
  ·go_simp
   exact hK'.out _ _ ⟨_,_,_,_,_,_,_,_,_,_,_,_,_,rfl,hwf,fun h=>d0 (orn rfl h),fun h=>d1 (orn rfl h),by simp,fun h h2=>d3 (orn rfl h) (orf h2),fun h=>d4 (orn rfl h),fun h=>d5 (orn rfl h),fun h=>d6 (orn rfl h),fun h=>d7 (orn rfl h),fun h=>d8 (orn rfl h),fun h h2=>d9 (orn rfl h) (orf h2),fun h h2=>d10 (orn rfl h) (orf h2),fun h=>d11 (orn rfl h),fun h=>d12 (orn rfl h)⟩
  ·obtain rfl:=d2 hdep
   have n10:=Go.Abs.notyet (k:=10) hcl rfl (Array.mem_of_getElem? (i:=0) rfl) rfl hD
   have n11:=Go.Abs.notyet (k:=11) hcl rfl (Array.mem_of_getElem? (i:=2) rfl) rfl n10
   have n12:=Go.Abs.notyet (k:=12) hcl rfl (Array.mem_of_getElem? (i:=0) rfl) rfl n11
   go_simp
   refine (hCl.out _ hwf.1 hwf.2).mono ?_
   rintro e w2 ⟨hx2,r,rfl,hr⟩
   exact hK'.out _ _ ⟨_,_,_,_,_,_,_,_,_,_,_,_,_,rfl,⟨hG.out _ _ hwf.1 hx2,hwf.2.trans (Fb.of hx2)⟩,fun h=>d0 (orn rfl h),fun h=>d1 (orn rfl h),fun h=>d2 (orn rfl h),fun _ _=>hr,fun h=>d4 (orn rfl h),fun h=>d5 (orn rfl h),fun h=>d6 (orn rfl h),fun h=>d7 (orn rfl h),fun h=>d8 (orn rfl h),fun h _=>(by obtain⟨b,q1,q2⟩:=d9 (orn rfl h) n10;exact⟨b,q1,hx2.keepsC q2⟩),by simp [n10],by simp [n11],by simp [n12]⟩
  ·go_simp
   exact hK'.out _ _ ⟨_,_,_,_,_,_,_,_,_,_,_,_,_,rfl,hwf,fun h=>d0 (orn rfl h),fun h=>d1 (orn rfl h),fun h=>d2 (orn rfl h),fun h h2=>d3 (orn rfl h) (orf h2),by simp,fun h=>d5 (orn rfl h),fun h=>d6 (orn rfl h),fun h=>d7 (orn rfl h),fun h=>d8 (orn rfl h),fun h h2=>d9 (orn rfl h) (orf h2),fun h h2=>d10 (orn rfl h) (orf h2),fun h=>d11 (orn rfl h),fun h=>d12 (orn rfl h)⟩
  ·obtain rfl:=d4 hdep
   go_simp
   exact hK'.out _ _ ⟨_,_,_,_,_,_,_,_,_,_,_,_,_,rfl,hwf,fun h=>d0 (orn rfl h),fun h=>d1 (orn rfl h),fun h=>d2 (orn rfl h),fun h h2=>d3 (orn rfl h) (orf h2),fun h=>d4 (orn rfl h),by simp,fun h=>d6 (orn rfl h),fun h=>d7 (orn rfl h),fun h=>d8 (orn rfl h),fun h h2=>d9 (orn rfl h) (orf h2),fun h h2=>d10 (orn rfl h) (orf h2),fun h=>d11 (orn rfl h),fun h=>d12 (orn rfl h)⟩
  ·obtain rfl:=d5 hdep
   go_simp
   exact hK'.out _ _ ⟨_,_,_,_,_,_,_,_,_,_,_,_,_,rfl,hwf,fun h=>d0 (orn rfl h),fun h=>d1 (orn rfl h),fun h=>d2 (orn rfl h),fun h h2=>d3 (orn rfl h) (orf h2),fun h=>d4 (orn rfl h),fun h=>d5 (orn rfl h),by simp,fun h=>d7 (orn rfl h),fun h=>d8 (orn rfl h),fun h h2=>d9 (orn rfl h) (orf h2),fun h h2=>d10 (orn rfl h) (orf h2),fun h=>d11 (orn rfl h),fun h=>d12 (orn rfl h)⟩
  ·obtain rfl:=d6 hdep
   go_simp
   exact hK'.out _ _ ⟨_,_,_,_,_,_,_,_,_,_,_,_,_,rfl,hwf,fun h=>d0 (orn rfl h),fun h=>d1 (orn rfl h),fun h=>d2 (orn rfl h),fun h h2=>d3 (orn rfl h) (orf h2),fun h=>d4 (orn rfl h),fun h=>d5 (orn rfl h),fun h=>d6 (orn rfl h),by simp,fun h=>d8 (orn rfl h),fun h h2=>d9 (orn rfl h) (orf h2),fun h h2=>d10 (orn rfl h) (orf h2),fun h=>d11 (orn rfl h),fun h=>d12 (orn rfl h)⟩
  ·obtain rfl:=d7 hdep
   have hrr:=hRd.out _ hwf.1
   go_simp
   exact hK'.out _ _ ⟨_,_,_,_,_,_,_,_,_,_,_,_,_,rfl,hwf,fun h=>d0 (orn rfl h),fun h=>d1 (orn rfl h),fun h=>d2 (orn rfl h),fun h h2=>d3 (orn rfl h) (orf h2),fun h=>d4 (orn rfl h),fun h=>d5 (orn rfl h),fun h=>d6 (orn rfl h),fun h=>d7 (orn rfl h),by simp,fun h h2=>d9 (orn rfl h) (orf h2),fun h h2=>d10 (orn rfl h) (orf h2),fun h=>d11 (orn rfl h),fun h=>d12 (orn rfl h)⟩
  ·obtain rfl:=d8 hdep
   have n10:=Go.Abs.notyet (k:=10) hcl rfl (Array.mem_of_getElem? (i:=1) rfl) rfl hD
   have n11:=Go.Abs.notyet (k:=11) hcl rfl (Array.mem_of_getElem? (i:=2) rfl) rfl n10
   have n12:=Go.Abs.notyet (k:=12) hcl rfl (Array.mem_of_getElem? (i:=0) rfl) rfl n11
   go_simp
   exact hK'.out _ _ ⟨_,_,_,_,_,_,_,_,_,_,_,_,_,rfl,⟨hG.out _ _ hwf.1 (qaZ _ _),hwf.2.trans (Fb.of (qaZ _ _))⟩,fun h=>d0 (orn rfl h),fun h=>d1 (orn rfl h),fun h=>d2 (orn rfl h),fun h _=>hCL.out _ _ _ (d3 (orn rfl h) n10) (qaZ _ _),fun h=>d4 (orn rfl h),fun h=>d5 (orn rfl h),fun h=>d6 (orn rfl h),fun h=>d7 (orn rfl h),fun h=>d8 (orn rfl h),fun _ _=>⟨w.heap.size,rfl,by simp⟩,by simp [n10],by simp [n11],by simp [n12]⟩
  ·have u3:=d3 hdep.1
   have u9:=d9 hdep.2.1
   have n11:=Go.Abs.notyet (k:=11) hcl rfl (Array.mem_of_getElem? (i:=2) rfl) rfl hD
   have n12:=Go.Abs.notyet (k:=12) hcl rfl (Array.mem_of_getElem? (i:=0) rfl) rfl n11
   obtain⟨b9,rfl,q9⟩:=u9 hD
   obtain⟨v2,w2,hrun,hr,hI2,hF2⟩:=hAp.out w v90 b9 hwf.1 hwf.2 (u3 hD) q9
   simp only [Region.wanted,if_true]
   unfold Oper.wp
   simp [execOp,resolve,invoke,builtin,Act.eval,hrun,Result.andThen]
   exact hK'.out _ _ ⟨_,_,_,_,_,_,_,_,_,_,_,_,_,rfl,⟨hI2,hF2⟩,fun h=>d0 (orn rfl h),fun h=>d1 (orn rfl h),fun h=>d2 (orn rfl h),by simp,fun h=>d4 (orn rfl h),fun h=>d5 (orn rfl h),fun h=>d6 (orn rfl h),fun h=>d7 (orn rfl h),fun h=>d8 (orn rfl h),by simp,fun _ _=>hr,by simp [n11],by simp [n12]⟩
  ·obtain rfl:=d0 hdep.1
   obtain rfl:=d1 hdep.2.1
   have u10:=d10 hdep.2.2
   have n12:=Go.Abs.notyet (k:=12) hcl rfl (Array.mem_of_getElem? (i:=0) rfl) rfl hD
   go_simp
   refine (hC.out _ _ hwf.1 (u10 hD)).mono ?_
   rintro e w2 ⟨hf,⟨r,rfl,hr,hI2⟩ | ⟨rfl,hb⟩⟩
   ·exact hK'.out _ _ ⟨_,_,_,_,_,_,_,_,_,_,_,_,_,rfl,⟨hI2,hwf.2.trans hf⟩,fun h=>d0 (orn rfl h),fun h=>d1 (orn rfl h),fun h=>d2 (orn rfl h),by simp [hdep.2.2],fun h=>d4 (orn rfl h),fun h=>d5 (orn rfl h),fun h=>d6 (orn rfl h),fun h=>d7 (orn rfl h),fun h=>d8 (orn rfl h),by simp [hdep.2.2],by simp,fun _=>hr,by simp [n12]⟩
   ·exact And.intro rfl ⟨hwf.2.trans hf,.inr ⟨rfl,hb⟩⟩
  ·go_simp
   exact hK'.out _ _ ⟨_,_,_,_,_,_,_,_,_,_,_,_,_,rfl,hwf,fun _=>rfl,fun _=>rfl,fun _=>rfl,fun h h2=>d3 (orn rfl h) (orf h2),fun _=>rfl,fun _=>rfl,fun _=>rfl,fun _=>rfl,fun _=>rfl,fun h h2=>d9 (orn rfl h) (orf h2),fun h h2=>d10 (orn rfl h) (orf h2),fun h=>d11 (orn rfl h),fun _=>rfl⟩
 case hq=>
  intro D a w hD hJ
  obtain⟨v87,v88,v89,v90,v91,v92,v93,v94,v95,v96,v97,v98,v6,rfl,hwf,d0,d1,d2,d3,d4,d5,d6,d7,d8,d9,d10,d11,d12⟩:=hJ
  have hg:=d11 (hD 11 (by decide))
  obtain rfl:=d12 (hD 12 (by decide))
  clear d0 d1 d2 d3 d4 d5 d6 d7 d8 d9 d10 d11 d12 hD
  go_wp2_with fail
  refine bodyPost_ret (v:=v6) (by simp [results,Tryd.results31,go_sem]) rfl ?_
  exact⟨hwf.2,.inl ⟨_,rfl,hg,hwf.1⟩⟩
set_option maxRecDepth 100000 in
set_option maxHeartbeats 3000000 in
theorem qAr(s0 ba bt bn qn nd ln cn:Nat)(deep ok oa ob:Int)(W:World)(I:World->Prop)(G:Value->World->Prop)(Bad:Prop)(tb tq m tc:Nat)(x:Int)(Tm:Value->World->Prop)(hm4:m<=4)(kd:Int)(k1:(kd==1)=false)(k2:(kd==2)=false)(k3:(kd==3)=false)(k4:(kd==4)=false)(k5:(kd==5)=false)(x0:0<x)(x1:x<=2000000)
  (hN:NodeAt ba bt bn qn nd ln cn kd deep ok oa ob I) (h0:I W)
  (hT:∀ w,I w->w.cell? ⟨tb,tq+m,none⟩=some (.int .i64 x))
  (hLa:∀ w,I w->Calls Tryd.prog 51 #[.slice (some ⟨tb,tq,none⟩) (m+1) tc,.int .i64 (x - 1)] w fun e w'=>Go.Abs.Below w.heap.size w w'/\∃ v,e=.returned v/\Tm v w')
  (hC:∀ w v,I w->Tm v w->Calls Tryd.prog 16 #[.pointer (some ⟨ba,0,none⟩),.int .i64 (nd:Int),.int .i64 0,v] w (CPost s0 bt w I G Bad)) :
  Calls Tryd.prog 31 #[.pointer (some ⟨ba,0,none⟩),.int .i64 (nd:Int),.slice (some ⟨tb,tq,none⟩) (m+1) tc] W (GPost s0 bt W I G Bad):=by
 go_enter Tryd.func31,Tryd.ntmps31
 have n0:=hN.nodes W h0
 have n1:=hN.c0 W h0
 have n2:=hN.c1 W h0
 have n3:=hN.c2 W h0
 have n4:=hN.c3 W h0
 have n5:=hN.c4 W h0
 have nn:(nd:Int)<(ln:Int):=by have:=hN.lt;omega
 have hle:=hN.le
 have hlt:=hN.lt
 have hbt:=hN.told W h0
 replace hbt:=hid hbt
 replace hC:=hid hC
 have hI1:=hN.grow _ _ h0 (qaZ W (.cells #[.int .i64 kd,.int .i64 deep,.int .i64 ok,.int .i64 oa,.int .i64 ob] 39))
 have hf1:Fb s0 bt W _:=Fb.of (qaZ W (.cells #[.int .i64 kd,.int .i64 deep,.int .i64 ok,.int .i64 oa,.int .i64 ob] 39))
 have hx:=hT _ hI1
 replace hLa:=hid hLa
 replace hI1:=hid hI1
 replace hf1:=hid hf1
 have a1:((m+1:Nat):Int) - 1=(m:Int):=by omega
 have a2:=wrap4 m hm4
 have a4:(m:Int)<((m+1:Nat):Int):=by omega
 have a5:IntKind.i64.wrap (x - 1)=x - 1:=by rw [IntKind.wrap_i64];omega
 have a6:(0:Int)<=x - 1:=by omega
 go_wp2_with fail
 refine (hLa.out _ hI1.out).mono ?_
 rintro e w2 ⟨hx2,v,rfl,hv⟩
 have hI2:=hid (hN.grow _ _ hI1.out hx2)
 have hf2:=hid (hf1.out.trans (Fb.of hx2))
 go_wp2_with fail
 refine (hC.out _ _ hI2.out hv).mono ?_
 rintro e w2 ⟨hf,⟨r,rfl,hr,hI2⟩ | ⟨rfl,hb⟩⟩
 ·have hff:=hf2.out.trans hf
  go_wp2_with fail
  refine bodyPost_ret (v:=r) (by simp [results,Tryd.results31,go_sem]) rfl ?_
  exact⟨hff,.inl ⟨_,rfl,hr,hI2⟩⟩
 ·exact⟨rfl,hf2.out.trans hf,.inr ⟨rfl,hb⟩⟩
set_option maxRecDepth 100000 in
set_option maxHeartbeats 3000000 in
theorem qyF(s0 ba bt bn qn nd ln cn:Nat)(deep ok oa ob:Int)(W:World)(I:World->Prop)(G:Value->World->Prop)(Bad:Prop)(tb tq m tc:Nat)(hm4:m<=4)(kd:Int)(k1:(kd==1)=false)(k2:(kd==2)=false)(k3:(kd==3)=false)(k4:(kd==4)=false)(k5:(kd==5)=false)
  (hN:NodeAt ba bt bn qn nd ln cn kd deep ok oa ob I) (h0:I W)
  (hT:∀ w,I w->w.cell? ⟨tb,tq+m,none⟩=some (.int .i64 0))
  (hE:∀ w,I w->G (.map (some w.heap.size)) (w.alloc (.map #[] 0))/\I (w.alloc (.map #[] 0))) :
  Calls Tryd.prog 31 #[.pointer (some ⟨ba,0,none⟩),.int .i64 (nd:Int),.slice (some ⟨tb,tq,none⟩) (m+1) tc] W (GPost s0 bt W I G Bad):=by
 go_enter Tryd.func31,Tryd.ntmps31
 have n0:=hN.nodes W h0
 have n1:=hN.c0 W h0
 have n2:=hN.c1 W h0
 have n3:=hN.c2 W h0
 have n4:=hN.c3 W h0
 have n5:=hN.c4 W h0
 have nn:(nd:Int)<(ln:Int):=by have:=hN.lt;omega
 have hle:=hN.le
 have hlt:=hN.lt
 have hbt:=hN.told W h0
 replace hbt:=hid hbt
 have hI1:=hN.grow _ _ h0 (qaZ W (.cells #[.int .i64 kd,.int .i64 deep,.int .i64 ok,.int .i64 oa,.int .i64 ob] 39))
 have hf1:Fb s0 bt W _:=Fb.of (qaZ W (.cells #[.int .i64 kd,.int .i64 deep,.int .i64 ok,.int .i64 oa,.int .i64 ob] 39))
 have hx:=hT _ hI1
 have hEe:=hid (hE _ hI1)
 replace hE:=hid hE
 replace hI1:=hid hI1
 replace hf1:=hid hf1
 have a1:((m+1:Nat):Int) - 1=(m:Int):=by omega
 have a2:=wrap4 m hm4
 have a4:(m:Int)<((m+1:Nat):Int):=by omega
 have hmk:=qoY (W.alloc (.cells #[.int .i64 kd,.int .i64 deep,.int .i64 ok,.int .i64 oa,.int .i64 ob] 39))
 go_wp2_with fail
 refine bodyPost_ret (v:=.map (some (W.alloc (.cells #[.int .i64 kd,.int .i64 deep,.int .i64 ok,.int .i64 oa,.int .i64 ob] 39)).heap.size)) (by simp [results,Tryd.results31,go_sem]) rfl ?_
 exact⟨hf1.out.trans (Fb.of (qaZ _ _)),.inl ⟨_,rfl,hEe.out.1,hEe.out.2⟩⟩
end Go.Proofs.YtnhjpicdijeagaaDoor

namespace Go.Proofs.YtnhjpicdijeagaaDoor
open Go.RowKit
structure FeedsAt (af:Option Addr) (ba bf qf lf cf tb tq nd:Nat) (t0:Int) (fnd fep:Nat->Int) (fr:Nat->Value) (I:World->Prop) (J:Nat->Nat->World->Prop):Prop where
 fee:∀ w,I w->w.cell? ⟨ba,3,none⟩=some (.slice af lf cf)
 adr:0<lf->af=some ⟨bf,qf,none⟩
 cel:∀ w bb k,J bb k w->k<lf->w.cell? ⟨bf,qf+k*3,none⟩=some (.int .i64 (fnd k))/\w.cell? ⟨bf,qf+k*3+1,none⟩=some (.int .i64 (fep k))/\w.cell? ⟨bf,qf+k*3+2,none⟩=some (fr k)
 row:∀ k,k<lf->∃ a n c,fr k=.slice a n c
 tim:∀ w bb k,J bb k w->w.cell? ⟨tb,tq,none⟩=some (.int .i64 t0)
 grow:∀ w w' bb k,J bb k w->Go.Abs.Below w.heap.size w w'->J bb k w'
 skip:∀ w bb k,J bb k w->k<lf->¬ (fnd k=(nd:Int)/\fep k<=t0)->J bb (k+1) w
 pour:∀ w bb k,J bb k w->k<lf->fnd k=(nd:Int)->fep k<=t0->Calls Tryd.prog 44 #[.map (some bb),fr k,.int .i64 1] w fun e w'=>e=.returned (.tuple #[])/\J bb (k+1) w'
 nil:∀ w,I w->J w.heap.size 0 (w.alloc (.map #[] 0))
 le:lf<=1000000
set_option maxRecDepth 100000 in
set_option maxHeartbeats 3000000 in
theorem qyE(s0 ba bt bn qn nd ln cn:Nat)(deep ok oa ob:Int)(W:World)(I:World->Prop)(G:Value->World->Prop)(Bad:Prop)(tb tq m tc:Nat)(af:Option Addr)(bf qf lf cf:Nat)(t0:Int)(fnd fep:Nat->Int)(fr:Nat->Value)(J:Nat->Nat->World->Prop)
  (hN:NodeAt ba bt bn qn nd ln cn 1 deep ok oa ob I) (h0:I W) (hF:FeedsAt af ba bf qf lf cf tb tq nd t0 fnd fep fr I J)
  (hP:∀ w bb,J bb lf w->Fb s0 bt W w/\G (.map (some bb)) w/\I w) :
  Calls Tryd.prog 31 #[.pointer (some ⟨ba,0,none⟩),.int .i64 (nd:Int),.slice (some ⟨tb,tq,none⟩) (m+1) tc] W (GPost s0 bt W I G Bad):=by
 go_enter Tryd.func31,Tryd.ntmps31
 have n0:=hN.nodes W h0
 have n1:=hN.c0 W h0
 have n2:=hN.c1 W h0
 have n3:=hN.c2 W h0
 have n4:=hN.c3 W h0
 have n5:=hN.c4 W h0
 have nn:(nd:Int)<(ln:Int):=by have:=hN.lt;omega
 have hle:=hN.le
 have hlt:=hN.lt
 have hbt:=hN.told W h0
 replace hbt:=hid hbt
 have hI1:=hN.grow _ _ h0 (qaZ W (.cells #[.int .i64 1,.int .i64 deep,.int .i64 ok,.int .i64 oa,.int .i64 ob] 39))
 have hfe:=hF.fee _ hI1
 have hmk:=qoY (W.alloc (.cells #[.int .i64 1,.int .i64 deep,.int .i64 ok,.int .i64 oa,.int .i64 ob] 39))
 have hJ:=hid (hF.nil _ hI1)
 have hfe':=(qaZ _ (.map #[] 0)).keepsC hfe
 have hlf:=hF.le
 replace hI1:=hid hI1
 replace hP:=hid hP
 go_wp2_with fail
 go_loopw [31] (fun p wr=>∃ k:Nat,p=.int .i64 (k:Int)/\k<=lf/\J (W.alloc (.cells #[.int .i64 1,.int .i64 deep,.int .i64 ok,.int .i64 oa,.int .i64 ob] 39)).heap.size k wr) (fun p _=>lf - (intOf p).toNat)
 case atStart=>exact⟨0,rfl,Nat.zero_le _,hJ.out⟩
 case round=>
  obtain⟨k,rfl,hk,hJk⟩:=hrel
  have hbb:∃ bb,bb=(W.alloc (.cells #[.int .i64 1,.int .i64 deep,.int .i64 ok,.int .i64 oa,.int .i64 ob] 39)).heap.size:=⟨_,rfl⟩
  obtain⟨bb,hbb⟩:=hbb
  rw [<- hbb] at hJk
  have hbb2:W.heap.size+1=bb:=by rw [hbb];simp
  replace hbb2:=hid hbb2
  replace hbb:=hid hbb
  by_cases hend:k=lf
  ·obtain⟨hfb,hg,hii⟩:=hP.out _ _ (hend▸hJk)
   have hlt2:((k:Int)<(lf:Int))=False:=by simp [hend]
   replace hg:=hid hg
   replace hii:=hid hii
   replace hend:=hid hend
   clear hmk hfe hfe'
   go_wp2_with fail
   refine bodyPost_ret (v:=.map (some bb)) (by simp [results,Tryd.results31,go_sem,hbb.out]) rfl ?_
   exact⟨hfb,.inl ⟨_,rfl,hg.out,hii.out⟩⟩
  ·have hlt2:(k:Int)<(lf:Int):=by omega
   have hklt:k<lf:=by omega
   obtain rfl:=hF.adr (by omega)
   obtain⟨e1,e2,e3⟩:=hF.cel _ _ k hJk hklt
   have e4:=hF.tim _ _ _ hJk
   obtain⟨ra,rn,rc,hfr⟩:=hF.row k hklt
   rw [hfr] at e3
   have hgr:∀ n,J bb k ((wr.alloc (.cells #[.int .i64 (fnd k),.int .i64 (fep k),.slice ra rn rc] 43)).drewN n):=fun n=>hF.grow _ _ _ _ (hF.grow _ _ _ _ hJk (qaZ _ _)) (qEe _ n)
   have e5:=(qaZ wr (.cells #[.int .i64 (fnd k),.int .i64 (fep k),.slice ra rn rc] 43)).keepsC e4
   replace hend:=hid hend
   replace hJk:=hid hJk
   replace hfr:=hid hfr
   clear hmk hfe hfe'
   have hm1:(0:Int)<((m+1:Nat):Int):=by omega
   replace hgr:=hid hgr
   by_cases hx:fnd k=(nd:Int)
   ·by_cases hy:fep k<=t0
    ·have hd1:(fnd k==(nd:Int))=true:=by simp [hx]
     have hd2:decide (fep k<=t0)=true:=by simp [hy]
     replace hx:=hid hx
     clear n0 n1 n2 n3 n4 n5
     go_wp2_with fail
     go_quiet (fail)
     go_wp2_with fail
     have hpo:=hF.pour _ _ _ (hgr.out nq) hklt hx.out hy
     rw [hfr.out,<- hbb2.out] at hpo
     refine hpo.mono ?_
     rintro e w2 ⟨rfl,hJ2⟩
     replace hJ2:=hid hJ2
     clear hpo
     go_wp2_with fail
     go_roundw
     case rel=>exact⟨k+1,by simp,by omega,by rw [<- hbb.out,<- hbb2.out];exact hJ2.out⟩
     case measure=>simp [intOf];omega
    ·have hd1:(fnd k==(nd:Int))=true:=by simp [hx]
     have hd2:decide (fep k<=t0)=false:=by simp [hy]
     have hJ2:∀ n,J bb (k+1) ((wr.alloc (.cells #[.int .i64 (fnd k),.int .i64 (fep k),.slice ra rn rc] 43)).drewN n):=fun n=>hF.skip _ _ _ (hgr.out n) hklt fun h=>hy h.2
     replace hJ2:=hid hJ2
     replace hx:=hid hx
     clear n0 n1 n2 n3 n4 n5
     go_wp2_with fail
     go_quiet (fail)
     go_wp2_with fail
     go_roundw
     case rel=>exact⟨k+1,by simp,by omega,by rw [<- hbb.out];exact hJ2.out _⟩
     case measure=>simp [intOf];omega
   ·have hd1:(fnd k==(nd:Int))=false:=by simp [hx]
    have hJ2:∀ n,J bb (k+1) ((wr.alloc (.cells #[.int .i64 (fnd k),.int .i64 (fep k),.slice ra rn rc] 43)).drewN n):=fun n=>hF.skip _ _ _ (hgr.out n) hklt fun h=>hx h.1
    replace hJ2:=hid hJ2
    replace hx:=hid hx
    clear n0 n1 n2 n3 n4 n5
    go_wp2_with fail
    go_quiet (fail)
    go_wp2_with fail
    go_roundw
    case rel=>exact⟨k+1,by simp,by omega,by rw [<- hbb.out];exact hJ2.out _⟩
    case measure=>simp [intOf];omega
end Go.Proofs.YtnhjpicdijeagaaDoor
