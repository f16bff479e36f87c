import Derived.Test.YtnhjpicdijeagaaDoorFrame
import Derived.Deep.DeepHandedRow
import Derived.Deep.DeepWitnessRowRef
import Derived.JoinedCond
namespace Go.Proofs.YtnhjpicdijeagaaDoor
open Go Go.ChangeShapes Go.WideShapes Go.ChangeAt Go.WideMaps Go.WideElems Go.RowKit Go.Abs Go.Deep
theorem qCD{H:Type}(d:DataW H):1<=Rows.uptoBulk d:=by
 cases d with
 | lit l=>cases l <;> simp [Rows.uptoBulk]
 | nil=>simp [Rows.uptoBulk]
 | ptr d=>simp [Rows.uptoBulk]
 | slice elems spare=>simp [Rows.uptoBulk]
 | agg parts=>simp [Rows.uptoBulk]
 | iface t d=>simp [Rows.uptoBulk]
 | map entries=>simp [Rows.uptoBulk]
 | held h=>simp [Rows.uptoBulk]
theorem qCE{H:Type}(l:List (DataW H)):l.length<=Rows.uptoBulkAll l:=by
 induction l with
 | nil=>simp [Rows.uptoBulkAll]
 | cons x r ih=>have:=qCD x;simp only [Rows.uptoBulkAll,List.length_cons];omega
theorem qCC{H:Type}{enc:TypeId×Value->H}{w:World}{spare:Nat->Bool}{held:Bool}{t e:TypeId}{fuel k cap:Nat}{a:Option Addr}{y:DataW H×List MemPlace}(ht:Tryd.prog.underlying t=some (.slice e))
  (hf:DataW.trod enc Tryd.prog w 0 spare held fuel t [.slice a k cap]=some y):k<=Rows.uptoBulk y.1:=by
 rcases open_slice ht hf with⟨h1,_⟩ | ⟨a',len,cap',m,n',D,Pl,h1,hb,hl,hm,hmm,h2,hx⟩
 ·simp only [zz,Value.slice.injEq,and_true] at h1
  rw [h1.2.1];exact zAE _
 ·simp only [zz,Value.slice.injEq,and_true] at h1
  obtain⟨-,hlen,-⟩:=h1
  have h3:y.1=(.slice ((List.range len).map D) ((List.range (m - len)).map fun j=>D (len+j))):=by rw [h2]
  have h4:=qCE ((List.range len).map D)
  rw [zAS,zBN] at h4
  rw [h3]
  simp only [Rows.uptoBulk]
  omega
theorem qtt{H:Type}{enc:TypeId×Value->H}{w:World}{spare:Nat->Bool}{held:Bool}{t e:TypeId}{s:Sh}{xs:List s.den}{v:Value}{d:DataW H}{ps:List MemPlace}(ht:Tryd.prog.underlying t=some (.slice e))(hg:RV w (fun _=>False) [] σ0 ((Kd.dat (.sl s)).val xs) v)
  (hd:DataW.Trod enc Tryd.prog w 0 spare held t v d ps):xs.length<=Rows.uptoBulk d:=by
 obtain⟨fuel,hf⟩:=hd
 have hg:RV w (fun _=>False) [] σ0 (.sl s xs) v:=hg
 simp only [RV,RC] at hg
 obtain⟨a,cap,hv,_⟩:=hg
 obtain rfl:v=.slice a xs.length cap:=by simpa using hv
 simp only [Value.cells] at hf
 exact qCC (y:=(d,ps)) ht hf
end Go.Proofs.YtnhjpicdijeagaaDoor
