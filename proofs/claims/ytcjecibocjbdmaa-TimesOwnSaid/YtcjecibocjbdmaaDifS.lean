import Derived.Test.YtcjecibocjbdmaaTimA
namespace Go.Proofs.Ytcjecibocjbdmaa
open Go.Abs Go.Bag
abbrev Df:=List Int×List Row
def cntR(h:List Df):Nat:=(h.map fun d=>d.2.length).sum
structure HOk (h:List Df) (t:List Int):Prop where
 len:h.length<=64
 rows:cntR h<=128
 tt:tok t=true
 tok:∀ d∈h,tok d.1=true
 one:∀ d∈h,d.1.length=t.length
end Go.Proofs.Ytcjecibocjbdmaa
