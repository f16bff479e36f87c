/- Histories: what stands, in all; one behind the other. -/
import Derived.Test.YtnieamciihdfpaaGreatHisU
namespace Go.Proofs.YtnieamciihdfpaaGreat
open Go.Abs Go.Bag Go.His
theorem isbag_self {F : Key → Int} {a : List Row} (h : IsBag F a) : IsBag (amt a) a := ⟨h.rise, h.nz, fun e => by rw [h.val, w_idem]⟩
end Go.Proofs.YtnieamciihdfpaaGreat
