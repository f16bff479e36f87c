/- A summary among the arguments, in this claim's own words. -/
import Derived.Test.YtjfpglmmhikhbaaOpen
import Derived.Test.YtjfpglmmhikhbaaSummary
import Derived.Lib.SmallJoins
namespace Go.Proofs.Ytjfpglmmhikhbaa
open Go.RowKit Go.ChangeShapes Go.WideShapes Go.ChangeAt Go.Joins
theorem SumAt.agg {w : World} {k a : Int} {pv : Value} {xs : List Int} (h : Ints w pv xs) : SumAt w (.agg #[.int .i64 k, .int .i64 a, pv]) ⟨k, a, xs⟩ := ⟨pv, rfl, h⟩
theorem SumAt.agg' {w : World} {s : Sm} {pv : Value} (h : Ints w pv s.push) : SumAt w (.agg #[.int .i64 s.keep, .int .i64 s.add, pv]) s := ⟨pv, rfl, h⟩

theorem own_sl {w : World} {base : Nat} {v : Value} {xs : List Int} (h : Own w base v xs) : ∃ a c, v = .slice a xs.length c := by
  rcases h.2 with ⟨rfl, hn⟩ | ⟨g, cap, cur, rfl, _⟩
  · exact ⟨none, 0, by rw [hn]⟩
  · exact ⟨_, _, rfl⟩
def InSummary (W : World) (v : Value) : Prop := ∃ s, SumAt W v s ∧ wfI s.keep ∧ wfI s.add ∧ ∀ x, x ∈ s.push → wfI x
theorem cellsSum : Try.prog.cellsOf 32 = 3 := by kernel_rfl
theorem open_summary_k {H : Type} {enc : TypeId × Value → H} {W : World} {base : Nat} {v : Value} {d : DataW H} {p : List MemPlace}
    (hv : Value.okWide Try.prog W .any base 32 v) (h : DataW.Trod enc Try.prog W 0 (fun _ => true) true 32 v d p) : InSummary W v := by
  obtain ⟨c0, c1, c2, y0, y1, y2, m, rfl, rfl, rfl, hy0, hy1, hy2⟩ := open_agg3 Try.underlying32 (by kernel_rfl) cellsSum hv h
  obtain ⟨k, e0, rfl, wk⟩ := DataW.trod_int Try.underlying3 hy0
  obtain ⟨a, e1, rfl, wa⟩ := DataW.trod_int Try.underlying3 hy1
  obtain ⟨xs, hx, wx⟩ := ints_of_trod Try.underlying26 Try.underlying3 cellsInt hy2
  simp at e0 e1
  subst e0; subst e1
  exact ⟨⟨k, a, xs⟩, ⟨c2, rfl, hx⟩, wfI_of wk, wfI_of wa, wx⟩
end Go.Proofs.Ytjfpglmmhikhbaa
