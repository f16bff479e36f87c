/- What an argument that can be read is, in this claim's own words. -/
import Derived.Test.YtjfpglmmhikhbaaRows
import Derived.Test.YtjfpglmmhikhbaaBase
import Derived.ProofKit
import Derived.SizedLaws
import Derived.OpenShut
namespace Go.Proofs.Ytjfpglmmhikhbaa
open Go.RowKit Go.ChangeShapes Go.WideShapes Go.ChangeAt

theorem own : ownKnob Try.prog.godebug = none := by kernel_rfl
theorem laidOut : laidOutB Try.prog = true := by kernel_rfl

def wfI (x : Int) : Prop := -9223372036854775808 ≤ x ∧ x ≤ 9223372036854775807
theorem wfI_of {x : Int} (h : (Lit.int .i64 x).wf = true) : wfI x := by
  have h1 : IntKind.i64.min = -9223372036854775808 := rfl
  have h2 : IntKind.i64.max = 9223372036854775807 := rfl
  simp only [Lit.wf, Bool.and_eq_true, decide_eq_true_eq] at h
  unfold wfI
  omega

section
variable {H : Type} {enc : TypeId × Value → H} {W : World} {base : Nat} {v : Value} {d : DataW H} {p : List MemPlace}

def InInt (_ : World) (v : Value) : Prop := ∃ x, v = .int .i64 x ∧ wfI x
theorem open_int_k {t : TypeId} (ht : Try.prog.underlying t = some (.int .i64)) (hv : Value.okWide Try.prog W .any base t v) (h : DataW.Trod enc Try.prog W 0 (fun _ => true) true t v d p) : InInt W v := by
  obtain ⟨x, rfl, rfl, rfl, w⟩ := open_int ht hv h
  exact ⟨x, rfl, wfI_of w⟩

def InInts (W : World) (v : Value) : Prop := ∃ xs, Ints W v xs ∧ ∀ x, x ∈ xs → wfI x
theorem cellsInt : Try.prog.cellsOf 3 = 1 := by kernel_rfl
/-- A slice of whole numbers of 64 bits: whichever its and its element's type. -/
theorem ints_of_trod {t e : TypeId} {fuel : Nat} {y : DataW H × List MemPlace} (ht : Try.prog.underlying t = some (.slice e)) (he : Try.prog.underlying e = some (.int .i64)) (hc1 : Try.prog.cellsOf e = 1)
    (hf : DataW.trod enc Try.prog W 0 (fun _ => true) true fuel t [v] = some y) : InInts W v := by
  rcases open_ints ht he hc1 hf with ⟨hcs, -⟩ | ⟨a, len, cap, zs, hcs, _, hl, hm, hz, hx, hcell, hwz⟩
  · simp at hcs
    subst hcs
    exact ⟨[], Rd.nil, fun x hx => by cases hx⟩
  · simp at hcs
    subst hcs
    simp only [if_true] at hz
    have hlen : (zs.take len).length = len := by simp; omega
    have hcell0 : ∀ i, i < len → W.cell? (a.add i) = some (.int .i64 (nth (zs.take len) i)) := fun i hi => by
      rw [hcell i (by omega), nth_take zs len i hi]; rfl
    refine ⟨zs.take len, ⟨some a, cap, by rw [hlen], ?_, (fun e => by cases e), ?_, fun b off e i hi => ?_⟩, fun x hx => wfI_of (hwz x (List.mem_of_mem_take hx))⟩
    · rw [hlen]; unfold maxLen at hm; exact ⟨hl, by omega⟩
    · by_cases h0 : len = 0
      · exact .inl (by rw [hlen]; exact h0)
      · have := hcell0 0 (by omega)
        unfold Addr.add at this
        simp only [if_true] at this
        have hs : a.spot = none := by
          unfold World.cell? at this
          split at this
          · split at this
            · cases this
            · rename_i hsp; simpa using hsp
          · cases this
        exact .inr ⟨a.block, a.off, by cases a; simp_all⟩
    · cases e
      have := hcell0 i (by omega)
      unfold Addr.add at this
      split at this
      · rename_i hz; subst hz; simpa using this
      · exact this
theorem open_ints_k {t e : TypeId} (ht : Try.prog.underlying t = some (.slice e)) (he : Try.prog.underlying e = some (.int .i64)) (hc1 : Try.prog.cellsOf e = 1)
    (hv : Value.okWide Try.prog W .any base t v) (h : DataW.Trod enc Try.prog W 0 (fun _ => true) true t v d p) : InInts W v := by
  obtain ⟨a0, len, cap, rfl⟩ := okWide_slice ht hv
  obtain ⟨fuel, hf⟩ := h
  exact ints_of_trod ht he hc1 (by simpa [Value.cells] using hf)
end
end Go.Proofs.Ytjfpglmmhikhbaa
