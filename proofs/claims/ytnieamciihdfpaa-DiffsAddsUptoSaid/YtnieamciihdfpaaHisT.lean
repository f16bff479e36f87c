/- Histories: as they are told; what is the same; how many in all. -/
import Derived.Test.YtnieamciihdfpaaHisS
namespace Go.Proofs.Ytnieamciihdfpaa
open Go.Abs Go.Bag Go.His
/-- A history that may be. -/
structure HOkk (h : List Df) : Prop where
  len : h.length ≤ 64
  rows : cntR h ≤ 128
  tl : TL (h.map Prod.fst)
theorem HOkk.tok {h : List Df} (H : HOkk h) {d : Df} (hd : d ∈ h) : tok d.1 = true := H.tl.tok _ (List.mem_map.2 ⟨d, hd, rfl⟩)
theorem HOkk.one {h : List Df} (H : HOkk h) {d e : Df} (hd : d ∈ h) (he : e ∈ h) : d.1.length = e.1.length := H.tl.eqL (List.mem_map.2 ⟨d, hd, rfl⟩) (List.mem_map.2 ⟨e, he, rfl⟩)
theorem HOkk.row {g : List Df} (G : HOkk g) {d : Df} (hd : d ∈ g) : d.2.length ≤ 128 := by
  have key : ∀ g : List Df, d ∈ g → d.2.length ≤ cntR g := fun g => by
    unfold cntR
    induction g with
    | nil => intro h; cases h
    | cons c g ih =>
      intro h
      simp only [List.map_cons, List.sum_cons]
      rcases List.mem_cons.1 h with rfl | h
      · omega
      · have := ih h; omega
  have := key g hd
  have := G.rows
  omega
/-- What is told of a history that may be, may be. -/
theorem HOkk.of {k l : List Df} (H : HOkk k) (ht : ∀ d ∈ l, ∃ e ∈ k, e.1 = d.1) (hl : l.length ≤ 64) (hr : cntR l ≤ 128) : HOkk l := by
  refine ⟨hl, hr, ⟨by rw [List.length_map]; omega, fun t h => ?_, fun t h => ?_⟩⟩
  · obtain ⟨d, hd, rfl⟩ := List.mem_map.1 h
    obtain ⟨e, he, he1⟩ := ht d hd
    rw [← he1]; exact H.tok he
  · obtain ⟨d, hd, rfl⟩ := List.mem_map.1 h
    have h0 : 0 < l.length := List.length_pos_of_mem hd
    have hm := nth_mem (z := ([] : List Int)) (xs := l.map Prod.fst) (i := 0) (by simpa using h0)
    obtain ⟨d0, hd0, e0⟩ := List.mem_map.1 hm
    rw [← e0]
    obtain ⟨e, he, he1⟩ := ht d hd
    obtain ⟨f, hf, hf1⟩ := ht d0 hd0
    rw [← he1, ← hf1]
    exact H.one he hf
end Go.Proofs.Ytnieamciihdfpaa
