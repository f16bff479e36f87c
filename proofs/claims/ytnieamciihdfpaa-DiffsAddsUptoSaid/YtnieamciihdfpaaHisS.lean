/- Histories: what the program's functions come to. -/
import Derived.Test.YtnieamciihdfpaaHisA
import Derived.Test.YtnieamciihdfpaaHisP
namespace Go.Proofs.Ytnieamciihdfpaa
open Go.Abs Go.Bag Go.His
abbrev kT : Sh := .pair (.int .i64) (.pair (.int .i64) (.pair (.int .i64) (.pair (.int .i64) (.int .i64))))
abbrev vT : Sh := .pair (.int .i64) (.sl (.pair (.int .i64) (.pair (.pair (.int .i64) (.int .i64)) (.int .i64))))
abbrev KT : Type := Int × Int × Int × Int × Int
abbrev Hy : Type := Int × List (Int × KT × Bg)
abbrev kTn : noSl kT = true := rfl
/-- A time as a key, and back. -/
def tkey (t : List Int) : KT := ((t.length : Int), nth 0 (cpy [0, 0, 0, 0] t) 0, nth 0 (cpy [0, 0, 0, 0] t) 1, nth 0 (cpy [0, 0, 0, 0] t) 2, nth 0 (cpy [0, 0, 0, 0] t) 3)
def ktime (x : KT) : List Int := [x.2.1, x.2.2.1, x.2.2.2.1, x.2.2.2.2].take x.1.toNat
theorem ktime_tkey {t : List Int} (h : t.length ≤ 4) : ktime (tkey t) = t := by
  match t, h with
  | [], _ => rfl
  | [_], _ => rfl
  | [_, _], _ => rfl
  | [_, _, _], _ => rfl
  | [_, _, _, _], _ => rfl
  | _ :: _ :: _ :: _ :: _ :: _, h => simp at h
/-- A history that may be. -/
structure HyOk (G : List Int → Key → Int) (d : Hy) : Prop where
  ok : MpOk kT vT d
  key : ∀ e ∈ d.2, ∃ t : List Int, t.length ≤ 4 ∧ e.2.1 = tkey t
  bag : ∀ e ∈ d.2, BOk (G (ktime e.2.1)) e.2.2
  off : ∀ t, (∀ e ∈ d.2, ktime e.2.1 ≠ t) → ∀ z, Cg (G t z) 0
theorem HyOk.empty : HyOk (fun _ _ => 0) ((0 : Int), []) := ⟨MpOk.empty, fun e h => (by cases h), fun e h => (by cases h), fun _ _ _ => Cg.rfl⟩
theorem HyOk.cg {G G' : List Int → Key → Int} {d : Hy} (h : HyOk G d) (hg : ∀ t z, Cg (G t z) (G' t z)) : HyOk G' d :=
  ⟨h.ok, h.key, fun e he => (h.bag e he).cg (hg _), fun t ht z => (hg t z).symm.trans (h.off t ht z)⟩
theorem HyOk.kt {G : List Int → Key → Int} {d : Hy} (h : HyOk G d) {e : Int × KT × Bg} (he : e ∈ d.2) : (ktime e.2.1).length ≤ 4 ∧ e.2.1 = tkey (ktime e.2.1) := by
  obtain ⟨t, h1, h2⟩ := h.key e he
  rw [h2, ktime_tkey h1]
  exact ⟨h1, rfl⟩
/-- What stands at a key. -/
theorem HyOk.get {G : List Int → Key → Int} {d : Hy} (h : HyOk G d) {t : List Int} (ht : t.length ≤ 4) (q : mpHas kT vT d (tkey t) = true) : BOk (G t) (mpGet kT vT d (tkey t)) := by
  obtain ⟨e, e1, e2, e3⟩ := has_mem (k := kT) (v := vT) q
  have e2' : e.2.1 = tkey t := e2
  have := h.bag e e1
  rw [e2', ktime_tkey ht] at this
  rw [← e3]; exact this
theorem HyOk.no {G : List Int → Key → Int} {d : Hy} (h : HyOk G d) {t : List Int} (q : mpHas kT vT d (tkey t) = false) : ∀ z, Cg (G t z) 0 := by
  refine h.off t fun e he e1 => ?_
  have := (mem_get (k := kT) (v := vT) kTn h.ok he).1
  have e2 : e.2.1 = tkey t := by rw [(h.kt he).2, e1]
  rw [show (e.2.1 : kT.den) = tkey t from e2, q] at this
  cases this
theorem put_mem {G : List Int → Key → Int} {d : Hy} (h : HyOk G d) (x : KT) (b : Bg) {e : Int × KT × Bg} (he : e ∈ (mpPut kT vT d x b).2) : (e.2.1 = x ∧ e.2.2 = b) ∨ (e.2.1 ≠ x ∧ ∃ f ∈ d.2, f.2.1 = e.2.1 ∧ f.2.2 = e.2.2) := by
  obtain ⟨g1, g2⟩ := mem_get (k := kT) (v := vT) kTn (h.ok.put kTn x b) he
  by_cases q : e.2.1 = x
  · refine .inl ⟨q, ?_⟩
    rw [show (e.2.1 : kT.den) = x from q, mput_get (k := kT) (v := vT) kTn] at g2
    exact g2.symm
  · refine .inr ⟨q, ?_⟩
    rw [mput_has_ne (k := kT) (v := vT) kTn d q] at g1
    rw [mput_get_ne (k := kT) (v := vT) kTn d q] at g2
    obtain ⟨f, f1, f2, f3⟩ := has_mem (k := kT) (v := vT) g1
    exact ⟨f, f1, f2, f3.trans g2⟩
theorem HyOk.put {G G' : List Int → Key → Int} {d : Hy} (h : HyOk G d) {t : List Int} (ht : t.length ≤ 4) {b : Bg} (hb : BOk (G' t) b) (hne : ∀ u, u ≠ t → ∀ z, Cg (G u z) (G' u z)) : HyOk G' (mpPut kT vT d (tkey t) b) := by
  refine ⟨h.ok.put kTn _ _, fun e he => ?_, fun e he => ?_, fun u hu z => ?_⟩
  · rcases put_mem h (tkey t) b he with ⟨h1, -⟩ | ⟨-, f, f1, f2, -⟩
    · exact ⟨t, ht, h1⟩
    · rw [← f2]; exact h.key f f1
  · rcases put_mem h (tkey t) b he with ⟨h1, h2⟩ | ⟨h1, f, f1, f2, f3⟩
    · rw [h1, h2, ktime_tkey ht]; exact hb
    · rw [← f2, ← f3]
      refine (h.bag f f1).cg (hne _ fun e1 => h1 ?_)
      rw [← f2, (h.kt f1).2, e1]
  · obtain ⟨x, x1, x2, -⟩ := has_mem (k := kT) (v := vT) (mput_has (k := kT) (v := vT) kTn d (tkey t) b)
    have hut : u ≠ t := fun e => hu x x1 (by rw [show x.2.1 = tkey t from x2, ktime_tkey ht, e])
    refine (hne u hut z).symm.trans (h.off u (fun e he e1 => ?_) z)
    have hk : e.2.1 ≠ tkey t := fun e2 => hut (by rw [← e1, e2, ktime_tkey ht])
    have g1 := (mem_get (k := kT) (v := vT) kTn h.ok he).1
    rw [← mput_has_ne (k := kT) (v := vT) kTn d hk b] at g1
    obtain ⟨f, f1, f2, -⟩ := has_mem (k := kT) (v := vT) g1
    exact hu f f1 (by rw [show f.2.1 = e.2.1 from f2]; exact e1)
/-! ### A history as it is told -/
end Go.Proofs.Ytnieamciihdfpaa
