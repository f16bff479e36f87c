import Derived.Test.YtnieamciihdfpaaGreatHisC
import Derived.Test.YtnieamciihdfpaaGreatHisU
namespace Go.Proofs.YtnieamciihdfpaaGreat
open Go.Abs Go.Bag Go.His
theorem BOk.len_le {f : Key → Int} {b : Bg} (h : BOk f b) (K : List Row) (hK : ∀ z, (∀ r ∈ K, ky r ≠ z) → Cg (f z) 0) : b.2.length ≤ K.length := by
 have := keys_le K.length K (Nat.le_refl _) (b.2.map fun e => e.2.1) h.ok.keys fun z hz => by
  obtain ⟨e, he, rfl⟩ := List.mem_map.1 hz
  refine Classical.byContradiction fun hno => ?_
  have h0 := hK e.2.1 fun s hs e1 => hno ⟨s, hs, e1⟩
  have h1 := (mem_get (k := kS) (v := vS) kSn h.ok he).2
  have h2 := h.val e.2.1
  rw [h1, w_eq h0, w_zero] at h2
  exact h.nz e he h2
 simpa using this
theorem sumE_le {k v : Sh} (f : v.den → Nat) (c : Nat) : ∀ {es : Ents k v}, (∀ e ∈ es, f e.2.2 ≤ c) → sumE (k := k) (v := v) f es ≤ c * es.length
 | [], _ => Nat.le_refl _
 | e :: es, h => by
  have h1 := h e (by simp)
  have h2 := sumE_le (k := k) f c (es := es) fun x hx => h x (by simp [hx])
  simp only [sumE, List.map_cons, List.sum_cons, List.length_cons] at h2 ⊢
  rw [Nat.mul_add]
  omega
theorem mov_cmp {N : Nat} (hN : 1000 ≤ N) {p q : Df} (h : p.1.length ≤ 4) : D_diffs_Moves_c1 N (p, q, ()) = some (lexc p.1 q.1, ()) := by
 simp only [D_diffs_Moves_c1, diffs_Moves_c1_1, lexC_eq h hN, Option.bind_some]
theorem cloneD_eq {N : Nat} {a : List Df} (h : a.length ≤ 1000000) : D_slices_Clone_Lapi_Diff_api_Diff N (a, ()) = some a := by
 simp only [D_slices_Clone_Lapi_Diff_api_Diff, slices_Clone_Lapi_Diff_api_Diff_1]
 rw [d_true (by simp; omega)]
 cases a with
 | nil => simp [dem2]; rfl
 | cons x xs => simp; rfl
structure MInv (K : List Row) (ys : List Df) (i : Nat) (out : Hy) (hF : List Df) : Prop where
 tm : hF.map Prod.fst = (ys.take i).map Prod.fst
 ok : HyOk (fun t => amt (rowsAt hF t)) out
 st : ∀ e ∈ ys.take i, ∀ z, Cg (amt (stL hF e.1) z) (amt e.2 z)
 sup : ∀ t z, (∀ r ∈ K, ky r ≠ z) → Cg (amt (rowsAt hF t) z) 0
 len : out.2.length ≤ i
 has : ∀ e ∈ ys.take i, mpHas kT vT out (tkey e.1) = true
theorem rowsAt_snoc (h : List Df) (d : Df) (t : List Int) : rowsAt (h ++ [d]) t = rowsAt h t ++ if d.1 = t then d.2 else [] := by
 unfold rowsAt; rw [sel_snoc]; simp
theorem row_le {s : List Df} {e : Df} (he : e ∈ s) : e.2.length ≤ (s.flatMap Prod.snd).length := by
 induction s with
 | nil => cases he
 | cons c s ih =>
  rw [List.flatMap_cons, List.length_append]
  rcases List.mem_cons.1 he with rfl | he
  ·omega
  ·have := ih he; omega
structure MovOf (s hF : List Df) : Prop where
 tm : ∀ t, (∃ e ∈ hF, e.1 = t) ↔ ∃ e ∈ s, e.1 = t
 st : ∀ e ∈ s, ∀ z, Cg (amt (stL hF e.1) z) (amt e.2 z)
end Go.Proofs.YtnieamciihdfpaaGreat
