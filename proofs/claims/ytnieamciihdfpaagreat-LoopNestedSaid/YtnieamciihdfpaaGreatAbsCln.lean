import Derived.Test.YtnieamciihdfpaaGreatAbsFrag
import Derived.Shelf.SlMaps.Clone
namespace Go.Abs
open Go.RowKit
def mkCl (f : Nat) : Ent :=
 { f := f, run := fun args h => match args with
  | [.ptr o _] => (match getO h o with
   | .oth _ q d => bif q.it || q.un then none else some { α := Unit, r := some (), v := fun _ => .ptr h.length 1000000, h := some fun _ h => h ++ [.oth false q d] }
   | _ => none)
  | _ => none }
theorem mkCl_run {f : Nat} {args : List V} {H : List O} {p : Pkg} (hp : (mkCl f).run args H = some p) :
  ∃ o off fz q d, args = [.ptr o off] ∧ getO H o = .oth fz q d ∧ (q.it = false ∧ q.un = false) ∧ p = { α := Unit, r := some (), v := fun _ => .ptr H.length 1000000, h := some fun _ h => h ++ [.oth false q d] } := by
 simp only [mkCl] at hp
 split at hp
 ·rename_i o off
  split at hp
  ·rename_i fz q d e
   cases hq : q.it with
   | true => rw [hq] at hp; cases hp
   | false =>
    cases hu : q.un with
    | true => rw [hq, hu] at hp; cases hp
    | false => rw [hq, hu] at hp; cases hp; exact ⟨_, _, _, _, _, rfl, e, ⟨hq, hu⟩, rfl⟩
  ·cases hp
 ·cases hp
section
variable {P : Program} {gs : List (Nat × List Value)}
theorem entCl {ρ : Go.Shelf.Ren} (L : Go.Proofs.SlLaysW.n5 P ρ) (hb : HasBody P (ρ.f 5)) : EntOk P gs (mkCl (ρ.f 5)) where
 fn := fun _ _ _ _ => hb
 rd := fun args h hm p y hsub hp hh => by
  obtain ⟨o, off, fz, q, d, rfl, e, hq, rfl⟩ := mkCl_run hp
  cases hh
 wr := fun args h p u ys hp hu hr w0 A M0 w σ hgl R vs hv => by
  obtain ⟨o, off, fz, q, d, rfl, e, ⟨hq, hun⟩, rfl⟩ := mkCl_run hp
  cases hu
  simp only at hr ys ⊢
  simp only [RVs, RV] at hv
  obtain ⟨v1, _, rfl, ⟨b, hb1, hb2⟩, rfl⟩ := hv
  have ro := R.obj o
  rw [e] at ro hb2
  obtain ⟨rq, -⟩ := ro
  obtain ⟨-, hv1⟩ := hb2
  rw [hq] at hv1
  simp only [cond_false] at hv1
  subst hv1
  replace rq := rq.q hun
  unfold RQ at rq
  rw [hq] at rq
  obtain ⟨b', es, clock, e1, e2, e3, e4, e5, e6⟩ := rq
  rw [hb1] at e1
  cases e1
  refine (Go.Proofs.AnyW.maps_Clone L b es clock w e2).mono ?_
  rintro e' w' ⟨rfl, rfl⟩
  have hH : getO (h ++ [O.oth false q d]) h.length = .oth false q d := by rw [getO_append, if_pos rfl]
  have nx : Next w0 A M0 w h σ (w.alloc (.map es clock)) (h ++ [.oth false q d]) (updL σ h.length ⟨some w.heap.size, 0, []⟩) :=
   mk_next R (getO_end h) hH (fun o ho => by rw [getO_append, if_neg ho]) (below_alloc _ _) ⟨some w.heap.size, 0, []⟩ (fun b hb => by cases hb; exact Nat.le_refl _) (fun k st => by
    refine ⟨RQ.u ?_, fun h => by cases h⟩
    unfold RQ
    rw [hq]
    exact ⟨w.heap.size, es, clock, rfl, heap_alloc_new _ _, e3, MEs.keeps k e4, e5, e6⟩)
  refine ⟨_, _, rfl, nx, ?_⟩
  simp only [RV]
  refine ⟨w.heap.size, by rw [updL_same], ?_⟩
  rw [hH]
  exact ⟨rfl, by rw [hq]; rfl⟩
end
end Go.Abs
