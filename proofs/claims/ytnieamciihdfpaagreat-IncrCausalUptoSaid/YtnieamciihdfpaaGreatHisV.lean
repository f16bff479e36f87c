/- Histories: what stands, in all; one behind the other. -/
import Derived.Test.YtnieamciihdfpaaGreatHisU
namespace Go.Proofs.YtnieamciihdfpaaGreat
open Go.Abs Go.Bag Go.His
theorem totalAt_eq {N : Nat} (hN : 1000 ≤ N) {h : List Df} {t : List Int} (hl : h.length < N) (hr : ∀ d ∈ h, d.2.length < N) (hM : N ≤ 4611686018427387903) : D_keep_totalAt N (h, t, ()) = some (w (tot (sel (fun u => leqT u t) h)), ()) := by
  simp only [D_keep_totalAt, keep_totalAt_3, joinD, loopE]
  obtain ⟨s', hI, e⟩ := loopD_inv (g := fun (s : Int × Int) kn => keep_totalAt_2 N (fun s => keep_totalAt_1 N s) t h (h.length : Int) s.1 s.2 (backE (t, h, (h.length : Int)) kn)) (k := fun s : Int × Int => some (s.1, ())) h.length
    (fun i s => s.2 = (i : Int) ∧ s.1 = w (tot (His.sel (fun u => leqT u t) (h.take i)))) (N := N) (s := ((0 : Int), (0 : Int)))
    (by
      rintro i ⟨_, _⟩ hi ⟨rfl, rfl⟩
      have hd := hr _ (nth_mem (z := zd) hi)
      refine ⟨(w (tot (His.sel (fun u => leqT u t) (h.take (i + 1)))), (i : Int) + 1), ⟨by simp, rfl⟩, fun kn => ?_⟩
      rw [take_nd hi, sel_snoc, tot_append]
      simp only [keep_totalAt_2, lt_d hi, ge0_d, Int.toNat_natCast, Bool.and_self, cond_true, RLeq_eq hN, Option.bind_some, ix1 hi (show h.length ≤ 4611686018427387904 by omega)]
      cases q : leqT (nth zd h i).1 t with
      | true =>
        have h1 : IntKind.i64.wrap (w (tot (His.sel (fun u => leqT u t) (h.take i))) + w (tot (nth zd h i).2)) = w (tot (His.sel (fun u => leqT u t) (h.take i)) + tot (nth zd h i).2) := (cg_w _).add (cg_w _)
        rw [cond_true, total_eq hd (by omega), Option.bind_some, backE_eq, if_pos rfl]
        simp only
        rw [h1]
      | false =>
        rw [cond_false, backE_eq, if_neg (by simp)]
        simp only [tot, Int.add_zero])
    (by
      rintro ⟨_, _⟩ ⟨rfl, rfl⟩ kn
      simp only [keep_totalAt_2, lt_self, cond_false, keep_totalAt_1])
    hl ⟨rfl, by simp only [List.take_zero]; rfl⟩
  rw [e, hI.2, List.take_length]
theorem sel_leq {h : List Df} {t : List Int} (H : HOk h t) : His.sel (fun u => leqT u t) h = stL h t := by
  have key : ∀ g : List Df, (∀ d ∈ g, d ∈ h) → His.sel (fun u => leqT u t) g = stL g t := fun g => by
    induction g with
    | nil => intro _; rfl
    | cons d g ih =>
      intro hg
      have hd := hg d (by simp)
      have hle : leqT d.1 t = undr d.1 t := by simp [leqT, alk, H.one d hd, H.tok d hd, H.tt]
      rw [sel_cons, ih fun x hx => hg x (by simp [hx]), hle]
      unfold stL
      rw [List.flatMap_cons]
  exact key h fun d hd => hd
theorem both_eq {N : Nat} {h k : List Df} (hh : h.length < N) (hk : k.length < N) (hh2 : h.length ≤ 1048576) (hk2 : k.length ≤ 1048576) : D_keep_both N (h, k, ()) = some (h ++ k) := by
  have key : ∀ (acc l : List Df) (hacc : acc.length ≤ 1048576) (hl : l.length < N) (hl2 : l.length ≤ 1048576), ∀ i, i < l.length → decide (((acc ++ l.take i).length + ([((nth zd l i).1, (nth zd l i).2)] : List Df).length) * 48 ≤ 140737488355328) = true := fun acc l hacc hl hl2 i hi => d_true (by simp only [List.length_append, List.length_take, List.length_singleton]; omega)
  have one : ∀ (acc l : List Df), acc.length ≤ 1048576 → l.length < N → l.length ≤ 1048576 → keep_both_3 N l acc = some (acc ++ l) := fun acc l hacc hl hl2 => by
    simp only [keep_both_3, joinD, loopE]
    have hp := loopD_path (N := N) (g := fun (s : Int × List Df) kn => keep_both_2 N (fun s => keep_both_1 N s) l (l.length : Int) s.1 s.2 (backE (l, (l.length : Int)) kn)) l.length (fun i => ((i : Int), acc ++ l.take i)) (k := some (acc ++ l)) (fun i hi kn => by
      simp only [keep_both_2, lt_d hi, ge0_d, Bool.and_self, cond_true, Int.toNat_natCast, key acc l hacc hl hl2 i hi, show Nat.ble 1 48 = true from rfl, backE_eq, ix1 hi (show l.length ≤ 4611686018427387904 by omega)]
      rw [take_nd hi, List.append_assoc]
      rfl) (fun kn => by simp only [keep_both_2, lt_self, cond_false, keep_both_1, List.take_length]) hl
    rw [List.take_zero, List.append_nil] at hp
    exact hp
  simp only [D_keep_both, keep_both_5, joinD, loopE]
  refine (loopD_path (N := N) h.length (fun i => ((i : Int), h.take i)) (k := keep_both_3 N k h) (fun i hi kn => ?_) (fun kn => ?_) hh).trans (one h k hh2 hk hk2)
  · have := key [] h (by simp) hh hh2 i hi
    simp only [List.nil_append] at this
    simp only [keep_both_4, lt_d hi, ge0_d, Bool.and_self, cond_true, Int.toNat_natCast, this, show Nat.ble 1 48 = true from rfl, backE_eq, ix1 hi (show h.length ≤ 4611686018427387904 by omega)]
    rw [take_nd hi]
    rfl
  · simp only [keep_both_4, lt_self, cond_false, List.take_length]
end Go.Proofs.YtnieamciihdfpaaGreat
