import Derived.Test.YtnieamciihdfpaaGreatHisU
namespace Go.Proofs.YtnieamciihdfpaaGreat
open Go.Abs Go.Bag Go.His
theorem isbag_self {F : Key → Int} {a : List Row} (h : IsBag F a) : IsBag (amt a) a := ⟨h.rise, h.nz, fun e => by rw [h.val, w_idem]⟩
theorem totalAt_eq {N : Nat} (hN : 1000 ≤ N) {h : List Df} {t : List Int} (hl : h.length < N) (hr : ∀ d ∈ h, d.2.length < N) (hM : N ≤ 4611686018427387903) : D_keep_totalAt N (h, t, ()) = some (w (tot (sel (fun u => leqT u t) h)), ()) := by
 simp only [D_keep_totalAt, keep_totalAt_3, joinD, loopE]
 obtain ⟨s', hI, e⟩ := loopD_inv (g := fun (s : Int × Int) kn => keep_totalAt_2 N (fun s => keep_totalAt_1 N s) t h (h.length : Int) s.1 s.2 (backE (t, h, (h.length : Int)) kn)) (k := fun s : Int × Int => some (s.1, ())) h.length
  (fun i s => s.2 = (i : Int) ∧ s.1 = w (tot (His.sel (fun u => leqT u t) (h.take i)))) (N := N) (s := ((0 : Int), (0 : Int)))
  (by
   rintro i ⟨_, _⟩ hi ⟨rfl, rfl⟩
   have hd := hr _ (nth_mem (z := zd) hi)
   refine ⟨(w (tot (His.sel (fun u => leqT u t) (h.take (i + 1)))), (i : Int) + 1), ⟨by simp, rfl⟩, fun kn => ?_⟩
   rw [take_nd hi, sel_snoc, tot_append]
   simp only [keep_totalAt_2, lt_d hi, ge0_d, Int.toNat_natCast, Bool.and_self, cond_true, RLeq_eq hN, Option.bind_some, ix1 hi (show h.length ≤ 4611686018427387904 by omega)]
   cases q : leqT (nth zd h i).1 t with
   | true =>
    have h1 : IntKind.i64.wrap (w (tot (His.sel (fun u => leqT u t) (h.take i))) + w (tot (nth zd h i).2)) = w (tot (His.sel (fun u => leqT u t) (h.take i)) + tot (nth zd h i).2) := (cg_w _).add (cg_w _)
    rw [cond_true, total_eq hd (by omega), Option.bind_some, backE_eq, if_pos rfl]
    simp only
    rw [h1]
   | false =>
    rw [cond_false, backE_eq, if_neg (by simp)]
    simp only [tot, Int.add_zero])
  (by
   rintro ⟨_, _⟩ ⟨rfl, rfl⟩ kn
   simp only [keep_totalAt_2, lt_self, cond_false, keep_totalAt_1])
  hl ⟨rfl, by simp only [List.take_zero]; rfl⟩
 rw [e, hI.2, List.take_length]
theorem sel_leq {h : List Df} {t : List Int} (H : HOk h t) : His.sel (fun u => leqT u t) h = stL h t := by
 have key : ∀ g : List Df, (∀ d ∈ g, d ∈ h) → His.sel (fun u => leqT u t) g = stL g t := fun g => by
  induction g with
  | nil => intro _; rfl
  | cons d g ih =>
   intro hg
   have hd := hg d (by simp)
   have hle : leqT d.1 t = undr d.1 t := by simp [leqT, alk, H.one d hd, H.tok d hd, H.tt]
   rw [sel_cons, ih fun x hx => hg x (by simp [hx]), hle]
   unfold stL
   rw [List.flatMap_cons]
 exact key h fun d hd => hd
end Go.Proofs.YtnieamciihdfpaaGreat
