/- labels: what its functions come to. -/
import Derived.Test.YtgnhcmdmlcjpkaaDoorLabM
namespace Go.Proofs.YtgnhcmdmlcjpkaaDoor.Gh
open Go.Abs Go.Gr
/-- A node's label. -/
def lbl (ls : List Int) (i : Int) : Nat := (nth 0 ls i.toNat).toNat
/-- Labels that may be. -/
structure LOk (m : Nat) (n : Nat) (ls : List Int) : Prop where
  len : ls.length = n
  rg : ∀ i, i < n → 0 ≤ nth 0 ls i ∧ nth 0 ls i < m
structure LabOk (n : Int) (up : List Int) (ns : List Nd) (es : List Ed) (ls : List Int) : Prop where
  ord : Ord n up
  lat : HasLat n.toNat up
  gr : GrOk ns es
  lab : LOk n.toNat ns.length ls
/-- Do labels rise along an edge? -/
def ris (up : List Int) (es : List Ed) (ls : List Int) (i : Nat) : Prop := le up (lbl ls (nth z3 es i).1) (lbl ls (nth z3 es i).2.1)
def Lgl (up : List Int) (es : List Ed) (ls : List Int) : Prop := ∀ i, i < es.length → ris up es ls i
theorem LOk.cast {m n : Nat} {ls : List Int} (h : LOk m n ls) {i : Int} (h0 : 0 ≤ i) (h1 : i < n) : nth 0 ls i.toNat = ((lbl ls i : Nat) : Int) ∧ lbl ls i < m := by
  have := h.rg i.toNat (by omega)
  unfold lbl
  omega
abbrev TabT := (Int × List Int) × List Int × List Int × Int × Int
theorem Under_eq (N : Nat) {n : Int} {up J M : List Int} {B T : Int} (hw : WL up) {a b : Nat} (ha : a < up.length) : D_lattice_Table_Under N (((n, up), (J, (M, (B, T)))), (a : Int), (b : Int), ()) = some (bt (nth 0 up a) b, ()) := by
  simp only [D_lattice_Table_Under, lattice_Table_Under_1, ge0_d, lt_d ha, Bool.and_self, cond_true, Int.toNat_natCast, Has_eq N (hw.nth a), Option.bind_some]
theorem Or_eq (N : Nat) {m : Nat} (hm : m ≤ 16) {up J M : List Int} {B T : Int} (h : IsLat m up J M B T) {a b : Nat} (ha : a < m) (hb : b < m) : D_lattice_Table_Or N ((((m : Int), up), (J, (M, (B, T)))), (a : Int), (b : Int), ()) = some (((jo m J a b : Nat) : Int), ()) := by
  simp only [D_lattice_Table_Or, lattice_Table_Or_1, wrap_at hm ha hb, ge0_d, lt_d (show a * m + b < J.length by rw [h.jl]; exact at_lt ha hb), Bool.and_self, cond_true, Int.toNat_natCast, h.jn a b ha hb]
abbrev St := Int × List Int × List Int × List Int × Int × Int × List Nd × List Ed × List Int
section
variable {N m : Nat} (hN : 1000 ≤ N) {up J M : List Int} {B T : Int} (hw : WL up) (hl : up.length = m) {ns : List Nd} {es : List Ed} (hg : GrOk ns es)
include hN hw hl hg
theorem wrong_eq {ls : List Int} (hls : LOk m ns.length ls) :
    (∃ i : Nat, i < es.length ∧ ¬ ris up es ls i ∧ D_labels_labelled_wrong_h N ((m : Int), up, J, M, B, T, ns, es, ls) = some ((i : Int), (m : Int), up, J, M, B, T, ns, es, ls)) ∨
    (Lgl up es ls ∧ D_labels_labelled_wrong_h N ((m : Int), up, J, M, B, T, ns, es, ls) = some (-1, (m : Int), up, J, M, B, T, ns, es, ls)) := by
  have he := hg.e20
  have step : ∀ i : Nat, i < es.length → ∀ kn, (¬ ris up es ls i → labels_labelled_wrong_h_2 N (fun s => labels_labelled_wrong_h_1 N s.1 s.2.1 s.2.2.1 s.2.2.2.1 s.2.2.2.2.1 s.2.2.2.2.2.1 s.2.2.2.2.2.2.1 s.2.2.2.2.2.2.2.1 s.2.2.2.2.2.2.2.2) es (es.length : Int) (m : Int) up J M B T ns es ls (i : Int)
        (backE (es, (es.length : Int), (m : Int), up, J, M, B, T, ns, es, ls) kn) = some ((i : Int), (m : Int), up, J, M, B, T, ns, es, ls)) ∧
      (ris up es ls i → labels_labelled_wrong_h_2 N (fun s => labels_labelled_wrong_h_1 N s.1 s.2.1 s.2.2.1 s.2.2.2.1 s.2.2.2.2.1 s.2.2.2.2.2.1 s.2.2.2.2.2.2.1 s.2.2.2.2.2.2.2.1 s.2.2.2.2.2.2.2.2) es (es.length : Int) (m : Int) up J M B T ns es ls (i : Int)
        (backE (es, (es.length : Int), (m : Int), up, J, M, B, T, ns, es, ls) kn) = kn ((i : Int) + 1)) := by
    intro i hi kn
    have hed := hg.edges i hi
    have f0 : 0 ≤ (nth z3 es i).1 := hed.f0
    have fn : (nth z3 es i).1 < ns.length := hed.fn
    have t0 : 0 ≤ (nth z3 es i).2.1 := hed.t0
    have tn : (nth z3 es i).2.1 < ns.length := hed.tn
    obtain ⟨c1, c2⟩ := hls.cast f0 fn
    obtain ⟨d1, d2⟩ := hls.cast t0 tn
    have fl : (nth z3 es i).1 < (ls.length : Int) := by rw [hls.len]; exact fn
    have tl : (nth z3 es i).2.1 < (ls.length : Int) := by rw [hls.len]; exact tn
    simp only [labels_labelled_wrong_h_2, lt_d hi, ge0_d, Bool.and_self, cond_true, Int.toNat_natCast, d_true f0, d_true fl, d_true t0, d_true tl, c1, d1, Under_eq N hw (show lbl ls (nth z3 es i).1 < up.length by omega), Option.bind_some, ix1 hi (show es.length ≤ 100000 by omega), backE_eq]
    unfold ris le
    cases bt (nth 0 up (lbl ls (nth z3 es i).1)) (lbl ls (nth z3 es i).2.1) <;> simp
  simp only [D_labels_labelled_wrong_h, labels_labelled_wrong_h_3, joinD, loopE]
  by_cases h : ∃ i, i < es.length ∧ ¬ ris up es ls i
  · obtain ⟨i, hi, hb, e⟩ := loopD_first (n := es.length) (N := N) (g := fun (s : Int) kn => labels_labelled_wrong_h_2 N (fun s => labels_labelled_wrong_h_1 N s.1 s.2.1 s.2.2.1 s.2.2.2.1 s.2.2.2.2.1 s.2.2.2.2.2.1 s.2.2.2.2.2.2.1 s.2.2.2.2.2.2.2.1 s.2.2.2.2.2.2.2.2) es (es.length : Int) (m : Int) up J M B T ns es ls s
        (backE (es, (es.length : Int), (m : Int), up, J, M, B, T, ns, es, ls) kn)) (fun i => some ((i : Int), (m : Int), up, J, M, B, T, ns, es, ls)) (fun i => ¬ ris up es ls i) (fun i hi hb kn => (step i hi kn).1 hb) (fun i hi hb kn => (step i hi kn).2 (Classical.not_not.1 hb)) (by omega) h
    exact .inl ⟨i, hi, hb, e⟩
  · have h' : Lgl up es ls := fun i hi => Classical.not_not.1 fun hn => h ⟨i, hi, hn⟩
    refine .inr ⟨h', ?_⟩
    exact loopD_pass (n := es.length) (g := fun (s : Int) kn => labels_labelled_wrong_h_2 N (fun s => labels_labelled_wrong_h_1 N s.1 s.2.1 s.2.2.1 s.2.2.2.1 s.2.2.2.2.1 s.2.2.2.2.2.1 s.2.2.2.2.2.2.1 s.2.2.2.2.2.2.2.1 s.2.2.2.2.2.2.2.2) es (es.length : Int) (m : Int) up J M B T ns es ls s
        (backE (es, (es.length : Int), (m : Int), up, J, M, B, T, ns, es, ls) kn)) (by omega) (fun i hi kn => (step i hi kn).2 (h' i hi)) (fun kn => by simp only [labels_labelled_wrong_h_2, lt_self, cond_false, labels_labelled_wrong_h_1]) (by omega)
omit hN hw hl hg in
theorem wrong2_eq (x : St) : D_labels_labelled_wrong_h2 N x = D_labels_labelled_wrong_h N x := rfl
end
/-- What is opened, or what is wrong. -/
theorem open_eq {N : Nat} (hN : 1000 ≤ N) {up : List Int} (hw : WL up) (n : Int) (ns : List Nd) (es : List Ed) (ls : List Int) (hls : ls.length < N) :
    (¬ LabOk n up ns es ls ∧ ∃ c p : Int, c ≠ 0 ∧ D_labels_open_h N ((n, up), (ns, es), ls) = some (.inl (c, p))) ∨
    (LabOk n up ns es ls ∧ ∃ (m : Nat) (J M : List Int) (B T : Int), n = (m : Int) ∧ IsLat m up J M B T ∧ D_labels_open_h N ((n, up), (ns, es), ls) = some (.inr ((0, 0), (m : Int), up, J, M, B, T, ns, es, ls))) := by
  simp only [D_labels_open_h, labels_open_h_3]
  rcases LatOf_spec (N := N) hN hw n with ⟨e, he, e1, e2⟩ | ⟨m, J, M, B, T, rfl, ho, hil, e1⟩
  · refine .inl ⟨fun h => (e2 h.ord).2 h.lat, e, 0, he, ?_⟩
    simp only [e1, Option.bind_some, show (e != 0) = true from bne_iff_ne.2 he, cond_true]
  obtain ⟨p, hck⟩ := Check_eq (N := N) hN ns es
  simp only [e1, hck, Option.bind_some, bne_self_eq_false, cond_false]
  by_cases hg : GrOk ns es
  case neg =>
    have hc : codeG ns es ≠ 0 := fun h => hg (codeG_zero.1 h)
    exact .inl ⟨fun h => hg h.gr, codeG ns es, p, hc, by rw [show (codeG ns es != 0) = true from bne_iff_ne.2 hc, cond_true]⟩
  rw [codeG_zero.2 hg, bne_self_eq_false, cond_false]
  by_cases hlen : ls.length = ns.length
  case neg =>
    refine .inl ⟨fun h => hlen h.lab.len, 2, 0, by decide, ?_⟩
    rw [show ((ls.length : Int) != (ns.length : Int)) = true from bne_iff_ne.2 (by omega), cond_true]
  rw [show ((ls.length : Int) != (ns.length : Int)) = false from by simp [hlen], cond_false]
  simp only [joinD, loopE]
  have hn := hg.n12
  have lev : ∀ x : Int, ∀ ls' : List Int, D_labels_labelled_level_h N (x, (m : Int), up, J, M, B, T, ns, es, ls') = some (decide (0 ≤ x ∧ x < m), (m : Int), up, J, M, B, T, ns, es, ls') := fun x ls' => by
    simp only [D_labels_labelled_level_h, labels_labelled_level_h_1]
    by_cases h : x ≥ 0
    · rw [d_true h, cond_true]
      by_cases h' : x < m
      · rw [d_true h', d_true ⟨h, h'⟩]
      · rw [d_false h', d_false (fun q => h' q.2)]
    · rw [d_false h, cond_false, d_false (fun q => h q.1)]
  have step : ∀ i : Nat, i < ls.length → ∀ (kk : _ → Option Rt_labels_open_h) (kn : _ → Option Rt_labels_open_h), labels_open_h_2 N kk ls (ls.length : Int) 0 0 (i : Int) (m : Int) up J M B T ns es ls (backE (ls, (ls.length : Int), (0 : Int), (0 : Int)) kn) =
      if 0 ≤ nth 0 ls i ∧ nth 0 ls i < m then kn ((i : Int) + 1, (m : Int), up, J, M, B, T, ns, es, ls) else some (.inl (2, (i : Int))) := by
    intro i hi kk kn
    simp only [labels_open_h_2, lt_d hi, ge0_d, Bool.and_self, cond_true, Int.toNat_natCast, lev, Option.bind_some, ix1 hi (show ls.length ≤ 100000 by omega), backE_eq]
    by_cases h : 0 ≤ nth 0 ls i ∧ nth 0 ls i < m
    · rw [d_true h, if_pos h]; rfl
    · rw [d_false h, if_neg h]; rfl
  by_cases hall : ∀ i, i < ns.length → 0 ≤ nth 0 ls i ∧ nth 0 ls i < m
  · refine .inr ⟨⟨ho, ⟨_, _, _, _, hil.lat⟩, hg, ⟨hlen, by simpa using hall⟩⟩, m, J, M, B, T, rfl, hil, ?_⟩
    refine loopD_path ls.length (fun i => ((i : Int), (m : Int), up, J, M, B, T, ns, es, ls)) (fun i hi kn => ?_) (fun kn => ?_) (by omega)
    · exact (step i hi _ kn).trans (if_pos (hall i (by omega)))
    · simp only [labels_open_h_2, lt_self, cond_false, labels_open_h_1]
  · refine .inl ⟨fun h => hall (by simpa using h.lab.rg), ?_⟩
    obtain ⟨i, hi⟩ := Classical.not_forall.1 hall
    obtain ⟨hi, hbi⟩ := Classical.not_imp.1 hi
    obtain ⟨b, ⟨hbn, hbb⟩, hle⟩ := least (p := fun i => i < ns.length ∧ ¬ (0 ≤ nth 0 ls i ∧ nth 0 ls i < m)) ⟨i, hi, hbi⟩
    refine ⟨2, (b : Int), by decide, ?_⟩
    refine loopD_path b (fun i => ((i : Int), (m : Int), up, J, M, B, T, ns, es, ls)) (fun i hi kn => ?_) (fun kn => ?_) (by omega)
    · exact (step i (by omega) _ kn).trans (if_pos (Classical.not_not.1 fun hh => by have := hle i ⟨by omega, hh⟩; omega))
    · exact (step b (by omega) _ kn).trans (if_neg hbb)
/-- What is legal, or what is wrong. -/
theorem legal_eq {N : Nat} (hN : 1000 ≤ N) {up : List Int} (hw : WL up) (n : Int) (ns : List Nd) (es : List Ed) (ls : List Int) (hls : ls.length < N) :
    (¬ (LabOk n up ns es ls ∧ Lgl up es ls) ∧ ∃ c p : Int, c ≠ 0 ∧ D_labels_legal_h N ((n, up), (ns, es), ls) = some (.inl (c, p))) ∨
    ((LabOk n up ns es ls ∧ Lgl up es ls) ∧ ∃ (m : Nat) (J M : List Int) (B T : Int), n = (m : Int) ∧ IsLat m up J M B T ∧ D_labels_legal_h N ((n, up), (ns, es), ls) = some (.inr ((0, 0), (m : Int), up, J, M, B, T, ns, es, ls))) := by
  simp only [D_labels_legal_h, labels_legal_h_1]
  rcases open_eq hN hw n ns es ls hls with ⟨h1, c, p, hc, e⟩ | ⟨h1, m, J, M, B, T, rfl, hil, e⟩
  · refine .inl ⟨fun h => h1 h.1, c, p, hc, ?_⟩
    simp only [e, Option.bind_some, caseD_inl, show (c != 0) = true from bne_iff_ne.2 hc, cond_true]
  · have hl : up.length = m := by have := h1.ord.len; omega
    have hlo : LOk m ns.length ls := by simpa using h1.lab
    simp only [e, Option.bind_some, caseD_inr, bne_self_eq_false, cond_false]
    rcases wrong_eq (J := J) (M := M) (B := B) (T := T) hN hw hl h1.gr hlo with ⟨i, hi, hb, e2⟩ | ⟨hL, e2⟩
    · refine .inl ⟨fun h => hb (h.2 i hi), 12, (i : Int), by decide, ?_⟩
      simp only [e2, Option.bind_some, d_true (show (i : Int) ≥ 0 by omega), cond_true]
    · refine .inr ⟨⟨h1, hL⟩, m, J, M, B, T, rfl, hil, ?_⟩
      simp only [e2, Option.bind_some, d_false (show ¬ (-1 : Int) ≥ 0 by omega), cond_false]
theorem Legal_eq {N : Nat} (hN : 1000 ≤ N) {up : List Int} (hw : WL up) (n : Int) (ns : List Nd) (es : List Ed) (ls : List Int) (hls : ls.length < N) :
    ∃ c p : Int, D_labels_Legal N ((n, up), (ns, es), ls, ()) = some ((c, p), ()) ∧ (c = 0 ↔ LabOk n up ns es ls ∧ Lgl up es ls) := by
  simp only [D_labels_Legal, labels_Legal_1]
  rcases legal_eq hN hw n ns es ls hls with ⟨h1, c, p, hc, e⟩ | ⟨h1, m, J, M, B, T, rfl, hil, e⟩
  · exact ⟨c, p, by simp only [e, Option.bind_some, caseD_inl], ⟨fun h => absurd h hc, fun h => absurd h h1⟩⟩
  · exact ⟨0, 0, by simp only [e, Option.bind_some, caseD_inr], ⟨fun _ => h1, fun _ => rfl⟩⟩
/-- The document's check. -/
theorem LabelsCheck_eq {N : Nat} (hN : 1000 ≤ N) {up : List Int} (hw : WL up) (n : Int) (ns : List Nd) (es : List Ed) (ls : List Int) (hls : ls.length < N) :
    ∃ c p : Int, D_ref_LabelsCheck N ((n, up), (ns, es), ls, ()) = some ((c, p), ()) ∧ (c = 0 ↔ LabOk n up ns es ls) := by
  simp only [D_ref_LabelsCheck, ref_LabelsCheck_3]
  obtain ⟨⟨x1, x2, x3, x4⟩, e, e1, e2⟩ := LatMake_eq hN hw n
  obtain ⟨c, p, e3, e4⟩ := GraphCheck_eq (N := N) hN ns es
  simp only [e1, e3, Option.bind_some]
  by_cases he : e = 0
  case neg => exact ⟨e, 0, by rw [show (e != 0) = true from bne_iff_ne.2 he, cond_true], ⟨fun h => absurd h he, fun h => absurd (e2.2 ⟨h.ord, h.lat⟩) he⟩⟩
  subst he
  obtain ⟨ho, hH⟩ := e2.1 rfl
  rw [bne_self_eq_false, cond_false]
  by_cases hc : c = 0
  case neg => exact ⟨c, p, by rw [show (c != 0) = true from bne_iff_ne.2 hc, cond_true], ⟨fun h => absurd h hc, fun h => absurd (e4.2 h.gr) hc⟩⟩
  subst hc
  have hg := e4.1 rfl
  rw [bne_self_eq_false, cond_false]
  by_cases hlen : ls.length = ns.length
  case neg => exact ⟨2, 0, by rw [show ((ls.length : Int) != (ns.length : Int)) = true from bne_iff_ne.2 (by omega), cond_true], ⟨fun h => (by cases h), fun h => absurd h.lab.len hlen⟩⟩
  rw [show ((ls.length : Int) != (ns.length : Int)) = false from by simp [hlen], cond_false]
  simp only [joinD, loopE]
  have hn := hg.n12
  have hm := ho.h0
  have step : ∀ i : Nat, i < ls.length → ∀ (kk : _ → Option Rt_ref_LabelsCheck) (kn : _ → Option Rt_ref_LabelsCheck), ref_LabelsCheck_2 N kk ls n up 0 0 0 p (i : Int) (backE (ls, n, up, (0 : Int), (0 : Int), (0 : Int), p) kn) =
      if 0 ≤ nth 0 ls i ∧ nth 0 ls i < n then kn ((i : Int) + 1) else some ((2, (i : Int)), ()) := by
    intro i hi kk kn
    simp only [ref_LabelsCheck_2, lt_d hi, ge0_d, Bool.and_self, cond_true, Int.toNat_natCast, ix1 hi (show ls.length ≤ 100000 by omega), backE_eq]
    by_cases h : nth 0 ls i < 0
    · rw [d_true h, cond_true, if_neg (by omega)]
    · rw [d_false h, cond_false]
      by_cases h' : nth 0 ls i ≥ n
      · rw [d_true h', cond_true, if_neg (by omega)]
      · rw [d_false h', cond_false, if_pos (by omega)]
  by_cases hall : ∀ i, i < ns.length → 0 ≤ nth 0 ls i ∧ nth 0 ls i < n
  · refine ⟨0, p, ?_, ⟨fun _ => ⟨ho, hH, hg, ⟨hlen, fun i hi => by have := hall i hi; omega⟩⟩, fun _ => rfl⟩⟩
    refine loopD_path ls.length (fun i => (i : Int)) (fun i hi kn => ?_) (fun kn => ?_) (by omega)
    · exact (step i hi _ kn).trans (if_pos (hall i (by omega)))
    · simp only [ref_LabelsCheck_2, lt_self, cond_false, ref_LabelsCheck_1]
  · obtain ⟨i, hi⟩ := Classical.not_forall.1 hall
    obtain ⟨hi, hbi⟩ := Classical.not_imp.1 hi
    obtain ⟨b, ⟨hbn, hbb⟩, hle⟩ := least (p := fun i => i < ns.length ∧ ¬ (0 ≤ nth 0 ls i ∧ nth 0 ls i < n)) ⟨i, hi, hbi⟩
    refine ⟨2, (b : Int), ?_, ⟨fun h => (by cases h), fun h => absurd (fun i hi => by have := h.lab.rg i hi; omega) hall⟩⟩
    refine loopD_path b (fun i => (i : Int)) (fun i hi kn => ?_) (fun kn => ?_) (by omega)
    · exact (step i (by omega) _ kn).trans (if_pos (Classical.not_not.1 fun hh => by have := hle i ⟨by omega, hh⟩; omega))
    · exact (step b (by omega) _ kn).trans (if_neg hbb)
/-! ### Inference -/
section
variable {m : Nat} {up J M : List Int} {B T : Int} (h : IsLat m up J M B T) {ns : List Nd} {es : List Ed} (hg : GrOk ns es)
/-- One list of labels is below another one. -/
def lles (up : List Int) (n : Nat) (a b : List Int) : Prop := ∀ i, i < n → le up (nth 0 a i).toNat (nth 0 b i).toNat
/-- What is left to rise. -/
def room (m : Nat) (up : List Int) (n : Nat) (ls : List Int) : Nat := ((List.range n).map fun i => ((List.range m).filter fun d => decide (le up (nth 0 ls i).toNat d)).length).sum
theorem sum_lt {f g : Nat → Nat} {n j : Nat} (hj : j < n) (hlt : f j < g j) (hle : ∀ i, i < n → f i ≤ g i) : ((List.range n).map f).sum < ((List.range n).map g).sum := by
  induction n with
  | zero => omega
  | succ n ih =>
    rw [List.range_succ, List.map_append, List.map_append, List.sum_append, List.sum_append]
    simp only [List.map_cons, List.map_nil, List.sum_cons, List.sum_nil, Nat.add_zero]
    by_cases q : j = n
    · subst q
      have : ((List.range j).map f).sum ≤ ((List.range j).map g).sum := by
        clear ih hlt
        have hle' : ∀ i, i < j → f i ≤ g i := fun i hi => hle i (by omega)
        clear hle hj
        induction j with
        | zero => simp
        | succ j ihj =>
          rw [List.range_succ, List.map_append, List.map_append, List.sum_append, List.sum_append]
          have h1 := ihj fun i hi => hle' i (by omega)
          have h2 := hle' j (by omega)
          simp only [List.map_cons, List.map_nil, List.sum_cons, List.sum_nil, Nat.add_zero]; omega
      omega
    · have h1 := ih (by omega) fun i hi => hle i (by omega)
      have h2 := hle n (by omega)
      omega
theorem sum_le {f : Nat → Nat} {n c : Nat} (hle : ∀ i, i < n → f i ≤ c) : ((List.range n).map f).sum ≤ n * c := by
  induction n with
  | zero => simp
  | succ n ih =>
    rw [List.range_succ, List.map_append, List.sum_append]
    have h1 := ih fun i hi => hle i (by omega)
    have h2 := hle n (by omega)
    simp only [List.map_cons, List.map_nil, List.sum_cons, List.sum_nil, Nat.add_zero, Nat.succ_mul]; omega
theorem room_le {n : Nat} {ls : List Int} : room m up n ls ≤ n * m := sum_le fun i _ => by
  have := List.length_filter_le (fun d => decide (le up (nth 0 ls i).toNat d)) (List.range m)
  simpa using this
include h in
/-- A label is raised along an edge. -/
theorem raise {ls : List Int} (hls : LOk m ns.length ls) {i : Nat} (f0 : 0 ≤ (nth z3 es i).1) (fn : (nth z3 es i).1 < ns.length) (t0 : 0 ≤ (nth z3 es i).2.1) (tn : (nth z3 es i).2.1 < ns.length) (hb : ¬ ris up es ls i) :
    LOk m ns.length (ls.set (nth z3 es i).2.1.toNat ((jo m J (lbl ls (nth z3 es i).1) (lbl ls (nth z3 es i).2.1) : Nat) : Int)) ∧
    room m up ns.length (ls.set (nth z3 es i).2.1.toNat ((jo m J (lbl ls (nth z3 es i).1) (lbl ls (nth z3 es i).2.1) : Nat) : Int)) < room m up ns.length ls ∧
    lles up ns.length ls (ls.set (nth z3 es i).2.1.toNat ((jo m J (lbl ls (nth z3 es i).1) (lbl ls (nth z3 es i).2.1) : Nat) : Int)) ∧
    ∀ ks, LOk m ns.length ks → Lgl up es ks → i < es.length → lles up ns.length ls ks → lles up ns.length (ls.set (nth z3 es i).2.1.toNat ((jo m J (lbl ls (nth z3 es i).1) (lbl ls (nth z3 es i).2.1) : Nat) : Int)) ks := by
  obtain ⟨c1, c2⟩ := hls.cast f0 fn
  obtain ⟨d1, d2⟩ := hls.cast t0 tn
  have hL := h.lat
  have hj := hL.jlt _ _ c2 d2
  generalize hjj : jo m J (lbl ls (nth z3 es i).1) (lbl ls (nth z3 es i).2.1) = j at *
  have hjr : le up (lbl ls (nth z3 es i).2.1) j := hjj ▸ hL.jr c2 d2
  have hjl : le up (lbl ls (nth z3 es i).1) j := hjj ▸ hL.jl c2 d2
  have htl : (nth z3 es i).2.1.toNat < ls.length := by rw [hls.len]; omega
  have hat : ∀ t, nth 0 (ls.set (nth z3 es i).2.1.toNat (j : Int)) t = if (nth z3 es i).2.1.toNat = t then (j : Int) else nth 0 ls t := fun t => by
    rw [set_nth]; simp only [htl, and_true]
  have hlm : ∀ t, t < ns.length → (nth 0 ls t).toNat < m := fun t ht => by have := hls.rg t ht; omega
  have up1 : lles up ns.length ls (ls.set (nth z3 es i).2.1.toNat (j : Int)) := fun t ht => by
    rw [hat]
    split
    · rename_i e; subst e; simpa [lbl] using hjr
    · exact hL.refl _ (hlm t ht)
  refine ⟨⟨by simp [hls.len], fun t ht => ?_⟩, ?_, up1, ?_⟩
  · rw [hat]
    split
    · omega
    · exact hls.rg t ht
  · refine sum_lt (j := (nth z3 es i).2.1.toNat) (by omega) ?_ fun t ht => ?_
    · refine Go.Abs.filter_lt _ (fun d hd h1 => decide_eq_true (hL.trans _ j d d2 hj (List.mem_range.1 hd) hjr (by simpa [hat] using h1))) ⟨lbl ls (nth z3 es i).2.1, List.mem_range.2 d2, decide_eq_true (hL.refl _ d2), decide_eq_false fun h1 => ?_⟩
      rw [hat, if_pos rfl, Int.toNat_natCast] at h1
      have : j = lbl ls (nth z3 es i).2.1 := hL.anti _ _ hj d2 h1 hjr
      exact hb (by unfold ris; rw [← this]; exact hjl)
    · have hsub : ∀ (p q : Nat → Bool) (l : List Nat), (∀ d ∈ l, p d = true → q d = true) → (l.filter p).length ≤ (l.filter q).length := fun p q l => by
        induction l with
        | nil => intro _; simp
        | cons d l ih =>
          intro hpq
          have h1 := ih fun d hd => hpq d (by simp [hd])
          have h2 := hpq d (by simp)
          simp only [List.filter_cons]
          cases hp : p d with
          | true => rw [h2 hp]; simp; omega
          | false => cases q d <;> simp <;> omega
      refine hsub _ _ _ fun d hd h1 => decide_eq_true ?_
      have h1 := of_decide_eq_true h1
      exact hL.trans _ _ d (hlm t ht) (by rw [hat]; split <;> first | simpa using hj | exact hlm t ht) (List.mem_range.1 hd) (up1 t ht) h1
  · intro ks hk hlg hi hle t ht
    rw [hat]
    split
    · rename_i e
      subst e
      rw [Int.toNat_natCast, ← hjj]
      have hk1 := hk.cast f0 fn
      have hk2 := hk.cast t0 tn
      refine (hL.jle _ _ _ c2 d2 hk2.2).2 ⟨hL.trans _ _ _ c2 hk1.2 hk2.2 (hle _ (by omega)) (hlg i hi), hle _ ht⟩
    · exact hle t ht
end
/-- What is inferred: the least legal labels above the floors. -/
structure Inf (up : List Int) (m : Nat) (ns : List Nd) (es : List Ed) (fl ms : List Int) : Prop where
  ok : LOk m ns.length ms
  lgl : Lgl up es ms
  rise : lles up ns.length fl ms
  least : ∀ ks, LOk m ns.length ks → Lgl up es ks → lles up ns.length fl ks → lles up ns.length ms ks
theorem Infer_eq {N : Nat} (hN : 1000 ≤ N) {up : List Int} (hw : WL up) (n : Int) (ns : List Nd) (es : List Ed) (ls : List Int) (hls : ls.length < N) :
    (¬ LabOk n up ns es ls ∧ ∃ c p : Int, c ≠ 0 ∧ D_labels_Infer N ((n, up), (ns, es), ls, ()) = some ([], (c, p), ())) ∨
    (LabOk n up ns es ls ∧ ∃ ms, Inf up n.toNat ns es ls ms ∧ D_labels_Infer N ((n, up), (ns, es), ls, ()) = some (ms, (0, 0), ())) := by
  simp only [D_labels_Infer, labels_Infer_3]
  rcases open_eq hN hw n ns es ls hls with ⟨h1, c, p, hc, e⟩ | ⟨h1, m, J, M, B, T, rfl, hil, e⟩
  · refine .inl ⟨h1, c, p, hc, ?_⟩
    simp only [e, Option.bind_some, caseD_inl, show (c != 0) = true from bne_iff_ne.2 hc, cond_true]
  refine .inr ⟨h1, ?_⟩
  have hl : up.length = m := by have := h1.ord.len; omega
  have hm : m ≤ 16 := by have := h1.ord.h1; omega
  have hlo : LOk m ns.length ls := by simpa using h1.lab
  have hgr := h1.gr
  have hn := hgr.n12
  have hlL := hlo.len
  have hrefl : ∀ xs, LOk m ns.length xs → lles up ns.length xs xs := fun xs hx i hi => hil.lat.refl _ (by have := hx.rg i hi; omega)
  simp only [e, Option.bind_some, caseD_inr, bne_self_eq_false, cond_false]
  rw [d_true (show ls.length * 8 ≤ 140737488355328 by omega), show Nat.ble 1 8 = true from rfl, Bool.and_self, cond_true]
  simp only [joinD, loopE, wrong2_eq, Int.toNat_natCast]
  have hNm : ns.length * m ≤ 192 := Nat.mul_le_mul hn hm
  let I : List Int → Prop := fun xs => LOk m ns.length xs ∧ lles up ns.length ls xs ∧ ∀ ks, LOk m ns.length ks → Lgl up es ks → lles up ns.length ls ks → lles up ns.length xs ks
  have hI0 : I ls := ⟨hlo, hrefl ls hlo, fun ks _ _ hk => hk⟩
  let QQ : Option Rt_labels_Infer → Prop := fun r => ∃ ms, Inf up m ns es ls ms ∧ r = some (ms, (0, 0), ())
  let WR : List Int → Int → Prop := fun xs v => (∃ i : Nat, i < es.length ∧ ¬ ris up es xs i ∧ v = (i : Int)) ∨ (Lgl up es xs ∧ v = -1)
  have hwr : ∀ xs, LOk m ns.length xs → ∃ v, WR xs v ∧ D_labels_labelled_wrong_h N ((m : Int), up, J, M, B, T, ns, es, xs) = some (v, (m : Int), up, J, M, B, T, ns, es, xs) := fun xs hx => by
    rcases wrong_eq (J := J) (M := M) (B := B) (T := T) hN hw hl hgr hx with ⟨i, hi, hb, e⟩ | ⟨h, e⟩
    · exact ⟨(i : Int), .inl ⟨i, hi, hb, rfl⟩, e⟩
    · exact ⟨-1, .inr ⟨h, rfl⟩, e⟩
  obtain ⟨g, hgg⟩ : ∃ g : (Int × Int × List Int × List Int × List Int × Int × Int × (List (Int × Int × Int × Int × Int)) × (List (Int × Int × Int)) × List Int) → (_ → Option Rt_labels_Infer) → Option Rt_labels_Infer, g = fun s kn => labels_Infer_2 N (fun s => labels_Infer_1 N s.2.2.2.2.2.2.2.2.2.2.1 s.2.2.2.2.2.2.2.2.2.2.2.1 s.2.2.2.2.2.2.2.2.2.2.2.2) 0 0 0 0 s.1 s.2.1 s.2.2.1 s.2.2.2.1 s.2.2.2.2.1 s.2.2.2.2.2.1 s.2.2.2.2.2.2.1 s.2.2.2.2.2.2.2.1 s.2.2.2.2.2.2.2.2.1 s.2.2.2.2.2.2.2.2.2 (backE ((0 : Int), (0 : Int), (0 : Int), (0 : Int)) kn) := ⟨_, rfl⟩
  have key : ∀ (K xs) (v : Int), I xs → WR xs v → room m up ns.length xs < K → QQ (loopD g K (v, (m : Int), up, J, M, B, T, ns, es, xs)) := by
    intro K
    induction K with
    | zero => exact fun xs v _ _ h => absurd h (Nat.not_lt_zero _)
    | succ K ih =>
      intro xs v hI hv hr
      rw [loopD_s]
      generalize loopD g K = kn at ih ⊢
      rw [hgg]
      rcases hv with ⟨i, hi, hb, rfl⟩ | ⟨hL, rfl⟩
      · have hed := hgr.edges i hi
        have f0 : 0 ≤ (nth z3 es i).1 := hed.f0
        have fn : (nth z3 es i).1 < ns.length := hed.fn
        have t0 : 0 ≤ (nth z3 es i).2.1 := hed.t0
        have tn : (nth z3 es i).2.1 < ns.length := hed.tn
        obtain ⟨c1, c2⟩ := hI.1.cast f0 fn
        obtain ⟨d1, d2⟩ := hI.1.cast t0 tn
        obtain ⟨r1, r2, r3, r4⟩ := raise hil hI.1 f0 fn t0 tn hb
        have hxl := hI.1.len
        obtain ⟨v', hv', e'⟩ := hwr _ r1
        have fl : (nth z3 es i).1 < (xs.length : Int) := by rw [hxl]; exact fn
        have tl : (nth z3 es i).2.1 < (xs.length : Int) := by rw [hxl]; exact tn
        simp only [labels_Infer_2, d_true (show (i : Int) ≥ 0 by omega), lt_d hi, ge0_d, Bool.and_self, cond_true, Int.toNat_natCast, d_true f0, d_true fl, d_true t0, d_true tl, c1, d1, Or_eq N hm hil c2 d2, Option.bind_some, wrong2_eq, e', backE_eq]
        exact ih _ _ ⟨r1, fun t ht => hil.lat.trans _ _ _ (by have := hlo.rg t ht; omega) (by have := hI.1.rg t ht; omega) (by have := r1.rg t ht; omega) (hI.2.1 t ht) (r3 t ht), fun ks k1 k2 k3 => r4 ks k1 k2 hi (hI.2.2 ks k1 k2 k3)⟩ hv' (by omega)
      · simp only [labels_Infer_2, d_false (show ¬ (-1 : Int) ≥ 0 by omega), cond_false, labels_Infer_1]
        exact ⟨xs, ⟨hI.1, hL, hI.2.1, hI.2.2⟩, rfl⟩
  obtain ⟨v, hv, e'⟩ := hwr ls hlo
  simp only [e', Option.bind_some]
  rw [← hgg]
  exact key N ls v hI0 hv (by have := room_le (m := m) (up := up) (n := ns.length) (ls := ls); omega)
/-- The nodes that a level may see. -/
theorem Sees_eq {N : Nat} (hN : 1000 ≤ N) {up : List Int} (hw : WL up) (n : Int) (ns : List Nd) (es : List Ed) (ls : List Int) (lv : Int) (hls : ls.length < N) :
    (¬ (LabOk n up ns es ls ∧ Lgl up es ls ∧ 0 ≤ lv ∧ lv < n) ∧ ∃ c p : Int, c ≠ 0 ∧ D_labels_Sees N ((n, up), (ns, es), ls, lv, ()) = some ([], (c, p), ())) ∨
    ((LabOk n up ns es ls ∧ Lgl up es ls ∧ 0 ≤ lv ∧ lv < n) ∧ D_labels_Sees N ((n, up), (ns, es), ls, lv, ()) = some (((List.range ns.length).filter fun i => decide (le up (nth 0 ls i).toNat lv.toNat)).map fun (i : Nat) => (i : Int), (0, 0), ())) := by
  simp only [D_labels_Sees, labels_Sees_3]
  rcases legal_eq hN hw n ns es ls hls with ⟨h1, c, p, hc, e⟩ | ⟨h1, m, J, M, B, T, rfl, hil, e⟩
  · refine .inl ⟨fun h => h1 ⟨h.1, h.2.1⟩, c, p, hc, ?_⟩
    simp only [e, Option.bind_some, caseD_inl, show (c != 0) = true from bne_iff_ne.2 hc, cond_true]
  have hl : up.length = m := by have := h1.1.ord.len; omega
  have hm : m ≤ 16 := by have := h1.1.ord.h1; omega
  have hlo : LOk m ns.length ls := by simpa using h1.1.lab
  have hn := h1.1.gr.n12
  have hlL := hlo.len
  have lev : D_labels_labelled_level_h N (lv, (m : Int), up, J, M, B, T, ns, es, ls) = some (decide (0 ≤ lv ∧ lv < m), (m : Int), up, J, M, B, T, ns, es, ls) := by
    simp only [D_labels_labelled_level_h, labels_labelled_level_h_1]
    by_cases h : lv ≥ 0
    · rw [d_true h, cond_true]
      by_cases h' : lv < m
      · rw [d_true h', d_true ⟨h, h'⟩]
      · rw [d_false h', d_false (fun q => h' q.2)]
    · rw [d_false h, cond_false, d_false (fun q => h q.1)]
  simp only [e, Option.bind_some, caseD_inr, bne_self_eq_false, cond_false, lev]
  by_cases hlv : 0 ≤ lv ∧ lv < m
  case neg =>
    refine .inl ⟨fun h => hlv h.2.2, 2, 0, by decide, ?_⟩
    rw [d_false hlv]; rfl
  refine .inr ⟨⟨h1.1, h1.2, hlv⟩, ?_⟩
  obtain ⟨l, rfl⟩ : ∃ l : Nat, lv = (l : Int) := ⟨lv.toNat, by omega⟩
  rw [d_true hlv, Int.toNat_natCast]
  simp only [Bool.not_true, cond_false, joinD, loopE]
  refine loopD_path ls.length (fun i => ((i : Int), ((List.range i).filter fun i => decide (le up (nth 0 ls i).toNat l)).map fun (i : Nat) => (i : Int))) (fun i hi kn => ?_) (fun kn => ?_) (by omega)
  · have hx := hlo.rg i (by omega)
    have hc : nth 0 ls i = (((nth 0 ls i).toNat : Nat) : Int) := by omega
    have hlen : ((List.range i).filter fun i => decide (le up (nth 0 ls i).toNat l)).length ≤ i := by simpa using List.length_filter_le (fun i => decide (le up (nth 0 ls i).toNat l)) (List.range i)
    simp only [labels_Sees_2, lt_d hi, ge0_d, Bool.and_self, cond_true, Int.toNat_natCast]
    rw [show nth 0 ls i = (((nth 0 ls i).toNat : Nat) : Int) from hc, Under_eq N hw (show (nth 0 ls i).toNat < up.length by omega)]
    simp only [Option.bind_some, ix1 hi (show ls.length ≤ 100000 by omega), List.length_map, List.length_singleton]
    rw [d_true (show (((List.range i).filter fun i => decide (le up (nth 0 ls i).toNat l)).length + 1) * 8 ≤ 140737488355328 by omega), show Nat.ble 1 8 = true from rfl, Bool.and_self, cond_true, List.range_succ, List.filter_append, List.map_append, backE_eq, backE_eq]
    simp only [List.filter_cons, List.filter_nil]
    unfold le
    by_cases q : bt (nth 0 up (nth 0 ls i).toNat) l = true
    · simp [q]
    · rw [Bool.not_eq_true] at q
      simp [q]
  · simp only [labels_Sees_2, lt_self, cond_false, labels_Sees_1]
    rw [hlL]
theorem keepHas_eq {N : Nat} {xs : List Int} (hN : xs.length < N) (hx : xs.length ≤ 100000) (x : Int) : ∃ b, D_ref_Has N (xs, x, ()) = some (b, ()) ∧ (b = true ↔ x ∈ xs) := by
  simp only [D_ref_Has, ref_Has_3, joinD, loopE]
  by_cases h : ∃ i, i < xs.length ∧ x = nth 0 xs i
  · refine ⟨true, ?_, by obtain ⟨i, hi, rfl⟩ := h; simp [nth_mem hi]⟩
    exact loopD_hit (n := xs.length) (g := fun (s : Int) kn => ref_Has_2 N (fun _ => ref_Has_1 N) x xs (xs.length : Int) s (backE (x, xs, (xs.length : Int)) kn)) (by omega) (fun i => x = nth 0 xs i)
      (fun i hi hb kn => by simp only [ref_Has_2, lt_d hi, ge0_d, Bool.and_self, cond_true, Int.toNat_natCast]; rw [beq_iff_eq.2 hb]; rfl)
      (fun i hi hb kn => by simp only [ref_Has_2, lt_d hi, ge0_d, Bool.and_self, cond_true, Int.toNat_natCast, ix1 hi hx, backE_eq]; rw [beq_false_of_ne hb]; rfl) hN h
  · refine ⟨false, ?_, ⟨fun h' => (by cases h'), fun hm => absurd (by obtain ⟨t, ht, e⟩ := mem_nth (z := 0) hm; exact ⟨t, ht, e.symm⟩) h⟩⟩
    exact loopD_pass (n := xs.length) (g := fun (s : Int) kn => ref_Has_2 N (fun _ => ref_Has_1 N) x xs (xs.length : Int) s (backE (x, xs, (xs.length : Int)) kn)) (by omega)
      (fun i hi kn => by simp only [ref_Has_2, lt_d hi, ge0_d, Bool.and_self, cond_true, Int.toNat_natCast, ix1 hi hx, backE_eq]; rw [beq_false_of_ne fun e => h ⟨i, hi, e⟩]; rfl) (fun kn => by simp only [ref_Has_2, lt_self, cond_false, ref_Has_1]) hN
theorem rises_eq {N : Nat} {up : List Int} (hw : WL up) {m : Nat} (hl : up.length = m) (hm : m ≤ 16) {a b : List Int} (hN : a.length < N) (hN2 : b.length < N) (ha : a.length ≤ 100000) (hb : b.length ≤ 100000) :
    ∃ r, D_keep_rises N (((m : Int), up), a, b, ()) = some (r, ()) ∧ (r = true ↔ LOk m b.length a ∧ LOk m a.length b ∧ lles up a.length a b) := by
  simp only [D_keep_rises, keep_rises_3]
  have hrg : ∀ xs : List Int, (∀ x ∈ xs, 0 ≤ x ∧ x < (m : Int)) ↔ ∀ i, i < xs.length → 0 ≤ nth 0 xs i ∧ nth 0 xs i < m := fun xs => ⟨fun h i hi => h _ (nth_mem hi), fun h x hx => by obtain ⟨t, ht, rfl⟩ := mem_nth (z := 0) hx; exact h t ht⟩
  by_cases h0 : a.length = b.length
  case neg => exact ⟨false, by rw [show ((a.length : Int) != (b.length : Int)) = true from bne_iff_ne.2 (by omega)]; rfl, ⟨fun h => (by cases h), fun h => absurd h.1.len h0⟩⟩
  rw [show ((a.length : Int) != (b.length : Int)) = false from by simp [h0], cond_false]
  obtain ⟨r1, e1, i1⟩ := within_eq (N := N) (n := (m : Int)) (xs := a) hN (by omega)
  obtain ⟨r2, e2, i2⟩ := within_eq (N := N) (n := (m : Int)) (xs := b) hN2 (by omega)
  simp only [e1, Option.bind_some]
  cases r1 with
  | false => exact ⟨false, rfl, ⟨fun h => (by cases h), fun h => absurd (i1.2 ((hrg a).2 fun i hi => h.1.rg i (by omega))) (by simp)⟩⟩
  | true =>
    simp only [Bool.not_true, cond_false, e2, Option.bind_some]
    cases r2 with
    | false => exact ⟨false, rfl, ⟨fun h => (by cases h), fun h => absurd (i2.2 ((hrg b).2 fun i hi => h.2.1.rg i (by omega))) (by simp)⟩⟩
    | true =>
      have ra := (hrg a).1 (i1.1 rfl)
      have rb := (hrg b).1 (i2.1 rfl)
      simp only [Bool.not_true, cond_false, joinD, loopE]
      have step : ∀ i : Nat, i < a.length → ∀ (kn : _ → Option Rt_keep_rises), keep_rises_2 N (fun _ => keep_rises_1 N) a b (m : Int) up (i : Int) (backE (a, b, (m : Int), up) kn) =
          bif bt (nth 0 up (nth 0 a i).toNat) (nth 0 b i).toNat then kn ((i : Int) + 1) else some (false, ()) := by
        intro i hi kn
        have h1 := ra i hi
        have h2 := rb i (by omega)
        have c1 : nth 0 a i = (((nth 0 a i).toNat : Nat) : Int) := by omega
        have c2 : nth 0 b i = (((nth 0 b i).toNat : Nat) : Int) := by omega
        simp only [keep_rises_2, lt_d hi, lt_d (show i < b.length by omega), ge0_d, Bool.and_self, cond_true, Int.toNat_natCast]
        rw [show D_keep_below N (((m : Int), up), nth 0 a i, nth 0 b i, ()) = some (bt (nth 0 up (nth 0 a i).toNat) (nth 0 b i).toNat, ()) from by
          rw [c1, c2]; exact kbelow_eq (n := (m : Int)) N hw (show (nth 0 a i).toNat < up.length by omega) (show (nth 0 b i).toNat < 4611686018427387904 by omega)]
        simp only [Option.bind_some, ix1 hi ha, backE_eq]
        cases bt (nth 0 up (nth 0 a i).toNat) (nth 0 b i).toNat <;> rfl
      by_cases h : ∃ i, i < a.length ∧ bt (nth 0 up (nth 0 a i).toNat) (nth 0 b i).toNat = false
      · refine ⟨false, ?_, ⟨fun h => (by cases h), fun h' => ?_⟩⟩
        · exact loopD_hit (n := a.length) (g := fun (s : Int) kn => keep_rises_2 N (fun _ => keep_rises_1 N) a b (m : Int) up s (backE (a, b, (m : Int), up) kn)) (by omega) (fun i => bt (nth 0 up (nth 0 a i).toNat) (nth 0 b i).toNat = false)
            (fun i hi hb kn => by rw [step i hi kn, hb]; rfl) (fun i hi hb kn => by rw [step i hi kn, (Bool.not_eq_false _).mp hb]; rfl) hN h
        · obtain ⟨i, hi, hb⟩ := h
          have := h'.2.2 i hi
          unfold le at this
          rw [hb] at this; cases this
      · have hall : ∀ i, i < a.length → bt (nth 0 up (nth 0 a i).toNat) (nth 0 b i).toNat = true := fun i hi => by
          cases e : bt (nth 0 up (nth 0 a i).toNat) (nth 0 b i).toNat with
          | true => rfl
          | false => exact absurd ⟨i, hi, e⟩ h
        refine ⟨true, ?_, ⟨fun _ => ⟨⟨h0, fun i hi => ra i (by omega)⟩, ⟨h0.symm, fun i hi => rb i (by omega)⟩, fun i hi => hall i hi⟩, fun _ => rfl⟩⟩
        exact loopD_pass (n := a.length) (g := fun (s : Int) kn => keep_rises_2 N (fun _ => keep_rises_1 N) a b (m : Int) up s (backE (a, b, (m : Int), up) kn)) (by omega)
          (fun i hi kn => by rw [step i hi kn, hall i hi]; rfl) (fun kn => by simp only [keep_rises_2, lt_self, cond_false, keep_rises_1]) hN
end Go.Proofs.YtgnhcmdmlcjpkaaDoor.Gh
