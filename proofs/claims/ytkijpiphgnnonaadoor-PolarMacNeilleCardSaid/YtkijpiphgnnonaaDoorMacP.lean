/- The completion of an order, plainly. -/
import Derived.Test.YtkijpiphgnnonaaDoorPolM
import Derived.Test.YtkijpiphgnnonaaDoorLatticeS
namespace Go.Proofs.YtkijpiphgnnonaaDoor
open Go.Abs Go.Pol
theorem nd_injI {xs : List Int} (h : xs.Nodup) {s t : Nat} (hs : s < xs.length) (ht : t < xs.length) (e : nth 0 xs s = nth 0 xs t) : s = t := by
  rw [nth_lt hs, nth_lt ht] at e
  rcases Nat.lt_trichotomy s t with q | q | q
  · exact absurd e (List.pairwise_iff_getElem.1 h s t hs ht q)
  · exact q
  · exact absurd e.symm (List.pairwise_iff_getElem.1 h t s ht hs q)
theorem bij_lenM {A B : List Int} (hA : A.Nodup) (hB : B.Nodup) (f : Int → Int) (hf : ∀ a ∈ A, f a ∈ B) (inj : ∀ a ∈ A, ∀ a' ∈ A, f a = f a' → a = a') (sur : ∀ b ∈ B, ∃ a, a ∈ A ∧ f a = b) : A.length = B.length := by
  have hn : (A.map f).Nodup := List.pairwise_map.2 (hA.imp_of_mem fun {a b} ha hb hne e => hne (inj a ha b hb e))
  have h1 := hn.length_le_of_subset (l₂ := B) fun x hx => by
    obtain ⟨a, ha, rfl⟩ := List.mem_map.1 hx
    exact hf a ha
  have h2 := hB.length_le_of_subset (l₂ := A.map f) fun x hx => by
    obtain ⟨a, ha, rfl⟩ := sur x hx
    exact List.mem_map.2 ⟨a, ha, rfl⟩
  rw [List.length_map] at h1 h2
  omega
section
variable {m : Nat} {up : List Int}
theorem ctx_ord (ho : Ord (m : Int) up) : ctxOk up (m : Int) := ⟨by have := ho.h1; have := ho.len; omega, by omega, ho.h1, fun i hi j hj => ho.inn i (by have := ho.len; omega) j hj⟩
abbrev dnw (up : List Int) (m x : Nat) : Int := nth 0 (colsS up (m : Int) up.length) x
abbrev CL (up : List Int) (m : Nat) : Int → Prop := Cls m (clf up (m : Int))
theorem bt_dn (ho : Ord (m : Int) up) {x : Nat} (hx : x < m) (y : Nat) : bt (dnw up m x) y = true ↔ y < m ∧ le up y x := by
  have hl := ho.len
  rw [bt_cols (ctx_ord ho) (by simpa using hx), show up.length = m by simpa using hl]; exact Iff.rfl
theorem bt_cl (hw : WL up) (ho : Ord (m : Int) up) {a : Int} (ha : ∀ i, bt a i = true → i < m) (i : Nat) :
    bt (clf up (m : Int) a) i = true ↔ i < m ∧ ∀ j, j < m → (∀ y, bt a y = true → le up y j) → le up i j := by
  have hl : up.length = m := by have := ho.len; simpa using this
  have hm : m ≤ 16 := by have := ho.h1; omega
  unfold clf
  rw [bt_dnf (ctx_ord ho), hl]
  refine and_congr_right fun hi => ⟨fun h j hj hall => ?_, fun h j hj hb => ?_⟩
  · exact (h j (by omega) ((bt_upf hw (ctx_ord ho) a j).2 ⟨by simpa using hj, fun i hi hb => hall i hb⟩)).2
  · obtain ⟨a1, a2⟩ := (bt_upf hw (ctx_ord ho) a j).1 hb
    exact ⟨a1, h j (by simpa using a1) fun y hy => a2 y (by have := ha y hy; omega) hy⟩
theorem clo_ord (hw : WL up) (ho : Ord (m : Int) up) : Clo m (clf up (m : Int)) := by
  have hl : up.length = m := by have := ho.len; simpa using this
  have := clf_clo hw (ctx_ord ho)
  rwa [hl] at this
theorem dn_cls (hw : WL up) (ho : Ord (m : Int) up) {x : Nat} (hx : x < m) : CL up m (dnw up m x) := by
  have hlt : ∀ i, bt (dnw up m x) i = true → i < m := fun i h => ((bt_dn ho hx i).1 h).1
  refine ⟨(WL.colsS _ _ _).nth x, hlt, bt_ext ((clo_ord hw ho).w _) ((WL.colsS _ _ _).nth x) fun i _ => Bool.eq_iff_iff.2 ⟨fun h => ?_, fun h => (clo_ord hw ho).ext _ hlt i h⟩⟩
  obtain ⟨h1, h2⟩ := (bt_cl hw ho hlt i).1 h
  exact (bt_dn ho hx i).2 ⟨h1, h2 x hx fun y hy => ((bt_dn ho hx y).1 hy).2⟩
theorem cls_down (hw : WL up) (ho : Ord (m : Int) up) {a : Int} (h : CL up m a) {i y : Nat} (hi : bt a i = true) (hy : y < m) (hyi : le up y i) : bt a y = true := by
  have him := h.lt i hi
  rw [← h.eq, bt_cl hw ho h.lt]
  exact ⟨hy, fun j hj hub => ho.trans y i j (by simpa using hy) (by simpa using him) hyi (hub i hi)⟩
theorem dn_sub (hw : WL up) (ho : Ord (m : Int) up) {a : Int} (h : CL up m a) {i : Nat} (hi : i < m) : sbs (dnw up m i) a ↔ bt a i = true :=
  ⟨fun hs => hs i ((bt_dn ho hi i).2 ⟨hi, ho.refl i (by simpa using hi)⟩), fun hb y hy => by
    obtain ⟨h1, h2⟩ := (bt_dn ho hi y).1 hy
    exact cls_down hw ho h hb h1 h2⟩
theorem dn_le (hw : WL up) (ho : Ord (m : Int) up) {i j : Nat} (hi : i < m) (hj : j < m) : sbs (dnw up m i) (dnw up m j) ↔ le up i j := by
  rw [dn_sub hw ho (dn_cls hw ho hj) hi, bt_dn ho hj]
  exact and_iff_right hi
theorem cls_meet (hw : WL up) (ho : Ord (m : Int) up) {a : Int} (h : CL up m a) {i : Nat} (hi : i < m) (hall : ∀ j, j < m → sbs a (dnw up m j) → le up i j) : bt a i = true := by
  rw [← h.eq, bt_cl hw ho h.lt]
  exact ⟨hi, fun j hj hub => hall j hj fun y hy => (bt_dn ho hj y).2 ⟨h.lt y hy, hub y hy⟩⟩
theorem cls_inter (hw : WL up) (ho : Ord (m : Int) up) {a b : Int} (ha : CL up m a) (hb : CL up m b) : CL up m (iand .u32 a b) := by
  have hcl := clo_ord hw ho
  have hbt := bt_iand ha.w hb.w
  have hlt : ∀ i, bt (iand .u32 a b) i = true → i < m := fun i h => by rw [hbt, Bool.and_eq_true] at h; exact ha.lt i h.1
  have h1 : sbs (iand .u32 a b) a := fun i h => by rw [hbt, Bool.and_eq_true] at h; exact h.1
  have h2 : sbs (iand .u32 a b) b := fun i h => by rw [hbt, Bool.and_eq_true] at h; exact h.2
  refine ⟨W32.iand, hlt, bt_ext (hcl.w _) W32.iand fun i _ => Bool.eq_iff_iff.2 ⟨fun h => ?_, fun h => hcl.ext _ hlt i h⟩⟩
  have k1 := hcl.mono _ _ h1 i h
  have k2 := hcl.mono _ _ h2 i h
  rw [ha.eq] at k1
  rw [hb.eq] at k2
  rw [hbt, k1, k2]; rfl
theorem cls_cl (hw : WL up) (ho : Ord (m : Int) up) {a : Int} (ha : ∀ i, bt a i = true → i < m) : CL up m (clf up (m : Int) a) :=
  ⟨(clo_ord hw ho).w _, fun i => (clo_ord hw ho).lt _ i, (clo_ord hw ho).idem _ ha⟩
/-- What the completion is. -/
structure Mac (up : List Int) (m : Nat) (cs up' : List Int) : Prop where
  nd : cs.Nodup
  all : ∀ b, b ∈ cs ↔ CL up m b
  len : up'.length = cs.length
  w : WL up'
  lei : ∀ i j, i < cs.length → (le up' i j ↔ j < cs.length ∧ sbs (nth 0 cs i) (nth 0 cs j))
  few : cs.length ≤ 16
theorem sbs_anti {a b : Int} (ha : W32 a) (hb : W32 b) (h1 : sbs a b) (h2 : sbs b a) : a = b := bt_ext ha hb fun i _ => Bool.eq_iff_iff.2 ⟨h1 i, h2 i⟩
theorem Mac.cl {cs up' : List Int} (M : Mac up m cs up') {i : Nat} (hi : i < cs.length) : CL up m (nth 0 cs i) := (M.all _).1 (nth_mem hi)
theorem Mac.ord {cs up' : List Int} (M : Mac up m cs up') : Ord (cs.length : Int) up' where
  h0 := by omega
  h1 := by have := M.few; omega
  len := by rw [M.len]; simp
  inn := fun i hi j hj => by
    have := ((M.lei i j (by simpa using hi)).1 hj).1; simpa using this
  refl := fun i hi => (M.lei i i (by simpa using hi)).2 ⟨by simpa using hi, fun _ h => h⟩
  anti := fun i j hi hj h1 h2 => by
    have hi' : i < cs.length := by simpa using hi
    have hj' : j < cs.length := by simpa using hj
    exact nd_injI M.nd hi' hj' (sbs_anti (M.cl hi').w (M.cl hj').w ((M.lei i j hi').1 h1).2 ((M.lei j i hj').1 h2).2)
  trans := fun i j k hi hj h1 h2 => by
    have hi' : i < cs.length := by simpa using hi
    have hj' : j < cs.length := by simpa using hj
    obtain ⟨-, a⟩ := (M.lei i j hi').1 h1
    obtain ⟨c, b⟩ := (M.lei j k hj').1 h2
    exact (M.lei i k hi').2 ⟨c, fun x h => b x (a x h)⟩
open Classical in
theorem Mac.pick {cs up' : List Int} (M : Mac up m cs up') : ∃ pk : Int → Nat, ∀ b, CL up m b → pk b < cs.length ∧ nth 0 cs (pk b) = b :=
  ⟨fun b => if h : ∃ i, i < cs.length ∧ nth 0 cs i = b then Classical.choose h else 0, fun b hb => by
    have h : ∃ i, i < cs.length ∧ nth 0 cs i = b := by
      obtain ⟨i, h1, h2⟩ := List.getElem_of_mem ((M.all b).2 hb)
      exact ⟨i, h1, by rw [nth_lt h1]; exact h2⟩
    simp only [dif_pos h]
    exact Classical.choose_spec h⟩
theorem Mac.lat {cs up' : List Int} (hw : WL up) (ho : Ord (m : Int) up) (M : Mac up m cs up') : HasLat cs.length up' := by
  obtain ⟨pk, hpk⟩ := M.pick
  have hcl := clo_ord hw ho
  have hm : m ≤ 16 := by have := ho.h1; omega
  have hmo := M.ord
  have hor : ∀ i j, i < cs.length → j < cs.length → ∀ x, bt (ior .u32 (nth 0 cs i) (nth 0 cs j)) x = true ↔ bt (nth 0 cs i) x = true ∨ bt (nth 0 cs j) x = true := fun i j hi hj x => by
    rw [bt_ior (M.cl hi).w (M.cl hj).w, Bool.or_eq_true]
  have horlt : ∀ i j, i < cs.length → j < cs.length → ∀ x, bt (ior .u32 (nth 0 cs i) (nth 0 cs j)) x = true → x < m := fun i j hi hj x h => by
    rcases (hor i j hi hj x).1 h with h | h
    · exact (M.cl hi).lt x h
    · exact (M.cl hj).lt x h
  have hand : ∀ i j, i < cs.length → j < cs.length → ∀ x, bt (iand .u32 (nth 0 cs i) (nth 0 cs j)) x = true ↔ bt (nth 0 cs i) x = true ∧ bt (nth 0 cs j) x = true := fun i j hi hj x => by
    rw [bt_iand (M.cl hi).w (M.cl hj).w, Bool.and_eq_true]
  have hj : ∀ i j, i < cs.length → j < cs.length → _ := fun i j hi hj => hpk _ (cls_cl hw ho (horlt i j hi hj))
  have hk : ∀ i j, i < cs.length → j < cs.length → _ := fun i j hi hj => hpk _ (cls_inter hw ho (M.cl hi) (M.cl hj))
  have h0 : ∀ i, bt 0 i = true → i < m := fun i h => by rw [bt_zero] at h; cases h
  have ht : ∀ i, bt (allw (m : Int)) i = true → i < m := fun i h => by
    rw [bt_allw (by omega) (by omega), decide_eq_true_eq] at h; simpa using h
  obtain ⟨b1, b2⟩ := hpk _ (cls_cl hw ho h0)
  obtain ⟨t1, t2⟩ := hpk _ (cls_cl hw ho ht)
  refine ⟨fun i j => pk (clf up (m : Int) (ior .u32 (nth 0 cs i) (nth 0 cs j))), fun i j => pk (iand .u32 (nth 0 cs i) (nth 0 cs j)), pk (clf up (m : Int) 0), pk (clf up (m : Int) (allw (m : Int))), {
    refl := fun i hi => hmo.refl i (by simpa using hi)
    anti := fun i j hi hj => hmo.anti i j (by simpa using hi) (by simpa using hj)
    trans := fun i j k hi hj _ => hmo.trans i j k (by simpa using hi) (by simpa using hj)
    jlt := fun x y hx hy => (hj x y hx hy).1
    klt := fun x y hx hy => (hk x y hx hy).1
    jle := fun x y d hx hy hd => ?_
    kle := fun x y d hx hy hd => ?_
    blt := b1
    tlt := t1
    ble := fun d hd => (M.lei _ d b1).2 ⟨hd, ?_⟩
    tle := fun d hd => (M.lei d _ hd).2 ⟨t1, ?_⟩ }⟩
  · obtain ⟨p1, p2⟩ := hj x y hx hy
    rw [M.lei _ d p1, M.lei x d hx, M.lei y d hy, p2]
    refine ⟨fun ⟨_, h⟩ => ⟨⟨hd, fun z hz => h z (hcl.ext _ (horlt x y hx hy) z ((hor x y hx hy z).2 (.inl hz)))⟩, hd, fun z hz => h z (hcl.ext _ (horlt x y hx hy) z ((hor x y hx hy z).2 (.inr hz)))⟩, fun ⟨⟨_, h1⟩, _, h2⟩ => ⟨hd, ?_⟩⟩
    have h3 := hcl.mono _ (nth 0 cs d) fun z hz => ((hor x y hx hy z).1 hz).elim (h1 z) (h2 z)
    rwa [(M.cl hd).eq] at h3
  · obtain ⟨p1, p2⟩ := hk x y hx hy
    rw [M.lei d _ hd, M.lei d x hd, M.lei d y hd, p2]
    exact ⟨fun ⟨_, h⟩ => ⟨⟨hx, fun z hz => ((hand x y hx hy z).1 (h z hz)).1⟩, hy, fun z hz => ((hand x y hx hy z).1 (h z hz)).2⟩, fun ⟨⟨_, h1⟩, _, h2⟩ => ⟨p1, fun z hz => (hand x y hx hy z).2 ⟨h1 z hz, h2 z hz⟩⟩⟩
  · rw [b2]
    have h3 := hcl.mono 0 (nth 0 cs d) fun z hz => by rw [bt_zero] at hz; cases hz
    rwa [(M.cl hd).eq] at h3
  · rw [t2]
    exact fun z hz => hcl.ext _ ht z (by rw [bt_allw (by omega) (by omega), decide_eq_true_eq]; simpa using (M.cl hd).lt z hz)
/-- Joins of what stands below, meets of what stands above. -/
theorem Mac.joins {cs up' : List Int} (hw : WL up) (ho : Ord (m : Int) up) (M : Mac up m cs up') {at_ : Nat → Nat} (ha : ∀ x, x < m → at_ x < cs.length ∧ nth 0 cs (at_ x) = dnw up m x) {x j : Nat} (hx : x < cs.length) (hj : j < cs.length)
    (h : ∀ y, y < m → le up' (at_ y) x → le up' (at_ y) j) : le up' x j := by
  refine (M.lei x j hx).2 ⟨hj, fun i hi => ?_⟩
  have him := (M.cl hx).lt i hi
  obtain ⟨a1, a2⟩ := ha i him
  have h1 := ((M.lei _ j a1).1 (h i him ((M.lei _ x a1).2 ⟨hx, by rw [a2]; exact (dn_sub hw ho (M.cl hx) him).2 hi⟩))).2
  rw [a2, dn_sub hw ho (M.cl hj) him] at h1
  exact h1
theorem Mac.meets {cs up' : List Int} (hw : WL up) (ho : Ord (m : Int) up) (M : Mac up m cs up') {at_ : Nat → Nat} (ha : ∀ x, x < m → at_ x < cs.length ∧ nth 0 cs (at_ x) = dnw up m x) {x j : Nat} (hx : x < cs.length) (hj : j < cs.length)
    (h : ∀ y, y < m → le up' x (at_ y) → le up' j (at_ y)) : le up' j x := by
  refine (M.lei j x hj).2 ⟨hx, fun i hi => ?_⟩
  have him := (M.cl hj).lt i hi
  refine cls_meet hw ho (M.cl hx) him fun z hz hs => ?_
  obtain ⟨a1, a2⟩ := ha z hz
  have h1 := ((M.lei j _ hj).1 (h z hz ((M.lei x _ hx).2 ⟨a1, by rw [a2]; exact hs⟩))).2
  rw [a2] at h1
  exact ((bt_dn ho hz i).1 (h1 i hi)).2
theorem sup_of {L : Nat → Nat → Prop} {J K : Nat → Nat → Nat} {b t : Nat} (h : Latt m L J K b t) : ∀ l : List Nat, (∀ i ∈ l, i < m) → ∃ s, s < m ∧ ∀ d, d < m → (L s d ↔ ∀ i ∈ l, L i d)
  | [], _ => ⟨b, h.blt, fun d hd => ⟨fun _ i hi => (by cases hi), fun _ => h.ble d hd⟩⟩
  | i :: l, hl => by
    obtain ⟨s, h1, h2⟩ := sup_of h l fun x hx => hl x (List.mem_cons_of_mem _ hx)
    have hi := hl i (List.mem_cons_self ..)
    refine ⟨J i s, h.jlt _ _ hi h1, fun d hd => ?_⟩
    rw [h.jle i s d hi h1 hd, h2 d hd]
    simp only [List.mem_cons, forall_eq_or_imp]
theorem Mac.same {cs up' : List Int} (hw : WL up) (ho : Ord (m : Int) up) (M : Mac up m cs up') (hL : HasLat m up) : cs.length = m := by
  obtain ⟨J, K, b, t, h⟩ := hL
  have hnd : ((List.range m).map (dnw up m)).Nodup := List.pairwise_map.2 (List.Pairwise.imp_of_mem (R := (· ≠ ·)) (fun {x y} hx hy hne e => hne (by
    have hx' : x < m := List.mem_range.1 hx
    have hy' : y < m := List.mem_range.1 hy
    exact ho.anti x y (by simpa using hx') (by simpa using hy') ((dn_le hw ho hx' hy').1 (by rw [e]; exact fun _ h => h)) ((dn_le hw ho hy' hx').1 (by rw [e]; exact fun _ h => h)))) List.nodup_range)
  have := bij_lenM M.nd hnd id (fun w hwm => ?_) (fun _ _ _ _ e => e) (fun w hwm => ⟨w, ?_, rfl⟩)
  · simpa using this
  · have hc := (M.all w).1 hwm
    obtain ⟨s, s1, s2⟩ := sup_of h (els w) fun i hi => hc.lt i (mem_els'.1 hi).2
    refine List.mem_map.2 ⟨s, List.mem_range.2 s1, ?_⟩
    have hsd := dn_cls hw ho s1
    have hub : ∀ i, bt w i = true → le up i s := fun i hi => (s2 s s1).1 (h.refl s s1) i ((mem_els hc.w).2 hi)
    refine sbs_anti hsd.w hc.w (fun i hi => ?_) fun i hi => (bt_dn ho s1 i).2 ⟨hc.lt i hi, hub i hi⟩
    obtain ⟨i1, i2⟩ := (bt_dn ho s1 i).1 hi
    refine cls_meet hw ho hc i1 fun j hj hs => ?_
    exact ho.trans i s j (by simpa using i1) (by simpa using s1) i2 ((s2 j hj).2 fun y hy => ((bt_dn ho hj y).1 (hs y (mem_els'.1 hy).2)).2)
  · obtain ⟨x, hx, rfl⟩ := List.mem_map.1 hwm
    exact (M.all _).2 (dn_cls hw ho (List.mem_range.1 hx))
end
end Go.Proofs.YtkijpiphgnnonaaDoor
