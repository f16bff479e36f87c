/- Operations that leave the objects as they are, third part. -/
import Derived.Test.YtdbjfdjpmoackaaDoorAbsOpsR2
namespace Go.Abs
open Go.RowKit
section
variable {P : Program} {C : Ctx} {r : Option Nat} {n : Nat} {w0 : World} {A M0 : Nat → Prop} {w : World} {h hm : List O} {σ : Nat → Loc} {t : Nat → V} {a : Act} {o : Oper} {ρ : Type}
theorem run_part_at {ty : TypeId} {te : TE} {i : TypeInfo} {z : Value} (hi : TeIs P ty te i z) {cs : Array Value} {off : Nat} (hok : okPart te.isAgg te.size off cs.size = true) :
    (part ty cs off).run P w = .ok (bif te.isAgg then .agg ((cs.toList.drop off).take te.size).toArray else cs.toList.getD off undef) w := by
  unfold okPart at hok
  simp only [Bool.and_eq_true, Bool.or_eq_true] at hok
  obtain ⟨hle, h2⟩ := hok
  have hle := Nat.le_of_ble_eq_true hle
  simp only [Sem.run_bind, part, hi.isAgg, Result.andThen_ok]
  cases ha : te.isAgg with
  | true =>
    simp only [if_true, Sem.run_bind, hi.sizeOf, Result.andThen_ok, Sem.run_pure, cond_true]
    congr 2
    apply Array.ext'
    simp [Array.toList_extract, List.extract_eq_take_drop]
  | false =>
    rw [ha] at h2
    have h2 : te.size = 1 := by rcases h2 with h2 | h2; cases h2; exact Nat.eq_of_beq_eq_true h2
    have hlt : off < cs.size := by omega
    simp [hlt, List.getD]
theorem indexAgg_sound {M : Nat → Prop} {size : Nat} {agg : Bool} {vs : List V} {cs : List Value} {i : Int} {K : V → Option ρ} {res : ρ} (hr : RVs w M h σ vs cs) (h1 : ∀ c ∈ cs, c.oneCell' = true) (hok : agg = true ∨ size = 1) :
    (m j : Nat) → (m + j) * size ≤ vs.length → indexAgg size agg vs i K m j = some res →
    ∃ v, K v = some res ∧ (j : Int) ≤ i ∧ i < (m + j : Nat) ∧ RV w M h σ v (bif agg then .agg ((cs.drop (i.toNat * size)).take size).toArray else cs.getD (i.toNat * size) undef) ∧ okPart agg size (i.toNat * size) vs.length = true
  | 0, j, _, hb => by simp [indexAgg] at hb
  | m + 1, j, hl, hb => by
    simp only [indexAgg] at hb
    cases hi : (i == (j : Int)) with
    | true =>
      rw [hi] at hb
      simp only [cond_true] at hb
      have hi : i = j := by simpa using hi
      have e : i.toNat = j := by omega
      have hle : j * size + size ≤ vs.length := by
        have : (j + 1) * size ≤ (m + 1 + j) * size := Nat.mul_le_mul_right _ (by omega)
        rw [Nat.succ_mul] at this; omega
      have hokk : okPart agg size (j * size) vs.length = true := by
        unfold okPart
        simp only [Bool.and_eq_true, Bool.or_eq_true]
        exact ⟨Nat.ble_eq_true_of_le hle, hok.imp id (fun e => by rw [e]; rfl)⟩
      rw [e]
      exact ⟨_, hb, by omega, by omega, partV_sound hr h1 hokk, hokk⟩
    | false =>
      rw [hi] at hb
      simp only [cond_false] at hb
      obtain ⟨v, h1, h2, h3, h4⟩ := indexAgg_sound hr h1 hok m (j + 1) (by rw [show m + (j + 1) = m + 1 + j by omega]; exact hl) hb
      exact ⟨v, h1, by omega, by omega, h4⟩
theorem indexK_sound (hT : TOk P C.T) {ty : TypeId} {u v : V} {p q : Value} (hp : RV w (mutb M0 h σ) h σ u p) (hq : RV w (mutb M0 h σ) h σ v q) {K : V → Option ρ} {res : ρ} (hb : indexK C ty u v K = some res) :
    ∃ v val, K v = some res ∧ (Instr.index ty p q).run P w = .ok val w ∧ RV w (mutb M0 h σ) h σ v val := by
  unfold indexK at hb
  split at hb
  · cases hb
  · rename_i te hte
    split at hb
    · rename_i m e hd
      obtain ⟨i, z, hi⟩ := hT.get hte
      obtain ⟨un, hu, hdd⟩ := hi.und
      rw [hd] at hdd
      simp only at hdd
      subst hdd
      split at hb
      · cases hb
      · rename_i ee hee
        obtain ⟨ie, ze, hie⟩ := hT.get hee
        cases v with
        | int k j =>
          simp only at hb
          simp only [RV] at hq
          subst hq
          cases u with
          | agg vs =>
            simp only at hb
            obtain ⟨hok, hb⟩ := cond_some hb
            simp only [Bool.and_eq_true, Bool.or_eq_true] at hok
            have hl := Nat.eq_of_beq_eq_true hok.1
            simp only [RV] at hp
            obtain ⟨cs, rfl, h1, hr⟩ := hp
            obtain ⟨v, h2, h3, h4, h5, h6⟩ := indexAgg_sound hr h1 (hok.2.imp id Nat.eq_of_beq_eq_true) m 0 (by rw [Nat.add_zero]; omega) hb
            refine ⟨v, _, h2, ?_, h5⟩
            have hj : 0 ≤ j ∧ j < (m : Int) := ⟨by simpa using h3, by simpa using h4⟩
            rw [hr.length] at h6
            simp only [Instr.index, Sem.run_bind, asIntOf, Sem.run_pure, Result.andThen_ok, run_underlying hu, hj, and_self, if_true, hie.sizeOf]
            exact run_part_at hie h6
          | _ => simp at hb
        | _ => simp at hb
    · cases hb
theorem optInt_sound {hrt : ∀ i, RV w (mutb M0 h σ) h σ (t i) (a.tmps.getD i undef)} {x : Option Operand} {d : Int} {K : Int → Option ρ} {res : ρ} (hb : optInt t x d K = some res) :
    (x = none ∧ K d = some res) ∨ ∃ y k m, x = some y ∧ a.eval y = .int k m ∧ K m = some res := by
  unfold optInt at hb
  split at hb
  · exact .inl ⟨rfl, hb⟩
  · rename_i y
    split at hb
    · rename_i k m e
      have := ev_sound hrt y
      rw [e] at this
      simp only [RV] at this
      exact .inr ⟨y, k, m, rfl, this, hb⟩
    · cases hb
theorem run_sliceBound' (k : IntKind) (i : Int) (y : Nat) (code : BoundsCode) (h0 : 0 ≤ i) (h1 : i ≤ y) : (Instr.sliceBound (.int k i) y code).run P w = .ok i.toNat w := by
  simp [Instr.sliceBound, asIntOf, h0, h1]
theorem sliceK_sound (hT : TOk P C.T) (hrt : ∀ i, RV w (mutb M0 h σ) h σ (t i) (a.tmps.getD i undef)) {ty : TypeId} {u : V} {p : Value} {lo hi : Option Operand} (hp : RV w (mutb M0 h σ) h σ u p) {K : V → Option ρ} {res : ρ}
    (hb : sliceK C t ty u lo hi K = some res) :
    ∃ v val, K v = some res ∧ (Instr.sliceAt ty p (lo.map a.eval) (hi.map a.eval) none).run P w = .ok val w ∧ RV w (mutb M0 h σ) h σ v val := by
  unfold sliceK at hb
  split at hb
  · cases hb
  · rename_i e ee he
    obtain ⟨hu, i, z, hie⟩ := sliceElem_sound hT he
    cases u with
    | sl s xs =>
      simp only at hb
      obtain ⟨hn, hb⟩ := cond_some hb
      simp only [Bool.and_eq_true] at hn
      have hn1 := Nat.eq_of_beq_eq_true hn.1
      simp only [RV, RC] at hp
      obtain ⟨aa, c, hv, hlen, hcap, hx⟩ := hp
      simp at hv
      subst hv
      -- the bounds
      have key : ∃ (l m : Int), 0 ≤ l ∧ l ≤ m ∧ m ≤ xs.length ∧ K (.sl s ((xs.take m.toNat).drop l.toNat)) = some res ∧
          (Instr.sliceBounds true xs.length c (lo.map a.eval) (hi.map a.eval) none).run P w = .ok (l.toNat, m.toNat, c) w := by
        rcases optInt_sound (hrt := hrt) (x := hi) (d := xs.length) hb with ⟨rfl, hb1⟩ | ⟨yh, kh, m, rfl, eh, hb1⟩
        · rcases optInt_sound (hrt := hrt) (x := lo) (d := 0) hb1 with ⟨rfl, hb2⟩ | ⟨yl, kl, l, rfl, el, hb2⟩
          · obtain ⟨hok, hb3⟩ := cond_some hb2
            simp only [Bool.and_eq_true, decide_eq_true_eq] at hok
            exact ⟨0, _, hok.1, hok.2.1, hok.2.2, hb3, by simp [Instr.sliceBounds]⟩
          · obtain ⟨hok, hb3⟩ := cond_some hb2
            simp only [Bool.and_eq_true, decide_eq_true_eq] at hok
            exact ⟨l, _, hok.1, hok.2.1, hok.2.2, hb3, by simp [Instr.sliceBounds, el, run_sliceBound' (P := P) (w := w) kl l xs.length .sliceB hok.1 hok.2.1]⟩
        · rcases optInt_sound (hrt := hrt) (x := lo) (d := 0) hb1 with ⟨rfl, hb2⟩ | ⟨yl, kl, l, rfl, el, hb2⟩
          · obtain ⟨hok, hb3⟩ := cond_some hb2
            simp only [Bool.and_eq_true, decide_eq_true_eq] at hok
            exact ⟨0, m, hok.1, hok.2.1, hok.2.2, hb3, by simp [Instr.sliceBounds, eh, run_sliceBound' (P := P) (w := w) kh m c .sliceAcap (by omega) (by omega)]⟩
          · obtain ⟨hok, hb3⟩ := cond_some hb2
            simp only [Bool.and_eq_true, decide_eq_true_eq] at hok
            exact ⟨l, m, hok.1, hok.2.1, hok.2.2, hb3, by
              simp [Instr.sliceBounds, eh, el, run_sliceBound' (P := P) (w := w) kh m c .sliceAcap (by omega) (by omega), run_sliceBound' (P := P) (w := w) kl l m.toNat .sliceB hok.1 (by omega)]⟩
      obtain ⟨l, m, h1, h2, h3, hK, hrun⟩ := key
      refine ⟨_, .slice (if c = l.toNat then aa else aa.map (·.add (l.toNat * ee.size))) (m.toNat - l.toNat) (c - l.toNat), hK, ?_, ?_⟩
      · simp [Instr.sliceAt, run_underlying hu, Instr.slice, hrun, hie.sizeOf]
      · have hlen2 : ((xs.take m.toNat).drop l.toNat).length = m.toNat - l.toNat := by simp; omega
        simp only [RV, RC]
        refine ⟨_, _, by rw [hlen2], by omega, by omega, fun hne => ?_⟩
        have hne' : xs ≠ [] := by rintro rfl; simp at hne
        have hlt : l.toNat < m.toNat := by
          rcases Nat.lt_or_ge l.toNat m.toNat with hh | hh
          · exact hh
          · exact absurd (List.eq_nil_of_length_eq_zero (by omega)) hne
        obtain ⟨b, q, rfl, hbl, hm', hr⟩ := hx hne'
        refine ⟨b, q + l.toNat * s.n, ?_, hbl, hm', fun j x hj => ?_⟩
        · rw [if_neg (by omega)]; simp [addr_add, hn1]
        · rw [List.getElem?_drop, List.getElem?_take] at hj
          split at hj
          · obtain ⟨cs, hc, hR⟩ := hr _ x hj
            refine ⟨cs, fun j' v hj' => ?_, hR⟩
            have := hc j' v hj'
            rw [Nat.add_mul, ← Nat.add_assoc] at this
            exact this
          · cases hj
    | _ => simp at hb
/-! ### Aggregates built from parts -/
theorem fold_set : (vs : List Value) → (off k : Nat) → (cells : Array Value) → off + k + vs.length ≤ cells.size →
    ((vs.zipIdx k).foldl (fun (cs : Array Value) (p : Value × Nat) => cs.setIfInBounds (off + p.2) p.1) cells).toList = cells.toList.take (off + k) ++ vs ++ cells.toList.drop (off + k + vs.length)
  | [], off, k, cells, _ => by simp
  | v :: vs, off, k, cells, hl => by
    simp only [List.zipIdx_cons, List.foldl_cons]
    rw [fold_set vs off (k + 1) (cells.setIfInBounds (off + k) v) (by simp at hl ⊢; omega)]
    have e := list_seg_step cells.toList (off + k) v vs (by simp at hl ⊢; omega)
    simpa [Array.toList_setIfInBounds, Nat.add_assoc] using e
theorem fold_setA (vs : Array Value) (off : Nat) (cells : Array Value) (hl : off + vs.size ≤ cells.size) :
    (vs.zipIdx.foldl (fun (cs : Array Value) (p : Value × Nat) => cs.setIfInBounds (off + p.2) p.1) cells).toList = cells.toList.take off ++ vs.toList ++ cells.toList.drop (off + vs.size) := by
  rw [← Array.foldl_toList, Array.toList_zipIdx]
  have := fold_set vs.toList off 0 cells (by simpa using hl)
  simpa using this
theorem fill_sound {M : Nat → Prop} {place place' : Nat → Option (Nat × Nat)} (hpl : ∀ i p, place i = some p → place' i = some p) (hrt : ∀ i, RV w M h σ (t i) (a.tmps.getD i undef))
    (hev : ∀ x, RV w M h σ (ev t x) (a.eval x)) :
    (ps : List (Nat × Operand)) → {vs us : List V} → {cs : Array Value} → RVs w M h σ vs cs.toList → (∀ c ∈ cs.toList, c.oneCell' = true) → fillV place t ps vs = some us →
    ∃ ds : Array Value, Instr.fill place' cs (ps.map fun p => (p.1, a.eval p.2)) = some ds ∧ RVs w M h σ us ds.toList ∧ (∀ c ∈ ds.toList, c.oneCell' = true)
  | [], vs, us, cs, hr, h1, hf => by
    simp only [fillV, Option.some.injEq] at hf
    subst hf
    exact ⟨cs, rfl, hr, h1⟩
  | (i, x) :: ps, vs, us, cs, hr, h1, hf => by
    simp only [fillV] at hf
    split at hf
    · cases hf
    · rename_i off size hp
      obtain ⟨hok, hf⟩ := cond_some hf
      simp only [Bool.and_eq_true] at hok
      obtain ⟨⟨h2, h3⟩, h4⟩ := hok
      have h2 := Nat.eq_of_beq_eq_true h2
      have h4 := Nat.le_of_ble_eq_true h4
      obtain ⟨hv, hv1⟩ := rv_one (hev x) h3
      have hsz : (a.eval x).cells.size = size := by have := hv.length; simp at this; omega
      have hcs := hr.length
      simp only [Array.length_toList] at hcs
      have hlist := fold_setA (a.eval x).cells off cs (by omega)
      have hr' := ((hr.take off).append hv).append (hr.drop (off + size))
      rw [← hsz] at hr'
      rw [← hlist] at hr'
      rw [hsz] at hr'
      obtain ⟨ds, h5, h6, h7⟩ := fill_sound hpl hrt hev ps hr' (fun c hc => by
        rw [hlist] at hc
        simp only [List.mem_append] at hc
        rcases hc with (hc | hc) | hc
        · exact h1 c (List.mem_of_mem_take hc)
        · exact hv1 c hc
        · exact h1 c (List.mem_of_mem_drop hc)) hf
      refine ⟨ds, ?_, h6, h7⟩
      simp only [List.map_cons, Instr.fill, hpl i _ hp]
      rw [if_neg (by simp [hsz]; omega)]
      exact h5
end
end Go.Abs
