/- Contracts of summary.places and summary.Leq. -/
import Derived.Test.YtjfpglmmhikhbaaSummary2
namespace Go.Proofs.Ytjfpglmmhikhbaa
open Go.RowKit

def pc (p : Int × Bool) : List Value := [.int .i64 p.1, .bool p.2]
def cellsP (ps : List (Int × Bool)) : List Value := ps.flatMap pc
theorem cellsP_cons (p : Int × Bool) (ps : List (Int × Bool)) : cellsP (p :: ps) = .int .i64 p.1 :: .bool p.2 :: cellsP ps := rfl
theorem cellsP_length : ∀ ps, (cellsP ps).length = ps.length * 2
  | [] => rfl
  | p :: ps => by rw [cellsP_cons]; simp [cellsP_length ps]; omega
theorem cellsP_append (ps qs : List (Int × Bool)) : cellsP (ps ++ qs) = cellsP ps ++ cellsP qs := by simp [cellsP]
theorem nth_cons_succ {α : Type} [Inhabited α] (x : α) (xs : List α) (i : Nat) : nth (x :: xs) (i + 1) = nth xs i := rfl
theorem nth_cons_zero {α : Type} [Inhabited α] (x : α) (xs : List α) : nth (x :: xs) 0 = x := rfl
theorem cellsP_get1 : ∀ (ps : List (Int × Bool)) (i : Nat), i < ps.length → (cellsP ps)[i * 2]? = some (.int .i64 (nth ps i).1)
  | [], i, h => by simp at h
  | p :: ps, 0, _ => by rw [cellsP_cons]; rfl
  | p :: ps, i + 1, h => by
    have e : (i + 1) * 2 = i * 2 + 1 + 1 := by omega
    rw [cellsP_cons, e, List.getElem?_cons_succ, List.getElem?_cons_succ, nth_cons_succ]
    exact cellsP_get1 ps i (by simpa using h)
theorem cellsP_get2 : ∀ (ps : List (Int × Bool)) (i : Nat), i < ps.length → (cellsP ps)[i * 2 + 1]? = some (.bool (nth ps i).2)
  | [], i, h => by simp at h
  | p :: ps, 0, _ => by rw [cellsP_cons]; rfl
  | p :: ps, i + 1, h => by
    have e : (i + 1) * 2 + 1 = (i * 2 + 1) + 1 + 1 := by omega
    rw [cellsP_cons, e, List.getElem?_cons_succ, List.getElem?_cons_succ, nth_cons_succ]
    exact cellsP_get2 ps i (by simpa using h)
theorem cellsP_set1 (x : Int) : ∀ (ps : List (Int × Bool)) (i : Nat), i < ps.length → (cellsP ps).set (i * 2) (.int .i64 x) = cellsP (ps.set i (x, (nth ps i).2))
  | [], i, h => by simp at h
  | p :: ps, 0, _ => by rw [cellsP_cons]; rfl
  | p :: ps, i + 1, h => by
    have e : (i + 1) * 2 = i * 2 + 1 + 1 := by omega
    rw [cellsP_cons, e, List.set_cons_succ, List.set_cons_succ, nth_cons_succ, List.set_cons_succ, cellsP_cons, cellsP_set1 x ps i (by simpa using h)]
theorem cellsP_set2 (x : Bool) : ∀ (ps : List (Int × Bool)) (i : Nat), i < ps.length → (cellsP ps).set (i * 2 + 1) (.bool x) = cellsP (ps.set i ((nth ps i).1, x))
  | [], i, h => by simp at h
  | p :: ps, 0, _ => by rw [cellsP_cons]; rfl
  | p :: ps, i + 1, h => by
    have e : (i + 1) * 2 + 1 = (i * 2 + 1) + 1 + 1 := by omega
    rw [cellsP_cons, e, List.set_cons_succ, List.set_cons_succ, nth_cons_succ, List.set_cons_succ, cellsP_cons, cellsP_set2 x ps i (by simpa using h)]

/-- A list of places that the call itself has made. -/
def OwnP (w : World) (base : Nat) (v : Value) (ps : List (Int × Bool)) : Prop := w.ownsRow base 60 2 v ps.length (cellsP ps)
theorem OwnP.keeps {w w' : World} {base : Nat} {v : Value} {ps : List (Int × Bool)} (hx : Ext w w') (h : OwnP w base v ps) : OwnP w' base v ps := by
  obtain ⟨h1, h2⟩ := h
  refine ⟨h1, h2.imp id ?_⟩
  rintro ⟨g, cap, cur, hv, hg, hh, r⟩
  refine ⟨g, cap, cur, hv, hg, ?_, r⟩
  rw [hx.block g ?_]; exact hh
  rcases Nat.lt_or_ge g w.heap.size with h' | h'
  · exact h'
  · simp [Array.getElem?_eq_none h'] at hh
theorem OwnP.has {w : World} {base : Nat} {v : Value} {ps : List (Int × Bool)} (h : OwnP w base v ps) (hn : 0 < ps.length) : ∃ g c, v = .slice (some ⟨g, 0, none⟩) ps.length c ∧ base ≤ g ∧ g < w.heap.size := by
  rcases h.2 with ⟨_, h0⟩ | ⟨g, cap, cur, rfl, hg, hh, _⟩
  · omega
  · refine ⟨g, cap, rfl, hg, ?_⟩
    rcases Nat.lt_or_ge g w.heap.size with h' | h'
    · exact h'
    · simp [Array.getElem?_eq_none h'] at hh
theorem OwnP.cell {w : World} {base g n cap : Nat} {ps : List (Int × Bool)} (h : OwnP w base (.slice (some ⟨g, 0, none⟩) n cap) ps) (i : Nat) (hi : i < ps.length) :
    w.cell? ⟨g, i * 2, none⟩ = some (.int .i64 (nth ps i).1) ∧ w.cell? ⟨g, i * 2 + 1, none⟩ = some (.bool (nth ps i).2) ∧ (∀ j, w.frozen? ⟨g, j, none⟩ = false) ∧ n = ps.length := by
  have hn : n = ps.length := by
    rcases h.2 with ⟨h', _⟩ | ⟨g, cap, cur, h', _⟩
    · cases h'
    · cases h'; rfl
  subst hn
  refine ⟨?_, ?_, fun j => World.ownsRow.frozenAt h j, rfl⟩
  · rw [World.ownsRow.cellAt h (i * 2) (by omega), cellsP_get1 ps i hi]
  · rw [World.ownsRow.cellAt h (i * 2 + 1) (by omega), cellsP_get2 ps i hi]
theorem OwnP.set1 {w : World} {base g n cap : Nat} {ps : List (Int × Bool)} (h : OwnP w base (.slice (some ⟨g, 0, none⟩) n cap) ps) (i : Nat) (hi : i < ps.length) (x : Int) :
    OwnP (w.setCell ⟨g, i * 2, none⟩ (.int .i64 x)) base (.slice (some ⟨g, 0, none⟩) n cap) (ps.set i (x, (nth ps i).2)) := by
  have hn := (OwnP.cell h i hi).2.2.2
  subst hn
  have := (World.ownsRow.stored h (i * 2) (.int .i64 x)).1
  unfold OwnP
  rw [← cellsP_set1 x ps i hi]
  simpa using this
theorem OwnP.set2 {w : World} {base g n cap : Nat} {ps : List (Int × Bool)} (h : OwnP w base (.slice (some ⟨g, 0, none⟩) n cap) ps) (i : Nat) (hi : i < ps.length) (x : Bool) :
    OwnP (w.setCell ⟨g, i * 2 + 1, none⟩ (.bool x)) base (.slice (some ⟨g, 0, none⟩) n cap) (ps.set i ((nth ps i).1, x)) := by
  have hn := (OwnP.cell h i hi).2.2.2
  subst hn
  have := (World.ownsRow.stored h (i * 2 + 1) (.bool x)).1
  unfold OwnP
  rw [← cellsP_set2 x ps i hi]
  simpa using this

theorem infoP : (Try.prog.info? 60).map (fun i => (i.zero, i.size, i.bytes)) = some (some (.agg #[.int .i64 0, .bool false]), 2, 16) := by kernel_rfl
theorem info_partsP : ∃ i, Try.prog.info? 60 = some i ∧ i.zero = some (.agg #[.int .i64 0, .bool false]) ∧ i.size = 2 ∧ i.bytes = 16 := by
  have h := infoP
  cases hi : Try.prog.info? 60 with
  | none => rw [hi] at h; cases h
  | some i => rw [hi] at h; simp at h; exact ⟨i, rfl, h.1, h.2.1, h.2.2⟩
theorem made_places : ∀ n : Nat, (List.range (n * 2)).map (fun k => (#[Value.int .i64 0, .bool false] : Array Value)[k % 2]!) = cellsP (List.replicate n (0, false))
  | 0 => rfl
  | n + 1 => by
    rw [List.replicate_succ', cellsP_append, ← made_places n, show (n + 1) * 2 = n * 2 + 1 + 1 by omega, List.range_succ, List.range_succ]
    have e1 : (n * 2 + 1) % 2 = 1 := by omega
    have e2 : (n * 2) % 2 = 0 := by omega
    simp [cellsP, pc, e1, e2]
theorem mkP_run (n m : Nat) (hnm : n ≤ m) (hm : m ≤ 8) (W : World) : (Instr.makeSlice 57 (.int .i64 (n : Int)) (.int .i64 (m : Int))).run Try.prog W =
    .ok (.slice (some ⟨W.heap.size, 0, none⟩) n m) (W.alloc (.cells (madeCells #[Value.int .i64 0, .bool false] (m * 2)) 60)) := by
  obtain ⟨i, hi, hz, hsz, hb⟩ := info_partsP
  have hrun := run_make (P := Try.prog) W 57 60 i _ Try.underlying57 hi hz .i64 .i64 (n : Int) (m : Int) (by omega) (by omega) (by rw [hb]; omega) (by omega)
  simp only [Int.toNat_natCast, hsz] at hrun
  exact hrun
theorem mkP_own (n m : Nat) (hnm : n ≤ m) (hm : m ≤ 8) (W : World) : OwnP (W.alloc (.cells (madeCells #[Value.int .i64 0, .bool false] (m * 2)) 60)) W.heap.size (.slice (some ⟨W.heap.size, 0, none⟩) n m) (List.replicate n (0, false)) := by
  refine ⟨by rw [cellsP_length], .inr ⟨W.heap.size, m, _, by simp, Nat.le_refl _, Box.new _ _ _, by simpa using hnm, by unfold maxLen; omega, by rw [size_madeCells], ?_⟩⟩
  rw [← made_places n]
  unfold madeCells
  simp [List.take_range, ← List.map_take]
  rw [Nat.min_eq_left (by omega)]
theorem app_p {P : Program} (hP : P = Try.prog) {ops : Array Oper} {rest : List Oper} {o : Oper} {a : Act} {Q : Exit → Act → World → Prop} {w : World} (hgd : o.guard = none) (s x : Operand)
    (ho : o.op = .call { callee := .builtin .append, args := #[s, x], argTypes := #[57, 57] })
    (base : Nat) (v : Value) (ps : List (Int × Bool)) (y : Int) (b c : Nat) (hs : a.eval s = v) (hx : a.eval x = .slice (some ⟨b, 0, none⟩) 1 c) (hown : OwnP w base v ps)
    (hb : Box w b #[.int .i64 y, .bool false] 60) (hlen : ps.length ≤ 100) (hbase : base ≤ w.heap.size)
    (h : ∀ v' w', OwnP w' base v' (ps ++ [(y, false)]) → w.grownBy w' v.ownBlock → wpList P ops Q rest (a.put o.dst v') w') : wpList P ops Q (o :: rest) a w := by
  subst hP
  obtain ⟨i, hi, hz, hsz, hby⟩ := info_partsP
  refine wpList_append_own w hgd s x _ ho base 60 i _ 2 16 Try.underlying57 hi hz hsz hby rfl (by decide) v ps.length (cellsP ps) hs hown ⟨b, 0, none⟩ 1 c [.int .i64 y, .bool false] hx rfl ?_ ?_ (by unfold maxLen; omega) (by omega) hbase ?_
  · intro j u hj
    match j, hj with
    | 0, hj => cases hj; exact hb.cell 0
    | 1, hj => cases hj; exact hb.cell 1
    | j + 2, hj => simp at hj
  · intro u hu
    simp at hu
    rcases hu with rfl | rfl <;> rfl
  · intro v' w' hown' hg _
    refine h v' w' ?_ hg
    unfold OwnP
    rw [cellsP_append]
    simpa [cellsP, pc] using hown'
theorem OwnP.block {w : World} {base : Nat} {v : Value} {ps : List (Int × Bool)} (h : OwnP w base v ps) : ∀ k, v.ownBlock = some k → base ≤ k := by
  rcases h.2 with ⟨rfl, _⟩ | ⟨g, cap, cur, rfl, hg, _⟩
  · intro k hk; cases hk
  · intro k hk; cases hk; exact hg
theorem OwnP.mono {w : World} {base base' : Nat} {v : Value} {ps : List (Int × Bool)} (h : OwnP w base v ps) (hb : base' ≤ base) : OwnP w base' v ps := by
  obtain ⟨h1, h2⟩ := h
  refine ⟨h1, h2.imp id ?_⟩
  rintro ⟨g, cap, cur, hv, hg, r⟩
  exact ⟨g, cap, cur, hv, by omega, r⟩

/-- What places makes. -/
def placesL (s : Sm) : List (Int × Bool) := (List.replicate s.keep.toNat ((0 : Int), true)).set (s.keep.toNat - 1) (s.add, true) ++ s.push.map (fun x => (x, false))
def RetP (w : World) (ps : List (Int × Bool)) (e : Ending) (w' : World) : Prop := ∃ u, e = .returned u ∧ OwnP w' w.heap.size u ps ∧ Ext w w'
def keptTo (K k : Nat) : List (Int × Bool) := List.replicate k ((0 : Int), true) ++ List.replicate (K - k) ((0 : Int), false)
theorem keptTo_len {K k : Nat} (h : k ≤ K) : (keptTo K k).length = K := by simp [keptTo]; omega
theorem keptTo_nth {K k : Nat} (h : k < K) : nth (keptTo K k) k = (0, false) := by
  rw [nth_eq _ _ (by rw [keptTo_len (by omega)]; exact h)]
  simp [keptTo]
theorem keptTo_set {K k : Nat} (h : k < K) : (keptTo K k).set k ((nth (keptTo K k) k).1, true) = keptTo K (k + 1) := by
  rw [keptTo_nth h]
  unfold keptTo
  rw [List.set_append_right _ _ (by simp), show K - k = (K - (k + 1)) + 1 by omega, List.replicate_succ, List.replicate_succ']
  simp
theorem keptTo_all (K : Nat) : keptTo K K = List.replicate K (0, true) := by simp [keptTo]
theorem keptTo_zero (K : Nat) : keptTo K 0 = List.replicate K (0, false) := by simp [keptTo]
theorem mapF_len (xs : List Int) : (xs.map (fun x => (x, false))).length = xs.length := by simp

set_option maxHeartbeats 1000000 in
theorem places_any (v : Value) (s : Sm) (w : World) (hv : SumAt w v s) (h1 : 1 ≤ s.keep) (h4 : s.keep + s.push.length ≤ 4) :
    Calls Try.prog 41 #[v] w (RetP w (placesL s)) := by
  have hS := hid (fun w' (hx : Ext w w') => SumAt.keeps hx hv)
  obtain ⟨pv, rfl, hp⟩ := hv
  have hP := hid (fun w' (hx : Ext w w') => Rd.keeps hx hp)
  have hE := hid (Ext.alloc w (.cells #[.int .i64 s.keep, .int .i64 s.add, pv] 32))
  obtain ⟨a, cap, rfl, hlm, -, -, -⟩ := hp
  obtain ⟨K, hK⟩ := Int.eq_ofNat_of_zero_le (show 0 ≤ s.keep by omega)
  obtain ⟨keep, add, push⟩ := s
  simp only at *
  subst hK
  have hKM : K ≤ K + push.length := by omega
  have hM : K + push.length ≤ 8 := by omega
  have b0 : (w.alloc (.cells #[.int .i64 (K : Int), .int .i64 add, .slice a push.length cap] 32)).cell? ⟨w.heap.size, 0, none⟩ = some (.int .i64 (K : Int)) := by simp
  have b1 : (w.alloc (.cells #[.int .i64 (K : Int), .int .i64 add, .slice a push.length cap] 32)).cell? ⟨w.heap.size, 1, none⟩ = some (.int .i64 add) := by simp
  have b2 : (w.alloc (.cells #[.int .i64 (K : Int), .int .i64 add, .slice a push.length cap] 32)).cell? ⟨w.heap.size, 2, none⟩ = some (.slice a push.length cap) := by simp
  have hmk := mkP_run K (K + push.length) hKM hM
  have hcast : ((K + push.length : Nat) : Int) = (K : Int) + (push.length : Int) := by simp
  rw [hcast] at hmk
  clear hcast
  go_enter Try.func41, Try.ntmps41
  go_wp2_with fail
  go_region_held3 (fun w' => w'.cell? ⟨w.heap.size, 0, none⟩ = some (.int .i64 (K : Int)) ∧ w'.cell? ⟨w.heap.size, 1, none⟩ = some (.int .i64 add) ∧ w'.cell? ⟨w.heap.size, 2, none⟩ = some (.slice a push.length cap)) (first | exact ⟨Ext.keeps (Ext.alloc _ _) (Ext.keeps hx2 b0), Ext.keeps (Ext.alloc _ _) (Ext.keeps hx2 b1), Ext.keeps (Ext.alloc _ _) (Ext.keeps hx2 b2)⟩ | exact ⟨Ext.keeps hx2 b0, Ext.keeps hx2 b1, Ext.keeps hx2 b2⟩ | go_keep)
    (first
      | (go_at_call 33; refine (out_any _ _ _ (hS.out _ (Ext.drew' hE.out)) (by simp) (by simp; omega) (by simp; omega)).mono ?_; rintro e w2 ⟨rfl, hx2⟩))
  have hown := hid (mkP_own K (K + push.length) hKM hM w2)
  have hx3 := Ext.alloc w2 (.cells (madeCells #[Value.int .i64 0, .bool false] ((K + push.length) * 2)) 60)
  have hE2 := hid (Ext.trans (Ext.drew' hE.out) hx2)
  have c0 := hid (Ext.keeps hx2 b0)
  have c1 := hid (Ext.keeps hx2 b1)
  have c2 := hid (Ext.keeps hx2 b2)
  generalize w2.alloc (.cells (madeCells #[Value.int .i64 0, .bool false] ((K + push.length) * 2)) 60) = w3 at *
  clear hmk b0 b1 b2 hx2
  replace hx3 := hid hx3
  go_wp2_with fail
  go_loopw [14] (fun i wr => ∃ k : Nat, k ≤ K ∧ i = .int .i64 k ∧ Hid (Ext w2 wr) ∧ Hid (OwnP wr w2.heap.size (.slice (some ⟨w2.heap.size, 0, none⟩) K (K + push.length)) (keptTo K k))) (fun i _ => K - (intOf i).toNat)
  case atStart => exact ⟨0, Nat.zero_le _, rfl, hx3, hid (by rw [keptTo_zero]; exact hown.out)⟩
  case round =>
    obtain ⟨k, hk, rfl, hx, hp⟩ := hrel
    clear hown hx3
    by_cases hlt : k < K
    · have hlen := keptTo_len hk
      obtain ⟨-, o2, o3, -⟩ := OwnP.cell hp.out k (by rw [hlen]; exact hlt)
      have hn := hid (OwnP.set2 hp.out k (by rw [hlen]; exact hlt) true)
      have hx5 := hid (Ext.setCell hx.out ⟨w2.heap.size, k * 2 + 1, none⟩ (Nat.le_refl _) (.bool true))
      rw [keptTo_set hlt] at hn
      go_wp2_with fail
      go_roundw
      case rel => exact ⟨k + 1, by omega, by go_num, hx5, hn⟩
      case measure => simp [intOf]; omega
    · obtain rfl : k = K := by omega
      have d0 := Ext.keeps hx.out c0.out
      have d1 := Ext.keeps hx.out c1.out
      have d2 := Ext.keeps hx.out c2.out
      obtain ⟨m, hm1⟩ : ∃ m : Nat, (k : Int) - 1 = (m : Int) := ⟨k - 1, by omega⟩
      have hmk : m < k := by omega
      obtain ⟨o1, o2, o3, -⟩ := OwnP.cell hp.out m (by rw [keptTo_len hk]; exact hmk)
      have hn := hid (OwnP.set1 hp.out m (by rw [keptTo_len hk]; exact hmk) add)
      have c0' := c0.out
      clear c0 c1 c2
      have hlt2 : w.heap.size < w2.heap.size := cell_lt c0'
      have hne : ¬ w2.heap.size = w.heap.size := by omega
      have hne' : ¬ w.heap.size = w2.heap.size := fun h => hne h.symm
      have hset : (keptTo k k).set m (add, (nth (keptTo k k) m).2) = (List.replicate k ((0 : Int), true)).set (k - 1) (add, true) := by
        rw [keptTo_all, nth_eq _ _ (by simpa using hmk), show k - 1 = m by omega]; simp
      rw [hset] at hn
      clear hset
      have hx5 := hid (Ext.setCell (Ext.trans hE2.out hx.out) ⟨w2.heap.size, m * 2, none⟩ (by have := hE2.out.size; exact this) (.int .i64 add))
      have hbase := hE2.out.size
      go_wp2_with fail
      generalize wr.setCell ⟨w2.heap.size, m * 2, none⟩ (.int .i64 add) = w5 at *
      clear d0 d1 d2 o1 o2 o3 hp hx hne hne' c0'
      have hll : ((List.replicate k ((0 : Int), true)).set (k - 1) (add, true)).length = k := by simp
      have hpl : placesL ⟨(k : Int), add, push⟩ = (List.replicate k ((0 : Int), true)).set (k - 1) (add, true) ++ push.map (fun x => (x, false)) := by simp [placesL]
      generalize (List.replicate k ((0 : Int), true)).set (k - 1) (add, true) = L at *
      replace hll := hid hll
      replace hpl := hid hpl
      go_loopw [3, 33] (fun u i wr => ∃ j : Nat, j ≤ push.length ∧ i = .int .i64 j ∧ Hid (Ext w wr) ∧ Hid (w2.heap.size ≤ wr.heap.size) ∧ Hid (OwnP wr w2.heap.size u (L ++ (push.take j).map (fun x => (x, false))))) (fun _ i _ => push.length - (intOf i).toNat)
      case atStart => exact ⟨0, Nat.zero_le _, rfl, hx5, hid (by obtain ⟨g, c, -, h1, h2⟩ := OwnP.has hn.out (by rw [hll.out]; omega); omega), hid (by simpa using hn.out)⟩
      case round =>
        obtain ⟨j, hj, rfl, hx, hsz, hp⟩ := hrel
        clear hn hx5
        by_cases hlj : j < push.length
        · obtain ⟨a', cap', e, -, -, ha, hc⟩ := hP.out _ hx.out
          cases e
          obtain ⟨b, off, rfl⟩ := ha.resolve_left (by omega)
          have hcell := hc b off rfl j hlj
          have hbox := hid (Box.new wr #[.int .i64 (nth push j), .bool false] 60)
          have hp' := hid (OwnP.keeps (Ext.alloc wr (.cells #[.int .i64 (nth push j), .bool false] 60)) hp.out)
          have hE5 := hid (Ext.trans hx.out (Ext.alloc wr (.cells #[.int .i64 (nth push j), .bool false] 60)))
          have hlk := hid (show (L ++ (push.take j).map (fun x => (x, false))).length ≤ 100 by have := hll.out; simp; omega)
          have hbs := hid (show w2.heap.size ≤ (wr.alloc (.cells #[.int .i64 (nth push j), .bool false] 60)).heap.size by have h1 := (Ext.alloc wr (.cells #[.int .i64 (nth push j), .bool false] 60)).size; have := hsz.out; omega)
          clear hc ha
          go_wp2_with (at_builtin; refine app_p rfl rfl _ _ rfl w2.heap.size _ _ (nth push j) _ _ rfl rfl hp'.out hbox.out hlk.out hbs.out ?c5)
          case c5 =>
          intro v' w' hown hg
          have hx2 := hid (Ext.grown hE5.out hg (fun q hq => Nat.le_trans hbase (OwnP.block hp.out q hq)))
          have hs2 := hid (show w2.heap.size ≤ w'.heap.size from Nat.le_trans hbs.out hg.size)
          have hap : L ++ (List.take j (List.map (fun x => (x, false)) push) ++ [(nth push j, false)]) = L ++ (push.take (j + 1)).map (fun x => (x, false)) := by rw [take_succ_nth push j hlj]; simp
          rw [hap] at hown
          clear hap
          replace hown := hid hown
          clear hg hp hp' hbox hE5 hlk hbs hcell hx hsz
          go_wp2_with fail
          go_roundw
          case rel => exact ⟨j + 1, by omega, by go_num, hx2, hs2, hown⟩
          case measure => simp [intOf]; omega
        · obtain rfl : j = push.length := by omega
          rw [List.take_length] at hp
          go_wp2_with fail
          go_ret
          exact ⟨u3, rfl, by rw [hpl.out]; exact OwnP.mono hp.out hbase, hx.out⟩

theorem placesL_len {s : Sm} (h : 0 ≤ s.keep) : ((placesL s).length : Int) = s.keep + s.push.length := by simp [placesL]; omega
theorem placesL_nth {s : Sm} (k : Nat) (h : 1 ≤ s.keep) (hk : (k : Int) < s.keep + s.push.length) : nth (placesL s) k = (placeN s k, decide ((k : Int) < s.keep)) := by
  have hkn : k < ((List.replicate s.keep.toNat ((0 : Int), true)).set (s.keep.toNat - 1) (s.add, true) ++ s.push.map (fun x => (x, false))).length := by simp; omega
  show nth ((List.replicate s.keep.toNat ((0 : Int), true)).set (s.keep.toNat - 1) (s.add, true) ++ s.push.map (fun x => (x, false))) k = _
  rw [nth_eq _ _ hkn]
  by_cases h1 : (k : Int) < s.keep
  · have h2 : k < s.keep.toNat := by omega
    rw [List.getElem_append_left (by rw [List.length_set, List.length_replicate]; exact h2), List.getElem_set]
    have e1 : ¬ s.keep ≤ (k : Int) := by omega
    by_cases h3 : s.keep.toNat - 1 = k
    · have e2 : (k : Int) = s.keep - 1 := by omega
      have e3 : placeN s k = s.add := by unfold placeN; rw [if_neg e1, if_pos e2]
      rw [if_pos h3, e3, decide_eq_true h1]
    · have e2 : ¬ (k : Int) = s.keep - 1 := by omega
      have e3 : placeN s k = 0 := by unfold placeN; rw [if_neg e1, if_neg e2]
      rw [if_neg h3, e3, decide_eq_true h1, List.getElem_replicate]
  · rw [List.getElem_append_right (by simp; omega)]
    unfold placeN
    rw [if_pos (by omega)]
    have e : k - s.keep.toNat = ((k : Int) - s.keep).toNat := by omega
    simp only [List.length_set, List.length_replicate, List.getElem_map]
    rw [nth_eq _ _ (by omega)]
    simp [h1, e]

end Go.Proofs.Ytjfpglmmhikhbaa
