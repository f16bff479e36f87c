/- Reading predicates of this claim's walks and small plain lemmas; no conditions. -/
import Derived.Test.YtjfpglmmhikhbaaProg
import Derived.WalkKit
import Derived.BigQuiet
import Derived.Handy
namespace Go.Proofs.Ytjfpglmmhikhbaa
open Go.RowKit

theorem hid {p : Prop} (h : p) : Hid p := h
theorem ret_int {k : IntKind} {a b : Int} (h : a = b) : Ending.returned (.int k a) = .returned (.int k b) := by rw [h]
theorem ret_bool {a b : Bool} (h : a = b) : Ending.returned (.bool a) = .returned (.bool b) := by rw [h]

/-- The world has been extended: what was there is as it was. -/
abbrev Ext (w w' : World) : Prop := Below w.heap.size w w'
theorem Ext.refl (w : World) : Ext w w := Below.refl _ _
theorem Ext.trans {a b c : World} (h : Ext a b) (k : Ext b c) : Ext a c := Below.trans h (Below.mono k h.size)
theorem Ext.alloc (w : World) (o : Obj) : Ext w (w.alloc o) := Below.alloc (Below.refl _ _) (Nat.le_refl _) o
theorem cell_lt {w : World} {a : Addr} {v : Value} (h : w.cell? a = some v) : a.block < w.heap.size := by
  unfold World.cell? at h
  rcases Nat.lt_or_ge a.block w.heap.size with h' | h'
  · exact h'
  · simp [Array.getElem?_eq_none h'] at h
theorem Below.keeps {B : Nat} {w w' : World} (h : Below B w w') {a : Addr} {v : Value} (hB : a.block < B) (hc : w.cell? a = some v) : w'.cell? a = some v := by
  rw [h.cell hB]; exact hc
theorem Ext.keeps {w w' : World} (h : Ext w w') {a : Addr} {v : Value} (hc : w.cell? a = some v) : w'.cell? a = some v := by
  rw [h.cell (cell_lt hc)]; exact hc

/-! ### A world that has grown -/
/-- What a world has grown by. -/
structure Growth where
  objs : Array Obj
  drawn : Nat
instance : Nonempty Growth := ⟨⟨#[], 0⟩⟩
/-- The world w with more blocks behind its own, and some draws. -/
def grow (w : World) (g : Growth) : World := { w with heap := w.heap ++ g.objs, drawn := g.drawn }
theorem Ext.out {w w' : World} (h : Ext w w') : ∃ g, w' = grow w g := by
  obtain ⟨h1, h2, h3, h4, h5⟩ := h
  refine ⟨⟨w'.heap.extract w.heap.size w'.heap.size, w'.drawn⟩, ?_⟩
  obtain ⟨hp, tp, dr, os, ou⟩ := w'
  simp only at h1 h2 h3 h4 h5
  subst h1; subst h2; subst h3
  unfold grow
  simp only
  congr 1
  apply Array.ext_getElem?
  intro k
  rcases Nat.lt_or_ge k w.heap.size with hk | hk
  · rw [Array.getElem?_append_left hk]; exact h5 k hk
  · rw [Array.getElem?_append_right hk, Array.getElem?_extract]
    split
    · congr 1; omega
    · rename_i hx; rw [Array.getElem?_eq_none]; simp at hx; omega
theorem ext_grow (w : World) (g : Growth) : Ext w (grow w g) :=
  ⟨rfl, rfl, rfl, by simp [grow], fun k hk => by simp only [grow]; rw [Array.getElem?_append_left hk]⟩
theorem Ext.grow {w w' : World} (h : Ext w w') (g : Growth) : Ext w (grow w' g) := h.trans (ext_grow _ _)
theorem Ext.alloc' {w w' : World} (h : Ext w w') (o : Obj) : Ext w (w'.alloc o) := h.trans (Ext.alloc _ _)
theorem Ext.drew' {w w' : World} (h : Ext w w') : Ext w w'.drew := Below.drew h
theorem Ext.drewN' {w w' : World} (h : Ext w w') (n : Nat) : Ext w (w'.drewN n) := ⟨h.os, h.tape, h.output, h.size, h.block⟩
theorem grow_grow (w : World) (g h : Growth) : ∃ k, Go.Proofs.Ytjfpglmmhikhbaa.grow (Go.Proofs.Ytjfpglmmhikhbaa.grow w g) h = Go.Proofs.Ytjfpglmmhikhbaa.grow w k := Ext.out (Ext.grow (ext_grow w g) h)
/-- A block that is there. -/
def Inside (w : World) (b : Nat) : Prop := b < w.heap.size
theorem Inside.of_cell {w : World} {a : Addr} {v : Value} (h : w.cell? a = some v) : Inside w a.block := cell_lt h
@[go_sem] theorem inside_grow {w : World} {b : Nat} (g : Growth) (h : Inside w b) : Inside (grow w g) b = True :=
  eq_true (Nat.lt_of_lt_of_le h (ext_grow w g).size)
@[go_sem] theorem inside_alloc (w : World) (o : Obj) (b : Nat) : Inside (w.alloc o) b = (Inside w b ∨ b = w.heap.size) := by
  unfold Inside; simp only [World.size_alloc]; apply propext; omega
@[go_sem] theorem inside_setCell (w : World) (a : Addr) (v : Value) (b : Nat) : Inside (w.setCell a v) b = Inside w b := by
  unfold Inside; simp [World.setCell]
@[go_sem] theorem inside_drew (w : World) (b : Nat) : Inside w.drew b = Inside w b := rfl
@[go_sem] theorem inside_drewN (w : World) (n b : Nat) : Inside (w.drewN n) b = Inside w b := rfl
@[go_sem] theorem cell?_grow {w : World} {a : Addr} (g : Growth) (h : Inside w a.block) : (grow w g).cell? a = w.cell? a := (ext_grow w g).cell h
@[go_sem] theorem frozen?_grow {w : World} {a : Addr} (g : Growth) (h : Inside w a.block) : (grow w g).frozen? a = w.frozen? a := (ext_grow w g).frozen h
@[go_sem] theorem grow_drew (w : World) (g : Growth) : (grow w g).drew = grow w ⟨g.objs, g.drawn + 1⟩ := rfl
@[go_sem] theorem grow_drewN (w : World) (g : Growth) (n : Nat) : (grow w g).drewN n = grow w ⟨g.objs, g.drawn + n⟩ := rfl
/-- A region that draws its order, whose operations leave the memory that there is as it is: one walk in the text's order. -/
theorem region_ext {P : Program} {id : Nat} {Q : Exit → Act → World → Prop} {a : Act} {w : World} {l : List Oper} (hm : P.follows .mixedOrders = true) (hB : Region.lexB .any l.toArray = true)
    (h : wpQuiet P l.toArray (fun w' => ∃ g, w' = grow w g) (fun a' => ∀ w', (∃ g, w' = grow w g) → Q .normal a' w') l a) : (Code.region id l.toArray true).wp P Q a w :=
  wp_region_quiet (C := fun w' => ∃ g, w' = grow w g) hm hB (Ext.out (Ext.drew' (Ext.refl w))) (by simpa using h)
theorem Calls.quiet_ext {P : Program} {f : FuncId} {args : Array Value} {w : World} {g : Growth} {v : Value}
    (h : Calls P f args (grow w g) fun e w' => e = .returned v ∧ Ext (grow w g) w') : Calls P f args (grow w g) fun e w'' => e = .returned v ∧ ∃ m, w'' = grow w m :=
  h.mono fun _ _ ⟨he, hx⟩ => ⟨he, Ext.out (Ext.trans (ext_grow w g) hx)⟩

/-- The element at a place; kept shut from simp. -/
def nth {α : Type} [Inhabited α] (xs : List α) (i : Nat) : α := xs.getD i default
section
variable {α : Type} [Inhabited α]
theorem nth_eq (xs : List α) (i : Nat) (h : i < xs.length) : nth xs i = xs[i] := by simp [nth, List.getD, h]
theorem nth_mem (xs : List α) (i : Nat) (h : i < xs.length) : nth xs i ∈ xs := by rw [nth_eq xs i h]; exact List.getElem_mem h
theorem mem_nth {xs : List α} {x : α} (h : x ∈ xs) : ∃ i, i < xs.length ∧ nth xs i = x := by
  obtain ⟨i, hi, e⟩ := List.getElem_of_mem h
  exact ⟨i, hi, by rw [nth_eq xs i hi, e]⟩
theorem nth_ext {xs ys : List α} (hl : xs.length = ys.length) (h : ∀ i, i < xs.length → nth xs i = nth ys i) : xs = ys := by
  apply List.ext_getElem hl
  intro i h1 h2
  rw [← nth_eq xs i h1, ← nth_eq ys i h2]
  exact h i h1
theorem take_succ_nth (xs : List α) (i : Nat) (h : i < xs.length) : xs.take (i + 1) = xs.take i ++ [nth xs i] := by
  rw [List.take_succ_eq_append_getElem h, nth_eq xs i h]
theorem drop_nth (xs : List α) (i : Nat) (h : i < xs.length) : xs.drop i = nth xs i :: xs.drop (i + 1) := by
  rw [List.drop_eq_getElem_cons h, nth_eq xs i h]
omit [Inhabited α] in
theorem drop_nil (xs : List α) (k : Nat) (h : xs.length ≤ k) : xs.drop k = [] := List.drop_eq_nil_of_le h
theorem nth_set (xs : List α) (i j : Nat) (y : α) : nth (xs.set i y) j = if i = j ∧ i < xs.length then y else nth xs j := by
  unfold nth
  simp only [List.getD_eq_getElem?_getD, List.getElem?_set]
  split
  · rename_i h
    subst h
    by_cases hi : i < xs.length <;> simp [hi]
  · rename_i h; simp [h]
theorem nth_append_left (xs ys : List α) (i : Nat) (h : i < xs.length) : nth (xs ++ ys) i = nth xs i := by
  simp [nth, List.getD, List.getElem?_append_left h]
theorem nth_append_right (xs ys : List α) (i : Nat) (h : xs.length ≤ i) : nth (xs ++ ys) i = nth ys (i - xs.length) := by
  simp [nth, List.getD, List.getElem?_append_right h]
theorem nth_map {β : Type} [Inhabited β] (f : α → β) (xs : List α) (i : Nat) (h : i < xs.length) : nth (xs.map f) i = f (nth xs i) := by
  rw [nth_eq _ i (by simpa using h), nth_eq xs i h]; simp
theorem nth_take (xs : List α) (n i : Nat) (h : i < n) : nth (xs.take n) i = nth xs i := by
  simp [nth, List.getD, h]
theorem nth_drop (xs : List α) (n i : Nat) : nth (xs.drop n) i = nth xs (n + i) := by
  simp [nth, List.getD]
theorem any_take_succ (p : α → Bool) (xs : List α) (k : Nat) (h : k < xs.length) : (xs.take (k + 1)).any p = ((xs.take k).any p || p (nth xs k)) := by
  rw [take_succ_nth xs k h, List.any_append]; simp
theorem any_split (p : α → Bool) (xs : List α) (k : Nat) (h : k < xs.length) : xs.any p = ((xs.take k).any p || (p (nth xs k) || (xs.drop (k + 1)).any p)) := by
  conv => lhs; rw [← List.take_append_drop k xs]
  rw [List.any_append, drop_nth xs k h]; simp
theorem any_of_nth (p : α → Bool) (xs : List α) (k : Nat) (h : k < xs.length) (hp : p (nth xs k) = true) : xs.any p = true := by
  rw [any_split p xs k h, hp]; simp
end
theorem lt_succ_all {P : Nat → Prop} (k : Nat) (h : ∀ j, j < k → P j) (hk : P k) : ∀ j, j < k + 1 → P j := fun j hj => by
  rcases Nat.lt_or_ge j k with h' | h'
  · exact h j h'
  · obtain rfl : j = k := by omega
    exact hk

/-! ### Slices of one-celled elements -/
/-- The slice value v reads as the list xs in w, each element in one cell by enc. -/
def Rd {α : Type} [Inhabited α] (enc : α → Value) (w : World) (v : Value) (xs : List α) : Prop :=
  ∃ a cap, v = .slice a xs.length cap ∧ (xs.length ≤ cap ∧ cap ≤ 9223372036854775807) ∧ (a = none → cap = 0) ∧ (xs.length = 0 ∨ ∃ b off, a = some ⟨b, off, none⟩) ∧
    ∀ b off, a = some ⟨b, off, none⟩ → ∀ i, i < xs.length → w.cell? ⟨b, off + i, none⟩ = some (enc (nth xs i))
abbrev Ints (w : World) (v : Value) (xs : List Int) : Prop := Rd (Value.int .i64) w v xs
theorem Rd.keeps {α : Type} [Inhabited α] {enc : α → Value} {w w' : World} (h : Ext w w') {v : Value} {xs : List α} (hv : Rd enc w v xs) : Rd enc w' v xs := by
  obtain ⟨a, cap, e, hl, hn, ha, hc⟩ := hv
  exact ⟨a, cap, e, hl, hn, ha, fun b off e i hi => h.keeps (hc b off e i hi)⟩
theorem Rd.nil {α : Type} [Inhabited α] {enc : α → Value} {w : World} : Rd enc w (.slice none 0 0) ([] : List α) :=
  ⟨none, 0, rfl, by simp, fun _ => rfl, .inl rfl, fun b off e => by cases e⟩
/-- What the laws on append and make ask of a slice type's element type. -/
structure Elt (t e : TypeId) (z : Value) (bytes : Nat) : Prop where
  und : Try.prog.underlying t = some (.slice e)
  info : (Try.prog.info? e).map (fun i => (i.zero, i.size, i.bytes)) = some (some z, 1, bytes)
  cells : z.cells.size = 1
theorem eltInt : Elt 26 3 (.int .i64 0) 8 := ⟨Try.underlying26, by kernel_rfl, rfl⟩
/-- The slice value v is one of the call's own (its block is from base on), and reads as xs. -/
def OwnL {α : Type} (e : TypeId) (enc : α → Value) (w : World) (base : Nat) (v : Value) (xs : List α) : Prop :=
  w.ownsRow base e 1 v xs.length (xs.map enc)
abbrev Own (w : World) (base : Nat) (v : Value) (xs : List Int) : Prop := OwnL 3 (Value.int .i64) w base v xs
section
variable {α : Type} {e : TypeId} {enc : α → Value}
theorem OwnL.rd [Inhabited α] {w : World} {base : Nat} {v : Value} {xs : List α} (h : OwnL e enc w base v xs) : Rd enc w v xs := by
  have h0 := h
  obtain ⟨_, h⟩ := h
  rcases h with ⟨rfl, hn⟩ | ⟨g, cap, cur, rfl, hg, hh, hn, hcap, hsz, htake⟩
  · refine ⟨none, 0, by rw [hn], ⟨by omega, by omega⟩, fun _ => rfl, .inl hn, fun b off e => by cases e⟩
  · refine ⟨some ⟨g, 0, none⟩, cap, rfl, ⟨hn, by unfold maxLen at hcap; omega⟩, (fun e => by cases e), .inr ⟨g, 0, rfl⟩, fun b off e i hi => ?_⟩
    cases e
    rw [Nat.zero_add, World.ownsRow.cellAt h0 i (by omega)]
    simp [nth_eq xs i hi, hi]
theorem OwnL.nil (w : World) (base : Nat) : OwnL e enc w base (.slice none 0 0) [] := ⟨rfl, .inl ⟨rfl, rfl⟩⟩
theorem OwnL.mono {w : World} {base base' : Nat} {v : Value} {xs : List α} (h : OwnL e enc w base v xs) (hb : base' ≤ base) : OwnL e enc w base' v xs := by
  obtain ⟨h1, h2⟩ := h
  refine ⟨h1, h2.imp id ?_⟩
  rintro ⟨g, cap, cur, hv, hg, r⟩
  exact ⟨g, cap, cur, hv, Nat.le_trans hb hg, r⟩
theorem OwnL.keeps {w w' : World} {base : Nat} {v : Value} {xs : List α} (hx : Ext w w') (h : OwnL e enc w base v xs) : OwnL e enc w' base v xs := by
  obtain ⟨h1, h2⟩ := h
  refine ⟨h1, h2.imp id ?_⟩
  rintro ⟨g, cap, cur, hv, hg, hh, r⟩
  refine ⟨g, cap, cur, hv, hg, ?_, r⟩
  rw [hx.block g ?_]; exact hh
  rcases Nat.lt_or_ge g w.heap.size with h' | h'
  · exact h'
  · simp [Array.getElem?_eq_none h'] at hh
theorem OwnL.empty (w : World) : OwnL e enc (w.alloc (.cells #[] e)) w.heap.size (.slice (some ⟨w.heap.size, 0, none⟩) 0 0) [] := by
  refine ⟨rfl, .inr ⟨w.heap.size, 0, #[], rfl, Nat.le_refl _, ?_, Nat.le_refl _, by unfold maxLen; omega, rfl, rfl⟩⟩
  show (w.heap.push _)[w.heap.size]? = _
  simp
theorem OwnL.block {w : World} {base : Nat} {v : Value} {xs : List α} (h : OwnL e enc w base v xs) : ∀ k, v.ownBlock = some k → base ≤ k := by
  rcases h.2 with ⟨rfl, _⟩ | ⟨g, cap, cur, rfl, hg, _⟩
  · intro k hk; cases hk
  · intro k hk; cases hk; exact hg
theorem OwnL.inside {w : World} {base : Nat} {v : Value} {xs : List α} (h : OwnL e enc w base v xs) : ∀ k, v.ownBlock = some k → Inside w k := by
  rcases h.2 with ⟨rfl, _⟩ | ⟨g, cap, cur, rfl, hg, hh, _⟩
  · intro k hk; cases hk
  · intro k hk; cases hk
    rcases Nat.lt_or_ge g w.heap.size with h' | h'
    · exact h'
    · simp [Array.getElem?_eq_none h'] at hh
theorem OwnL.cell [Inhabited α] {w : World} {base g n cap : Nat} {xs : List α} (h : OwnL e enc w base (.slice (some ⟨g, 0, none⟩) n cap) xs) (i : Nat) (hi : i < xs.length) :
    w.cell? ⟨g, i, none⟩ = some (enc (nth xs i)) ∧ w.frozen? ⟨g, i, none⟩ = false ∧ n = xs.length ∧ base ≤ g := by
  have hn : n = xs.length := by
    rcases h.2 with ⟨h', _⟩ | ⟨g, cap, cur, h', _⟩
    · cases h'
    · cases h'; rfl
  subst hn
  refine ⟨?_, World.ownsRow.frozenAt h i, rfl, OwnL.block h g rfl⟩
  rw [World.ownsRow.cellAt h i (by omega)]
  simp [nth_eq xs i hi, hi]
/-- An element of a slice of the call's own is stored. -/
theorem OwnL.stored {w : World} {base g n cap : Nat} {xs : List α} (h : OwnL e enc w base (.slice (some ⟨g, 0, none⟩) n cap) xs) (i : Nat) (y : α) :
    OwnL e enc (w.setCell ⟨g, i, none⟩ (enc y)) base (.slice (some ⟨g, 0, none⟩) n cap) (xs.set i y) := by
  have hn : n = xs.length := by
    rcases h.2 with ⟨h', _⟩ | ⟨g, cap, cur, h', _⟩
    · cases h'
    · cases h'; rfl
  subst hn
  have := (World.ownsRow.stored h i (enc y)).1
  unfold OwnL
  simpa [List.map_set] using this
end
theorem OwnL.drew {α : Type} {e : TypeId} {enc : α → Value} {w : World} {base : Nat} {v : Value} {xs : List α} (h : OwnL e enc w base v xs) : OwnL e enc w.drew base v xs := OwnL.keeps (Ext.drew' (Ext.refl w)) h
theorem OwnL.below {α : Type} {e : TypeId} {enc : α → Value} {w : World} {base : Nat} {v : Value} {xs : List α} (h : OwnL e enc w base v xs) (p : Addr) (hp : p.block < base) (u : Value) : OwnL e enc (w.setCell p u) base v xs := ownsRow_setCell_below h hp u
theorem Ext.grown {w w' w'' : World} {row : Option Nat} (h : Ext w w') (hg : w'.grownBy w'' row) (hr : ∀ k, row = some k → w.heap.size ≤ k) : Ext w w'' := Below.grown h hg h.size hr
theorem Ext.setCell {w w' : World} (h : Ext w w') (p : Addr) (hp : w.heap.size ≤ p.block) (v : Value) : Ext w (w'.setCell p v) := Below.setCell h hp v
/-- 'append' of what can be read, onto a slice of the call's own: the operation itself. -/
theorem app_row_wp {α : Type} [Inhabited α] {enc : α → Value} (henc : ∀ x, (enc x).oneCell' = true) {t e : TypeId} {z : Value} {bytes : Nat} (E : Elt t e z bytes) (hby : bytes ≤ 64)
    {P : Program} (hP : P = Try.prog) {K : Act → World → Prop} {o : Oper} {a : Act} {Q : Exit → Act → World → Prop} {w : World} (s x : Operand)
    (ho : o.op = .call { callee := .builtin .append, args := #[s, x], argTypes := #[t, t] })
    (base : Nat) (v u : Value) (xs ys : List α) (hs : a.eval s = v) (hx : a.eval x = u) (hown : OwnL e enc w base v xs) (hu : Rd enc w u ys)
    (hlen : xs.length + ys.length ≤ 2000000000000) (hbase : base ≤ w.heap.size)
    (h : ∀ v' w', OwnL e enc w' base v' (xs ++ ys) → w.grownBy w' v.ownBlock → K (a.put o.dst v') w') : o.wp P a w K Q := by
  subst hP
  obtain ⟨i0, hi, hz0, hz1, hz2⟩ := info_parts E.info
  obtain ⟨ao, cap, rfl, hl, hn, ha, hc⟩ := hu
  cases ao with
  | none =>
    obtain rfl := hn rfl
    have h0 : ys.length = 0 := by rcases ha with h | ⟨_, _, h⟩; exact h; cases h
    obtain rfl : ys = [] := List.eq_nil_of_length_eq_zero h0
    have hrun := run_append_owned_none (P := Try.prog) w base t o.type e i0 1 E.und hi v xs.length _ hown
    unfold Oper.wp
    simp [execOp, ho, resolve, invoke, builtin, hs, hx, hrun, Result.andThen]
    exact h v w (by simpa using hown) (World.grownBy.refl _ _)
  | some ad =>
    have hbb : (xs.length + ys.length) * bytes ≤ 140737488355328 := Nat.le_trans (Nat.mul_le_mul hlen hby) (by decide)
    refine wp_append_own w s x t ho base e i0 z 1 bytes E.und hi hz0 hz1 hz2 E.cells (by decide) v xs.length (xs.map enc) hs hown ad ys.length cap (ys.map enc) hx (by simp) ?_ ?_ (by unfold maxLen; omega) hbb hbase ?_
    · intro j y hj
      have hjl : j < ys.length := by
        rcases Nat.lt_or_ge j ys.length with h' | h'
        · exact h'
        · simp [List.getElem?_eq_none, h'] at hj
      obtain ⟨b, off, he⟩ := ha.resolve_left (by omega)
      obtain rfl := Option.some.inj he
      have e : y = enc (nth ys j) := by simp [hjl] at hj; rw [nth_eq ys j hjl]; exact hj.symm
      rw [e]
      have := hc b off rfl j hjl
      unfold Addr.add; split
      · rename_i hz; subst hz; simpa using this
      · exact this
    · intro y hy
      obtain ⟨z, _, rfl⟩ := List.mem_map.1 hy
      exact henc z
    · intro v' w' hown' hg _
      refine h v' w' ?_ hg
      unfold OwnL
      simpa using hown'
/-- .. at the head of a list of operations. -/
theorem app_row {α : Type} [Inhabited α] {enc : α → Value} (henc : ∀ x, (enc x).oneCell' = true) {t e : TypeId} {z : Value} {bytes : Nat} (E : Elt t e z bytes) (hby : bytes ≤ 64)
    {P : Program} (hP : P = Try.prog) {ops : Array Oper} {rest : List Oper} {o : Oper} {a : Act} {Q : Exit → Act → World → Prop} {w : World} (hgd : o.guard = none) (s x : Operand)
    (ho : o.op = .call { callee := .builtin .append, args := #[s, x], argTypes := #[t, t] })
    (base : Nat) (v u : Value) (xs ys : List α) (hs : a.eval s = v) (hx : a.eval x = u) (hown : OwnL e enc w base v xs) (hu : Rd enc w u ys)
    (hlen : xs.length + ys.length ≤ 2000000000000) (hbase : base ≤ w.heap.size)
    (h : ∀ v' w', OwnL e enc w' base v' (xs ++ ys) → w.grownBy w' v.ownBlock → wpList P ops Q rest (a.put o.dst v') w') : wpList P ops Q (o :: rest) a w :=
  wpList_plain hgd fun _ hK => app_row_wp henc E hby hP s x ho base v u xs ys hs hx hown hu hlen hbase fun v' w' h1 h2 => hK _ _ (h v' w' h1 h2)
/-- .. within a region that draws its order. -/
theorem app_row_step {α : Type} [Inhabited α] {enc : α → Value} (henc : ∀ x, (enc x).oneCell' = true) {t e : TypeId} {z : Value} {bytes : Nat} (E : Elt t e z bytes) (hby : bytes ≤ 64)
    {P : Program} (hP : P = Try.prog) {ops : Array Oper} {o : Oper} {a : Act} {K : Act → World → Prop} {Q : Exit → Act → World → Prop} {F : Prop} {w : World} (hgd : o.guard = none) (s x : Operand)
    (ho : o.op = .call { callee := .builtin .append, args := #[s, x], argTypes := #[t, t] })
    (base : Nat) (v u : Value) (xs ys : List α) (hs : a.eval s = v) (hx : a.eval x = u) (hown : OwnL e enc w base v xs) (hu : Rd enc w u ys)
    (hlen : xs.length + ys.length ≤ 2000000000000) (hbase : base ≤ w.heap.size)
    (h : ∀ v' w', OwnL e enc w' base v' (xs ++ ys) → w.grownBy w' v.ownBlock → K (a.put o.dst v') w') :
    if Region.wanted o (yielded ops a.tmps) = true then Oper.wp P o a w K Q else F := by
  rw [if_pos (by simp [Region.wanted, hgd])]
  exact app_row_wp henc E hby hP s x ho base v u xs ys hs hx hown hu hlen hbase h
/-- 'make([]T, n)'. -/
theorem make_row {α : Type} {enc : α → Value} {t e : TypeId} {z : Value} {bytes : Nat} (E : Elt t e z bytes) (hby : bytes ≤ 64) (z0 : α) (hz : z.cells = #[enc z0])
    {P : Program} (hP : P = Try.prog) {ops : Array Oper} {rest : List Oper} {o : Oper} {a : Act} {Q : Exit → Act → World → Prop} {w : World} (hgd : o.guard = none) (l c : Operand)
    (ho : o.op = Op.makeSlice t l c) (n : Nat) (L : Int) (hl : a.eval l = .int .i64 L) (hc : a.eval c = .int .i64 L) (hL : L = (n : Int)) (hn : n ≤ 2000000000000)
    (h : ∀ w', OwnL e enc w' w.heap.size (.slice (some ⟨w.heap.size, 0, none⟩) n n) (List.replicate n z0) → Ext w w' → Inside w' w.heap.size → wpList P ops Q rest (a.put o.dst (.slice (some ⟨w.heap.size, 0, none⟩) n n)) w') :
    wpList P ops Q (o :: rest) a w := by
  subst hP
  obtain ⟨i0, hi, hz0, hz1, hz2⟩ := info_parts E.info
  have hbb : i0.bytes * n ≤ 281474976710656 := by rw [hz2]; exact Nat.le_trans (Nat.mul_le_mul hby hn) (by decide)
  refine wpList_make_full w hgd l c t ho w.heap.size e i0 z 1 E.und hi hz0 hz1 .i64 .i64 L L n hl hc hL hL hbb (by unfold maxLen; omega) (Nat.le_refl _) ?_
  intro w' hown hg
  have e' : (madeCells z.cells (n * 1)).toList = (List.replicate n z0).map enc := by
    rw [hz, Nat.mul_one]
    unfold madeCells
    apply List.ext_getElem
    · simp
    · intro k h1 h2
      simp [Nat.mod_one]
  refine h w' ?_ (Ext.grown (Ext.refl w) hg (fun k hk => by cases hk)) ?_
  · unfold OwnL; rw [← e']; simpa using hown
  · rcases hown.2 with ⟨h', _⟩ | ⟨g, cap, cur, hv, _, hh, _⟩
    · cases h'
    · cases hv
      unfold Inside
      rcases Nat.lt_or_ge w.heap.size w'.heap.size with h' | h'
      · exact h'
      · simp [Array.getElem?_eq_none h'] at hh

/-! ### A block known whole -/
def Box (w : World) (b : Nat) (cs : Array Value) (t : TypeId) : Prop := w.heap[b]? = some (.cells cs t (0, 0))
theorem Box.new (w : World) (cs : Array Value) (t : TypeId) : Box (w.alloc (.cells cs t)) w.heap.size cs t := by
  show (w.heap.push _)[w.heap.size]? = _
  simp
theorem Box.lt {w : World} {b : Nat} {cs : Array Value} {t : TypeId} (h : Box w b cs t) : b < w.heap.size := by
  unfold Box at h
  rcases Nat.lt_or_ge b w.heap.size with h' | h'
  · exact h'
  · simp [Array.getElem?_eq_none h'] at h
theorem Box.keeps {w w' : World} {b : Nat} {cs : Array Value} {t : TypeId} (hx : Ext w w') (h : Box w b cs t) : Box w' b cs t := by
  unfold Box; rw [hx.block b h.lt]; exact h
theorem Box.cell {w : World} {b : Nat} {cs : Array Value} {t : TypeId} (h : Box w b cs t) (j : Nat) : w.cell? ⟨b, j, none⟩ = cs[j]? := cell_of_row w b j cs t (0, 0) h
theorem Box.free {w : World} {b : Nat} {cs : Array Value} {t : TypeId} (h : Box w b cs t) (j : Nat) : w.frozen? ⟨b, j, none⟩ = false := frozen_of_row w b j cs t h
theorem Box.set {w : World} {b : Nat} {cs : Array Value} {t : TypeId} (h : Box w b cs t) (j : Nat) (v : Value) : Box (w.setCell ⟨b, j, none⟩ v) b (cs.setIfInBounds j v) t := heap_setCell_same w b j cs t v h
theorem Box.other {w : World} {b : Nat} {cs : Array Value} {t : TypeId} (h : Box w b cs t) (p : Addr) (v : Value) (hp : ¬ p.block = b) : Box (w.setCell p v) b cs t := by
  unfold Box; rw [Below.heap_setCell _ _ _ _ (fun e => hp e.symm)]; exact h
theorem Box.drew {w : World} {b : Nat} {cs : Array Value} {t : TypeId} (h : Box w b cs t) : Box w.drew b cs t := h
theorem Box.alloc {w : World} {b : Nat} {cs : Array Value} {t : TypeId} (h : Box w b cs t) (o : Obj) : Box (w.alloc o) b cs t := h.keeps (Ext.alloc w o)
theorem Box.two {w : World} {b : Nat} {x y : Value} {t : TypeId} (h : Box w b #[x, y] t) : w.cell? ⟨b, 0, none⟩ = some x ∧ w.cell? ⟨b, 1, none⟩ = some y ∧ (∀ j, w.frozen? ⟨b, j, none⟩ = false) ∧ b < w.heap.size ∧ Inside w b :=
  ⟨h.cell 0, h.cell 1, h.free, h.lt, h.lt⟩
theorem Box.three {w : World} {b : Nat} {x y z : Value} {t : TypeId} (h : Box w b #[x, y, z] t) : w.cell? ⟨b, 0, none⟩ = some x ∧ w.cell? ⟨b, 1, none⟩ = some y ∧ w.cell? ⟨b, 2, none⟩ = some z ∧ (∀ j, w.frozen? ⟨b, j, none⟩ = false) ∧ b < w.heap.size ∧ Inside w b :=
  ⟨h.cell 0, h.cell 1, h.cell 2, h.free, h.lt, h.lt⟩
theorem Box.own {α : Type} {e : TypeId} {enc : α → Value} {w : World} {base g n cap : Nat} {xs : List α} {b : Nat} {cs : Array Value} {t : TypeId} (h : Box w b cs t) (hb : b < base) (hown : OwnL e enc w base (.slice (some ⟨g, 0, none⟩) n cap) xs) : ¬ g = b := by
  have := OwnL.block hown g rfl
  omega

/-! ### A slice against nil -/
theorem run_equalIn_slice_nil' {P : Program} (w : World) (d : Nat) (t e : TypeId) (a : Option Addr) (n c : Nat) (h : P.underlying t = some (.slice e)) :
    (Op.equalIn (d + 1) t (.slice a n c) (.slice none 0 0)).run P w = .ok a.isNone w := by
  cases a <;> simp [Op.equalIn, run_underlying h]
theorem run_eql_nil {P : Program} (w : World) {t e : TypeId} (h : P.underlying t = some (.slice e)) (a : Option Addr) (n c : Nat) :
    (binOp .eql t (.slice a n c) (.slice none 0 0)).run P w = .ok (.bool a.isNone) w := by
  simp only [binOp]
  simp [Op.equal, Op.maxDepth, run_equalIn_slice_nil' w 9999 t e a n c h]
@[go_sem] theorem eql_nil_ints (w : World) (a : Option Addr) (n c : Nat) :
    (binOp .eql 26 (.slice a n c) (.slice none 0 0)).run Try.prog w = .ok (.bool a.isNone) w := run_eql_nil w Try.underlying26 a n c
end Go.Proofs.Ytjfpglmmhikhbaa
