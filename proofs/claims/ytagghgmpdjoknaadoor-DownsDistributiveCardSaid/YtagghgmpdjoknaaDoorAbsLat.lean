/- Lattices on the numbers below m: joins and meets, their algebra. -/
import Derived.Test.YtagghgmpdjoknaaDoorAbsOrd
namespace Go.Abs
/-- A loop with an invariant, whatever comes behind it. -/
theorem loopD_invk {R S K : Type} (g : K → S → (S → Option R) → Option R) (ap : K → S → Option R) (n : Nat) (I : Nat → S → Prop) (h2 : ∀ i s, i < n → I i s → ∃ s', I (i + 1) s' ∧ ∀ k kn, g k s kn = kn s') (h3 : ∀ s, I n s → ∀ k kn, g k s kn = ap k s) {N : Nat} (hN : n < N) {s : S} (h0 : I 0 s) :
    ∃ s', I n s' ∧ ∀ k, loopD (g k) N s = ap k s' := by
  have key : ∀ d N a s, a + d = n → d < N → I a s → ∃ s', I n s' ∧ ∀ k, loopD (g k) N s = ap k s' := by
    intro d
    induction d with
    | zero =>
      intro N a s ha hd hi
      obtain ⟨N, rfl⟩ : ∃ M, N = M + 1 := ⟨N - 1, by omega⟩
      obtain rfl : a = n := by omega
      exact ⟨s, hi, fun k => h3 s hi k _⟩
    | succ d ih =>
      intro N a s ha hd hi
      obtain ⟨N, rfl⟩ : ∃ M, N = M + 1 := ⟨N - 1, by omega⟩
      obtain ⟨s', hi', e⟩ := h2 a s (by omega) hi
      obtain ⟨s2, h, e2⟩ := ih N (a + 1) s' (by omega) (by omega) hi'
      refine ⟨s2, h, fun k => ?_⟩
      show g k s (loopD (g k) N) = ap k s2
      rw [e]
      exact e2 k
  exact key n N 0 s (by omega) hN h0
theorem forD_invk {α R S K : Type} (g : K → α → S → (S → Option R) → Option R) (ap : K → S → Option R) (I : List α → S → Prop) (h2 : ∀ x r s, I (x :: r) s → ∃ s', I r s' ∧ ∀ k kn, g k x s kn = kn s') :
    ∀ (xs : List α) (s : S), I xs s → ∃ s', I [] s' ∧ ∀ k, forD (g k) (ap k) xs s = ap k s'
  | [], s, h0 => ⟨s, h0, fun _ => rfl⟩
  | x :: xs, s, h0 => by
    obtain ⟨s', h1, e⟩ := h2 x xs s h0
    obtain ⟨s2, h3, e2⟩ := forD_invk g ap I h2 xs s' h1
    refine ⟨s2, h3, fun k => ?_⟩
    rw [forD_cons, e]
    exact e2 k
theorem forD_findk {α R K : Type} (g : K → α → Unit → (Unit → Option R) → Option R) (e : K → Unit → Option R) (c : α → Prop) (r : K → α → Option R) : (xs : List α) → (∀ x ∈ xs, c x → ∀ k kn, g k x () kn = r k x) → (∀ x ∈ xs, ¬ c x → ∀ k kn, g k x () kn = kn ()) → (∃ x ∈ xs, c x) →
    ∃ x ∈ xs, c x ∧ ∀ k, forD (g k) (e k) xs () = r k x
  | [], _, _, h => by obtain ⟨x, hx, _⟩ := h; cases hx
  | x :: xs, h1, h2, h => by
    by_cases hb : c x
    · exact ⟨x, by simp, hb, fun k => h1 x (by simp) hb k _⟩
    · obtain ⟨y, hy, hyc, hye⟩ := forD_findk g e c r xs (fun y hy => h1 y (by simp [hy])) (fun y hy => h2 y (by simp [hy])) (by
        obtain ⟨y, hy, hyc⟩ := h
        rcases List.mem_cons.1 hy with rfl | hy
        · exact absurd hyc hb
        · exact ⟨y, hy, hyc⟩)
      exact ⟨y, by simp [hy], hyc, fun k => by rw [forD_cons, h2 x (by simp) hb]; exact hye k⟩
theorem loopD_meask {R S K : Type} (g : K → S → (S → Option R) → Option R) (ap : K → S → Option R) (I fin : S → Prop) (μ : S → Nat)
    (h : ∀ s, I s → (fin s ∧ ∀ k kn, g k s kn = ap k s) ∨ ∃ s', I s' ∧ μ s' < μ s ∧ ∀ k kn, g k s kn = kn s') : ∀ (N : Nat) (s : S), I s → μ s < N → ∃ s', I s' ∧ fin s' ∧ ∀ k, loopD (g k) N s = ap k s'
  | 0, _, _, hm => absurd hm (Nat.not_lt_zero _)
  | N + 1, s, hi, hm => by
    rcases h s hi with ⟨hf, e⟩ | ⟨s', hi', hlt, e⟩
    · exact ⟨s, hi, hf, fun k => e k _⟩
    · obtain ⟨s2, h1, h2, e2⟩ := loopD_meask g ap I fin μ h N s' hi' (by omega)
      refine ⟨s2, h1, h2, fun k => ?_⟩
      show g k s (loopD (g k) N) = ap k s2
      rw [e]
      exact e2 k
/-- An order with a join and a meet of any two, a least and a greatest element. -/
structure Latt (m : Nat) (L : Nat → Nat → Prop) (J K : Nat → Nat → Nat) (b t : Nat) : Prop where
  refl : ∀ i, i < m → L i i
  anti : ∀ i j, i < m → j < m → L i j → L j i → i = j
  trans : ∀ i j k, i < m → j < m → k < m → L i j → L j k → L i k
  jlt : ∀ x y, x < m → y < m → J x y < m
  klt : ∀ x y, x < m → y < m → K x y < m
  jle : ∀ x y d, x < m → y < m → d < m → (L (J x y) d ↔ L x d ∧ L y d)
  kle : ∀ x y d, x < m → y < m → d < m → (L d (K x y) ↔ L d x ∧ L d y)
  blt : b < m
  tlt : t < m
  ble : ∀ d, d < m → L b d
  tle : ∀ d, d < m → L d t
section
variable {m : Nat} {L : Nat → Nat → Prop} {J K : Nat → Nat → Nat} {b t : Nat} (h : Latt m L J K b t)
include h
theorem Latt.eqU {x y : Nat} (hx : x < m) (hy : y < m) (e : ∀ d, d < m → (L x d ↔ L y d)) : x = y :=
  h.anti x y hx hy ((e y hy).2 (h.refl y hy)) ((e x hx).1 (h.refl x hx))
theorem Latt.eqD {x y : Nat} (hx : x < m) (hy : y < m) (e : ∀ d, d < m → (L d x ↔ L d y)) : x = y :=
  h.anti x y hx hy ((e x hx).1 (h.refl x hx)) ((e y hy).2 (h.refl y hy))
theorem Latt.turn : Latt m (fun i j => L j i) K J t b where
  refl := h.refl
  anti i j hi hj h1 h2 := h.anti i j hi hj h2 h1
  trans i j k hi hj hk h1 h2 := h.trans k j i hk hj hi h2 h1
  jlt := h.klt
  klt := h.jlt
  jle := h.kle
  kle := h.jle
  blt := h.tlt
  tlt := h.blt
  ble := h.tle
  tle := h.ble
theorem Latt.jl {x y : Nat} (hx : x < m) (hy : y < m) : L x (J x y) := ((h.jle x y _ hx hy (h.jlt x y hx hy)).1 (h.refl _ (h.jlt x y hx hy))).1
theorem Latt.jr {x y : Nat} (hx : x < m) (hy : y < m) : L y (J x y) := ((h.jle x y _ hx hy (h.jlt x y hx hy)).1 (h.refl _ (h.jlt x y hx hy))).2
theorem Latt.kl {x y : Nat} (hx : x < m) (hy : y < m) : L (K x y) x := h.turn.jl hx hy
theorem Latt.kr {x y : Nat} (hx : x < m) (hy : y < m) : L (K x y) y := h.turn.jr hx hy
theorem Latt.jcomm {x y : Nat} (hx : x < m) (hy : y < m) : J x y = J y x :=
  h.eqU (h.jlt x y hx hy) (h.jlt y x hy hx) fun d hd => by rw [h.jle x y d hx hy hd, h.jle y x d hy hx hd, and_comm]
theorem Latt.kcomm {x y : Nat} (hx : x < m) (hy : y < m) : K x y = K y x := h.turn.jcomm hx hy
theorem Latt.jidem {x : Nat} (hx : x < m) : J x x = x :=
  h.eqU (h.jlt x x hx hx) hx fun d hd => by rw [h.jle x x d hx hx hd, and_self_iff]
theorem Latt.kidem {x : Nat} (hx : x < m) : K x x = x := h.turn.jidem hx
theorem Latt.jassoc {x y z : Nat} (hx : x < m) (hy : y < m) (hz : z < m) : J x (J y z) = J (J x y) z :=
  h.eqU (h.jlt _ _ hx (h.jlt _ _ hy hz)) (h.jlt _ _ (h.jlt _ _ hx hy) hz) fun d hd => by
    rw [h.jle _ _ d hx (h.jlt _ _ hy hz) hd, h.jle _ _ d hy hz hd, h.jle _ _ d (h.jlt _ _ hx hy) hz hd, h.jle _ _ d hx hy hd, and_assoc]
theorem Latt.kassoc {x y z : Nat} (hx : x < m) (hy : y < m) (hz : z < m) : K x (K y z) = K (K x y) z := h.turn.jassoc hx hy hz
theorem Latt.jabs {x y : Nat} (hx : x < m) (hy : y < m) : J x (K x y) = x :=
  h.eqU (h.jlt _ _ hx (h.klt _ _ hx hy)) hx fun d hd => by
    rw [h.jle _ _ d hx (h.klt _ _ hx hy) hd]
    exact ⟨fun e => e.1, fun e => ⟨e, h.trans _ x d (h.klt _ _ hx hy) hx hd (h.kl hx hy) e⟩⟩
theorem Latt.kabs {x y : Nat} (hx : x < m) (hy : y < m) : K x (J x y) = x := h.turn.jabs hx hy
theorem Latt.jiff {x y : Nat} (hx : x < m) (hy : y < m) : J x y = y ↔ L x y :=
  ⟨fun e => e ▸ h.jl hx hy, fun e => h.eqU (h.jlt _ _ hx hy) hy fun d hd => by
    rw [h.jle _ _ d hx hy hd]
    exact ⟨fun e => e.2, fun e2 => ⟨h.trans _ y d hx hy hd e e2, e2⟩⟩⟩
theorem Latt.kiff {x y : Nat} (hx : x < m) (hy : y < m) : K x y = x ↔ L x y := by
  rw [h.kcomm hx hy]; exact h.turn.jiff hy hx
theorem Latt.jmono {x y z w : Nat} (hx : x < m) (hy : y < m) (hz : z < m) (hw : w < m) (h1 : L x z) (h2 : L y w) : L (J x y) (J z w) :=
  (h.jle _ _ _ hx hy (h.jlt _ _ hz hw)).2 ⟨h.trans _ _ _ hx hz (h.jlt _ _ hz hw) h1 (h.jl hz hw), h.trans _ _ _ hy hw (h.jlt _ _ hz hw) h2 (h.jr hz hw)⟩
theorem Latt.kmono {x y z w : Nat} (hx : x < m) (hy : y < m) (hz : z < m) (hw : w < m) (h1 : L x z) (h2 : L y w) : L (K x y) (K z w) :=
  h.turn.jmono hz hw hx hy h1 h2
end
/-- A lattice turned round, in other words. -/
theorem Latt.swap {m : Nat} {L L' : Nat → Nat → Prop} {J K : Nat → Nat → Nat} {b t : Nat} (h : Latt m L J K b t) (e : ∀ i j, i < m → j < m → (L' j i ↔ L i j)) : Latt m L' K J t b where
  refl i hi := (e i i hi hi).2 (h.refl i hi)
  anti i j hi hj h1 h2 := h.anti i j hi hj ((e i j hi hj).1 h2) ((e j i hj hi).1 h1)
  trans i j k hi hj hk h1 h2 := (e k i hk hi).2 (h.trans k j i hk hj hi ((e k j hk hj).1 h2) ((e j i hj hi).1 h1))
  jlt := h.klt
  klt := h.jlt
  jle x y d hx hy hd := by rw [e d _ hd (h.klt x y hx hy), e d x hd hx, e d y hd hy]; exact h.kle x y d hx hy hd
  kle x y d hx hy hd := by rw [e _ d (h.jlt x y hx hy) hd, e x d hx hd, e y d hy hd]; exact h.jle x y d hx hy hd
  blt := h.tlt
  tlt := h.blt
  ble d hd := (e d t hd h.tlt).2 (h.tle d hd)
  tle d hd := (e b d h.blt hd).2 (h.ble d hd)
/-- Joins, meets and ends are told by the order. -/
theorem Latt.uniq {m : Nat} {L : Nat → Nat → Prop} {J K J' K' : Nat → Nat → Nat} {b t b' t' : Nat} (h : Latt m L J K b t) (h' : Latt m L J' K' b' t') :
    (∀ x y, x < m → y < m → J x y = J' x y) ∧ (∀ x y, x < m → y < m → K x y = K' x y) ∧ b = b' ∧ t = t' :=
  ⟨fun x y hx hy => h.eqU (h.jlt x y hx hy) (h'.jlt x y hx hy) fun d hd => by rw [h.jle x y d hx hy hd, h'.jle x y d hx hy hd],
    fun x y hx hy => h.eqD (h.klt x y hx hy) (h'.klt x y hx hy) fun d hd => by rw [h.kle x y d hx hy hd, h'.kle x y d hx hy hd],
    h.anti b b' h.blt h'.blt (h.ble _ h'.blt) (h'.ble _ h.blt), h.anti t t' h.tlt h'.tlt (h'.tle _ h.tlt) (h.tle _ h'.tlt)⟩
/-- A counted loop with a flag that falls at a place without a property. -/
theorem flag_loop {R K : Type} (g : K → (Bool × Int) → ((Bool × Int) → Option R) → Option R) (ap : K → Bool → Option R) (n : Nat) (P : Nat → Prop)
    (h2 : ∀ i (a : Bool), i < n → ∃ b : Bool, (b = true ↔ a = true ∧ P i) ∧ ∀ k kn, g k (a, (i : Int)) kn = kn (b, (i : Int) + 1)) (h3 : ∀ a k kn, g k (a, (n : Int)) kn = ap k a) {N : Nat} (hN : n < N) (a0 : Bool) :
    ∃ b : Bool, (b = true ↔ a0 = true ∧ ∀ i, i < n → P i) ∧ ∀ k, loopD (g k) N (a0, 0) = ap k b := by
  have key := loopD_invk (N := N) g (fun k s => ap k s.1) (s := (a0, 0)) n (fun i s => s.2 = (i : Int) ∧ (s.1 = true ↔ a0 = true ∧ ∀ j, j < i → P j)) ?_ ?_ hN ⟨rfl, fun h => ⟨h, fun j hj => absurd hj (Nat.not_lt_zero _)⟩, fun h => h.1⟩
  · obtain ⟨⟨b, s⟩, ⟨-, h1⟩, h⟩ := key
    exact ⟨b, h1, h⟩
  · rintro i ⟨a, s⟩ hi ⟨hs, hI⟩
    simp only at hs hI
    subst hs
    obtain ⟨b, h1, h⟩ := h2 i a hi
    refine ⟨(b, (i : Int) + 1), ⟨rfl, ?_⟩, h⟩
    rw [h1, hI]
    constructor
    · rintro ⟨⟨e1, e2⟩, e3⟩
      refine ⟨e1, fun j hj => ?_⟩
      by_cases e : j = i
      · subst e; exact e3
      · exact e2 j (by omega)
    · exact fun e => ⟨⟨e.1, fun j hj => e.2 j (by omega)⟩, e.2 i (by omega)⟩
  · rintro ⟨a, s⟩ ⟨hs, -⟩ k kn
    simp only at hs
    subst hs
    exact h3 a k kn
end Go.Abs
