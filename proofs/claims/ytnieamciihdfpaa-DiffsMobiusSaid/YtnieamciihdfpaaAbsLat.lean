/- Lattices on the numbers below m: joins and meets, their algebra. -/
import Derived.Test.YtnieamciihdfpaaAbsOrd
namespace Go.Abs
/-- A loop with an invariant, whatever comes behind it. -/
theorem loopD_invk {R S K : Type} (g : K → S → (S → Option R) → Option R) (ap : K → S → Option R) (n : Nat) (I : Nat → S → Prop) (h2 : ∀ i s, i < n → I i s → ∃ s', I (i + 1) s' ∧ ∀ k kn, g k s kn = kn s') (h3 : ∀ s, I n s → ∀ k kn, g k s kn = ap k s) {N : Nat} (hN : n < N) {s : S} (h0 : I 0 s) :
    ∃ s', I n s' ∧ ∀ k, loopD (g k) N s = ap k s' := by
  have key : ∀ d N a s, a + d = n → d < N → I a s → ∃ s', I n s' ∧ ∀ k, loopD (g k) N s = ap k s' := by
    intro d
    induction d with
    | zero =>
      intro N a s ha hd hi
      obtain ⟨N, rfl⟩ : ∃ M, N = M + 1 := ⟨N - 1, by omega⟩
      obtain rfl : a = n := by omega
      exact ⟨s, hi, fun k => h3 s hi k _⟩
    | succ d ih =>
      intro N a s ha hd hi
      obtain ⟨N, rfl⟩ : ∃ M, N = M + 1 := ⟨N - 1, by omega⟩
      obtain ⟨s', hi', e⟩ := h2 a s (by omega) hi
      obtain ⟨s2, h, e2⟩ := ih N (a + 1) s' (by omega) (by omega) hi'
      refine ⟨s2, h, fun k => ?_⟩
      show g k s (loopD (g k) N) = ap k s2
      rw [e]
      exact e2 k
  exact key n N 0 s (by omega) hN h0
theorem forD_invk {α R S K : Type} (g : K → α → S → (S → Option R) → Option R) (ap : K → S → Option R) (I : List α → S → Prop) (h2 : ∀ x r s, I (x :: r) s → ∃ s', I r s' ∧ ∀ k kn, g k x s kn = kn s') :
    ∀ (xs : List α) (s : S), I xs s → ∃ s', I [] s' ∧ ∀ k, forD (g k) (ap k) xs s = ap k s'
  | [], s, h0 => ⟨s, h0, fun _ => rfl⟩
  | x :: xs, s, h0 => by
    obtain ⟨s', h1, e⟩ := h2 x xs s h0
    obtain ⟨s2, h3, e2⟩ := forD_invk g ap I h2 xs s' h1
    refine ⟨s2, h3, fun k => ?_⟩
    rw [forD_cons, e]
    exact e2 k
theorem forD_findk {α R K : Type} (g : K → α → Unit → (Unit → Option R) → Option R) (e : K → Unit → Option R) (c : α → Prop) (r : K → α → Option R) : (xs : List α) → (∀ x ∈ xs, c x → ∀ k kn, g k x () kn = r k x) → (∀ x ∈ xs, ¬ c x → ∀ k kn, g k x () kn = kn ()) → (∃ x ∈ xs, c x) →
    ∃ x ∈ xs, c x ∧ ∀ k, forD (g k) (e k) xs () = r k x
  | [], _, _, h => by obtain ⟨x, hx, _⟩ := h; cases hx
  | x :: xs, h1, h2, h => by
    by_cases hb : c x
    · exact ⟨x, by simp, hb, fun k => h1 x (by simp) hb k _⟩
    · obtain ⟨y, hy, hyc, hye⟩ := forD_findk g e c r xs (fun y hy => h1 y (by simp [hy])) (fun y hy => h2 y (by simp [hy])) (by
        obtain ⟨y, hy, hyc⟩ := h
        rcases List.mem_cons.1 hy with rfl | hy
        · exact absurd hyc hb
        · exact ⟨y, hy, hyc⟩)
      exact ⟨y, by simp [hy], hyc, fun k => by rw [forD_cons, h2 x (by simp) hb]; exact hye k⟩
theorem loopD_meask {R S K : Type} (g : K → S → (S → Option R) → Option R) (ap : K → S → Option R) (I fin : S → Prop) (μ : S → Nat)
    (h : ∀ s, I s → (fin s ∧ ∀ k kn, g k s kn = ap k s) ∨ ∃ s', I s' ∧ μ s' < μ s ∧ ∀ k kn, g k s kn = kn s') : ∀ (N : Nat) (s : S), I s → μ s < N → ∃ s', I s' ∧ fin s' ∧ ∀ k, loopD (g k) N s = ap k s'
  | 0, _, _, hm => absurd hm (Nat.not_lt_zero _)
  | N + 1, s, hi, hm => by
    rcases h s hi with ⟨hf, e⟩ | ⟨s', hi', hlt, e⟩
    · exact ⟨s, hi, hf, fun k => e k _⟩
    · obtain ⟨s2, h1, h2, e2⟩ := loopD_meask g ap I fin μ h N s' hi' (by omega)
      refine ⟨s2, h1, h2, fun k => ?_⟩
      show g k s (loopD (g k) N) = ap k s2
      rw [e]
      exact e2 k
/-- An order with a join and a meet of any two, a least and a greatest element. -/
structure Latt (m : Nat) (L : Nat → Nat → Prop) (J K : Nat → Nat → Nat) (b t : Nat) : Prop where
  refl : ∀ i, i < m → L i i
  anti : ∀ i j, i < m → j < m → L i j → L j i → i = j
  trans : ∀ i j k, i < m → j < m → k < m → L i j → L j k → L i k
  jlt : ∀ x y, x < m → y < m → J x y < m
  klt : ∀ x y, x < m → y < m → K x y < m
  jle : ∀ x y d, x < m → y < m → d < m → (L (J x y) d ↔ L x d ∧ L y d)
  kle : ∀ x y d, x < m → y < m → d < m → (L d (K x y) ↔ L d x ∧ L d y)
  blt : b < m
  tlt : t < m
  ble : ∀ d, d < m → L b d
  tle : ∀ d, d < m → L d t
section
variable {m : Nat} {L : Nat → Nat → Prop} {J K : Nat → Nat → Nat} {b t : Nat} (h : Latt m L J K b t)
include h
theorem Latt.eqU {x y : Nat} (hx : x < m) (hy : y < m) (e : ∀ d, d < m → (L x d ↔ L y d)) : x = y :=
  h.anti x y hx hy ((e y hy).2 (h.refl y hy)) ((e x hx).1 (h.refl x hx))
theorem Latt.eqD {x y : Nat} (hx : x < m) (hy : y < m) (e : ∀ d, d < m → (L d x ↔ L d y)) : x = y :=
  h.anti x y hx hy ((e x hx).1 (h.refl x hx)) ((e y hy).2 (h.refl y hy))
theorem Latt.turn : Latt m (fun i j => L j i) K J t b where
  refl := h.refl
  anti i j hi hj h1 h2 := h.anti i j hi hj h2 h1
  trans i j k hi hj hk h1 h2 := h.trans k j i hk hj hi h2 h1
  jlt := h.klt
  klt := h.jlt
  jle := h.kle
  kle := h.jle
  blt := h.tlt
  tlt := h.blt
  ble := h.tle
  tle := h.ble
theorem Latt.jl {x y : Nat} (hx : x < m) (hy : y < m) : L x (J x y) := ((h.jle x y _ hx hy (h.jlt x y hx hy)).1 (h.refl _ (h.jlt x y hx hy))).1
theorem Latt.jr {x y : Nat} (hx : x < m) (hy : y < m) : L y (J x y) := ((h.jle x y _ hx hy (h.jlt x y hx hy)).1 (h.refl _ (h.jlt x y hx hy))).2
theorem Latt.kl {x y : Nat} (hx : x < m) (hy : y < m) : L (K x y) x := h.turn.jl hx hy
theorem Latt.kr {x y : Nat} (hx : x < m) (hy : y < m) : L (K x y) y := h.turn.jr hx hy
theorem Latt.jcomm {x y : Nat} (hx : x < m) (hy : y < m) : J x y = J y x :=
  h.eqU (h.jlt x y hx hy) (h.jlt y x hy hx) fun d hd => by rw [h.jle x y d hx hy hd, h.jle y x d hy hx hd, and_comm]
theorem Latt.kcomm {x y : Nat} (hx : x < m) (hy : y < m) : K x y = K y x := h.turn.jcomm hx hy
theorem Latt.jidem {x : Nat} (hx : x < m) : J x x = x :=
  h.eqU (h.jlt x x hx hx) hx fun d hd => by rw [h.jle x x d hx hx hd, and_self_iff]
theorem Latt.kidem {x : Nat} (hx : x < m) : K x x = x := h.turn.jidem hx
theorem Latt.jassoc {x y z : Nat} (hx : x < m) (hy : y < m) (hz : z < m) : J x (J y z) = J (J x y) z :=
  h.eqU (h.jlt _ _ hx (h.jlt _ _ hy hz)) (h.jlt _ _ (h.jlt _ _ hx hy) hz) fun d hd => by
    rw [h.jle _ _ d hx (h.jlt _ _ hy hz) hd, h.jle _ _ d hy hz hd, h.jle _ _ d (h.jlt _ _ hx hy) hz hd, h.jle _ _ d hx hy hd, and_assoc]
theorem Latt.kassoc {x y z : Nat} (hx : x < m) (hy : y < m) (hz : z < m) : K x (K y z) = K (K x y) z := h.turn.jassoc hx hy hz
theorem Latt.jabs {x y : Nat} (hx : x < m) (hy : y < m) : J x (K x y) = x :=
  h.eqU (h.jlt _ _ hx (h.klt _ _ hx hy)) hx fun d hd => by
    rw [h.jle _ _ d hx (h.klt _ _ hx hy) hd]
    exact ⟨fun e => e.1, fun e => ⟨e, h.trans _ x d (h.klt _ _ hx hy) hx hd (h.kl hx hy) e⟩⟩
theorem Latt.kabs {x y : Nat} (hx : x < m) (hy : y < m) : K x (J x y) = x := h.turn.jabs hx hy
theorem Latt.jiff {x y : Nat} (hx : x < m) (hy : y < m) : J x y = y ↔ L x y :=
  ⟨fun e => e ▸ h.jl hx hy, fun e => h.eqU (h.jlt _ _ hx hy) hy fun d hd => by
    rw [h.jle _ _ d hx hy hd]
    exact ⟨fun e => e.2, fun e2 => ⟨h.trans _ y d hx hy hd e e2, e2⟩⟩⟩
theorem Latt.kiff {x y : Nat} (hx : x < m) (hy : y < m) : K x y = x ↔ L x y := by
  rw [h.kcomm hx hy]; exact h.turn.jiff hy hx
theorem Latt.jmono {x y z w : Nat} (hx : x < m) (hy : y < m) (hz : z < m) (hw : w < m) (h1 : L x z) (h2 : L y w) : L (J x y) (J z w) :=
  (h.jle _ _ _ hx hy (h.jlt _ _ hz hw)).2 ⟨h.trans _ _ _ hx hz (h.jlt _ _ hz hw) h1 (h.jl hz hw), h.trans _ _ _ hy hw (h.jlt _ _ hz hw) h2 (h.jr hz hw)⟩
theorem Latt.kmono {x y z w : Nat} (hx : x < m) (hy : y < m) (hz : z < m) (hw : w < m) (h1 : L x z) (h2 : L y w) : L (K x y) (K z w) :=
  h.turn.jmono hz hw hx hy h1 h2
end
/-- A lattice turned round, in other words. -/
theorem Latt.swap {m : Nat} {L L' : Nat → Nat → Prop} {J K : Nat → Nat → Nat} {b t : Nat} (h : Latt m L J K b t) (e : ∀ i j, i < m → j < m → (L' j i ↔ L i j)) : Latt m L' K J t b where
  refl i hi := (e i i hi hi).2 (h.refl i hi)
  anti i j hi hj h1 h2 := h.anti i j hi hj ((e i j hi hj).1 h2) ((e j i hj hi).1 h1)
  trans i j k hi hj hk h1 h2 := (e k i hk hi).2 (h.trans k j i hk hj hi ((e k j hk hj).1 h2) ((e j i hj hi).1 h1))
  jlt := h.klt
  klt := h.jlt
  jle x y d hx hy hd := by rw [e d _ hd (h.klt x y hx hy), e d x hd hx, e d y hd hy]; exact h.kle x y d hx hy hd
  kle x y d hx hy hd := by rw [e _ d (h.jlt x y hx hy) hd, e x d hx hd, e y d hy hd]; exact h.jle x y d hx hy hd
  blt := h.tlt
  tlt := h.blt
  ble d hd := (e d t hd h.tlt).2 (h.tle d hd)
  tle d hd := (e b d h.blt hd).2 (h.ble d hd)
/-- Joins, meets and ends are told by the order. -/
theorem Latt.uniq {m : Nat} {L : Nat → Nat → Prop} {J K J' K' : Nat → Nat → Nat} {b t b' t' : Nat} (h : Latt m L J K b t) (h' : Latt m L J' K' b' t') :
    (∀ x y, x < m → y < m → J x y = J' x y) ∧ (∀ x y, x < m → y < m → K x y = K' x y) ∧ b = b' ∧ t = t' :=
  ⟨fun x y hx hy => h.eqU (h.jlt x y hx hy) (h'.jlt x y hx hy) fun d hd => by rw [h.jle x y d hx hy hd, h'.jle x y d hx hy hd],
    fun x y hx hy => h.eqD (h.klt x y hx hy) (h'.klt x y hx hy) fun d hd => by rw [h.kle x y d hx hy hd, h'.kle x y d hx hy hd],
    h.anti b b' h.blt h'.blt (h.ble _ h'.blt) (h'.ble _ h.blt), h.anti t t' h.tlt h'.tlt (h'.tle _ h.tlt) (h.tle _ h'.tlt)⟩
/-- A counted loop with a flag that falls at a place without a property. -/
theorem flag_loop {R K : Type} (g : K → (Bool × Int) → ((Bool × Int) → Option R) → Option R) (ap : K → Bool → Option R) (n : Nat) (P : Nat → Prop)
    (h2 : ∀ i (a : Bool), i < n → ∃ b : Bool, (b = true ↔ a = true ∧ P i) ∧ ∀ k kn, g k (a, (i : Int)) kn = kn (b, (i : Int) + 1)) (h3 : ∀ a k kn, g k (a, (n : Int)) kn = ap k a) {N : Nat} (hN : n < N) (a0 : Bool) :
    ∃ b : Bool, (b = true ↔ a0 = true ∧ ∀ i, i < n → P i) ∧ ∀ k, loopD (g k) N (a0, 0) = ap k b := by
  have key := loopD_invk (N := N) g (fun k s => ap k s.1) (s := (a0, 0)) n (fun i s => s.2 = (i : Int) ∧ (s.1 = true ↔ a0 = true ∧ ∀ j, j < i → P j)) ?_ ?_ hN ⟨rfl, fun h => ⟨h, fun j hj => absurd hj (Nat.not_lt_zero _)⟩, fun h => h.1⟩
  · obtain ⟨⟨b, s⟩, ⟨-, h1⟩, h⟩ := key
    exact ⟨b, h1, h⟩
  · rintro i ⟨a, s⟩ hi ⟨hs, hI⟩
    simp only at hs hI
    subst hs
    obtain ⟨b, h1, h⟩ := h2 i a hi
    refine ⟨(b, (i : Int) + 1), ⟨rfl, ?_⟩, h⟩
    rw [h1, hI]
    constructor
    · rintro ⟨⟨e1, e2⟩, e3⟩
      refine ⟨e1, fun j hj => ?_⟩
      by_cases e : j = i
      · subst e; exact e3
      · exact e2 j (by omega)
    · exact fun e => ⟨⟨e.1, fun j hj => e.2 j (by omega)⟩, e.2 i (by omega)⟩
  · rintro ⟨a, s⟩ ⟨hs, -⟩ k kn
    simp only at hs
    subst hs
    exact h3 a k kn
end Go.Abs
namespace Go.Abs
def Dist (m : Nat) (J K : Nat → Nat → Nat) : Prop := ∀ x y z, x < m → y < m → z < m → K x (J y z) = J (K x y) (K x z)
def Modu (m : Nat) (L : Nat → Nat → Prop) (J K : Nat → Nat → Nat) : Prop := ∀ x y z, x < m → y < m → z < m → L x z → J x (K y z) = K (J x y) z
def Medi (m : Nat) (J K : Nat → Nat → Nat) : Prop := ∀ x y z, x < m → y < m → z < m → J (J (K x y) (K y z)) (K z x) = K (K (J x y) (J y z)) (J z x)
def NoPent (m : Nat) (L : Nat → Nat → Prop) (J K : Nat → Nat → Nat) : Prop := ∀ x z y, x < m → z < m → y < m → L x z → x ≠ z → ¬ (J x y = J z y ∧ K x y = K z y)
def Canc (m : Nat) (J K : Nat → Nat → Nat) : Prop := ∀ x y z, x < m → y < m → z < m → J x y = J x z → K x y = K x z → y = z
section
variable {m : Nat} {L : Nat → Nat → Prop} {J K : Nat → Nat → Nat} {b t : Nat} (h : Latt m L J K b t)
include h
theorem Latt.dist_dual (hd : Dist m J K) : Dist m K J := fun x y z hx hy hz => by
  have hj := h.jlt
  have hk := h.klt
  rw [hd (J x y) x z (hj x y hx hy) hx hz, h.kcomm (hj x y hx hy) hx, h.kabs hx hy, h.kcomm (hj x y hx hy) hz, hd z x y hz hx hy, h.jassoc hx (hk z x hz hx) (hk z y hz hy), h.kcomm hz hx, h.jabs hx hz, h.kcomm hz hy]
theorem Latt.dist_modu (hd : Dist m J K) : Modu m L J K := fun x y z hx hy hz hxz => by
  rw [h.dist_dual hd x y z hx hy hz, (h.jiff hx hz).2 hxz]
theorem Latt.compl (hd : Dist m J K) {x y z : Nat} (hx : x < m) (hy : y < m) (hz : z < m) (e1 : J x y = t) (e2 : J x z = t) (e3 : K x y = b) (e4 : K x z = b) : y = z := by
  have key : ∀ y z, y < m → z < m → J x z = t → K x y = b → y = K y z := fun y z hy hz e2 e3 => by
    have := hd y x z hy hx hz
    rwa [e2, (h.kiff hy h.tlt).2 (h.tle y hy), h.kcomm hy hx, e3, (h.jiff h.blt (h.klt y z hy hz)).2 (h.ble _ (h.klt y z hy hz))] at this
  rw [key y z hy hz e2 e3, h.kcomm hy hz]
  exact (key z y hz hy e1 e4).symm
theorem Latt.dist_med (hd : Dist m J K) : Medi m J K := fun x y z hx hy hz => by
  have hj := h.jlt
  have hk := h.klt
  have e1 : K (J x y) (J y z) = J y (K x z) := by rw [h.dist_dual hd y x z hy hx hz, h.jcomm hx hy]
  have e2 : K (J y (K x z)) (J z x) = J (K (J z x) y) (K (J z x) (K x z)) := by
    rw [h.kcomm (hj y _ hy (hk x z hx hz)) (hj z x hz hx), hd _ y _ (hj z x hz hx) hy (hk x z hx hz)]
  have e3 : K (J z x) (K x z) = K z x := by
    rw [h.kcomm (hj z x hz hx) (hk x z hx hz), (h.kiff (hk x z hx hz) (hj z x hz hx)).2 (h.trans _ z _ (hk x z hx hz) hz (hj z x hz hx) (h.kr hx hz) (h.jl hz hx)), h.kcomm hx hz]
  have e4 : K (J z x) y = J (K x y) (K y z) := by
    rw [h.kcomm (hj z x hz hx) hy, hd y z x hy hz hx, h.jcomm (hk y z hy hz) (hk y x hy hx), h.kcomm hy hx]
  rw [e1, e2, e3, e4]
theorem Latt.med_modu (hm : Medi m J K) : Modu m L J K := fun x y z hx hy hz hxz => by
  have hj := h.jlt
  have hk := h.klt
  have e := hm x y z hx hy hz
  have l1 : J (J (K x y) (K y z)) x = J x (K y z) := by
    rw [h.jcomm (hj _ _ (hk x y hx hy) (hk y z hy hz)) hx, h.jassoc hx (hk x y hx hy) (hk y z hy hz), h.jabs hx hy]
  have r1 : K (K (J x y) (J y z)) z = K (J x y) z := by
    rw [← h.kassoc (hj x y hx hy) (hj y z hy hz) hz, h.kcomm (hj y z hy hz) hz, h.jcomm hy hz, h.kabs hz hy]
  rw [h.kcomm hz hx, (h.kiff hx hz).2 hxz, h.jcomm hz hx, (h.jiff hx hz).2 hxz, l1, r1] at e
  exact e
theorem Latt.med_dist (hm : Medi m J K) : Dist m J K := fun x y z hx hy hz => by
  have hj := h.jlt
  have hk := h.klt
  have hmod := h.med_modu hm
  have e := hm x y z hx hy hz
  have hA := hj x y hx hy
  have hB := hj y z hy hz
  have hC := hj z x hz hx
  have hp := hk x y hx hy
  have hq := hk y z hy hz
  have hr := hk z x hz hx
  have r : K x (K (K (J x y) (J y z)) (J z x)) = K x (J y z) := h.eqD (hk _ _ hx (hk _ _ (hk _ _ hA hB) hC)) (hk _ _ hx hB) fun d hd => by
    rw [h.kle _ _ d hx (hk _ _ (hk _ _ hA hB) hC) hd, h.kle _ _ d (hk _ _ hA hB) hC hd, h.kle _ _ d hA hB hd, h.kle _ _ d hx hB hd]
    exact ⟨fun e => ⟨e.1, e.2.1.2⟩, fun e => ⟨e.1, ⟨h.trans _ x _ hd hx hA e.1 (h.jl hx hy), e.2⟩, h.trans _ x _ hd hx hC e.1 (h.jr hz hx)⟩⟩
  have ha := hj _ _ hp hr
  have l : J (J (K x y) (K y z)) (K z x) = J (J (K x y) (K z x)) (K y z) := h.eqU (hj _ _ (hj _ _ hp hq) hr) (hj _ _ ha hq) fun d hd => by
    rw [h.jle _ _ d (hj _ _ hp hq) hr hd, h.jle _ _ d hp hq hd, h.jle _ _ d ha hq hd, h.jle _ _ d hp hr hd]
    exact ⟨fun e => ⟨⟨e.1.1, e.2⟩, e.1.2⟩, fun e => ⟨⟨e.1.1, e.2⟩, e.1.2⟩⟩
  have hax : L (J (K x y) (K z x)) x := (h.jle _ _ x hp hr hx).2 ⟨h.kl hx hy, h.kr hz hx⟩
  have hm2 := hmod _ (K y z) x ha hq hx hax
  have hs : J (J (K x y) (K z x)) (K (K y z) x) = J (K x y) (K z x) := by
    rw [h.jcomm ha (hk _ _ hq hx), h.jiff (hk _ _ hq hx) ha]
    refine h.trans _ (K x y) _ (hk _ _ hq hx) hp ha ?_ (h.jl hp hr)
    exact (h.kle _ _ _ hx hy (hk _ _ hq hx)).2 ⟨h.kr hq hx, h.trans _ (K y z) _ (hk _ _ hq hx) hq hy (h.kl hq hx) (h.kl hy hz)⟩
  rw [← r, ← e, l, h.kcomm hx (hj _ _ ha hq), ← hm2, hs, h.kcomm hz hx]
theorem Latt.modu_pent (hm : Modu m L J K) : NoPent m L J K := fun x z y hx hz hy hxz hne ⟨e1, e2⟩ => hne (by
  have e := hm x y z hx hy hz hxz
  rw [h.kcomm hy hz, ← e2, h.jabs hx hy, e1, h.kcomm (h.jlt z y hz hy) hz, h.kabs hz hy] at e
  exact e)
theorem Latt.pent_modu (hp : NoPent m L J K) : Modu m L J K := fun a y c ha hy hc hac => by
  apply Classical.byContradiction
  intro hne
  have hj := h.jlt
  have hk := h.klt
  have hyc := hk y c hy hc
  have hay := hj a y ha hy
  have hX := hj a _ ha hyc
  have hZ := hk _ c hay hc
  have haz : L a (K (J a y) c) := (h.kle _ _ a hay hc ha).2 ⟨h.jl ha hy, hac⟩
  have hxz : L (J a (K y c)) (K (J a y) c) := (h.jle _ _ _ ha hyc hZ).2 ⟨haz, (h.kle _ _ _ hay hc hyc).2 ⟨h.trans _ y _ hyc hy hay (h.kl hy hc) (h.jr ha hy), h.kr hy hc⟩⟩
  refine hp _ _ y hX hZ hy hxz hne ⟨?_, ?_⟩
  · refine h.anti _ _ (hj _ _ hX hy) (hj _ _ hZ hy) (h.jmono hX hy hZ hy hxz (h.refl y hy)) ?_
    refine (h.jle _ _ _ hZ hy (hj _ _ hX hy)).2 ⟨?_, h.jr hX hy⟩
    refine h.trans _ (J a y) _ hZ hay (hj _ _ hX hy) (h.kl hay hc) ?_
    exact h.jmono ha hy hX hy (h.jl ha hyc) (h.refl y hy)
  · refine h.anti _ _ (hk _ _ hX hy) (hk _ _ hZ hy) (h.kmono hX hy hZ hy hxz (h.refl y hy)) ?_
    refine (h.kle _ _ _ hX hy (hk _ _ hZ hy)).2 ⟨?_, h.kr hZ hy⟩
    refine h.trans _ (K y c) _ (hk _ _ hZ hy) hyc hX ?_ (h.jr ha hyc)
    exact (h.kle _ _ _ hy hc (hk _ _ hZ hy)).2 ⟨h.kr hZ hy, h.trans _ _ _ (hk _ _ hZ hy) hZ hc (h.kl hZ hy) (h.kr hay hc)⟩
theorem Latt.dist_canc (hd : Dist m J K) : Canc m J K := fun x y z hx hy hz e1 e2 => by
  have q1 := hd y x z hy hx hz
  have q2 := hd z x y hz hx hy
  rw [← e1, h.jcomm hx hy, h.kabs hy hx, h.kcomm hy hx, e2] at q1
  rw [e1, h.jcomm hx hz, h.kabs hz hx, h.kcomm hz hx, h.kcomm hz hy] at q2
  rw [q1, ← q2]
/-- Two of the three elements of a diamond. -/
theorem Latt.diam (hm : Modu m L J K) {x y z e d : Nat} (hx : x < m) (hy : y < m) (hz : z < m) (he : e < m) (hd : d < m)
    (h1 : ∀ u, u < m → (L u e ↔ L u (J x y) ∧ L u (J y z) ∧ L u (J z x))) (h2 : ∀ u, u < m → (L d u ↔ L (K x y) u ∧ L (K y z) u ∧ L (K z x) u)) :
    J (J (K x e) d) (J (K y e) d) = e := by
  have hj := h.jlt
  have hk := h.klt
  have hyz := hj y z hy hz
  have hzx := hj z x hz hx
  have hxy := hj x y hx hy
  have hp := hk x _ hx hyz
  have hq := hk y _ hy hzx
  have a1 : K x e = K x (J y z) := h.eqD (hk _ _ hx he) hp fun u hu => by
    rw [h.kle _ _ u hx he hu, h.kle _ _ u hx hyz hu, h1 u hu]
    exact ⟨fun e => ⟨e.1, e.2.2.1⟩, fun e => ⟨e.1, h.trans _ x _ hu hx hxy e.1 (h.jl hx hy), e.2, h.trans _ x _ hu hx hzx e.1 (h.jr hz hx)⟩⟩
  have a2 : K y e = K y (J z x) := h.eqD (hk _ _ hy he) hq fun u hu => by
    rw [h.kle _ _ u hy he hu, h.kle _ _ u hy hzx hu, h1 u hu]
    exact ⟨fun e => ⟨e.1, e.2.2.2⟩, fun e => ⟨e.1, h.trans _ y _ hu hy hxy e.1 (h.jr hx hy), h.trans _ y _ hu hy hyz e.1 (h.jl hy hz), e.2⟩⟩
  have b1 : J (J (K x e) d) (J (K y e) d) = J (K y (J z x)) (K x (J y z)) := by
    rw [a1, a2]
    refine h.eqU (hj _ _ (hj _ _ hp hd) (hj _ _ hq hd)) (hj _ _ hq hp) fun u hu => ?_
    rw [h.jle _ _ u (hj _ _ hp hd) (hj _ _ hq hd) hu, h.jle _ _ u hp hd hu, h.jle _ _ u hq hd hu, h.jle _ _ u hq hp hu, h2 u hu]
    constructor
    · exact fun e => ⟨e.2.1, e.1.1⟩
    · rintro ⟨e1, e2⟩
      have k1 : L (K x y) u := h.trans _ _ _ (hk x y hx hy) hq hu ((h.kle _ _ _ hy hzx (hk x y hx hy)).2 ⟨h.kr hx hy, h.trans _ x _ (hk x y hx hy) hx hzx (h.kl hx hy) (h.jr hz hx)⟩) e1
      have k2 : L (K y z) u := h.trans _ _ _ (hk y z hy hz) hq hu ((h.kle _ _ _ hy hzx (hk y z hy hz)).2 ⟨h.kl hy hz, h.trans _ z _ (hk y z hy hz) hz hzx (h.kr hy hz) (h.jl hz hx)⟩) e1
      have k3 : L (K z x) u := h.trans _ _ _ (hk z x hz hx) hp hu ((h.kle _ _ _ hx hyz (hk z x hz hx)).2 ⟨h.kr hz hx, h.trans _ z _ (hk z x hz hx) hz hyz (h.kl hz hx) (h.jr hy hz)⟩) e2
      exact ⟨⟨e2, k1, k2, k3⟩, e1, k1, k2, k3⟩
  have m1 := hm (K y (J z x)) x (J y z) hq hx hyz (h.trans _ y _ hq hy hyz (h.kl hy hzx) (h.jl hy hz))
  have m2 := hm x y (J z x) hx hy hzx (h.jr hz hx)
  rw [b1, m1, h.jcomm hq hx, m2]
  refine h.eqD (hk _ _ (hk _ _ hxy hzx) hyz) he fun u hu => ?_
  rw [h.kle _ _ u (hk _ _ hxy hzx) hyz hu, h.kle _ _ u hxy hzx hu, h1 u hu]
  exact ⟨fun e => ⟨e.1.1, e.2, e.1.2⟩, fun e => ⟨⟨e.1, e.2.2⟩, e.2.1⟩⟩
theorem Latt.modu_turn (hm : Modu m L J K) : Modu m (fun i j => L j i) K J := fun x y z hx hy hz hxz => by
  rw [h.kcomm hx (h.jlt y z hy hz), h.jcomm hy hz, ← hm z y x hz hy hx hxz, h.jcomm hz (h.klt y x hy hx), h.kcomm hy hx]
theorem Latt.canc_dist (hc : Canc m J K) : Dist m J K := by
  have hmod : Modu m L J K := h.pent_modu fun x z y hx hz hy hxz hne ⟨e1, e2⟩ => hne (hc y x z hy hx hz (by rw [h.jcomm hy hx, h.jcomm hy hz, e1]) (by rw [h.kcomm hy hx, h.kcomm hy hz, e2]))
  have hturn := h.modu_turn hmod
  refine h.med_dist fun x y z hx hy hz => ?_
  have hj := h.jlt
  have hk := h.klt
  have hd : J (J (K x y) (K y z)) (K z x) < m := hj _ _ (hj _ _ (hk x y hx hy) (hk y z hy hz)) (hk z x hz hx)
  have he : K (K (J x y) (J y z)) (J z x) < m := hk _ _ (hk _ _ (hj x y hx hy) (hj y z hy hz)) (hj z x hz hx)
  have h1 : ∀ u, u < m → (L u (K (K (J x y) (J y z)) (J z x)) ↔ L u (J x y) ∧ L u (J y z) ∧ L u (J z x)) := fun u hu => by
    rw [h.kle _ _ u (hk _ _ (hj x y hx hy) (hj y z hy hz)) (hj z x hz hx) hu, h.kle _ _ u (hj x y hx hy) (hj y z hy hz) hu, and_assoc]
  have h2 : ∀ u, u < m → (L (J (J (K x y) (K y z)) (K z x)) u ↔ L (K x y) u ∧ L (K y z) u ∧ L (K z x) u) := fun u hu => by
    rw [h.jle _ _ u (hj _ _ (hk x y hx hy) (hk y z hy hz)) (hk z x hz hx) hu, h.jle _ _ u (hk x y hx hy) (hk y z hy hz) hu, and_assoc]
  generalize J (J (K x y) (K y z)) (K z x) = d at *
  generalize K (K (J x y) (J y z)) (J z x) = e at *
  have hde : L d e := (h1 d hd).2 (by
    have g := (h2 d hd).1 (h.refl d hd)
    refine ⟨(h2 _ (hj x y hx hy)).2 ⟨?_, ?_, ?_⟩, (h2 _ (hj y z hy hz)).2 ⟨?_, ?_, ?_⟩, (h2 _ (hj z x hz hx)).2 ⟨?_, ?_, ?_⟩⟩
    · exact h.trans _ x _ (hk x y hx hy) hx (hj x y hx hy) (h.kl hx hy) (h.jl hx hy)
    · exact h.trans _ y _ (hk y z hy hz) hy (hj x y hx hy) (h.kl hy hz) (h.jr hx hy)
    · exact h.trans _ x _ (hk z x hz hx) hx (hj x y hx hy) (h.kr hz hx) (h.jl hx hy)
    · exact h.trans _ y _ (hk x y hx hy) hy (hj y z hy hz) (h.kr hx hy) (h.jl hy hz)
    · exact h.trans _ y _ (hk y z hy hz) hy (hj y z hy hz) (h.kl hy hz) (h.jl hy hz)
    · exact h.trans _ z _ (hk z x hz hx) hz (hj y z hy hz) (h.kl hz hx) (h.jr hy hz)
    · exact h.trans _ x _ (hk x y hx hy) hx (hj z x hz hx) (h.kl hx hy) (h.jr hz hx)
    · exact h.trans _ z _ (hk y z hy hz) hz (hj z x hz hx) (h.kr hy hz) (h.jl hz hx)
    · exact h.trans _ z _ (hk z x hz hx) hz (hj z x hz hx) (h.kl hz hx) (h.jl hz hx))
  have hmid : ∀ a, a < m → K (J a d) e = J (K a e) d := fun a ha => by
    rw [h.jcomm ha hd, ← hmod d a e hd ha he hde, h.jcomm hd (hk a e ha he)]
  -- the joins and the meets of any two of the three
  have j12 := h.diam hmod hx hy hz he hd h1 h2
  have j13 := h.diam hmod hx hz hy he hd (fun u hu => by rw [h1 u hu, h.jcomm hx hz, h.jcomm hz hy, h.jcomm hy hx]; exact ⟨fun e => ⟨e.2.2, e.2.1, e.1⟩, fun e => ⟨e.2.2, e.2.1, e.1⟩⟩) (fun u hu => by rw [h2 u hu, h.kcomm hx hz, h.kcomm hz hy, h.kcomm hy hx]; exact ⟨fun e => ⟨e.2.2, e.2.1, e.1⟩, fun e => ⟨e.2.2, e.2.1, e.1⟩⟩)
  have j23 := h.diam hmod hy hz hx he hd (fun u hu => by rw [h1 u hu]; exact ⟨fun e => ⟨e.2.1, e.2.2, e.1⟩, fun e => ⟨e.2.2, e.1, e.2.1⟩⟩) (fun u hu => by rw [h2 u hu]; exact ⟨fun e => ⟨e.2.1, e.2.2, e.1⟩, fun e => ⟨e.2.2, e.1, e.2.1⟩⟩)
  have k12 := h.turn.diam hturn hx hy hz hd he h2 h1
  have k13 := h.turn.diam hturn hx hz hy hd he (fun u hu => by rw [h2 u hu, h.kcomm hx hz, h.kcomm hz hy, h.kcomm hy hx]; exact ⟨fun e => ⟨e.2.2, e.2.1, e.1⟩, fun e => ⟨e.2.2, e.2.1, e.1⟩⟩) (fun u hu => by rw [h1 u hu, h.jcomm hx hz, h.jcomm hz hy, h.jcomm hy hx]; exact ⟨fun e => ⟨e.2.2, e.2.1, e.1⟩, fun e => ⟨e.2.2, e.2.1, e.1⟩⟩)
  have k23 := h.turn.diam hturn hy hz hx hd he (fun u hu => by rw [h2 u hu]; exact ⟨fun e => ⟨e.2.1, e.2.2, e.1⟩, fun e => ⟨e.2.2, e.1, e.2.1⟩⟩) (fun u hu => by rw [h1 u hu]; exact ⟨fun e => ⟨e.2.1, e.2.2, e.1⟩, fun e => ⟨e.2.2, e.1, e.2.1⟩⟩)
  rw [hmid x hx, hmid y hy] at k12
  rw [hmid x hx, hmid z hz] at k13
  rw [hmid y hy, hmid z hz] at k23
  have l1 := hj _ _ (hk x e hx he) hd
  have l2 := hj _ _ (hk y e hy he) hd
  have l3 := hj _ _ (hk z e hz he) hd
  have hyz := hc _ _ _ l1 l2 l3 (j12.trans j13.symm) (k12.trans k13.symm)
  rw [hyz, h.jidem l3] at j23
  rw [hyz, h.kidem l3] at k23
  exact k23.symm.trans j23
end
end Go.Abs
