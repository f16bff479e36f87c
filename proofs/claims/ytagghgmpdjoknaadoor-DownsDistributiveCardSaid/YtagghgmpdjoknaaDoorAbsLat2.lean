/- Lattices: modular, distributive, medians, cancellation. -/
import Derived.Test.YtagghgmpdjoknaaDoorAbsLat
namespace Go.Abs
def Dist (m : Nat) (J K : Nat → Nat → Nat) : Prop := ∀ x y z, x < m → y < m → z < m → K x (J y z) = J (K x y) (K x z)
def Modu (m : Nat) (L : Nat → Nat → Prop) (J K : Nat → Nat → Nat) : Prop := ∀ x y z, x < m → y < m → z < m → L x z → J x (K y z) = K (J x y) z
def Medi (m : Nat) (J K : Nat → Nat → Nat) : Prop := ∀ x y z, x < m → y < m → z < m → J (J (K x y) (K y z)) (K z x) = K (K (J x y) (J y z)) (J z x)
def NoPent (m : Nat) (L : Nat → Nat → Prop) (J K : Nat → Nat → Nat) : Prop := ∀ x z y, x < m → z < m → y < m → L x z → x ≠ z → ¬ (J x y = J z y ∧ K x y = K z y)
def Canc (m : Nat) (J K : Nat → Nat → Nat) : Prop := ∀ x y z, x < m → y < m → z < m → J x y = J x z → K x y = K x z → y = z
section
variable {m : Nat} {L : Nat → Nat → Prop} {J K : Nat → Nat → Nat} {b t : Nat} (h : Latt m L J K b t)
include h
theorem Latt.dist_dual (hd : Dist m J K) : Dist m K J := fun x y z hx hy hz => by
  have hj := h.jlt
  have hk := h.klt
  rw [hd (J x y) x z (hj x y hx hy) hx hz, h.kcomm (hj x y hx hy) hx, h.kabs hx hy, h.kcomm (hj x y hx hy) hz, hd z x y hz hx hy, h.jassoc hx (hk z x hz hx) (hk z y hz hy), h.kcomm hz hx, h.jabs hx hz, h.kcomm hz hy]
theorem Latt.dist_modu (hd : Dist m J K) : Modu m L J K := fun x y z hx hy hz hxz => by
  rw [h.dist_dual hd x y z hx hy hz, (h.jiff hx hz).2 hxz]
theorem Latt.compl (hd : Dist m J K) {x y z : Nat} (hx : x < m) (hy : y < m) (hz : z < m) (e1 : J x y = t) (e2 : J x z = t) (e3 : K x y = b) (e4 : K x z = b) : y = z := by
  have key : ∀ y z, y < m → z < m → J x z = t → K x y = b → y = K y z := fun y z hy hz e2 e3 => by
    have := hd y x z hy hx hz
    rwa [e2, (h.kiff hy h.tlt).2 (h.tle y hy), h.kcomm hy hx, e3, (h.jiff h.blt (h.klt y z hy hz)).2 (h.ble _ (h.klt y z hy hz))] at this
  rw [key y z hy hz e2 e3, h.kcomm hy hz]
  exact (key z y hz hy e1 e4).symm
theorem Latt.dist_med (hd : Dist m J K) : Medi m J K := fun x y z hx hy hz => by
  have hj := h.jlt
  have hk := h.klt
  have e1 : K (J x y) (J y z) = J y (K x z) := by rw [h.dist_dual hd y x z hy hx hz, h.jcomm hx hy]
  have e2 : K (J y (K x z)) (J z x) = J (K (J z x) y) (K (J z x) (K x z)) := by
    rw [h.kcomm (hj y _ hy (hk x z hx hz)) (hj z x hz hx), hd _ y _ (hj z x hz hx) hy (hk x z hx hz)]
  have e3 : K (J z x) (K x z) = K z x := by
    rw [h.kcomm (hj z x hz hx) (hk x z hx hz), (h.kiff (hk x z hx hz) (hj z x hz hx)).2 (h.trans _ z _ (hk x z hx hz) hz (hj z x hz hx) (h.kr hx hz) (h.jl hz hx)), h.kcomm hx hz]
  have e4 : K (J z x) y = J (K x y) (K y z) := by
    rw [h.kcomm (hj z x hz hx) hy, hd y z x hy hz hx, h.jcomm (hk y z hy hz) (hk y x hy hx), h.kcomm hy hx]
  rw [e1, e2, e3, e4]
theorem Latt.med_modu (hm : Medi m J K) : Modu m L J K := fun x y z hx hy hz hxz => by
  have hj := h.jlt
  have hk := h.klt
  have e := hm x y z hx hy hz
  have l1 : J (J (K x y) (K y z)) x = J x (K y z) := by
    rw [h.jcomm (hj _ _ (hk x y hx hy) (hk y z hy hz)) hx, h.jassoc hx (hk x y hx hy) (hk y z hy hz), h.jabs hx hy]
  have r1 : K (K (J x y) (J y z)) z = K (J x y) z := by
    rw [← h.kassoc (hj x y hx hy) (hj y z hy hz) hz, h.kcomm (hj y z hy hz) hz, h.jcomm hy hz, h.kabs hz hy]
  rw [h.kcomm hz hx, (h.kiff hx hz).2 hxz, h.jcomm hz hx, (h.jiff hx hz).2 hxz, l1, r1] at e
  exact e
theorem Latt.med_dist (hm : Medi m J K) : Dist m J K := fun x y z hx hy hz => by
  have hj := h.jlt
  have hk := h.klt
  have hmod := h.med_modu hm
  have e := hm x y z hx hy hz
  have hA := hj x y hx hy
  have hB := hj y z hy hz
  have hC := hj z x hz hx
  have hp := hk x y hx hy
  have hq := hk y z hy hz
  have hr := hk z x hz hx
  have r : K x (K (K (J x y) (J y z)) (J z x)) = K x (J y z) := h.eqD (hk _ _ hx (hk _ _ (hk _ _ hA hB) hC)) (hk _ _ hx hB) fun d hd => by
    rw [h.kle _ _ d hx (hk _ _ (hk _ _ hA hB) hC) hd, h.kle _ _ d (hk _ _ hA hB) hC hd, h.kle _ _ d hA hB hd, h.kle _ _ d hx hB hd]
    exact ⟨fun e => ⟨e.1, e.2.1.2⟩, fun e => ⟨e.1, ⟨h.trans _ x _ hd hx hA e.1 (h.jl hx hy), e.2⟩, h.trans _ x _ hd hx hC e.1 (h.jr hz hx)⟩⟩
  have ha := hj _ _ hp hr
  have l : J (J (K x y) (K y z)) (K z x) = J (J (K x y) (K z x)) (K y z) := h.eqU (hj _ _ (hj _ _ hp hq) hr) (hj _ _ ha hq) fun d hd => by
    rw [h.jle _ _ d (hj _ _ hp hq) hr hd, h.jle _ _ d hp hq hd, h.jle _ _ d ha hq hd, h.jle _ _ d hp hr hd]
    exact ⟨fun e => ⟨⟨e.1.1, e.2⟩, e.1.2⟩, fun e => ⟨⟨e.1.1, e.2⟩, e.1.2⟩⟩
  have hax : L (J (K x y) (K z x)) x := (h.jle _ _ x hp hr hx).2 ⟨h.kl hx hy, h.kr hz hx⟩
  have hm2 := hmod _ (K y z) x ha hq hx hax
  have hs : J (J (K x y) (K z x)) (K (K y z) x) = J (K x y) (K z x) := by
    rw [h.jcomm ha (hk _ _ hq hx), h.jiff (hk _ _ hq hx) ha]
    refine h.trans _ (K x y) _ (hk _ _ hq hx) hp ha ?_ (h.jl hp hr)
    exact (h.kle _ _ _ hx hy (hk _ _ hq hx)).2 ⟨h.kr hq hx, h.trans _ (K y z) _ (hk _ _ hq hx) hq hy (h.kl hq hx) (h.kl hy hz)⟩
  rw [← r, ← e, l, h.kcomm hx (hj _ _ ha hq), ← hm2, hs, h.kcomm hz hx]
theorem Latt.modu_pent (hm : Modu m L J K) : NoPent m L J K := fun x z y hx hz hy hxz hne ⟨e1, e2⟩ => hne (by
  have e := hm x y z hx hy hz hxz
  rw [h.kcomm hy hz, ← e2, h.jabs hx hy, e1, h.kcomm (h.jlt z y hz hy) hz, h.kabs hz hy] at e
  exact e)
theorem Latt.pent_modu (hp : NoPent m L J K) : Modu m L J K := fun a y c ha hy hc hac => by
  apply Classical.byContradiction
  intro hne
  have hj := h.jlt
  have hk := h.klt
  have hyc := hk y c hy hc
  have hay := hj a y ha hy
  have hX := hj a _ ha hyc
  have hZ := hk _ c hay hc
  have haz : L a (K (J a y) c) := (h.kle _ _ a hay hc ha).2 ⟨h.jl ha hy, hac⟩
  have hxz : L (J a (K y c)) (K (J a y) c) := (h.jle _ _ _ ha hyc hZ).2 ⟨haz, (h.kle _ _ _ hay hc hyc).2 ⟨h.trans _ y _ hyc hy hay (h.kl hy hc) (h.jr ha hy), h.kr hy hc⟩⟩
  refine hp _ _ y hX hZ hy hxz hne ⟨?_, ?_⟩
  · refine h.anti _ _ (hj _ _ hX hy) (hj _ _ hZ hy) (h.jmono hX hy hZ hy hxz (h.refl y hy)) ?_
    refine (h.jle _ _ _ hZ hy (hj _ _ hX hy)).2 ⟨?_, h.jr hX hy⟩
    refine h.trans _ (J a y) _ hZ hay (hj _ _ hX hy) (h.kl hay hc) ?_
    exact h.jmono ha hy hX hy (h.jl ha hyc) (h.refl y hy)
  · refine h.anti _ _ (hk _ _ hX hy) (hk _ _ hZ hy) (h.kmono hX hy hZ hy hxz (h.refl y hy)) ?_
    refine (h.kle _ _ _ hX hy (hk _ _ hZ hy)).2 ⟨?_, h.kr hZ hy⟩
    refine h.trans _ (K y c) _ (hk _ _ hZ hy) hyc hX ?_ (h.jr ha hyc)
    exact (h.kle _ _ _ hy hc (hk _ _ hZ hy)).2 ⟨h.kr hZ hy, h.trans _ _ _ (hk _ _ hZ hy) hZ hc (h.kl hZ hy) (h.kr hay hc)⟩
theorem Latt.dist_canc (hd : Dist m J K) : Canc m J K := fun x y z hx hy hz e1 e2 => by
  have q1 := hd y x z hy hx hz
  have q2 := hd z x y hz hx hy
  rw [← e1, h.jcomm hx hy, h.kabs hy hx, h.kcomm hy hx, e2] at q1
  rw [e1, h.jcomm hx hz, h.kabs hz hx, h.kcomm hz hx, h.kcomm hz hy] at q2
  rw [q1, ← q2]
/-- Two of the three elements of a diamond. -/
theorem Latt.diam (hm : Modu m L J K) {x y z e d : Nat} (hx : x < m) (hy : y < m) (hz : z < m) (he : e < m) (hd : d < m)
    (h1 : ∀ u, u < m → (L u e ↔ L u (J x y) ∧ L u (J y z) ∧ L u (J z x))) (h2 : ∀ u, u < m → (L d u ↔ L (K x y) u ∧ L (K y z) u ∧ L (K z x) u)) :
    J (J (K x e) d) (J (K y e) d) = e := by
  have hj := h.jlt
  have hk := h.klt
  have hyz := hj y z hy hz
  have hzx := hj z x hz hx
  have hxy := hj x y hx hy
  have hp := hk x _ hx hyz
  have hq := hk y _ hy hzx
  have a1 : K x e = K x (J y z) := h.eqD (hk _ _ hx he) hp fun u hu => by
    rw [h.kle _ _ u hx he hu, h.kle _ _ u hx hyz hu, h1 u hu]
    exact ⟨fun e => ⟨e.1, e.2.2.1⟩, fun e => ⟨e.1, h.trans _ x _ hu hx hxy e.1 (h.jl hx hy), e.2, h.trans _ x _ hu hx hzx e.1 (h.jr hz hx)⟩⟩
  have a2 : K y e = K y (J z x) := h.eqD (hk _ _ hy he) hq fun u hu => by
    rw [h.kle _ _ u hy he hu, h.kle _ _ u hy hzx hu, h1 u hu]
    exact ⟨fun e => ⟨e.1, e.2.2.2⟩, fun e => ⟨e.1, h.trans _ y _ hu hy hxy e.1 (h.jr hx hy), h.trans _ y _ hu hy hyz e.1 (h.jl hy hz), e.2⟩⟩
  have b1 : J (J (K x e) d) (J (K y e) d) = J (K y (J z x)) (K x (J y z)) := by
    rw [a1, a2]
    refine h.eqU (hj _ _ (hj _ _ hp hd) (hj _ _ hq hd)) (hj _ _ hq hp) fun u hu => ?_
    rw [h.jle _ _ u (hj _ _ hp hd) (hj _ _ hq hd) hu, h.jle _ _ u hp hd hu, h.jle _ _ u hq hd hu, h.jle _ _ u hq hp hu, h2 u hu]
    constructor
    · exact fun e => ⟨e.2.1, e.1.1⟩
    · rintro ⟨e1, e2⟩
      have k1 : L (K x y) u := h.trans _ _ _ (hk x y hx hy) hq hu ((h.kle _ _ _ hy hzx (hk x y hx hy)).2 ⟨h.kr hx hy, h.trans _ x _ (hk x y hx hy) hx hzx (h.kl hx hy) (h.jr hz hx)⟩) e1
      have k2 : L (K y z) u := h.trans _ _ _ (hk y z hy hz) hq hu ((h.kle _ _ _ hy hzx (hk y z hy hz)).2 ⟨h.kl hy hz, h.trans _ z _ (hk y z hy hz) hz hzx (h.kr hy hz) (h.jl hz hx)⟩) e1
      have k3 : L (K z x) u := h.trans _ _ _ (hk z x hz hx) hp hu ((h.kle _ _ _ hx hyz (hk z x hz hx)).2 ⟨h.kr hz hx, h.trans _ z _ (hk z x hz hx) hz hyz (h.kl hz hx) (h.jr hy hz)⟩) e2
      exact ⟨⟨e2, k1, k2, k3⟩, e1, k1, k2, k3⟩
  have m1 := hm (K y (J z x)) x (J y z) hq hx hyz (h.trans _ y _ hq hy hyz (h.kl hy hzx) (h.jl hy hz))
  have m2 := hm x y (J z x) hx hy hzx (h.jr hz hx)
  rw [b1, m1, h.jcomm hq hx, m2]
  refine h.eqD (hk _ _ (hk _ _ hxy hzx) hyz) he fun u hu => ?_
  rw [h.kle _ _ u (hk _ _ hxy hzx) hyz hu, h.kle _ _ u hxy hzx hu, h1 u hu]
  exact ⟨fun e => ⟨e.1.1, e.2, e.1.2⟩, fun e => ⟨⟨e.1, e.2.2⟩, e.2.1⟩⟩
theorem Latt.modu_turn (hm : Modu m L J K) : Modu m (fun i j => L j i) K J := fun x y z hx hy hz hxz => by
  rw [h.kcomm hx (h.jlt y z hy hz), h.jcomm hy hz, ← hm z y x hz hy hx hxz, h.jcomm hz (h.klt y x hy hx), h.kcomm hy hx]
theorem Latt.canc_dist (hc : Canc m J K) : Dist m J K := by
  have hmod : Modu m L J K := h.pent_modu fun x z y hx hz hy hxz hne ⟨e1, e2⟩ => hne (hc y x z hy hx hz (by rw [h.jcomm hy hx, h.jcomm hy hz, e1]) (by rw [h.kcomm hy hx, h.kcomm hy hz, e2]))
  have hturn := h.modu_turn hmod
  refine h.med_dist fun x y z hx hy hz => ?_
  have hj := h.jlt
  have hk := h.klt
  have hd : J (J (K x y) (K y z)) (K z x) < m := hj _ _ (hj _ _ (hk x y hx hy) (hk y z hy hz)) (hk z x hz hx)
  have he : K (K (J x y) (J y z)) (J z x) < m := hk _ _ (hk _ _ (hj x y hx hy) (hj y z hy hz)) (hj z x hz hx)
  have h1 : ∀ u, u < m → (L u (K (K (J x y) (J y z)) (J z x)) ↔ L u (J x y) ∧ L u (J y z) ∧ L u (J z x)) := fun u hu => by
    rw [h.kle _ _ u (hk _ _ (hj x y hx hy) (hj y z hy hz)) (hj z x hz hx) hu, h.kle _ _ u (hj x y hx hy) (hj y z hy hz) hu, and_assoc]
  have h2 : ∀ u, u < m → (L (J (J (K x y) (K y z)) (K z x)) u ↔ L (K x y) u ∧ L (K y z) u ∧ L (K z x) u) := fun u hu => by
    rw [h.jle _ _ u (hj _ _ (hk x y hx hy) (hk y z hy hz)) (hk z x hz hx) hu, h.jle _ _ u (hk x y hx hy) (hk y z hy hz) hu, and_assoc]
  generalize J (J (K x y) (K y z)) (K z x) = d at *
  generalize K (K (J x y) (J y z)) (J z x) = e at *
  have hde : L d e := (h1 d hd).2 (by
    have g := (h2 d hd).1 (h.refl d hd)
    refine ⟨(h2 _ (hj x y hx hy)).2 ⟨?_, ?_, ?_⟩, (h2 _ (hj y z hy hz)).2 ⟨?_, ?_, ?_⟩, (h2 _ (hj z x hz hx)).2 ⟨?_, ?_, ?_⟩⟩
    · exact h.trans _ x _ (hk x y hx hy) hx (hj x y hx hy) (h.kl hx hy) (h.jl hx hy)
    · exact h.trans _ y _ (hk y z hy hz) hy (hj x y hx hy) (h.kl hy hz) (h.jr hx hy)
    · exact h.trans _ x _ (hk z x hz hx) hx (hj x y hx hy) (h.kr hz hx) (h.jl hx hy)
    · exact h.trans _ y _ (hk x y hx hy) hy (hj y z hy hz) (h.kr hx hy) (h.jl hy hz)
    · exact h.trans _ y _ (hk y z hy hz) hy (hj y z hy hz) (h.kl hy hz) (h.jl hy hz)
    · exact h.trans _ z _ (hk z x hz hx) hz (hj y z hy hz) (h.kl hz hx) (h.jr hy hz)
    · exact h.trans _ x _ (hk x y hx hy) hx (hj z x hz hx) (h.kl hx hy) (h.jr hz hx)
    · exact h.trans _ z _ (hk y z hy hz) hz (hj z x hz hx) (h.kr hy hz) (h.jl hz hx)
    · exact h.trans _ z _ (hk z x hz hx) hz (hj z x hz hx) (h.kl hz hx) (h.jl hz hx))
  have hmid : ∀ a, a < m → K (J a d) e = J (K a e) d := fun a ha => by
    rw [h.jcomm ha hd, ← hmod d a e hd ha he hde, h.jcomm hd (hk a e ha he)]
  -- the joins and the meets of any two of the three
  have j12 := h.diam hmod hx hy hz he hd h1 h2
  have j13 := h.diam hmod hx hz hy he hd (fun u hu => by rw [h1 u hu, h.jcomm hx hz, h.jcomm hz hy, h.jcomm hy hx]; exact ⟨fun e => ⟨e.2.2, e.2.1, e.1⟩, fun e => ⟨e.2.2, e.2.1, e.1⟩⟩) (fun u hu => by rw [h2 u hu, h.kcomm hx hz, h.kcomm hz hy, h.kcomm hy hx]; exact ⟨fun e => ⟨e.2.2, e.2.1, e.1⟩, fun e => ⟨e.2.2, e.2.1, e.1⟩⟩)
  have j23 := h.diam hmod hy hz hx he hd (fun u hu => by rw [h1 u hu]; exact ⟨fun e => ⟨e.2.1, e.2.2, e.1⟩, fun e => ⟨e.2.2, e.1, e.2.1⟩⟩) (fun u hu => by rw [h2 u hu]; exact ⟨fun e => ⟨e.2.1, e.2.2, e.1⟩, fun e => ⟨e.2.2, e.1, e.2.1⟩⟩)
  have k12 := h.turn.diam hturn hx hy hz hd he h2 h1
  have k13 := h.turn.diam hturn hx hz hy hd he (fun u hu => by rw [h2 u hu, h.kcomm hx hz, h.kcomm hz hy, h.kcomm hy hx]; exact ⟨fun e => ⟨e.2.2, e.2.1, e.1⟩, fun e => ⟨e.2.2, e.2.1, e.1⟩⟩) (fun u hu => by rw [h1 u hu, h.jcomm hx hz, h.jcomm hz hy, h.jcomm hy hx]; exact ⟨fun e => ⟨e.2.2, e.2.1, e.1⟩, fun e => ⟨e.2.2, e.2.1, e.1⟩⟩)
  have k23 := h.turn.diam hturn hy hz hx hd he (fun u hu => by rw [h2 u hu]; exact ⟨fun e => ⟨e.2.1, e.2.2, e.1⟩, fun e => ⟨e.2.2, e.1, e.2.1⟩⟩) (fun u hu => by rw [h1 u hu]; exact ⟨fun e => ⟨e.2.1, e.2.2, e.1⟩, fun e => ⟨e.2.2, e.1, e.2.1⟩⟩)
  rw [hmid x hx, hmid y hy] at k12
  rw [hmid x hx, hmid z hz] at k13
  rw [hmid y hy, hmid z hz] at k23
  have l1 := hj _ _ (hk x e hx he) hd
  have l2 := hj _ _ (hk y e hy he) hd
  have l3 := hj _ _ (hk z e hz he) hd
  have hyz := hc _ _ _ l1 l2 l3 (j12.trans j13.symm) (k12.trans k13.symm)
  rw [hyz, h.jidem l3] at j23
  rw [hyz, h.kidem l3] at k23
  exact k23.symm.trans j23
end
end Go.Abs
