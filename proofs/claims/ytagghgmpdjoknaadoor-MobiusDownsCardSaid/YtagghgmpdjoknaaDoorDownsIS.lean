/- downs.Inclusion: the down-sets' order; it is a distributive lattice, with as many irreducible elements as the order has elements. -/
import Derived.Test.YtagghgmpdjoknaaDoorDownsI
import Derived.Test.YtagghgmpdjoknaaDoorDnPart
import Derived.Test.YtagghgmpdjoknaaDoorOnesS
namespace Go.Proofs.YtagghgmpdjoknaaDoor
open Go.Abs
def incP (L : List Int) (a : Int) (j : Nat) : Bool := iandNot .u32 a (nth 0 L j) == 0
def incL (L : List Int) : List Int := L.map fun a => mkw L.length (incP L a)
theorem incL_len (L : List Int) : (incL L).length = L.length := by simp [incL]
theorem incL_nth (L : List Int) {i : Nat} (hi : i < L.length) : nth 0 (incL L) i = mkw L.length (incP L (nth 0 L i)) := by
  rw [nth_lt (by rw [incL_len]; exact hi), nth_lt hi]; simp [incL]
theorem take_succ_nth {xs : List Int} {i : Nat} (hi : i < xs.length) : xs.take (i + 1) = xs.take i ++ [nth 0 xs i] := by
  rw [List.take_add_one, nth_lt hi, List.getElem?_eq_getElem hi]; rfl
section
variable {m : Nat} (hm : m ≤ 16) {up : List Int} (hw : WL up) (ho : Ord (m : Int) up)
include hm hw ho
theorem Inc_eq {N : Nat} (hN : 1000 ≤ N) : D_downs_Inclusion N (((m : Int), up), ()) = if (downs up m).length ≤ 16 then some ((((downs up m).length : Int), incL (downs up m)), 0, ()) else some ((0, []), 1, ()) := by
  simp only [D_downs_Inclusion, downs_Inclusion_6, All_eq2 hm hw ho (N := N) (by omega)]
  by_cases q1 : (downs up m).length ≤ 256
  case neg =>
    rw [if_neg q1, if_neg (by omega)]; rfl
  rw [if_pos q1]
  simp only [Option.bind_some, bne_self_eq_false, cond_false]
  by_cases q : (downs up m).length ≤ 16
  case neg =>
    rw [if_neg q, d_true (by omega), cond_true]
  rw [if_pos q, d_false (by omega), cond_false]
  generalize downs up m = L at *
  simp only [joinD, loopE]
  refine loopD_path (N := N) L.length (fun i => ((i : Int), (incL L).take i)) (fun i hi kn => ?_) (fun kn => ?_) (by omega)
  · have e1 : ((incL L).take i).length = i := by rw [List.length_take, incL_len]; omega
    have ei : IntKind.i64.wrap ((i : Int) + 1) = (i : Int) + 1 := w64 (by omega) (by omega)
    simp only [downs_Inclusion_5, lt_d hi, cond_true, joinD, loopE, ge0_d, Bool.and_self, Int.toNat_natCast]
    refine loopD_path (N := N) L.length (fun j => (mkw j (incP L (nth 0 L i)), (j : Int))) (fun j hj kn => ?_) (fun kn => ?_) (by omega)
    · simp only [downs_Inclusion_4, lt_d hj, cond_true, ge0_d, Bool.and_self, Int.toNat_natCast, One_eq N j, Option.bind_some, backE_eq, w64 (show -9223372036854775808 ≤ (j : Int) + 1 by omega) (show (j : Int) + 1 ≤ 9223372036854775807 by omega), mkw_succ]
      unfold incP
      cases (iandNot .u32 (nth 0 L i) (nth 0 L j) == 0) <;> rfl
    · simp only [downs_Inclusion_4, lt_self, cond_false, downs_Inclusion_3, downs_Inclusion_2, e1, ei]
      rw [d_true (by simp; omega), take_succ_nth (by rw [incL_len]; exact hi), incL_nth L hi]
      simp only [backE_eq, Bool.true_and]
      rfl
  · simp only [downs_Inclusion_5, lt_self, cond_false, downs_Inclusion_1]
    rw [List.take_of_length_le (by rw [incL_len]; exact Nat.le_refl _)]
omit hm in
/-- What the down-sets' order says. -/
theorem le_inc (q : (downs up m).length ≤ 16) {i j : Nat} (hi : i < (downs up m).length) : le (incL (downs up m)) i j ↔ j < (downs up m).length ∧ ∀ x, bt (nth 0 (downs up m) i) x = true → bt (nth 0 (downs up m) j) x = true := by
  have hwL : ∀ k, k < (downs up m).length → W32 (nth 0 (downs up m) k) := fun k hk => ((mem_downs hw ho).1 (nth_mem hk)).w32
  unfold le
  rw [incL_nth _ hi, bt_mkw (by omega), Bool.and_eq_true, decide_eq_true_eq]
  constructor
  · rintro ⟨h1, h2⟩
    refine ⟨h1, fun x hx => Classical.byContradiction fun hn => ?_⟩
    have : (iandNot .u32 (nth 0 (downs up m) i) (nth 0 (downs up m) j) != 0) = true := (ne_zero_iff W32.iandNot).2 ⟨x, bt_lt (hwL i hi) hx, by rw [bt_iandNot (hwL i hi) (hwL j h1), hx, Bool.eq_false_iff.2 hn]; rfl⟩
    unfold incP at h2
    rw [bne, h2] at this
    cases this
  · rintro ⟨h1, h2⟩
    refine ⟨h1, ?_⟩
    unfold incP
    cases e : (iandNot .u32 (nth 0 (downs up m) i) (nth 0 (downs up m) j) == 0) with
    | true => rfl
    | false =>
      obtain ⟨x, -, hx⟩ := (ne_zero_iff (W32.iandNot (a := nth 0 (downs up m) i) (b := nth 0 (downs up m) j))).1 (by rw [bne, e]; rfl)
      rw [bt_iandNot (hwL i hi) (hwL j h1), Bool.and_eq_true] at hx
      rw [h2 x hx.1] at hx
      exact absurd hx.2 (by decide)
omit hm in
theorem dn_ix {D : Int} (h : isDn up m D) : ∃ i, i < (downs up m).length ∧ nth 0 (downs up m) i = D := by
  obtain ⟨i, hi, e⟩ := mem_nth (z := (0 : Int)) ((mem_downs hw ho).2 h)
  exact ⟨i, hi, e⟩
omit hm in
theorem dn_inj {i j : Nat} (hi : i < (downs up m).length) (hj : j < (downs up m).length) (h : ∀ x, x < m → (bt (nth 0 (downs up m) i) x = true ↔ bt (nth 0 (downs up m) j) x = true)) : i = j := by
  have h1 := (mem_downs hw ho).1 (nth_mem (z := (0 : Int)) hi)
  have h2 := (mem_downs hw ho).1 (nth_mem (z := (0 : Int)) hj)
  have e : nth 0 (downs up m) i = nth 0 (downs up m) j := bt_ext h1.w32 h2.w32 fun x _ => by
    rw [Bool.eq_iff_iff]
    exact ⟨fun hx => (h x (h1.lt x hx)).1 hx, fun hx => (h x (h2.lt x hx)).2 hx⟩
  have hnd := downs_nodup hw ho
  rw [nth_lt hi, nth_lt hj] at e
  exact (List.getElem_inj hnd).1 e
omit hm in
theorem Ord_inc (q : (downs up m).length ≤ 16) : Ord (((downs up m).length : Nat) : Int) (incL (downs up m)) where
  h0 := by omega
  h1 := by omega
  len := by rw [incL_len]; simp
  inn := fun i hi j hj => by
    rw [Int.toNat_natCast] at *
    exact ((le_inc hw ho q hi).1 hj).1
  refl := fun i hi => by
    rw [Int.toNat_natCast] at *
    exact (le_inc hw ho q hi).2 ⟨hi, fun _ h => h⟩
  anti := fun i j hi hj h1 h2 => by
    rw [Int.toNat_natCast] at *
    have a := (le_inc hw ho q hi).1 h1
    have b := (le_inc hw ho q hj).1 h2
    exact dn_inj hw ho hi hj fun x _ => ⟨a.2 x, b.2 x⟩
  trans := fun i j k hi hj h1 h2 => by
    rw [Int.toNat_natCast] at *
    have a := (le_inc hw ho q hi).1 h1
    have b := (le_inc hw ho q hj).1 h2
    exact (le_inc hw ho q hi).2 ⟨b.1, fun x hx => b.2 x (a.2 x hx)⟩
omit hm in
theorem dn_pred (p : Nat → Prop) (hp : ∀ x y, x < m → y < m → le up x y → p y → p x) (hm : m ≤ 16) : ∃ i, i < (downs up m).length ∧ ∀ x, bt (nth 0 (downs up m) i) x = true ↔ x < m ∧ p x := by
  classical
  have hb : ∀ x, bt (mkw m fun x => decide (p x)) x = true ↔ x < m ∧ p x := fun x => by rw [bt_mkw (by omega), Bool.and_eq_true, decide_eq_true_eq, decide_eq_true_eq]
  obtain ⟨i, hi, e⟩ := dn_ix hw ho (D := mkw m fun x => decide (p x)) ⟨W32.mkw _ _, fun i h => ((hb i).1 h).1, fun i j h1 h2 h3 => (hb i).2 ⟨h3, hp i j h3 ((hb j).1 h1).1 h2 ((hb j).1 h1).2⟩⟩
  exact ⟨i, hi, fun x => by rw [e]; exact hb x⟩
theorem lat_inc (q : (downs up m).length ≤ 16) : HasLat (downs up m).length (incL (downs up m)) := by
  have hD : ∀ {i}, i < (downs up m).length → isDn up m (nth 0 (downs up m) i) := fun hi => (mem_downs hw ho).1 (nth_mem (z := (0 : Int)) hi)
  have hor : ∀ i j, ∃ k, i < (downs up m).length → j < (downs up m).length → k < (downs up m).length ∧ ∀ x, bt (nth 0 (downs up m) k) x = true ↔ x < m ∧ (bt (nth 0 (downs up m) i) x = true ∨ bt (nth 0 (downs up m) j) x = true) := fun i j => by
    by_cases h : i < (downs up m).length ∧ j < (downs up m).length
    · obtain ⟨k, h1, h2⟩ := dn_pred hw ho (fun x => bt (nth 0 (downs up m) i) x = true ∨ bt (nth 0 (downs up m) j) x = true) (fun x y hx hy hl hp => hp.imp (fun e => (hD h.1).dn x y e hl hx) (fun e => (hD h.2).dn x y e hl hx)) hm
      exact ⟨k, fun _ _ => ⟨h1, h2⟩⟩
    · exact ⟨0, fun h1 h2 => absurd ⟨h1, h2⟩ h⟩
  have hand : ∀ i j, ∃ k, i < (downs up m).length → j < (downs up m).length → k < (downs up m).length ∧ ∀ x, bt (nth 0 (downs up m) k) x = true ↔ x < m ∧ (bt (nth 0 (downs up m) i) x = true ∧ bt (nth 0 (downs up m) j) x = true) := fun i j => by
    by_cases h : i < (downs up m).length ∧ j < (downs up m).length
    · obtain ⟨k, h1, h2⟩ := dn_pred hw ho (fun x => bt (nth 0 (downs up m) i) x = true ∧ bt (nth 0 (downs up m) j) x = true) (fun x y hx hy hl hp => ⟨(hD h.1).dn x y hp.1 hl hx, (hD h.2).dn x y hp.2 hl hx⟩) hm
      exact ⟨k, fun _ _ => ⟨h1, h2⟩⟩
    · exact ⟨0, fun h1 h2 => absurd ⟨h1, h2⟩ h⟩
  obtain ⟨J, hJ⟩ := Classical.axiomOfChoice fun i => Classical.axiomOfChoice (hor i)
  obtain ⟨K, hK⟩ := Classical.axiomOfChoice fun i => Classical.axiomOfChoice (hand i)
  obtain ⟨b, hb, hb2⟩ := dn_pred hw ho (fun _ => False) (fun _ _ _ _ _ h => h) hm
  obtain ⟨t, ht, ht2⟩ := dn_pred hw ho (fun _ => True) (fun _ _ _ _ _ h => h) hm
  have hI := Ord_inc hw ho q
  refine ⟨J, K, b, t, {
    refl := fun i hi => hI.refl i (by simpa using hi)
    anti := fun i j hi hj => hI.anti i j (by simpa using hi) (by simpa using hj)
    trans := fun i j k hi hj _ => hI.trans i j k (by simpa using hi) (by simpa using hj)
    jlt := fun x y hx hy => (hJ x y hx hy).1
    klt := fun x y hx hy => (hK x y hx hy).1
    jle := fun x y d hx hy hd => ?_
    kle := fun x y d hx hy hd => ?_
    blt := hb
    tlt := ht
    ble := fun j hj => (le_inc hw ho q hb).2 ⟨hj, fun x hx => ((hb2 x).1 hx).2.elim⟩
    tle := fun j hj => (le_inc hw ho q hj).2 ⟨ht, fun x hx => (ht2 x).2 ⟨(hD hj).lt x hx, trivial⟩⟩ }⟩
  · obtain ⟨j1, j2⟩ := hJ x y hx hy
    rw [le_inc hw ho q j1, le_inc hw ho q hx, le_inc hw ho q hy]
    constructor
    · rintro ⟨-, h⟩
      exact ⟨⟨hd, fun z hz => h z ((j2 z).2 ⟨(hD hx).lt z hz, .inl hz⟩)⟩, ⟨hd, fun z hz => h z ((j2 z).2 ⟨(hD hy).lt z hz, .inr hz⟩)⟩⟩
    · rintro ⟨⟨-, h1⟩, -, h2⟩
      exact ⟨hd, fun z hz => ((j2 z).1 hz).2.elim (h1 z) (h2 z)⟩
  · obtain ⟨j1, j2⟩ := hK x y hx hy
    rw [le_inc hw ho q hd, le_inc hw ho q hd, le_inc hw ho q hd]
    constructor
    · rintro ⟨-, h⟩
      exact ⟨⟨hx, fun z hz => ((j2 z).1 (h z hz)).2.1⟩, ⟨hy, fun z hz => ((j2 z).1 (h z hz)).2.2⟩⟩
    · rintro ⟨⟨-, h1⟩, -, h2⟩
      exact ⟨j1, fun z hz => (j2 z).2 ⟨(hD hd).lt z hz, h1 z hz, h2 z hz⟩⟩
theorem lat_bits (q : (downs up m).length ≤ 16) {J K : Nat → Nat → Nat} {b t : Nat} (h : Latt (downs up m).length (le (incL (downs up m))) J K b t) :
    (∀ x y z, x < (downs up m).length → y < (downs up m).length → (bt (nth 0 (downs up m) (J x y)) z = true ↔ bt (nth 0 (downs up m) x) z = true ∨ bt (nth 0 (downs up m) y) z = true)) ∧
    (∀ x y z, x < (downs up m).length → y < (downs up m).length → (bt (nth 0 (downs up m) (K x y)) z = true ↔ bt (nth 0 (downs up m) x) z = true ∧ bt (nth 0 (downs up m) y) z = true)) := by
  have hD : ∀ {i}, i < (downs up m).length → isDn up m (nth 0 (downs up m) i) := fun hi => (mem_downs hw ho).1 (nth_mem (z := (0 : Int)) hi)
  have hle : ∀ {i j x}, i < (downs up m).length → le (incL (downs up m)) i j → bt (nth 0 (downs up m) i) x = true → bt (nth 0 (downs up m) j) x = true := fun hi h => ((le_inc hw ho q hi).1 h).2 _
  constructor
  · intro x y z hx hy
    have hj := h.jlt x y hx hy
    constructor
    · intro hz
      obtain ⟨k, k1, k2⟩ := dn_pred hw ho (fun z => bt (nth 0 (downs up m) x) z = true ∨ bt (nth 0 (downs up m) y) z = true) (fun a c ha hc hl hp => hp.imp (fun e => (hD hx).dn a c e hl ha) (fun e => (hD hy).dn a c e hl ha)) hm
      have := (h.jle x y k hx hy k1).2 ⟨(le_inc hw ho q hx).2 ⟨k1, fun a ha => (k2 a).2 ⟨(hD hx).lt a ha, .inl ha⟩⟩, (le_inc hw ho q hy).2 ⟨k1, fun a ha => (k2 a).2 ⟨(hD hy).lt a ha, .inr ha⟩⟩⟩
      exact ((k2 z).1 (hle hj this hz)).2
    · have := (h.jle x y (J x y) hx hy hj).1 (h.refl _ hj)
      exact fun hz => hz.elim (hle hx this.1) (hle hy this.2)
  · intro x y z hx hy
    have hj := h.klt x y hx hy
    constructor
    · have := (h.kle x y (K x y) hx hy hj).1 (h.refl _ hj)
      exact fun hz => ⟨hle hj this.1 hz, hle hj this.2 hz⟩
    · intro hz
      obtain ⟨k, k1, k2⟩ := dn_pred hw ho (fun z => bt (nth 0 (downs up m) x) z = true ∧ bt (nth 0 (downs up m) y) z = true) (fun a c ha hc hl hp => ⟨(hD hx).dn a c hp.1 hl ha, (hD hy).dn a c hp.2 hl ha⟩) hm
      have := (h.kle x y k hx hy k1).2 ⟨(le_inc hw ho q k1).2 ⟨hx, fun a ha => ((k2 a).1 ha).2.1⟩, (le_inc hw ho q k1).2 ⟨hy, fun a ha => ((k2 a).1 ha).2.2⟩⟩
      exact hle k1 this ((k2 z).2 ⟨(hD hx).lt z hz.1, hz⟩)
theorem dist_inc (q : (downs up m).length ≤ 16) {J K : Nat → Nat → Nat} {b t : Nat} (h : Latt (downs up m).length (le (incL (downs up m))) J K b t) : ∀ x y z, x < (downs up m).length → y < (downs up m).length → z < (downs up m).length → K x (J y z) = J (K x y) (K x z) := by
  intro x y z hx hy hz
  obtain ⟨hj, hk⟩ := lat_bits hm hw ho q h
  have h1 := h.jlt y z hy hz
  have h2 := h.klt x y hx hy
  have h3 := h.klt x z hx hz
  refine dn_inj hw ho (h.klt _ _ hx h1) (h.jlt _ _ h2 h3) fun a _ => ?_
  rw [hk _ _ _ hx h1, hj _ _ _ hy hz, hj _ _ _ h2 h3, hk _ _ _ hx hy, hk _ _ _ hx hz]
  constructor
  · rintro ⟨h4, h5 | h5⟩
    · exact .inl ⟨h4, h5⟩
    · exact .inr ⟨h4, h5⟩
  · rintro (⟨h4, h5⟩ | ⟨h4, h5⟩)
    · exact ⟨h4, .inl h5⟩
    · exact ⟨h4, .inr h5⟩
end
end Go.Proofs.YtagghgmpdjoknaaDoor
