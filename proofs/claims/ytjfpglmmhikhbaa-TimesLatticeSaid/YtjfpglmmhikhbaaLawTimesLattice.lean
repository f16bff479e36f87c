/- Times form a distributive lattice: for every three lists the law answers true. No condition. -/
import Derived.Test.YtjfpglmmhikhbaaPlainTimes
import Derived.Test.YtjfpglmmhikhbaaOpen
namespace Go.Proofs.Ytjfpglmmhikhbaa
open Go.RowKit Go.ChangeShapes Go.WideShapes Go.ChangeAt

def opB (up : Bool) (x y : Int) : Int := if up then max x y else min x y
def zipB (up : Bool) (xs ys : List Int) : List Int := List.zipWith (opB up) xs ys
/-- A time of n numbers. -/
def Tm (n : Nat) (xs : List Int) : Prop := xs.length = n ∧ timeCheck xs = 0
theorem timeCheck_zero {xs : List Int} : timeCheck xs = 0 ↔ (1 ≤ xs.length ∧ xs.length ≤ 4 ∧ ∀ i, i < xs.length → 0 ≤ nth xs i ∧ nth xs i ≤ 1048576) := by
  constructor
  · intro h
    have hl := timeCheck_len h
    refine ⟨hl.1, hl.2, fun i hi => ?_⟩
    have hb : xs.any badCoord = false := by
      unfold timeCheck at h
      rw [if_neg (by omega)] at h
      cases hb : xs.any badCoord
      · rfl
      · rw [hb] at h; simp at h
    have := List.any_eq_false.1 hb _ (nth_mem xs i hi)
    simp [badCoord] at this
    omega
  · rintro ⟨h1, h2, h3⟩
    refine timeCheck_ok xs (by omega) (by omega) ?_
    rw [List.any_eq_false]
    intro x hx
    obtain ⟨i, hi, rfl⟩ := mem_nth hx
    have := h3 i hi
    simp [badCoord]; omega
theorem nth_zipB (up : Bool) (xs ys : List Int) (i : Nat) (h : i < xs.length) (h' : i < ys.length) : nth (zipB up xs ys) i = opB up (nth xs i) (nth ys i) := by
  rw [nth_eq _ i (by simp [zipB]; omega), nth_eq xs i h, nth_eq ys i h']
  simp [zipB]
theorem Tm.zip {n : Nat} {xs ys : List Int} (up : Bool) (hx : Tm n xs) (hy : Tm n ys) : Tm n (zipB up xs ys) := by
  obtain ⟨hx, hx'⟩ := hx
  obtain ⟨hy, hy'⟩ := hy
  have hl : (zipB up xs ys).length = n := by simp [zipB]; omega
  refine ⟨hl, ?_⟩
  rw [timeCheck_zero] at *
  refine ⟨by omega, by omega, fun i hi => ?_⟩
  rw [nth_zipB up xs ys i (by omega) (by omega)]
  have := hx'.2.2 i (by omega)
  have := hy'.2.2 i (by omega)
  unfold opB
  split <;> omega
theorem joinedL_zip {n : Nat} {xs ys : List Int} (up : Bool) (hx : Tm n xs) (hy : Tm n ys) : joinedL xs ys up = zipB up xs ys := by
  have h0 : pairErr xs ys = 0 := by simp [pairErr, hx.2, hy.2, hx.1, hy.1]
  unfold joinedL
  rw [if_pos h0]
  cases up
  · rw [if_neg (by decide)]; rfl
  · rw [if_pos rfl]; rfl
theorem zip_ext {n : Nat} {xs ys : List Int} (hx : Tm n xs) (hy : Tm n ys) (h : ∀ i, i < n → nth xs i = nth ys i) : eqB xs ys = true :=
  eqB_all (hx.1.trans hy.1.symm) fun i hi => h i (by have := hx.1; omega)
theorem opB_not (up : Bool) (x y : Int) : opB (!up) x y = if up then min x y else max x y := by cases up <;> rfl
section
variable {n : Nat} {xs ys zs : List Int} (hx : Tm n xs) (hy : Tm n ys) (hz : Tm n zs) (up : Bool)
include hx hy
theorem law_turn : eqB (joinedL xs ys up) (joinedL ys xs up) = true := by
  rw [joinedL_zip up hx hy, joinedL_zip up hy hx]
  refine zip_ext (hx.zip up hy) (hy.zip up hx) fun i hi => ?_
  rw [nth_zipB _ _ _ i (by rw [hx.1]; exact hi) (by rw [hy.1]; exact hi), nth_zipB _ _ _ i (by rw [hy.1]; exact hi) (by rw [hx.1]; exact hi)]
  unfold opB; split <;> omega
theorem law_swallow : eqB (joinedL xs (joinedL xs ys up) (!up)) xs = true := by
  rw [joinedL_zip up hx hy, joinedL_zip (!up) hx (hx.zip up hy)]
  refine zip_ext (hx.zip _ (hx.zip up hy)) hx fun i hi => ?_
  rw [nth_zipB _ _ _ i (by rw [hx.1]; exact hi) (by rw [(hx.zip up hy).1]; exact hi), nth_zipB _ _ _ i (by rw [hx.1]; exact hi) (by rw [hy.1]; exact hi), opB_not]
  unfold opB; split <;> omega
theorem law_leq : (leqB xs ys == eqB (joinedL xs ys true) ys) = true ∧ (leqB xs ys == eqB (joinedL xs ys false) xs) = true := by
  rw [joinedL_zip true hx hy, joinedL_zip false hx hy]
  have ha : alikeB xs ys = true := alikeB_true.2 ⟨hx.1.trans hy.1.symm, hx.2, hy.2⟩
  have n1 : ∀ up i, i < n → nth (zipB up xs ys) i = opB up (nth xs i) (nth ys i) := fun up i hi => nth_zipB _ _ _ i (by rw [hx.1]; exact hi) (by rw [hy.1]; exact hi)
  cases hq : underB xs ys with
  | true =>
    have hu : ∀ i, i < n → nth xs i ≤ nth ys i := fun i hi => by simp only [underB, decide_eq_true_eq] at hq; exact hq i (by rw [hx.1]; exact hi)
    have e1 : eqB (zipB true xs ys) ys = true := zip_ext (hx.zip _ hy) hy fun i hi => by rw [n1 true i hi]; have := hu i hi; unfold opB; simp; omega
    have e2 : eqB (zipB false xs ys) xs = true := zip_ext (hx.zip _ hy) hx fun i hi => by rw [n1 false i hi]; have := hu i hi; unfold opB; simp; omega
    simp [leqB, ha, hq, e1, e2]
  | false =>
    have hu : ∃ i, i < n ∧ nth ys i < nth xs i := by
      simp only [underB, decide_eq_false_iff_not] at hq
      apply Classical.byContradiction
      intro hn
      exact hq fun i hi => by
        apply Classical.byContradiction
        intro h
        exact hn ⟨i, by rw [← hx.1]; exact hi, by omega⟩
    obtain ⟨i, hi, hlt⟩ := hu
    have e1 : eqB (zipB true xs ys) ys = false := eqB_ne i (by rw [n1 true i hi]; unfold opB; simp; omega)
    have e2 : eqB (zipB false xs ys) xs = false := eqB_ne i (by rw [n1 false i hi]; unfold opB; simp; omega)
    simp [leqB, hq, e1, e2]
include hz
theorem law_brackets : eqB (joinedL (joinedL xs ys up) zs up) (joinedL xs (joinedL ys zs up) up) = true := by
  rw [joinedL_zip up hx hy, joinedL_zip up hy hz, joinedL_zip up (hx.zip up hy) hz, joinedL_zip up hx (hy.zip up hz)]
  refine zip_ext ((hx.zip up hy).zip up hz) (hx.zip up (hy.zip up hz)) fun i hi => ?_
  have a := hx.1; have b := hy.1; have c := hz.1; have d := (hx.zip up hy).1; have e := (hy.zip up hz).1
  rw [nth_zipB _ _ _ i (by omega) (by omega), nth_zipB _ _ _ i (by omega) (by omega), nth_zipB _ _ _ i (by omega) (by omega), nth_zipB _ _ _ i (by omega) (by omega)]
  unfold opB; split <;> omega
theorem law_over : eqB (joinedL xs (joinedL ys zs up) (!up)) (joinedL (joinedL xs ys (!up)) (joinedL xs zs (!up)) up) = true := by
  rw [joinedL_zip up hy hz, joinedL_zip (!up) hx hy, joinedL_zip (!up) hx hz, joinedL_zip (!up) hx (hy.zip up hz), joinedL_zip up (hx.zip (!up) hy) (hx.zip (!up) hz)]
  refine zip_ext (hx.zip _ (hy.zip up hz)) ((hx.zip (!up) hy).zip up (hx.zip (!up) hz)) fun i hi => ?_
  have a := hx.1; have b := hy.1; have c := hz.1; have d := (hx.zip (!up) hy).1; have e := (hy.zip up hz).1; have f := (hx.zip (!up) hz).1
  rw [nth_zipB _ _ _ i (by omega) (by omega), nth_zipB _ _ _ i (by omega) (by omega), nth_zipB _ _ _ i (by omega) (by omega), nth_zipB _ _ _ i (by omega) (by omega), nth_zipB _ _ _ i (by omega) (by omega)]
  simp only [opB_not]
  unfold opB; split <;> omega
end

set_option maxHeartbeats 2000000 in
theorem walk_TimesLattice (v0 v1 v2 : Value) (w : World) (h0 : InInts w v0) (h1 : InInts w v1) (h2 : InInts w v2) :
    Calls Try.prog 4 #[v0, v1, v2] w fun e w' => e = .returned (.bool true) ∧ Ext w w' := by
  obtain ⟨xs, h0, -⟩ := h0
  obtain ⟨ys, h1, -⟩ := h1
  obtain ⟨zs, h2, -⟩ := h2
  have hE := hid (Ext.alloc w (.cells #[v0, v1, v2] 26))
  have H3 := hid (Intss.three h0 h1 h2)
  have H0 := hid (fun w' (hx : Ext w w') => (⟨Rd.keeps hx h0, Rd.keeps hx h1, Rd.keeps hx h2⟩ : Ints w' v0 xs ∧ Ints w' v1 ys ∧ Ints w' v2 zs))
  obtain ⟨a0, c0, rfl, -, -, -, -⟩ := h0
  obtain ⟨a1, c1, rfl, -, -, -, -⟩ := h1
  obtain ⟨a2, c2, rfl, -, -, -, -⟩ := h2
  cases hA : alikesB [xs, ys, zs] with
  | false =>
    go_enter Try.func4, Try.ntmps4
    go_wp2_with fail
    refine (alikes_any _ [xs, ys, zs] _ H3.out).mono ?_
    rintro e w' ⟨rfl, rfl⟩
    go_wp2_with fail
    go_ret
    exact ⟨rfl, hE.out⟩
  | true =>
  have hal := alikesB_three xs ys zs |>.1 hA
  have tx : Tm xs.length xs := ⟨rfl, hal.1⟩
  have ty : Tm xs.length ys := ⟨hal.2.2.2.1, hal.2.1⟩
  have tz : Tm xs.length zs := ⟨hal.2.2.2.2, hal.2.2.1⟩
  have L := hid (fun up => (⟨law_turn tx ty up, law_swallow tx ty up, law_brackets tx ty tz up, law_over tx ty tz up⟩ : eqB (joinedL xs ys up) (joinedL ys xs up) = true ∧ eqB (joinedL xs (joinedL xs ys up) (!up)) xs = true ∧ eqB (joinedL (joinedL xs ys up) zs up) (joinedL xs (joinedL ys zs up) up) = true ∧ eqB (joinedL xs (joinedL ys zs up) (!up)) (joinedL (joinedL xs ys (!up)) (joinedL xs zs (!up)) up) = true))
  have Lq := hid (law_leq tx ty)
  clear hal tx ty tz
  go_enter Try.func4, Try.ntmps4
  go_wp2_with fail
  refine (alikes_any _ [xs, ys, zs] _ H3.out).mono ?_
  rintro e w' ⟨rfl, rfl⟩
  clear H3
  go_wp2_with fail
  go_loopw [7] (fun i wr => ∃ k : Nat, k ≤ 2 ∧ i = .int .i64 k ∧ Ext w wr) (fun i _ => 2 - (intOf i).toNat)
  case atStart => exact ⟨0, by decide, rfl, hE.out⟩
  case round =>
    obtain ⟨k, hk, rfl, hx⟩ := hrel
    replace hE := hid hx
    obtain ⟨h0, h1, h2⟩ := H0.out _ hx
    clear hx
    by_cases hlt : k < 2
    · replace h0 := hid h0
      replace h1 := hid h1
      replace h2 := hid h2
      obtain ⟨up, hup⟩ : ∃ b, ((k : Int) == 0) = b := ⟨_, rfl⟩
      obtain ⟨e1, e2, e3, e4⟩ := L.out up
      go_wp2_with fail
      refine (joined_any _ _ xs ys up _ h0.out h1.out).mono ?_
      rintro e w' ⟨ab, rfl, hab, hx'⟩
      replace h0 := hid (Rd.keeps hx' h0.out)
      replace h1 := hid (Rd.keeps hx' h1.out)
      replace h2 := hid (Rd.keeps hx' h2.out)
      replace hE := hid (Ext.trans hE.out hx')
      clear hx'
      replace hab := hid (OwnL.rd hab)
      go_wp2_with fail
      refine (joined_any _ _ ys zs up _ h1.out h2.out).mono ?_
      rintro e w' ⟨bc, rfl, hbc, hx'⟩
      replace h0 := hid (Rd.keeps hx' h0.out)
      replace h1 := hid (Rd.keeps hx' h1.out)
      replace h2 := hid (Rd.keeps hx' h2.out)
      replace hab := hid (Rd.keeps hx' hab.out)
      replace hE := hid (Ext.trans hE.out hx')
      clear hx'
      replace hbc := hid (OwnL.rd hbc)
      go_wp2_with fail
      refine (joined_any _ _ ys xs up _ h1.out h0.out).mono ?_
      rintro e w' ⟨ba, rfl, hba, hx'⟩
      replace h0 := hid (Rd.keeps hx' h0.out)
      replace h1 := hid (Rd.keeps hx' h1.out)
      replace h2 := hid (Rd.keeps hx' h2.out)
      replace hab := hid (Rd.keeps hx' hab.out)
      replace hbc := hid (Rd.keeps hx' hbc.out)
      replace hE := hid (Ext.trans hE.out hx')
      clear hx'
      replace hba := hid (OwnL.rd hba)
      go_wp2_with fail
      refine (same_any _ _ _ _ _ hab.out hba.out).mono ?_
      rintro e w' ⟨rfl, hx'⟩
      replace h0 := hid (Rd.keeps hx' h0.out)
      replace h1 := hid (Rd.keeps hx' h1.out)
      replace h2 := hid (Rd.keeps hx' h2.out)
      replace hab := hid (Rd.keeps hx' hab.out)
      replace hbc := hid (Rd.keeps hx' hbc.out)
      replace hE := hid (Ext.trans hE.out hx')
      clear hx'
      clear hba
      go_wp2_with fail
      refine (joined_any _ _ _ zs up _ hab.out h2.out).mono ?_
      rintro e w' ⟨p, rfl, hp, hx'⟩
      replace h0 := hid (Rd.keeps hx' h0.out)
      replace h1 := hid (Rd.keeps hx' h1.out)
      replace h2 := hid (Rd.keeps hx' h2.out)
      replace hab := hid (Rd.keeps hx' hab.out)
      replace hbc := hid (Rd.keeps hx' hbc.out)
      replace hE := hid (Ext.trans hE.out hx')
      clear hx'
      replace hp := hid (OwnL.rd hp)
      go_wp2_with fail
      refine (joined_any _ _ xs _ up _ h0.out hbc.out).mono ?_
      rintro e w' ⟨q, rfl, hq, hx'⟩
      replace h0 := hid (Rd.keeps hx' h0.out)
      replace h1 := hid (Rd.keeps hx' h1.out)
      replace h2 := hid (Rd.keeps hx' h2.out)
      replace hab := hid (Rd.keeps hx' hab.out)
      replace hbc := hid (Rd.keeps hx' hbc.out)
      replace hp := hid (Rd.keeps hx' hp.out)
      replace hE := hid (Ext.trans hE.out hx')
      clear hx'
      replace hq := hid (OwnL.rd hq)
      go_wp2_with fail
      refine (same_any _ _ _ _ _ hp.out hq.out).mono ?_
      rintro e w' ⟨rfl, hx'⟩
      replace h0 := hid (Rd.keeps hx' h0.out)
      replace h1 := hid (Rd.keeps hx' h1.out)
      replace h2 := hid (Rd.keeps hx' h2.out)
      replace hab := hid (Rd.keeps hx' hab.out)
      replace hbc := hid (Rd.keeps hx' hbc.out)
      replace hE := hid (Ext.trans hE.out hx')
      clear hx'
      clear hp hq
      go_wp2_with fail
      refine (joined_any _ _ xs _ (!up) _ h0.out hab.out).mono ?_
      rintro e w' ⟨p, rfl, hp, hx'⟩
      replace h0 := hid (Rd.keeps hx' h0.out)
      replace h1 := hid (Rd.keeps hx' h1.out)
      replace h2 := hid (Rd.keeps hx' h2.out)
      replace hab := hid (Rd.keeps hx' hab.out)
      replace hbc := hid (Rd.keeps hx' hbc.out)
      replace hE := hid (Ext.trans hE.out hx')
      clear hx'
      replace hp := hid (OwnL.rd hp)
      go_wp2_with fail
      refine (same_any _ _ _ _ _ hp.out h0.out).mono ?_
      rintro e w' ⟨rfl, hx'⟩
      replace h0 := hid (Rd.keeps hx' h0.out)
      replace h1 := hid (Rd.keeps hx' h1.out)
      replace h2 := hid (Rd.keeps hx' h2.out)
      replace hab := hid (Rd.keeps hx' hab.out)
      replace hbc := hid (Rd.keeps hx' hbc.out)
      replace hE := hid (Ext.trans hE.out hx')
      clear hx'
      clear hp
      go_wp2_with fail
      refine (joined_any _ _ xs _ (!up) _ h0.out hbc.out).mono ?_
      rintro e w' ⟨p, rfl, hp, hx'⟩
      replace h0 := hid (Rd.keeps hx' h0.out)
      replace h1 := hid (Rd.keeps hx' h1.out)
      replace h2 := hid (Rd.keeps hx' h2.out)
      replace hE := hid (Ext.trans hE.out hx')
      clear hx'
      replace hp := hid (OwnL.rd hp)
      go_wp2_with fail
      refine (joined_any _ _ xs ys (!up) _ h0.out h1.out).mono ?_
      rintro e w' ⟨q, rfl, hq, hx'⟩
      replace h0 := hid (Rd.keeps hx' h0.out)
      replace h1 := hid (Rd.keeps hx' h1.out)
      replace h2 := hid (Rd.keeps hx' h2.out)
      replace hp := hid (Rd.keeps hx' hp.out)
      replace hE := hid (Ext.trans hE.out hx')
      clear hx'
      replace hq := hid (OwnL.rd hq)
      go_wp2_with fail
      refine (joined_any _ _ xs zs (!up) _ h0.out h2.out).mono ?_
      rintro e w' ⟨r, rfl, hr, hx'⟩
      replace h0 := hid (Rd.keeps hx' h0.out)
      replace h1 := hid (Rd.keeps hx' h1.out)
      replace h2 := hid (Rd.keeps hx' h2.out)
      replace hp := hid (Rd.keeps hx' hp.out)
      replace hq := hid (Rd.keeps hx' hq.out)
      replace hE := hid (Ext.trans hE.out hx')
      clear hx'
      replace hr := hid (OwnL.rd hr)
      go_wp2_with fail
      refine (joined_any _ _ _ _ up _ hq.out hr.out).mono ?_
      rintro e w' ⟨s, rfl, hs, hx'⟩
      replace h0 := hid (Rd.keeps hx' h0.out)
      replace h1 := hid (Rd.keeps hx' h1.out)
      replace h2 := hid (Rd.keeps hx' h2.out)
      replace hp := hid (Rd.keeps hx' hp.out)
      replace hE := hid (Ext.trans hE.out hx')
      clear hx'
      replace hs := hid (OwnL.rd hs)
      go_wp2_with fail
      refine (same_any _ _ _ _ _ hp.out hs.out).mono ?_
      rintro e w' ⟨rfl, hx'⟩
      replace h0 := hid (Rd.keeps hx' h0.out)
      replace h1 := hid (Rd.keeps hx' h1.out)
      replace h2 := hid (Rd.keeps hx' h2.out)
      replace hE := hid (Ext.trans hE.out hx')
      clear hx'
      go_wp2_with fail
      go_roundw
      case rel => exact ⟨k + 1, by omega, by go_num, hE.out⟩
      case measure => simp [intOf]; omega
    · replace h0 := hid h0
      replace h1 := hid h1
      clear h2
      obtain ⟨q1, q2⟩ := Lq.out
      go_wp2_with fail
      refine (leq_any _ _ xs ys _ h0.out h1.out).mono ?_
      rintro e w' ⟨rfl, hx'⟩
      replace h0 := hid (Rd.keeps hx' h0.out)
      replace h1 := hid (Rd.keeps hx' h1.out)
      replace hE := hid (Ext.trans hE.out hx')
      clear hx'
      go_wp2_with fail
      refine (joined_any _ _ xs ys true _ h0.out h1.out).mono ?_
      rintro e w' ⟨p, rfl, hp, hx'⟩
      replace h0 := hid (Rd.keeps hx' h0.out)
      replace h1 := hid (Rd.keeps hx' h1.out)
      replace hE := hid (Ext.trans hE.out hx')
      clear hx'
      replace hp := hid (OwnL.rd hp)
      go_wp2_with fail
      refine (same_any _ _ _ _ _ hp.out h1.out).mono ?_
      rintro e w' ⟨rfl, hx'⟩
      replace h0 := hid (Rd.keeps hx' h0.out)
      replace h1 := hid (Rd.keeps hx' h1.out)
      replace hE := hid (Ext.trans hE.out hx')
      clear hx'
      clear hp
      go_wp2_with fail
      refine (leq_any _ _ xs ys _ h0.out h1.out).mono ?_
      rintro e w' ⟨rfl, hx'⟩
      replace h0 := hid (Rd.keeps hx' h0.out)
      replace h1 := hid (Rd.keeps hx' h1.out)
      replace hE := hid (Ext.trans hE.out hx')
      clear hx'
      go_wp2_with fail
      refine (joined_any _ _ xs ys false _ h0.out h1.out).mono ?_
      rintro e w' ⟨p, rfl, hp, hx'⟩
      replace h0 := hid (Rd.keeps hx' h0.out)
      replace h1 := hid (Rd.keeps hx' h1.out)
      replace hE := hid (Ext.trans hE.out hx')
      clear hx'
      replace hp := hid (OwnL.rd hp)
      go_wp2_with fail
      refine (same_any _ _ _ _ _ hp.out h0.out).mono ?_
      rintro e w' ⟨rfl, hx'⟩
      replace h0 := hid (Rd.keeps hx' h0.out)
      replace h1 := hid (Rd.keeps hx' h1.out)
      replace hE := hid (Ext.trans hE.out hx')
      clear hx'
      go_wp2_with fail
      go_ret
      exact ⟨rfl, hE.out⟩

set_option maxRecDepth 100000 in
theorem lifted_TimesLattice (os : Os) (started : os.Started) (H : Type) (enc : TypeId × Value → H) :
    ReturnsInHanded {} Try.checked os 4 .any (Rows.timesLatticeSpec.pre6 enc Try.prog Try.f4 Rows.timesLatticeRow.domain false) (Rows.timesLatticeSpec.post enc Try.prog Try.f4 false true false false) := by
  refine returnsInHanded_of_change_sized (C := Try.checked) own started (by kernel_rfl) Try.func4
    (ChangeSpec.witness6 (enc := enc) (C := Try.checked) false ⟨#[], #[.slice none 0 0, .slice none 0 0, .slice none 0 0], []⟩ 8 (by kernel_rfl) (by kernel_rfl) (by kernel_rfl) (by kernel_rfl)) ?_
  intro W base args ds gs before hval0 hW _ hsz0 _
  have hval : ∀ (j : Nat) t v, Try.f4.params[j]? = some t → args[j]? = some v → Value.okWide Try.prog W .any base t v := hval0
  have hW' := hW
  obtain ⟨p, q, hA0, hV, rfl, _, _⟩ := hW
  have hA : DataW.TrodAll enc Try.prog W 0 (fun _ => true) true Try.f4.params.toList args.toList ds p := hA0
  rw [Try.params4] at hA hval
  obtain ⟨v0, vs0, d0, ds0, p0, q0, hargs, rfl, rfl, h0, r0⟩ := trodAll_cons hA
  obtain ⟨v1, vs1, d1, ds1, p1, q1, rfl, rfl, rfl, h1, r1⟩ := trodAll_cons r0
  obtain ⟨v2, vs2, d2, ds2, p2, q2, rfl, rfl, rfl, h2, r2⟩ := trodAll_cons r1
  obtain ⟨rfl, rfl, rfl⟩ := trodAll_nil r2
  obtain rfl : args = #[v0, v1, v2] := by cases args; simp_all
  obtain ⟨rfl, rfl⟩ := trodVars_none hV
  clear hA0 hval0 hsz0
  simp only [List.append_nil] at hW'
  have hlt0 : ∀ x ∈ p0, x.block < W.heap.size := fun x hx => hW'.lt x (by simp [hx])
  have hlt1 : ∀ x ∈ p1, x.block < W.heap.size := fun x hx => hW'.lt x (by simp [hx])
  have hlt2 : ∀ x ∈ p2, x.block < W.heap.size := fun x hx => hW'.lt x (by simp [hx])
  have g0 : InInts W v0 := open_ints_k Try.underlying26 Try.underlying3 cellsInt (hval 0 26 v0 rfl rfl) h0
  have g1 : InInts W v1 := open_ints_k Try.underlying26 Try.underlying3 cellsInt (hval 1 26 v1 rfl rfl) h1
  have g2 : InInts W v2 := open_ints_k Try.underlying26 Try.underlying3 cellsInt (hval 2 26 v2 rfl rfl) h2
  refine (walk_TimesLattice v0 v1 v2 W g0 g1 g2).mono fun e W' ⟨he, hg⟩ => ?_
  subst he
  exact ⟨_, rfl, _, _, _, [], p0 ++ (p1 ++ (p2 ++ [])), [], hW', (trodAll_cons_mk (shut_bool Try.underlying4 _) trodAll_mk0), (trodAll_cons_mk (Below.trod laidOut (by kernel_rfl) (of_decide_eq_true (by kernel_rfl)) h0 hg hlt0) (trodAll_cons_mk (Below.trod laidOut (by kernel_rfl) (of_decide_eq_true (by kernel_rfl)) h1 hg hlt1) (trodAll_cons_mk (Below.trod laidOut (by kernel_rfl) (of_decide_eq_true (by kernel_rfl)) h2 hg hlt2) trodAll_mk0))), rfl, hg.frame _, fun h => by cases h⟩

/-- The statement: whatever the arguments, the law's function returns true and leaves them as they were. -/
theorem timesLattice_holds : Rows.TimesLatticeSaid :=
  OpenClaim.holds_of_wide 4 Try.f4 rfl rfl rfl rfl rfl rfl rfl ⟨rfl, rfl, rfl, rfl, rfl⟩ rfl rfl rfl rfl rfl (by kernel_rfl) Try.func4 (by kernel_rfl)
    (of_decide_eq_true (by kernel_rfl)) (by unfold Func.isWrapper; first | (rw [if_pos (by decide +kernel)]; kernel_rfl) | (rw [if_neg (by decide +kernel)]; exact ⟨rfl, rfl⟩))
    (fun os started H enc _ => lifted_TimesLattice os started H enc)
end Go.Proofs.Ytjfpglmmhikhbaa
