import Derived.Test.YtnieamciihdfpaaGreatAbsFrag
import Derived.Shelf.Spec.SlicesGrow
namespace Go.Abs
open Go.RowKit
def mkGw (f : Nat) (e : TypeId) (s : Sh) (by_ : Nat) : Ent :=
 { f := f, run := fun args h => match args with
  | [.nil, .int .i64 n] => some { α := Unit, r := bif decide (0 ≤ n) && decide (n * by_ ≤ 140737488355328) && decide (n ≤ 4611686018427387904) then some () else none, v := fun _ => .slc h.length 0, h := some fun _ h => h ++ [.row false 0 e s []] }
  | _ => none }
theorem mkGw_run {f : Nat} {e : TypeId} {s : Sh} {by_ : Nat} {args : List V} {H : List O} {p : Pkg} (hp : (mkGw f e s by_).run args H = some p) :
  ∃ n, args = [.nil, .int .i64 n] ∧ p = { α := Unit, r := bif decide (0 ≤ n) && decide (n * by_ ≤ 140737488355328) && decide (n ≤ 4611686018427387904) then some () else none, v := fun _ => .slc H.length 0, h := some fun _ h => h ++ [.row false 0 e s []] } := by
 simp only [mkGw] at hp
 split at hp
 ·cases hp; exact ⟨_, rfl, rfl⟩
 ·cases hp
section
variable {P : Program} {gs : List (Nat × List Value)}
theorem entGw {ρ : Go.Shelf.Ren} (L : Go.Proofs.Lays8.n4 P ρ) (hb : HasBody P (ρ.f 4)) {s : Sh} {i : TypeInfo} {z : Value} (hi : P.info? (ρ.t 25) = some i) (hz : i.zero = some z) (hs : i.size = s.n) (h1 : 1 ≤ s.n) (hzs : z.cells.size = s.n) : EntOk P gs (mkGw (ρ.f 4) (ρ.t 25) s i.bytes) where
 fn := fun _ _ _ _ => hb
 rd := fun args h hm p y hsub hp hh => by
  obtain ⟨n, rfl, rfl⟩ := mkGw_run hp
  cases hh
 wr := fun args h p u ys hp hu hr w0 A M0 w σ hgl R vs hv => by
  obtain ⟨n, rfl, rfl⟩ := mkGw_run hp
  cases hu
  simp only at hr ys ⊢
  simp only [RVs, RV] at hv
  obtain ⟨v1, _, rfl, rfl, v2, _, rfl, rfl, rfl⟩ := hv
  cases hc : (decide ((0 : Int) ≤ n) && decide (n * i.bytes ≤ 140737488355328) && decide (n ≤ 4611686018427387904)) with
  | false => rw [hc] at hr; cases hr
  | true =>
  simp only [Bool.and_eq_true, decide_eq_true_eq] at hc
  obtain ⟨⟨c1, c2⟩, c3⟩ := hc
  obtain ⟨m, rfl⟩ : ∃ m : Nat, n = (m : Int) := ⟨n.toNat, by omega⟩
  by_cases h0 : m = 0
  ·subst h0
   refine (Go.Proofs.Any8.slices_Grow_room L none 0 0 0 w (by omega) (by omega) (by omega) (by omega)).mono ?_
   rintro e' w' ⟨rfl, rfl⟩
   obtain ⟨nx, hrv⟩ := row_made (e := ρ.t 25) (y := ([] : List s.den)) (l := ⟨none, 0, []⟩) (cs := []) R h1 (Below.refl _ _) (World.ownsRow_nil _ _ _ _) rfl (fun b hb => by cases hb)
   exact ⟨_, _, rfl, nx, hrv⟩
  ·have hby : m * i.bytes ≤ 140737488355328 := by
    have h2 : ((m * i.bytes : Nat) : Int) ≤ 140737488355328 := by rw [Int.natCast_mul]; exact c2
    exact Int.ofNat_le.1 h2
   refine (Go.Proofs.Any8.slices_Grow_grow L i z hi hz (by omega) none 0 0 m [] w (by omega) (by omega) (by rw [Nat.zero_add]; exact hby) (by omega) (by simp) (fun _ => rfl) (fun a ha => by cases ha)).mono ?_
   rintro e' w' ⟨rfl, rfl⟩
   have hge := grownCap_ge w (0 + m) 0 (ρ.t 25)
   have hle := grownCap_le_maxLen w (0 + m) 0 (ρ.t 25) (by unfold maxLen; omega)
   have hsz : (([] : List Value).toArray ++ Builtin.zeroCells z.cells (0 + m - 0) ++ Builtin.zeroCells z.cells (grownCap w (0 + m) 0 (ρ.t 25) - (0 + m))).size = grownCap w (0 + m) 0 (ρ.t 25) * s.n := by
    simp only [Array.size_append, Builtin.zeroCells, Array.size_map, Array.size_range, hzs, List.size_toArray, List.length_nil]
    rw [Nat.zero_add, ← Nat.add_mul]
    congr 1
    omega
   have hB : Below w.heap.size w (w.drew.alloc (.cells (([] : List Value).toArray ++ Builtin.zeroCells z.cells (0 + m - 0) ++ Builtin.zeroCells z.cells (grownCap w (0 + m) 0 (ρ.t 25) - (0 + m))) (ρ.t 25))) := ((Below.refl _ w).drew).alloc (Nat.le_refl _) _
   have hown := World.ownsRow_made (base := 0) w.drew (e := ρ.t 25) (size := s.n) _ _ (Nat.zero_le _) hle hsz
   obtain ⟨nx, hrv⟩ := row_made (e := ρ.t 25) (y := ([] : List s.den)) (l := ⟨some w.heap.size, grownCap w (0 + m) 0 (ρ.t 25), []⟩) (cs := []) R h1 hB hown rfl (fun b hb => by cases hb; exact Nat.le_refl _)
   exact ⟨_, _, rfl, nx, hrv⟩
def growOk (P : Program) (e : TypeId) (s : Sh) (b : Nat) : Bool :=
 match P.info? e with
 | some i => match i.zero with | some z => Nat.beq i.size s.n && Nat.beq z.cells.size s.n && Nat.beq i.bytes b && Nat.ble 1 s.n | none => false
 | none => false
theorem entGw' {ρ : Go.Shelf.Ren} (L : Go.Proofs.Lays8.n4 P ρ) (hb : HasBody P (ρ.f 4)) {s : Sh} {b : Nat} (hg : growOk P (ρ.t 25) s b = true) : EntOk P gs (mkGw (ρ.f 4) (ρ.t 25) s b) := by
 unfold growOk at hg
 split at hg
 ·rename_i i hi
  split at hg
  ·rename_i z hz
   simp only [Bool.and_eq_true] at hg
   have h3 := Nat.eq_of_beq_eq_true hg.1.2
   rw [← h3]
   exact entGw L hb hi hz (Nat.eq_of_beq_eq_true hg.1.1.1) (Nat.le_of_ble_eq_true hg.2) (Nat.eq_of_beq_eq_true hg.1.1.2)
  ·cases hg
 ·cases hg
end
end Go.Abs
