/- downs.Birkhoff: the function. -/
import Derived.Test.YtagghgmpdjoknaaDoorDownsW
import Derived.Test.YtagghgmpdjoknaaDoorOnes
import Derived.Test.YtagghgmpdjoknaaDoorDownsIR
import Derived.Test.YtagghgmpdjoknaaDoorPartS
import Derived.Test.YtagghgmpdjoknaaDoorAbsLat
namespace Go.Proofs.YtagghgmpdjoknaaDoor
open Go.Abs
-- watershed/downs.Birkhoff
abbrev Ks_downs_Birkhoff : List Kd := [.dat (.pair (.int .i64) (.sl (.int .u32)))]
abbrev Rk_downs_Birkhoff : List Kd := [.dat (.sl (.int .u32)), .dat (.int .i64)]
abbrev Rt_downs_Birkhoff : Type := Dens Rk_downs_Birkhoff
noncomputable def C_downs_Birkhoff (_N : Nat) : Ctx := { T := [(3, ⟨.int .i64, 1, 8, some (.int .i64), [.int .i64 (0 : Int)]⟩), (22, ⟨.slice 45, 1, 24, some (.sl (.int .u32)), [.nil]⟩), (24, ⟨.struct [(0, 3), (1, 22)], 2, 32, some (.pair (.int .i64) (.sl (.int .u32))), [.int .i64 (0 : Int), .nil]⟩), (38, ⟨.slice 3, 1, 24, some (.sl (.int .i64)), [.nil]⟩), (45, ⟨.int .u32, 1, 4, some (.int .u32), [.int .u32 (0 : Int)]⟩)], G := findE [mkQ 30 Ks_lattice_Irreducible Rk_lattice_Irreducible (D_lattice_Irreducible _N), mkB 45 Ks_sets_Each_uint32 87 (.int .u32) (D_sets_Each_uint32 _N), mkP 46 Ks_sets_One Rk_sets_One (D_sets_One _N)], I := findI [mkI 87 Ks_each (.int .i64) eachXs], N := _N, n := 46, fx := [], fl := 0, gs := Gs }
noncomputable def downs_Birkhoff_1 (_N : Nat) (_v28 : List Int) : Option Rt_downs_Birkhoff :=
  (some (_v28, (0 : Int), ()))
noncomputable def downs_Birkhoff_2 (_N : Nat) (_kn31 : (List Int × Int × Int × List Int) × (Int × List Int) → Option Rt_downs_Birkhoff) (_v16 : List Int) (_v17 : Int) (_v18 : Int) (_v19 : Int) (_v20 : List Int) (_v21 : List Int) : Option Rt_downs_Birkhoff :=
  (_kn31 ((_v16, _v17, _v19, _v20), ((IntKind.i64.wrap (_v18 + (1 : Int))), _v21)))
noncomputable def downs_Birkhoff_3 (_N : Nat) (_v10 : Int) (_v11 : List Int) (_v13 : Int) (_v12 : List Int) (_kn34 : (Int × List Int × Int) × List Int → Option Rt_downs_Birkhoff) (_y9 : Int) : Option Rt_downs_Birkhoff :=
  (bif (decide (0 ≤ _y9) && decide (_y9 < (_v12.length : Int))) then ((D_sets_One _N (_v13, ())).bind fun _y35 => (bif (decide (0 ≤ _y9) && decide (_y9 < (_v12.length : Int))) then (_kn34 ((_v10, _v11, _v13), (_v12.set ((_y9).toNat) (ior .u32 (nth (0 : Int) _v12 ((_y9).toNat)) _y35.1)))) else none)) else none)
noncomputable def downs_Birkhoff_4 (_N : Nat) (_k30 : (Int × List Int × List Int) → Option Rt_downs_Birkhoff) (_v2 : List Int) (_v3 : Int) (_v5 : Int) (_v6 : List Int) (_v4 : Int) (_v7 : List Int) (_kn31 : (List Int × Int × Int × List Int) × (Int × List Int) → Option Rt_downs_Birkhoff) : Option Rt_downs_Birkhoff :=
  (bif (decide (_v4 < _v3)) then (joinD (fun (_s : List Int × Int × Int × Int × List Int × List Int × Int) => downs_Birkhoff_2 _N _kn31 _s.1 _s.2.1 _s.2.2.1 _s.2.2.2.1 _s.2.2.2.2.1 _s.2.2.2.2.2.1) fun _k32 => (bif (decide (0 ≤ _v4) && decide (_v4 < (_v2.length : Int))) then (bif (decide (0 ≤ (nth (0 : Int) _v2 (_v4).toNat)) && decide ((nth (0 : Int) _v2 (_v4).toNat) < (_v6.length : Int))) then ((D_sets_Each_uint32 _N ((nth (0 : Int) _v6 (nth (0 : Int) _v2 (_v4).toNat).toNat), ())).bind fun _y33 => (forE (fun (_c : Int × List Int × Int) (_y : Int) (_s : List Int) _kn => downs_Birkhoff_3 _N _c.1 _c.2.1 _c.2.2 _s _kn _y) (fun (_c : Int × List Int × Int) (_s : List Int) => (_k32 (_v2, _v3, _v4, _c.1, _c.2.1, _s, _c.2.2))) (eachXs (_y33, ())) (_v5, _v6, (nth (0 : Int) _v2 (_v4).toNat)) _v7)) else none) else none)) else (_k30 (_v5, _v6, _v7)))
noncomputable def downs_Birkhoff_5 (_N : Nat) (_x1 : Int × List Int) : Option Rt_downs_Birkhoff :=
  ((D_lattice_Irreducible _N ((_x1.1, _x1.2), ())).bind fun _y29 => (bif (_y29.2.2.1 != (0 : Int)) then (some ([], _y29.2.2.1, ())) else (bif (decide (0 ≤ _x1.1) && (decide (_x1.1 ≤ _x1.1) && decide (_x1.1 * 4 ≤ 281474976710656))) then (joinD (fun (_s : Int × List Int × List Int) => downs_Birkhoff_1 _N _s.2.2) fun _k30 => (loopE (fun (_c : List Int × Int × Int × List Int) (_s : Int × List Int) _kn => downs_Birkhoff_4 _N _k30 _c.1 _c.2.1 _c.2.2.1 _c.2.2.2 _s.1 _s.2 _kn) _N (_y29.1, (_y29.1.length : Int), _x1.1, _x1.2) ((0 : Int), (List.replicate _x1.1.toNat (0 : Int))))) else none)))
noncomputable def D_downs_Birkhoff (_N : Nat) (_x : Dens Ks_downs_Birkhoff) : Option Rt_downs_Birkhoff := downs_Birkhoff_5 _N _x.1
theorem sp_downs_Birkhoff (_N : Nat) : SpecD Tryd.prog Gs 28 Ks_downs_Birkhoff Rk_downs_Birkhoff (D_downs_Birkhoff _N) := mkSpD (fn := Tryd.f28) (c := bodyOf Tryd.f28) (C := C_downs_Birkhoff _N)
    (a := .two .none (.two .none (.two .none (.two .none (.join 3 ⟨[(7, .ptr 2 0)], [.cells [.int .i64, .sl (.int .u32)], .row false 0 45 (.int .u32), .cells [.slc 1 0]]⟩ (.two .none (.one (.loop 3 ⟨[(1, .ptr 0 0), (7, .ptr 2 0), (23, .sl (.int .i64)), (24, .int .i64), (25, .int .i64)], [.cells [.int .i64, .sl (.int .u32)], .row false 0 45 (.int .u32), .cells [.slc 1 0]]⟩ [2, 5] (.two .none (.two .none (.join 4 ⟨[(1, .ptr 0 0), (7, .ptr 2 0), (23, .sl (.int .i64)), (24, .int .i64), (25, .int .i64)], [.cells [.int .i64, .sl (.int .u32)], .row false 0 45 (.int .u32), .cells [.slc 1 0], .cells [.int .i64]]⟩ (.one (.two .none (.two .none (.one (.keep [1, 7, 9, 23, 24, 25, 34] 4 (.each 4 [.cells [.int .i64, .sl (.int .u32)], .row false 0 45 (.int .u32), .cells [.slc 1 0], .cells [.int .i64]] [2] .none (.one (.draw 0 [.rd [2], .pure, .rd [1], .rd [1], .rd [3], .pure, .pure, .rd [1], .wr [1]])))))))) .none)))))) .none)))))
    (by kernel_rfl) rfl (by kernel_rfl) (by kernel_rfl) ⟨rfl, by unfold TOk; kernel_rfl, gOk_of rfl rfl (List.forall_mem_cons.2 ⟨qen_lattice_Irreducible _N, (List.forall_mem_cons.2 ⟨en_sets_Each_uint32 _N, (List.forall_mem_cons.2 ⟨en_sets_One _N, (List.forall_mem_nil _)⟩)⟩)⟩), iOk_of rfl rfl (List.forall_mem_cons.2 ⟨en_each, (List.forall_mem_nil _)⟩), rfl⟩ (fun _x => by kernel_rfl)
theorem en_downs_Birkhoff (_N : Nat) : EntOk Tryd.prog Gs (mkD 28 Ks_downs_Birkhoff Rk_downs_Birkhoff (D_downs_Birkhoff _N)) := entD ⟨Tryd.f28, bodyOf Tryd.f28, by kernel_rfl, by kernel_rfl, rfl⟩ (sp_downs_Birkhoff _N)
theorem qen_downs_Birkhoff (_N : Nat) : EntOk Tryd.prog Gs (mkQ 28 Ks_downs_Birkhoff Rk_downs_Birkhoff (D_downs_Birkhoff _N)) := entQ ⟨Tryd.f28, bodyOf Tryd.f28, by kernel_rfl, by kernel_rfl, rfl⟩ (sp_downs_Birkhoff _N)
end Go.Proofs.YtagghgmpdjoknaaDoor
namespace Go.Proofs.YtagghgmpdjoknaaDoor
open Go.Abs
/-- The elements with one cover below. -/
def lowL (up : List Int) (m : Nat) : List Nat := irrL (colsS up (m : Int) up.length) m
/-- Those of them below an element. -/
def belowW (up : List Int) (m x : Nat) : Int := mkw (lowL up m).length fun i => bt (nth 0 up (nth 0 (lowL up m) i)) x
section
variable {m : Nat} (hm : m ≤ 16) {up : List Int} (hw : WL up) (ho : Ord (m : Int) up)
theorem low_lt {i : Nat} (h : i ∈ lowL up m) : i < m := (irrL_mem.1 h).1
theorem low_len : (lowL up m).length ≤ m := irrL_len _ _
theorem low_nth {t : Nat} (h : t < (lowL up m).length) : nth 0 (lowL up m) t ∈ lowL up m := nth_mem h
theorem low_inj {s t : Nat} (hs : s < (lowL up m).length) (ht : t < (lowL up m).length) (e : nth 0 (lowL up m) s = nth 0 (lowL up m) t) : s = t := by
  rw [nth_lt hs, nth_lt ht] at e
  exact (List.getElem_inj (irrL_nodup _ _)).1 e
include hm in
theorem bt_below {x t : Nat} : bt (belowW up m x) t = true ↔ t < (lowL up m).length ∧ le up (nth 0 (lowL up m) t) x := by
  unfold belowW
  rw [bt_mkw (by have := low_len (up := up) (m := m); omega), Bool.and_eq_true, decide_eq_true_eq]
  rfl
include hm ho
theorem low_cov {i : Nat} (h : i ∈ lowL up m) : ∃ c, c < m ∧ cov up c i ∧ ∀ z, z < m → le up z i → z ≠ i → le up z c := by
  obtain ⟨hi, h⟩ := irrL_mem.1 h
  obtain ⟨h1, h2⟩ := bt_above (WL.colsS up (m : Int) up.length) (show i < 32 by omega)
  obtain ⟨c, c1, c2⟩ := (els_one h1).1 h
  have c1 := (h2 c).1 c1
  have hc : c < m := by have := ho.dual.inn i (by omega) c c1.1; omega
  refine ⟨c, hc, (cov_dual ho (by omega) (by omega)).1 c1, fun z hz hzi hne => ?_⟩
  obtain ⟨j, hj, ⟨j1, j2⟩, j3, j4⟩ := ho.top (fun y => le up y i ∧ y ≠ i) (i := z) (by omega) ⟨hzi, hne⟩
  have hcov : cov up j i := ⟨j1, fun e => j2 e.symm, fun x hx hxj hxi => by
    refine Classical.byContradiction fun hn => hxj (j4 x (ho.inn j hj x hx) ⟨hxi, fun e => hn e.symm⟩ hx)⟩
  have := c2 j ((h2 j).2 ((cov_dual ho (by omega) (by omega)).2 hcov))
  rwa [this] at j3
variable {J K : Nat → Nat → Nat} {b t : Nat} (hL : Latt m (le up) J K b t)
include hL
theorem low_gen {x d : Nat} (hx : x < m) (hd : d < m) (h : ∀ y ∈ lowL up m, le up y x → le up y d) : le up x d := by
  have hle : ∀ i j, i < m → j < m → (le (colsS up (m : Int) up.length) j i ↔ le up i j) := fun i j hi hj => le_dual ho (by omega) (by omega)
  refine (hle x d hx hd).1 (irr_gen (WL.colsS up (m : Int) up.length) ho.dual (fun a c ha hc => ⟨J a c, hL.jlt a c ha hc, fun e he => ?_⟩) ⟨b, hL.blt, fun e he => (hle _ _ hL.blt he).2 (hL.ble e he)⟩ hx hd fun y hy hy1 hy2 => ?_)
  · rw [hle _ _ (hL.jlt a c ha hc) he, hle _ _ ha he, hle _ _ hc he]
    exact hL.jle a c e ha hc he
  · exact (hle _ _ hy hd).2 (h y (irrL_mem.2 ⟨hy, hy1⟩) ((hle _ _ hy hx).1 hy2))
def Joins (up : List Int) (m : Nat) (J : Nat → Nat → Nat) : Prop := ∀ x y, x < m → y < m → ∀ i ∈ lowL up m, le up i (J x y) → le up i x ∨ le up i y
theorem joins_dist : Joins up m J ↔ Dist m J K := by
  have tr : ∀ {i j k}, i < m → j < m → le up i j → le up j k → le up i k := fun hi hj => ho.trans _ _ _ (by omega) (by omega)
  constructor
  · intro h x y z hx hy hz
    have h1 := hL.jlt y z hy hz
    have h2 := hL.klt x y hx hy
    have h3 := hL.klt x z hx hz
    refine hL.anti _ _ (hL.klt _ _ hx h1) (hL.jlt _ _ h2 h3) (low_gen hm ho hL (hL.klt _ _ hx h1) (hL.jlt _ _ h2 h3) fun i hi hle => ?_) ?_
    · have him := low_lt hi
      obtain ⟨a1, a2⟩ := (hL.kle _ _ i hx h1 him).1 hle
      have j1 := (hL.jle _ _ (J (K x y) (K x z)) h2 h3 (hL.jlt _ _ h2 h3)).1 (hL.refl _ (hL.jlt _ _ h2 h3))
      rcases h y z hy hz i hi a2 with h4 | h4
      · exact tr him h2 ((hL.kle x y i hx hy him).2 ⟨a1, h4⟩) j1.1
      · exact tr him h3 ((hL.kle x z i hx hz him).2 ⟨a1, h4⟩) j1.2
    · have k1 := (hL.kle x y _ hx hy h2).1 (hL.refl _ h2)
      have k2 := (hL.kle x z _ hx hz h3).1 (hL.refl _ h3)
      have j1 := (hL.jle y z _ hy hz h1).1 (hL.refl _ h1)
      exact (hL.jle _ _ _ h2 h3 (hL.klt _ _ hx h1)).2 ⟨(hL.kle _ _ _ hx h1 h2).2 ⟨k1.1, tr h2 hy k1.2 j1.1⟩, (hL.kle _ _ _ hx h1 h3).2 ⟨k2.1, tr h3 hz k2.2 j1.2⟩⟩
  · intro hd x y hx hy i hi hle
    have him := low_lt hi
    obtain ⟨c, hc, c1, c2⟩ := low_cov hm ho hi
    have h1 := hL.jlt x y hx hy
    have k1 := hL.klt i x him hx
    have k2 := hL.klt i y him hy
    have e : K i (J x y) = i := hL.anti _ _ (hL.klt _ _ him h1) him ((hL.kle i _ _ him h1 (hL.klt _ _ him h1)).1 (hL.refl _ (hL.klt _ _ him h1))).1 ((hL.kle _ _ _ him h1 him).2 ⟨hL.refl _ him, hle⟩)
    rw [hd i x y him hx hy] at e
    have a1 := (hL.kle i x _ him hx k1).1 (hL.refl _ k1)
    have a2 := (hL.kle i y _ him hy k2).1 (hL.refl _ k2)
    by_cases e1 : K i x = i
    · exact .inl (by have := a1.2; rwa [e1] at this)
    by_cases e2 : K i y = i
    · exact .inr (by have := a2.2; rwa [e2] at this)
    exfalso
    have h3 := (hL.jle _ _ c k1 k2 hc).2 ⟨c2 _ k1 a1.1 e1, c2 _ k2 a2.1 e2⟩
    rw [e] at h3
    exact c1.2.1 (ho.anti i c (by omega) (by omega) h3 c1.1)
variable {w : List Int} (hp : Pw up (lowL up m) (lowL up m).length w)
include hp
omit hL in
theorem low_ord : Ord (((lowL up m).length : Nat) : Int) w :=
  Pw.ord ho (by have := low_len (up := up) (m := m); omega) (fun x hx => low_lt hx) (fun i j hi hj e => low_inj hi hj e) hp
omit hL in
theorem below_dn {x : Nat} (hx : x < m) : belowW up m x ∈ downs w (lowL up m).length := by
  refine (mem_downs hp.wl (low_ord hm ho hp)).2 ⟨W32.mkw _ _, fun i hi => ((bt_below hm).1 hi).1, fun i j hj hle hi => (bt_below hm).2 ⟨hi, ?_⟩⟩
  obtain ⟨h1, h2⟩ := (bt_below hm).1 hj
  exact ho.trans _ _ _ (by have := low_lt (low_nth hi); omega) (by have := low_lt (low_nth h1); omega) ((hp.bit i hi j).1 hle).2 h2
omit hp in
theorem below_le {x y : Nat} (hx : x < m) (hy : y < m) (h : ∀ t, bt (belowW up m x) t = true → bt (belowW up m y) t = true) : le up x y := by
  refine low_gen hm ho hL hx hy fun i hi hle => ?_
  obtain ⟨t, ht, rfl⟩ := mem_nth (z := 0) hi
  exact ((bt_below hm).1 (h t ((bt_below hm).2 ⟨ht, hle⟩))).2
omit hp in
theorem below_nodup : ((List.range m).map (belowW up m)).Nodup :=
  List.pairwise_map.2 (List.nodup_range.imp_of_mem fun {a c} ha hc hne e => hne (hL.anti a c (List.mem_range.1 ha) (List.mem_range.1 hc) (below_le hm ho hL (List.mem_range.1 ha) (List.mem_range.1 hc) fun t h => e ▸ h) (below_le hm ho hL (List.mem_range.1 hc) (List.mem_range.1 ha) fun t h => e.symm ▸ h)))
omit hL in
theorem below_sub : ∀ D ∈ (List.range m).map (belowW up m), D ∈ downs w (lowL up m).length := fun D hD => by
  obtain ⟨x, hx, rfl⟩ := List.mem_map.1 hD
  exact below_dn hm ho hp (List.mem_range.1 hx)
theorem below_count : m ≤ (downs w (lowL up m).length).length := by
  have := (below_nodup hm ho hL).length_le_of_subset (below_sub hm ho hp)
  simpa using this
theorem joins_count : Joins up m J ↔ (downs w (lowL up m).length).length = m := by
  have how := low_ord hm ho hp
  constructor
  · intro h
    refine Nat.le_antisymm ?_ (below_count hm ho hL hp)
    have key : ∀ D ∈ downs w (lowL up m).length, D ∈ (List.range m).map (belowW up m) := fun D hD => by
      have hD := (mem_downs hp.wl how).1 hD
      have hz : ∀ l : List Nat, (∀ s ∈ l, s < (lowL up m).length) → ∃ z, z < m ∧ ∀ t, t < (lowL up m).length → (le up (nth 0 (lowL up m) t) z ↔ ∃ s ∈ l, le up (nth 0 (lowL up m) t) (nth 0 (lowL up m) s)) := by
        intro l
        induction l with
        | nil =>
          refine fun _ => ⟨b, hL.blt, fun t ht => ⟨fun hle => ?_, fun ⟨s, hs, _⟩ => by cases hs⟩⟩
          exfalso
          have hlt := low_lt (low_nth ht)
          obtain ⟨c, hc, c1, -⟩ := low_cov hm ho (low_nth ht)
          have e := hL.anti _ _ hlt hL.blt hle (hL.ble _ hlt)
          rw [e] at c1
          exact c1.2.1 (hL.anti _ _ hL.blt hc (hL.ble c hc) c1.1)
        | cons s l ih =>
          intro hs
          obtain ⟨z, hz, e⟩ := ih fun s' h' => hs s' (by simp [h'])
          have hsl := hs s (by simp)
          have hsm := low_lt (low_nth hsl)
          refine ⟨J (nth 0 (lowL up m) s) z, hL.jlt _ _ hsm hz, fun t ht => ?_⟩
          have htm := low_lt (low_nth ht)
          have j1 := (hL.jle _ _ _ hsm hz (hL.jlt _ _ hsm hz)).1 (hL.refl _ (hL.jlt _ _ hsm hz))
          constructor
          · intro hle
            rcases h _ _ hsm hz _ (low_nth ht) hle with h1 | h1
            · exact ⟨s, by simp, h1⟩
            · obtain ⟨s', h2, h3⟩ := (e t ht).1 h1
              exact ⟨s', by simp [h2], h3⟩
          · rintro ⟨s', h2, h3⟩
            rcases List.mem_cons.1 h2 with rfl | h2
            · exact hL.trans _ _ _ htm hsm (hL.jlt _ _ hsm hz) h3 j1.1
            · exact hL.trans _ _ _ htm hz (hL.jlt _ _ hsm hz) ((e t ht).2 ⟨s', h2, h3⟩) j1.2
      obtain ⟨z, hz, e⟩ := hz ((List.range (lowL up m).length).filter fun s => bt D s) fun s hs => List.mem_range.1 (List.mem_filter.1 hs).1
      refine List.mem_map.2 ⟨z, List.mem_range.2 hz, bt_ext (W32.mkw _ _) hD.w32 fun t _ => ?_⟩
      rw [Bool.eq_iff_iff, bt_below hm]
      constructor
      · rintro ⟨ht, hle⟩
        obtain ⟨s, hs, h1⟩ := (e t ht).1 hle
        obtain ⟨h2, h3⟩ := List.mem_filter.1 hs
        exact hD.dn t s h3 ((hp.bit t ht s).2 ⟨List.mem_range.1 h2, h1⟩) ht
      · intro htD
        have ht := hD.lt t htD
        exact ⟨ht, (e t ht).2 ⟨t, List.mem_filter.2 ⟨List.mem_range.2 ht, htD⟩, hL.refl _ (low_lt (low_nth ht))⟩⟩
    have := (downs_nodup hp.wl how).length_le_of_subset key
    simpa using this
  · intro hc x y hx hy i hi hle
    obtain ⟨t, ht, rfl⟩ := mem_nth (z := 0) hi
    have hdn : isDn w (lowL up m).length (ior .u32 (belowW up m x) (belowW up m y)) :=
      ((mem_downs hp.wl how).1 (below_dn hm ho hp hx)).or ((mem_downs hp.wl how).1 (below_dn hm ho hp hy))
    have hmem : ior .u32 (belowW up m x) (belowW up m y) ∈ (List.range m).map (belowW up m) := by
      refine Classical.byContradiction fun hn => ?_
      have := (List.nodup_cons.2 ⟨hn, below_nodup hm ho hL⟩).length_le_of_subset (l₂ := downs w (lowL up m).length) fun D hD => by
        rcases List.mem_cons.1 hD with rfl | hD
        · exact (mem_downs hp.wl how).2 hdn
        · exact below_sub hm ho hp D hD
      simp at this
      omega
    obtain ⟨z, hz, e⟩ := List.mem_map.1 hmem
    have hz := List.mem_range.1 hz
    have hb : ∀ s, bt (belowW up m z) s = true ↔ bt (belowW up m x) s = true ∨ bt (belowW up m y) s = true := fun s => by
      rw [e, bt_ior (show W32 (belowW up m x) from W32.mkw _ _) (show W32 (belowW up m y) from W32.mkw _ _), Bool.or_eq_true]
    have h1 := below_le hm ho hL hx hz fun s hs => (hb s).2 (.inl hs)
    have h2 := below_le hm ho hL hy hz fun s hs => (hb s).2 (.inr hs)
    have h3 := (hL.jle x y z hx hy hz).2 ⟨h1, h2⟩
    have h4 := hL.trans _ _ _ (low_lt (low_nth ht)) (hL.jlt x y hx hy) hz hle h3
    rcases (hb t).1 ((bt_below hm).2 ⟨ht, h4⟩) with h5 | h5
    · exact .inl ((bt_below hm).1 h5).2
    · exact .inr ((bt_below hm).1 h5).2
end
end Go.Proofs.YtagghgmpdjoknaaDoor
namespace Go.Proofs.YtagghgmpdjoknaaDoor
open Go.Abs
theorem foldset (v : Int) : ∀ (l : List Nat) (cs : List Int), l.Nodup → (∀ j ∈ l, j < cs.length) → (l.foldl (fun cs j => cs.set j (ior .u32 (nth 0 cs j) v)) cs).length = cs.length ∧
    ∀ j, nth 0 (l.foldl (fun cs j => cs.set j (ior .u32 (nth 0 cs j) v)) cs) j = if j ∈ l then ior .u32 (nth 0 cs j) v else nth 0 cs j
  | [], cs, _, _ => ⟨rfl, fun j => by simp⟩
  | i :: l, cs, hn, hl => by
    obtain ⟨h1, h2⟩ := foldset v l (cs.set i (ior .u32 (nth 0 cs i) v)) (List.nodup_cons.1 hn).2 (fun j hj => by rw [List.length_set]; exact hl j (List.mem_cons_of_mem _ hj))
    refine ⟨by rw [List.foldl_cons, h1, List.length_set], fun j => ?_⟩
    rw [List.foldl_cons, h2, nth_set (hl i (List.mem_cons_self ..))]
    have hi := (List.nodup_cons.1 hn).1
    by_cases e : i = j
    · subst e
      rw [if_neg hi, if_pos rfl, if_pos (List.mem_cons_self ..)]
    · rw [if_neg e]
      by_cases q : j ∈ l
      · rw [if_pos q, if_pos (List.mem_cons_of_mem _ q)]
      · rw [if_neg q, if_neg (fun h => (List.mem_cons.1 h).elim (fun h => e h.symm) q)]
theorem Birk_eq {N m : Nat} (hN : 1000 ≤ N) {up : List Int} (hw : WL up) (ho : Ord (m : Int) up) {r : Dens Rk_lattice_Of} (h1 : D_lattice_Of N (((m : Int), up), ()) = some (r.1, 0, ())) :
    ∃ L, D_downs_Birkhoff N (((m : Int), up), ()) = some (L, 0, ()) ∧ L.length = m ∧ WL L ∧ ∀ j, j < m → ∀ i, bt (nth 0 L j) i = true ↔ i ∈ lowL up m ∧ le up i j := by
  have hm : m ≤ 16 := by have := ho.h1; omega
  have hlen : (lowL up m).length ≤ m := low_len
  have hlu : up.length = m := by have := ho.len; omega
  have hlm : ((lowL up m).map fun (i : Nat) => (i : Int)).length = (lowL up m).length := List.length_map ..
  simp only [D_downs_Birkhoff, downs_Birkhoff_5, D_lattice_Irreducible, lattice_Irreducible_1, h1, Dual_eq (N := N) (by omega) hw ho, IrrC_eq hN hw ho, IrrC_eq hN (WL.colsS _ _ _) ho.dual, Option.bind_some, Option.map_some, bne_self_eq_false, cond_false, ge0_d, d_true (show (m : Int) ≤ (m : Int) by omega), d_true (show (m : Int) * 4 ≤ 281474976710656 by omega), Bool.and_self, cond_true, joinD, loopE, Int.toNat_natCast]
  rw [show irrL (colsS up (m : Int) up.length) m = lowL up m from rfl]
  have key := loopD_inv (N := N) (g := fun (s : Int × List Int) kn => downs_Birkhoff_4 N (fun s => downs_Birkhoff_1 N s.2.2) ((lowL up m).map fun (i : Nat) => (i : Int)) ((((lowL up m).map fun (i : Nat) => (i : Int)).length : Nat) : Int) (m : Int) up s.1 s.2 (backE (((lowL up m).map fun (i : Nat) => (i : Int)), ((((lowL up m).map fun (i : Nat) => (i : Int)).length : Nat) : Int), (m : Int), up) kn)) (s := ((0 : Int), List.replicate m (0 : Int))) (k := fun s => some (s.2, 0, ())) (lowL up m).length
    (fun p s => s.1 = (p : Int) ∧ s.2.length = m ∧ WL s.2 ∧ ∀ j, j < m → ∀ i, bt (nth 0 s.2 j) i = true ↔ ∃ t, t < p ∧ nth 0 (lowL up m) t = i ∧ le up i j) ?_ ?_ (by omega) ⟨rfl, by simp, fun x hx => by rw [List.eq_of_mem_replicate hx]; exact W32.zero, fun j hj i => ?_⟩
  · obtain ⟨⟨s, L⟩, ⟨-, g1, g2, g3⟩, e⟩ := key
    refine ⟨L, e, g1, g2, fun j hj i => (g3 j hj i).trans ⟨?_, fun ⟨h, hle⟩ => ?_⟩⟩
    · rintro ⟨t, ht, rfl, hle⟩
      exact ⟨low_nth ht, hle⟩
    · obtain ⟨t, ht, rfl⟩ := mem_nth (z := 0) h
      exact ⟨t, ht, rfl, hle⟩
  · rintro p ⟨s, cs⟩ hp ⟨hs, g1, g2, g3⟩
    simp only at hs g1 g2 g3
    subst hs
    have him := low_lt (low_nth hp)
    have hW := hw.nth (nth 0 (lowL up m) p)
    have hlt : ∀ j, bt (nth 0 up (nth 0 (lowL up m) p)) j = true → j < m := fun j hj => by have := ho.inn _ (by omega) j hj; omega
    obtain ⟨f1, f2⟩ := foldset (one (nth 0 (lowL up m) p)) (els (nth 0 up (nth 0 (lowL up m) p))) cs (nodup_els _) (fun j hj => by have := hlt j ((mem_els hW).1 hj); omega)
    refine ⟨((p : Int) + 1, (els (nth 0 up (nth 0 (lowL up m) p))).foldl (fun cs j => cs.set j (ior .u32 (nth 0 cs j) (one (nth 0 (lowL up m) p)))) cs), ⟨rfl, by simp only; omega, fun x hx => ?_, fun j hj i => ?_⟩, fun kn => ?_⟩
    · obtain ⟨j, hj, rfl⟩ := mem_nth (z := (0 : Int)) hx
      simp only
      rw [f2]
      split
      · exact W32.ior
      · exact g2.nth j
    · simp only
      rw [f2]
      by_cases q : j ∈ els (nth 0 up (nth 0 (lowL up m) p))
      · rw [if_pos q, bt_ior (g2.nth j) (W32.one _), Bool.or_eq_true, g3 j hj, bt_one (by omega), decide_eq_true_eq]
        constructor
        · rintro (⟨t, h1, h2⟩ | rfl)
          · exact ⟨t, by omega, h2⟩
          · exact ⟨p, by omega, rfl, (mem_els hW).1 q⟩
        · rintro ⟨t, h1, rfl, h2⟩
          by_cases e : t = p
          · subst e; exact .inr rfl
          · exact .inl ⟨t, by omega, rfl, h2⟩
      · rw [if_neg q, g3 j hj]
        constructor
        · rintro ⟨t, h1, h2⟩
          exact ⟨t, by omega, h2⟩
        · rintro ⟨t, h1, rfl, h2⟩
          by_cases e : t = p
          · subst e; exact absurd ((mem_els hW).2 h2) q
          · exact ⟨t, by omega, rfl, h2⟩
    · simp only [downs_Birkhoff_4, hlm, lt_d hp, ge0_d, Bool.and_self, cond_true, Int.toNat_natCast, nthp, lt_d (show nth 0 (lowL up m) p < up.length by omega), joinD, forE, Each_eq, Option.bind_some, backE_eq]
      refine (forD_els hW (fun cs j => cs.set j (ior .u32 (nth 0 cs j) (one (nth 0 (lowL up m) p)))) (fun cs => cs.length = m) (fun i s kn hi hbi hs => ?_) cs g1).1.trans ?_
      · have := hlt i hbi
        simp only [downs_Birkhoff_3, ge0_d, hs, lt_d this, Bool.and_self, cond_true, Int.toNat_natCast, One_eq N (nth 0 (lowL up m) p), Option.bind_some, backE_eq, List.length_set, and_self]
      · simp only [downs_Birkhoff_2, backE_eq, w64 (show -9223372036854775808 ≤ (p : Int) + 1 by omega) (show (p : Int) + 1 ≤ 9223372036854775807 by omega)]
  · rintro ⟨s, cs⟩ ⟨hs, -⟩ kn
    simp only at hs
    subst hs
    simp only [downs_Birkhoff_4, hlm, lt_self, cond_false, downs_Birkhoff_1]
  · simp only
    rw [show nth 0 (List.replicate m (0 : Int)) j = 0 from by unfold nth; simp [List.getD_eq_getElem?_getD, hj], bt_zero]
    exact ⟨fun h => Bool.noConfusion h, fun ⟨t, ht, _⟩ => absurd ht (Nat.not_lt_zero _)⟩
theorem Birk_err {N : Nat} {n : Int} {up : List Int} {e : Int} (he : e ≠ 0) (hD : D_lattice_Of N ((n, up), ()) = some (zeroT, e, ())) : D_downs_Birkhoff N ((n, up), ()) = some ([], e, ()) ∧ D_lattice_Irreducible N ((n, up), ()) = some ([], [], e, ()) := by
  have : (e != 0) = true := bne_iff_ne.2 he
  constructor <;> simp only [D_downs_Birkhoff, downs_Birkhoff_5, D_lattice_Irreducible, lattice_Irreducible_1, hD, Option.bind_some, this, cond_true]
end Go.Proofs.YtagghgmpdjoknaaDoor
