/- An operation's evaluation hands its outcome on, and leans on its operands alone. -/
import Derived.Test.YtdbjfdjpmoackaaDoorAbsOps
namespace Go.Abs
section
variable {ρ : Type} {C : Ctx} {h : List O} {t t' : Nat → V}
theorem cond_bind {α β : Type} (b : Bool) (x y : Option α) (K : α → Option β) : (bif b then x else y).bind K = bif b then x.bind K else y.bind K := by cases b <;> rfl
theorem binInt_nat (op : BinOp) (k : IntKind) (x y : Int) (K : V → Option ρ) : binInt op k x y K = (binInt op k x y some).bind K := by
  cases op <;> simp only [binInt, cond_bind, Option.bind_some, Option.bind_none]
theorem binBool_nat (op : BinOp) (x y : Bool) (K : V → Option ρ) : binBool op x y K = (binBool op x y some).bind K := by
  cases op <;> rfl
theorem binOpK_nat (op : BinOp) (ty : TypeId) (x y : V) (K : V → Option ρ) : binOpK C op ty x y K = (binOpK C op ty x y some).bind K := by
  cases x <;> cases y <;> simp only [binOpK, cond_bind, Option.bind_none]
  · rw [binInt_nat]; split <;> simp [Option.bind_none]
  · rw [binBool_nat]
theorem unOpK_nat (op : UnOp) (x : V) (K : V → Option ρ) : unOpK op x K = (unOpK op x some).bind K := by
  cases x <;> cases op <;> rfl
theorem loadK_nat (ty : TypeId) (a : V) (K : V → Option ρ) : loadK C h ty a K = (loadK C h ty a some).bind K := by
  unfold loadK
  split
  · rfl
  · split
    · rfl
    · rw [cond_bind]; rfl
theorem indexAgg_nat (size : Nat) (agg : Bool) (vs : List V) (i : Int) (K : V → Option ρ) : (n j : Nat) → indexAgg size agg vs i K n j = (indexAgg size agg vs i some n j).bind K
  | 0, j => rfl
  | n + 1, j => by simp only [indexAgg, cond_bind, Option.bind_some]; rw [indexAgg_nat _ _ _ _ _ n]
theorem optInt_nat {α β : Type} (x : Option Operand) (d : Int) (K : Int → Option α) (L : α → Option β) : (optInt t x d K).bind L = optInt t x d (fun y => (K y).bind L) := by
  unfold optInt
  split
  · rfl
  · split <;> rfl
theorem buildK_nat (ty : TypeId) (ps : List (Nat × Operand)) (K : V → Option ρ) : buildK C t ty ps K = (buildK C t ty ps some).bind K := by
  unfold buildK
  repeat' (first | rfl | split)
theorem fieldAddrK_nat (ty : TypeId) (x : V) (f : Nat) (K : V → Option ρ) : fieldAddrK C h ty x f K = (fieldAddrK C h ty x f some).bind K := by
  unfold fieldAddrK
  split
  · rfl
  · split
    · split
      · rfl
      · rw [cond_bind]
        cases x <;> simp only [cond_bind, Option.bind_some, Option.bind_none]
        split <;> rfl
    · rfl
theorem fieldK_nat (ty : TypeId) (x : V) (f : Nat) (K : V → Option ρ) : fieldK C ty x f K = (fieldK C ty x f some).bind K := by
  unfold fieldK
  split
  · rfl
  · split
    · split
      · rfl
      · split
        · rfl
        · cases x <;> simp only [cond_bind, Option.bind_some, Option.bind_none]
    · rfl
theorem indexAddrSK_nat (ty : TypeId) (x i : V) (K : V → Option ρ) : indexAddrSK C h ty x i K = (indexAddrSK C h ty x i some).bind K := by
  unfold indexAddrSK
  split
  · rfl
  · cases i <;> simp only [Option.bind_none]
    cases x <;> simp only [cond_bind, Option.bind_some, Option.bind_none]
    split <;> simp only [cond_bind, Option.bind_some, Option.bind_none]
theorem indexAddrK_nat (ty : TypeId) (x i : V) (K : V → Option ρ) : indexAddrK C h ty x i K = (indexAddrK C h ty x i some).bind K := by
  unfold indexAddrK
  split
  · cases i <;> simp only [Option.bind_none]
    cases x <;> simp only [cond_bind, Option.bind_some, Option.bind_none]
  · exact indexAddrSK_nat ty x i K
theorem indexK_nat (ty : TypeId) (x i : V) (K : V → Option ρ) : indexK C ty x i K = (indexK C ty x i some).bind K := by
  unfold indexK
  split
  · rfl
  · split
    · split
      · rfl
      · cases i <;> simp only [Option.bind_none]
        cases x <;> simp only [cond_bind, Option.bind_none]
        rw [indexAgg_nat]
    · rfl
theorem sliceK_nat (ty : TypeId) (x : V) (lo hi : Option Operand) (K : V → Option ρ) : sliceK C t ty x lo hi K = (sliceK C t ty x lo hi some).bind K := by
  unfold sliceK
  split
  · rfl
  · cases x <;> simp only [cond_bind, Option.bind_none, optInt_nat, Option.bind_some]
theorem lenK_nat (ty : TypeId) (x : V) (K : V → Option ρ) : lenK C h ty x K = (lenK C h ty x some).bind K := by
  unfold lenK
  repeat' (first | rfl | split)
theorem minmaxK_nat (m : Bool) (vs : List V) (K : V → Option ρ) : minmaxK m vs K = (minmaxK m vs some).bind K := by
  unfold minmaxK
  repeat' (first | rfl | split)
theorem callRK_nat (f : V) (args : List V) (K : V → Option ρ) : callRK C h f args K = (callRK C h f args some).bind K := by
  unfold callRK
  split
  · split
    · rfl
    · split
      · rename_i p _ _ _
        cases p.r <;> rfl
      · rfl
  · rfl
theorem convertK_nat (s d : TypeId) (x : V) (K : V → Option ρ) : convertK C s d x K = (convertK C s d x some).bind K := by
  unfold convertK
  repeat' (first | rfl | split)
theorem pickK_nat (c a b : V) (K : V → Option ρ) : pickK c a b K = (pickK c a b some).bind K := by
  cases c <;> simp only [pickK, cond_bind, Option.bind_some, Option.bind_none]
theorem nilCheckK_nat (x : V) (K : V → Option ρ) : nilCheckK h x K = (nilCheckK h x some).bind K := by
  cases x <;> simp only [nilCheckK, cond_bind, Option.bind_some, Option.bind_none]
theorem extractK_nat (x : V) (i : Nat) (K : V → Option ρ) : extractK x i K = (extractK x i some).bind K := by
  unfold extractK
  repeat' (first | rfl | split)
theorem callR_nat (c : Call) (K : V → Option ρ) : callR C t h c K = (callR C t h c some).bind K := by
  unfold callR
  split
  · split
    · split
      · exact lenK_nat _ _ _
      · rfl
    · exact minmaxK_nat _ _ _
    · exact minmaxK_nat _ _ _
    · rfl
  · exact callRK_nat _ _ _
  · rfl
theorem evR_nat (o : Op) (K : V → Option ρ) : evR C o t h K = (evR C o t h some).bind K := by
  unfold evR
  split
  · rfl
  · rfl
  · exact pickK_nat _ _ _ _
  · exact binOpK_nat _ _ _ _ _
  · exact unOpK_nat _ _ _
  · exact convertK_nat _ _ _ _
  · exact nilCheckK_nat _ _
  · exact loadK_nat _ _ _
  · exact fieldAddrK_nat _ _ _ _
  · exact fieldK_nat _ _ _ _
  · exact indexAddrK_nat _ _ _ _
  · exact indexK_nat _ _ _ _
  · exact extractK_nat _ _ _
  · exact buildK_nat _ _ _
  · split
    · simp only [cond_bind, Option.bind_some, Option.bind_none]
    · rfl
  · split
    · exact sliceK_nat _ _ _ _ _
    · rfl
  · exact callR_nat _ _
  · rfl
abbrev trip (v : V) (ss : List (Nat × O)) (mk : Option O) : Option (V × List (Nat × O) × Option O) := some (v, ss, mk)
theorem buildSliceK_nat (nid : Nat) (ty : TypeId) (n : Nat) (ps : List (Nat × Operand)) (K : V → List (Nat × O) → Option O → Option ρ) : buildSliceK C t h nid ty n ps K = (buildSliceK C t h nid ty n ps trip).bind fun p => K p.1 p.2.1 p.2.2 := by
  unfold buildSliceK
  split
  · rfl
  · split
    · rfl
    · rw [cond_bind]
      split
      · rfl
      · split <;> rfl
theorem makeSliceK_nat (nid : Nat) (ty : TypeId) (l c : V) (K : V → List (Nat × O) → Option O → Option ρ) : makeSliceK C nid ty l c K = (makeSliceK C nid ty l c trip).bind fun p => K p.1 p.2.1 p.2.2 := by
  unfold makeSliceK
  split
  · rfl
  · split
    · rfl
    · cases l <;> simp only [Option.bind_none]
      cases c <;> simp only [cond_bind, Option.bind_some, Option.bind_none]
theorem storeK_nat (ty : TypeId) (a v : V) (K : V → List (Nat × O) → Option O → Option ρ) : storeK C h ty a v K = (storeK C h ty a v trip).bind fun p => K p.1 p.2.1 p.2.2 := by
  unfold storeK
  split
  · rfl
  · rw [cond_bind]
    cases a <;> simp only [Option.bind_none]
    · split <;> simp only [cond_bind, Option.bind_some, Option.bind_none]
    · split
      · rw [cond_bind]
        split <;> rfl
      · rfl
theorem appendK_nat (nid : Nat) (ty : TypeId) (x y : V) (K : V → List (Nat × O) → Option O → Option ρ) : appendK C h nid ty x y K = (appendK C h nid ty x y trip).bind fun p => K p.1 p.2.1 p.2.2 := by
  unfold appendK
  split
  · rfl
  · split
    · rfl
    · rw [cond_bind]
      split
      · rfl
      · cases x <;> simp only [Option.bind_none, cond_bind, Option.bind_some]
        split
        · rw [cond_bind]
          split
          · rfl
          · rw [cond_bind]; rfl
        · rfl
theorem evS_nat (o : Op) (nid : Nat) (K : V → List (Nat × O) → Option O → Option ρ) : evS C o t h nid K = (evS C o t h nid trip).bind fun p => K p.1 p.2.1 p.2.2 := by
  unfold evS
  split
  · split <;> rfl
  · rw [cond_bind]; rfl
  · exact buildSliceK_nat _ _ _ _ _
  · exact makeSliceK_nat _ _ _ _ _
  · exact storeK_nat _ _ _ _
  · split
    · rw [cond_bind, appendK_nat]; rfl
    · rfl
  · rfl
abbrev two (v : V) (h : List O) : Option (V × List O) := some (v, h)
theorem evW_nat (o : Op) (K : V → List O → Option ρ) : evW C o t h K = (evW C o t h two).bind fun p => K p.1 p.2 := by
  unfold evW
  rw [cond_bind]
  congr 1
  · rw [evS_nat o h.length (fun v ss mk => K v (setAll ss h ++ mk.toList)), evS_nat o h.length (fun v ss mk => two v (setAll ss h ++ mk.toList))]
    cases evS C o t h h.length trip <;> rfl
  · split
    · unfold callWK
      split
      · split
        · rfl
        · rename_i p _
          cases p.r <;> rfl
      · rfl
    · rw [evR_nat o (fun v => K v h), evR_nat o (fun v => two v h)]
      cases evR C o t h some <;> rfl
theorem evM_nat (o : Op) (md : Md) (K : V → List O → Option ρ) : evM C o t h md K = (evM C o t h md two).bind fun p => K p.1 p.2 := by
  cases md with
  | pure => simp only [evM]; rw [evR_nat o (fun v => K v h), evR_nat o (fun v => two v h)]; cases evR C o t [] some <;> rfl
  | rd ids => simp only [evM]; rw [evR_nat o (fun v => K v h), evR_nat o (fun v => two v h)]; cases evR C o t (onlyF (memN ids) 0 h) some <;> rfl
  | wr ids =>
    simp only [evM, cond_bind, Option.bind_none]
    congr 1
    refine (evS_nat o 0 _).trans (Eq.trans ?_ (congrArg (fun z => Option.bind z fun p : V × List O => K p.1 p.2) (evS_nat o 0 _).symm))
    cases evS C o t (onlyF (memN ids) 0 h) 0 trip with
    | none => rfl
    | some p =>
      obtain ⟨v, ss, mk⟩ := p
      cases mk <;> simp only [Option.bind_some, cond_bind, Option.bind_none]
  | new id =>
    simp only [evM, cond_bind, Option.bind_none]
    congr 1
    refine (evS_nat o id _).trans (Eq.trans ?_ (congrArg (fun z => Option.bind z fun p : V × List O => K p.1 p.2) (evS_nat o id _).symm))
    cases evS C o t [] id trip with
    | none => rfl
    | some p =>
      obtain ⟨v, ss, mk⟩ := p
      cases ss <;> cases mk <;> simp only [Option.bind_some, Option.bind_none]
      split <;> simp only [cond_bind, Option.bind_some, Option.bind_none]
  | full => exact evW_nat o K
end
end Go.Abs
