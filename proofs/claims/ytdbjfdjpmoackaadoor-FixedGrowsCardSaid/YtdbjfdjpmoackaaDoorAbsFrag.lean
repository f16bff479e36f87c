/- Parts of a body: what they come to, whatever follows. -/
import Derived.Test.YtdbjfdjpmoackaaDoorAbsEnt
namespace Go.Abs
section
variable {R : Type}
/-- What follows a part: behind its end, behind an exit, at a return. -/
def canonK (fx : List Nat) (kn : Slots → List O → Option R) (ks : List Nat) (base : Nat) (ke : Nat → Slots → List O → Option R) (kr : Slots → List O → Option R) : Ctl → Slots → List O → Option R := fun c t h =>
  match c with
  | .normal => kn (cvT fx ks base t h) (cvH fx base h)
  | .exit i => ke i t h
  | .ret => kr t h
theorem canonK_eq {fx : List Nat} {ks : List Nat} {base : Nat} {K : Ctl → Slots → List O → Option R} {kn : Slots → List O → Option R} (hn : ∀ t h, K .normal t h = kn (cvT fx ks base t h) (cvH fx base h)) :
    K = canonK fx kn ks base (fun i t h => K (.exit i) t h) (fun t h => K .ret t h) := by
  funext c t h
  cases c with
  | normal => exact hn t h
  | _ => rfl
def loopD {S : Type} (f : S → (S → Option R) → Option R) : Nat → S → Option R
  | 0, _ => none
  | n + 1, s => f s (loopD f n)
theorem loopN_sim {S : Type} {fx : List Nat} {f : Slots → List O → (Ctl → Slots → List O → Option R) → Option R} {ks : List Nat} {base : Nat} {K : Ctl → Slots → List O → Option R} (emT : S → Slots) (emH : S → List O)
    {g : S → (S → Option R) → Option R} (hstep : ∀ (s : S) (kn : Slots → List O → Option R), f (emT s) (emH s) (canonK fx kn ks base (fun i t h => K (.exit i) t h) (fun t h => K .ret t h)) = g s fun s' => kn (emT s') (emH s')) :
    ∀ (n : Nat) (s : S), loopN fx f ks base n (emT s) (emH s) K = loopD g n s
  | 0, _ => rfl
  | n + 1, s => by
    have ih := loopN_sim emT emH hstep n
    have hk : (fun c t h => match c with | .normal => loopN fx f ks base n (cvT fx ks base t h) (cvH fx base h) K | c => K c t h) =
        canonK fx (fun t h => loopN fx f ks base n t h K) ks base (fun i t h => K (.exit i) t h) (fun t h => K .ret t h) := by
      funext c t h
      cases c <;> rfl
    show f (emT s) (emH s) (fun c t h => match c with | .normal => loopN fx f ks base n (cvT fx ks base t h) (cvH fx base h) K | c => K c t h) = g s (loopD g n)
    rw [hk, hstep]
    congr 1
    funext s'
    exact ih s'
def forD {α S : Type} (f : α → S → (S → Option R) → Option R) (k : S → Option R) : List α → S → Option R
  | [], s => k s
  | x :: xs, s => f x s (forD f k xs)
def canonF (fx : List Nat) (kn : List O → Option R) (base : Nat) (K : Ctl → List O → Option R) : Ctl → List O → Option R := fun c h =>
  match c with
  | .normal => kn (cvH fx base h)
  | c => K c h
theorem forN_sim {α S : Type} {fx : List Nat} {f : α → List O → (Ctl → List O → Option R) → Option R} {base : Nat} {K : Ctl → List O → Option R} (emH : S → List O) {g : α → S → (S → Option R) → Option R} {k : S → Option R}
    (hstep : ∀ (x : α) (s : S) (kn : List O → Option R), f x (emH s) (canonF fx kn base K) = g x s fun s' => kn (emH s')) (hend : ∀ s, K .normal (emH s) = k s) :
    ∀ (xs : List α) (s : S), forN fx f base xs (emH s) K = forD g k xs s
  | [], s => hend s
  | x :: xs, s => by
    have ih := forN_sim emH hstep hend xs
    have hk : (fun c h => match c with | .normal => forN fx f base xs (cvH fx base h) K | c => K c h) = canonF fx (fun h => forN fx f base xs h K) base K := by
      funext c h
      cases c <;> rfl
    show f x (emH s) (fun c h => match c with | .normal => forN fx f base xs (cvH fx base h) K | c => K c h) = g x s (forD g k xs)
    rw [hk, hstep]
    congr 1
    funext s'
    exact ih s'
end
section
variable {R : Type} {C : Ctx} {t : Slots} {h : List O} {K : Ctl → Slots → List O → Option R}
/-- What follows a part that a function's end follows. -/
def canonR (ke : Nat → Slots → List O → Option R) (kr : Ctl → Slots → List O → Option R) : Ctl → Slots → List O → Option R := fun c t h =>
  match c with
  | .normal => kr .normal t h
  | .exit i => ke i t h
  | .ret => kr .ret t h
theorem canonR_fin {rs : List ResultVar} {fin : V → List O → Option R} : finK C rs fin = canonR (fun _ _ _ => none) (finK C rs fin) := by
  funext c t h
  cases c <;> rfl
theorem exec_keep (c : Code) {ks : List Nat} {base : Nat} (hfl : Nat.ble C.fl base = true) {a : Ann} : exec C c (.keep ks base a) t h K = exec C c a (cvT C.fx ks base t h) (cvH C.fx base h) K := by
  cases c <;> simp only [exec, prep, hfl, cond_true]
theorem seq_frag {c x y : Code} (hc : c = .seq x y) {a1 ay : Ann} {ks : List Nat} {base : Nat} (hfl : Nat.ble C.fl base = true) :
    exec C c (.two a1 (.keep ks base ay)) t h K = exec C x a1 t h (canonK C.fx (fun t h => exec C y ay t h K) ks base (fun i t h => K (.exit i) t h) (fun t h => K .ret t h)) := by
  subst hc
  have : (fun c t h => match c with | .normal => exec C y (.keep ks base ay) t h K | c => K c t h) = canonK C.fx (fun t h => exec C y ay t h K) ks base (fun i t h => K (.exit i) t h) (fun t h => K .ret t h) := by
    funext c t h
    cases c with
    | normal => exact exec_keep y hfl
    | _ => rfl
  rw [← this]
  rfl
theorem cond_frag {c x y : Code} {o : Operand} (hc : c = .cond o x y) {a1 a2 : Ann} {b : Bool} (hb : ev (look t) o = .bool b) : exec C c (.two a1 a2) t h K = bif b then exec C x a1 t h K else exec C y a2 t h K := by
  subst hc
  simp only [exec, prep, hb, Ann.fst, Ann.snd]
theorem block_canon {c x : Code} {id : Nat} (hc : c = .block id x) {a : Ann} {fx : List Nat} {kn : Slots → List O → Option R} {ks : List Nat} {base : Nat} {ke : Nat → Slots → List O → Option R} {kr : Slots → List O → Option R} :
    exec C c (.one a) t h (canonK fx kn ks base ke kr) = exec C x a t h (canonK fx kn ks base (fun i t h => bif Nat.beq i id then kn (cvT fx ks base t h) (cvH fx base h) else ke i t h) kr) := by
  subst hc
  have : (fun c t h => match c with | .exit i => bif Nat.beq i id then canonK fx kn ks base ke kr .normal t h else canonK fx kn ks base ke kr (.exit i) t h | c => canonK fx kn ks base ke kr c t h) =
      canonK fx kn ks base (fun i t h => bif Nat.beq i id then kn (cvT fx ks base t h) (cvH fx base h) else ke i t h) kr := by
    funext c t h
    cases c <;> rfl
  rw [← this]
  rfl
theorem block_canonR {c x : Code} {id : Nat} (hc : c = .block id x) {a : Ann} {ke : Nat → Slots → List O → Option R} {kr : Ctl → Slots → List O → Option R} :
    exec C c (.one a) t h (canonR ke kr) = exec C x a t h (canonR (fun i t h => bif Nat.beq i id then kr .normal t h else ke i t h) kr) := by
  subst hc
  have : (fun c t h => match c with | .exit i => bif Nat.beq i id then canonR ke kr .normal t h else canonR ke kr (.exit i) t h | c => canonR ke kr c t h) =
      canonR (fun i t h => bif Nat.beq i id then kr .normal t h else ke i t h) kr := by
    funext c t h
    cases c <;> rfl
  rw [← this]
  rfl
theorem scope_frag {c x : Code} (hc : c = .scope x) {a : Ann} : exec C c (.one a) t h K = exec C x a t h K := by
  subst hc; rfl
theorem loop_frag {c b : Code} (hc : c = .loop b) {ks : List Nat} {base : Nat} {a : Ann} (hfl : Nat.ble C.fl base = true) {t' : Slots} {h' : List O} (ht : cvT C.fx ks base t h = t') (hh : cvH C.fx base h = h') :
    exec C c (.loop ks base a) t h K = loopN C.fx (exec C b a) ks base C.N t' h' K := by
  subst hc; subst ht; subst hh
  simp only [exec, prep, hfl, cond_true]
end
def cAt : Code → List Nat → Code
  | c, [] => c
  | .seq a _, 0 :: p => cAt a p
  | .seq _ b, _ :: p => cAt b p
  | .cond _ a _, 0 :: p => cAt a p
  | .cond _ _ b, _ :: p => cAt b p
  | .block _ b, _ :: p => cAt b p
  | .loop b, _ :: p => cAt b p
  | .scope b, _ :: p => cAt b p
  | .rangeFunc _ _ a _, 0 :: p => cAt a p
  | .rangeFunc _ _ _ b, _ :: p => cAt b p
  | c, _ => c
end Go.Abs
