import Derived.Test.YtgnnhemoocfclaaDoorAbsSort
namespace Go.Abs
def lexc : List Int -> List Int -> Int
 | [],[]=>0
 | [],_ :: _=>-1
 | _ :: _,[]=>1
 | x :: xs,y :: ys=>if x < y then -1 else if y < x then 1 else lexc xs ys
theorem qkw : ∀ a b,lexc b a = - lexc a b
 | [],[]=>rfl
 | [],_ :: _=>rfl
 | _ :: _,[]=>rfl
 | x :: xs,y :: ys=>by
  simp only [lexc]
  by_cases h1 : x < y
  ·have h2 : ¬ y < x:=by omega
   simp [h1,h2]
  ·by_cases h2 : y < x
   ·simp [h1,h2]
   ·simp [h1,h2,qkw xs ys]
theorem qnr : ∀ {a b},lexc a b = 0 -> a = b
 | [],[],_=>rfl
 | [],_ :: _,h=>by cases h
 | _ :: _,[],h=>by cases h
 | x :: xs,y :: ys,h=>by
  simp only [lexc] at h
  by_cases h1 : x < y
  ·rw [if_pos h1] at h; cases h
  ·by_cases h2 : y < x
   ·rw [if_neg h1,if_pos h2] at h; cases h
   ·rw [if_neg h1,if_neg h2] at h
    rw [qnr h,show x = y by omega]
theorem qnq (a : List Int) : lexc a a = 0:=by have:=qkw a a; omega
theorem qpq : ∀ {a b c},lexc a b < 0 -> lexc b c < 0 -> lexc a c < 0
 | [],[],_,h,_=>by cases h
 | [],_ :: _,[],_,h=>by simp only [lexc] at h; omega
 | [],_ :: _,_ :: _,_,_=>by simp [lexc]
 | _ :: _,[],_,h,_=>by simp only [lexc] at h; omega
 | _ :: _,_ :: _,[],_,h=>by simp only [lexc] at h; omega
 | x :: xs,y :: ys,z :: zs,h1,h2=>by
  simp only [lexc] at *
  by_cases a1 : x < y
  ·by_cases b1 : y < z
   ·rw [if_pos (by omega)]; omega
   ·by_cases b2 : z < y
    ·rw [if_neg b1,if_pos b2] at h2; omega
    ·rw [if_pos (by omega)]; omega
  ·by_cases a2 : y < x
   ·rw [if_neg a1,if_pos a2] at h1; omega
   ·rw [if_neg a1,if_neg a2] at h1
    by_cases b1 : y < z
    ·rw [if_pos (by omega)]; omega
    ·by_cases b2 : z < y
     ·rw [if_neg b1,if_pos b2] at h2; omega
     ·rw [if_neg b1,if_neg b2] at h2
      rw [if_neg (by omega),if_neg (by omega)]
      exact qpq h1 h2
theorem qzO {a b : List Int} (h1 : ¬ lexc a b < 0) (h2 : ¬ lexc b a < 0) : a = b:=qnr (by have:=qkw a b; omega)
def undr : List Int -> List Int -> Bool
 | [],_=>true
 | x :: xs,y :: ys=>decide (x <= y) && undr xs ys
 | _ :: _,[]=>false
end Go.Abs
