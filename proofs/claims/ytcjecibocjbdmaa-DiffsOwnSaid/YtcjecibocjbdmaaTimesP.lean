import Derived.Test.YtcjecibocjbdmaaAbsSort
namespace Go.Abs
def lexc:List Int->List Int->Int
 | [],[]=>0
 | [],_ :: _=>-1
 | _ :: _,[]=>1
 | x :: xs,y :: ys=>if x<y then -1 else if y<x then 1 else lexc xs ys
theorem lexc_neg:∀ a b,lexc b a = - lexc a b
 | [],[]=>rfl
 | [],_ :: _=>rfl
 | _ :: _,[]=>rfl
 | x :: xs,y :: ys=>by
  simp only [lexc]
  by_cases h1:x<y
  ·have h2:¬ y<x:=by omega
   simp [h1,h2]
  ·by_cases h2:y<x
   ·simp [h1,h2]
   ·simp [h1,h2,lexc_neg xs ys]
theorem lexc_eq:∀ {a b},lexc a b=0->a=b
 | [],[],_=>rfl
 | [],_ :: _,h=>by cases h
 | _ :: _,[],h=>by cases h
 | x :: xs,y :: ys,h=>by
  simp only [lexc] at h
  by_cases h1:x<y
  ·rw [zG h1] at h;cases h
  ·by_cases h2:y<x
   ·rw [zJ h1,zG h2] at h;cases h
   ·rw [zJ h1,zJ h2] at h
    rw [lexc_eq h,show x=y by omega]
theorem lexc_self(a:List Int):lexc a a=0:=by have:=lexc_neg a a;omega
theorem lexc_trans:∀ {a b c},lexc a b<0->lexc b c<0->lexc a c<0
 | [],[],_,h,_=>by cases h
 | [],_ :: _,[],_,h=>by simp only [lexc] at h;omega
 | [],_ :: _,_ :: _,_,_=>by simp [lexc]
 | _ :: _,[],_,h,_=>by simp only [lexc] at h;omega
 | _ :: _,_ :: _,[],_,h=>by simp only [lexc] at h;omega
 | x :: xs,y :: ys,z :: zs,h1,h2=>by
  simp only [lexc] at *
  by_cases a1:x<y
  ·by_cases b1:y<z
   ·rw [zG (by omega)];omega
   ·by_cases b2:z<y
    ·rw [zJ b1,zG b2] at h2;omega
    ·rw [zG (by omega)];omega
  ·by_cases a2:y<x
   ·rw [zJ a1,zG a2] at h1;omega
   ·rw [zJ a1,zJ a2] at h1
    by_cases b1:y<z
    ·rw [zG (by omega)];omega
    ·by_cases b2:z<y
     ·rw [zJ b1,zG b2] at h2;omega
     ·rw [zJ b1,zJ b2] at h2
      rw [zJ (by omega),zJ (by omega)]
      exact lexc_trans h1 h2
theorem lexc_ge{a b:List Int}(h1:¬ lexc a b<0)(h2:¬ lexc b a<0):a=b:=lexc_eq (by have:=lexc_neg a b;omega)
end Go.Abs
