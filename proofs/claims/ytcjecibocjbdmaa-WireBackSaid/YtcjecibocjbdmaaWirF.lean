import Derived.Test.YtcjecibocjbdmaaWirD
namespace Go.Proofs.Ytcjecibocjbdmaa
open Go.Abs Go.Bag Go.His Go.Wir
def zigN(n:Int):Nat:=(if 0<=n then 2*n else -2*n - 1).toNat
def R64(n:Int):Prop:=-9223372036854775808<=n/\n<=9223372036854775807
theorem zig_lt{n:Int}(h:R64 n):zigN n<18446744073709551616:=by
 unfold zigN;unfold R64 at h;split <;> omega
def gN:Nat->Nat->List Int
 | 0,_=>[]
 | f+1,y=>if y<128 then [(y:Int)] else ((y % 128+128:Nat):Int) :: gN f (y / 128)
theorem bv64{a:Nat}(ha:a<18446744073709551616):(BitVec.ofInt 64 (a:Int)).toNat=a:=by
 rw [BitVec.ofInt_natCast,BitVec.toNat_ofNat];exact zAg (by omega)
theorem u64w{n:Int}:IntKind.u64.wrap n=n % 18446744073709551616:=by
 unfold IntKind.wrap
 simp [IntKind.signed,IntKind.bits]
theorem u64id{a:Nat}(ha:a<18446744073709551616):IntKind.u64.wrap (a:Int)=(a:Int):=by rw [u64w];omega
theorem ixor_ones{a:Nat}(ha:a<18446744073709551616):ixor .u64 (a:Int) 18446744073709551615=18446744073709551615 - (a:Int):=by
 have h2:BitVec.ofInt 64 18446744073709551615=BitVec.allOnes 64:=by decide
 show IntKind.u64.wrap ((BitVec.ofInt 64 (a:Int) ^^^ BitVec.ofInt 64 18446744073709551615).toNat:Int)=_
 rw [h2,BitVec.xor_allOnes,BitVec.toNat_not,bv64 ha,u64w]
 omega
theorem ixor_zero{a:Nat}(ha:a<18446744073709551616):ixor .u64 (a:Int) 0=(a:Int):=by
 show IntKind.u64.wrap ((BitVec.ofInt 64 (a:Int) ^^^ BitVec.ofInt 64 0).toNat:Int)=_
 rw [show BitVec.ofInt 64 0=0#64 by decide,BitVec.xor_zero,bv64 ha,u64id ha]
theorem ixori_ones{a:Nat}(ha:a<9223372036854775808):ixor .i64 (a:Int) (-1) = -(a:Int) - 1:=by
 have h2:BitVec.ofInt 64 (-1)=BitVec.allOnes 64:=by decide
 show IntKind.i64.wrap ((BitVec.ofInt 64 (a:Int) ^^^ BitVec.ofInt 64 (-1)).toNat:Int)=_
 rw [h2,BitVec.xor_allOnes,BitVec.toNat_not,bv64 (by omega),IntKind.wrap_i64]
 omega
theorem ixori_zero{a:Nat}(ha:a<9223372036854775808):ixor .i64 (a:Int) 0=(a:Int):=by
 show IntKind.i64.wrap ((BitVec.ofInt 64 (a:Int) ^^^ BitVec.ofInt 64 0).toNat:Int)=_
 rw [show BitVec.ofInt 64 0=0#64 by decide,BitVec.xor_zero,bv64 (by omega),w64 (by omega) (by omega)]
theorem zig_bits{n:Int}(h:R64 n):ixor .u64 (ishl .u64 (IntKind.u64.wrap n) 1) (IntKind.u64.wrap (ishr .i64 n 63))=(zigN n:Int):=by
 have e1:ishl .u64 (IntKind.u64.wrap n) 1=n % 18446744073709551616*2 % 18446744073709551616:=by
  unfold ishl
  rw [show (2:Int) ^ (min (1:Int).toNat IntKind.u64.bits)=2 by decide,u64w,u64w]
 have e2:ishr .i64 n 63=n / 9223372036854775808:=by
  unfold ishr
  rw [show (2:Int) ^ (min (63:Int).toNat IntKind.i64.bits)=9223372036854775808 by decide,zAU _ (by decide)]
 rw [e1,e2,u64w]
 unfold R64 at h
 unfold zigN
 by_cases hn:0<=n
 ·rw [zH hn,show n / 9223372036854775808 % 18446744073709551616=0 by omega,show n % 18446744073709551616*2 % 18446744073709551616=((2*n).toNat:Int) by omega,ixor_zero (by omega)]
 ·rw [zK hn,show n / 9223372036854775808 % 18446744073709551616=18446744073709551615 by omega,show n % 18446744073709551616*2 % 18446744073709551616=((2*n+18446744073709551616).toNat:Int) by omega,ixor_ones (by omega)]
  omega
theorem or128:∀ a:Nat,a<256->ior .u8 (a:Int) 128=((a % 128+128:Nat):Int):=by decide +kernel
theorem and127:∀ a:Nat,a<256->iand .u8 (a:Int) 127=((a % 128:Nat):Int):=by decide +kernel
theorem Num_gN{N:Nat}(hN:1000<=N){n:Int}(h:R64 n):D_wire_Num N (n,())=some (gN 10 (zigN n)):=by
 simp only [D_wire_Num,wire_Num_3,show decide ((1:Int)<0)=false from rfl,show decide ((63:Int)<0)=false from rfl,cond_false,joinD,loopE,zig_bits h]
 have key:∀ (k v:Nat) (acc:List Int) (M:Nat),v<128 ^ k->k<M->acc.length+k<=1000->loopD (fun (s:Int×List Int) kn=>wire_Num_2 N (fun s=>wire_Num_1 N s.1 s.2) s.1 s.2 (backE () kn)) M ((v:Int),acc)=some (acc++gN k v)\/(k=0):=by
  intro k
  induction k with
  | zero=>intro _ _ _ _ _ _;exact .inr rfl
  | succ k ih=>
   intro v acc M hv hM ha
   left
   obtain⟨M,rfl⟩:∃ m,M=m+1:=⟨M - 1,by omega⟩
   rw [loopD_s]
   simp only [wire_Num_2,wire_Num_1,gN]
   by_cases q:v<128
   ·rw [d_false (show ¬ (v:Int)>=128 by omega),cond_false,zH q,wrap_byt (by omega) (by omega),d_true (show (acc.length+([(v:Int)]:List Int).length)*1<=140737488355328 by simp only [zt];omega),show Nat.ble 1 1=true from rfl,Bool.and_self,cond_true]
   ·have hs:ishr .u64 (v:Int) 7=((v / 128:Nat):Int):=by
     unfold ishr
     rw [show (2:Int) ^ (min (7:Int).toNat IntKind.u64.bits)=128 by decide,zAU _ (by decide)]
     omega
    have hb:ior .u8 (IntKind.u8.wrap (v:Int)) 128=((v % 128+128:Nat):Int):=by
     rw [wrap_mod,show (v:Int) % 256=((v % 256:Nat):Int) by omega,or128 _ (by omega)]
     omega
    rw [d_true (show (v:Int)>=128 by omega),cond_true,zK q,hb,hs,d_true (show (acc.length+([((v % 128+128:Nat):Int)]:List Int).length)*1<=140737488355328 by simp only [zt];omega),show Nat.ble 1 1=true from rfl,Bool.and_self,cond_true,show decide ((7:Int)<0)=false from rfl,cond_false,backE_eq]
    have hk:k≠0:=fun h=>by subst h;simp at hv;omega
    have hv2:v / 128<128 ^ k:=by
     rw [Nat.div_lt_iff_lt_mul (by omega)]
     rw [Nat.pow_succ] at hv
     exact hv
    rcases ih (v / 128) (acc ++ [((v % 128+128:Nat):Int)]) M hv2 (by omega) (by simp;omega) with h | h
    ·refine Eq.trans h ?_
     rw [zN,zAs]
    ·exact absurd h hk
 have hz:=zig_lt h
 rcases key 10 (zigN n) [] N (by omega) (by omega) (by simp) with h | h
 ·exact h
 ·omega
theorem numB_gN{N:Nat}(hN:1000<=N){n:Int}(h:R64 n):numB N n=gN 10 (zigN n):=by
 unfold numB
 rw [Num_gN hN h];rfl
theorem unz_zig{n:Int}(h:R64 n):unz (zigN n:Int)=n:=by
 have hz:=zig_lt h
 have e1:ishr .u64 (zigN n:Int) 1=((zigN n / 2:Nat):Int):=by
  unfold ishr
  rw [show (2:Int) ^ (min (1:Int).toNat IntKind.u64.bits)=2 by decide,zAU _ (by decide)]
  omega
 have e2:iand .u64 (zigN n:Int) 1=((zigN n % 2:Nat):Int):=by
  show IntKind.u64.wrap ((BitVec.ofInt 64 (zigN n:Int) &&& BitVec.ofInt 64 1).toNat:Int)=_
  rw [BitVec.toNat_and,bv64 hz,show (BitVec.ofInt 64 1).toNat=1 by decide,Nat.and_one_is_mod,u64id (by omega)]
 unfold unz
 rw [e1,e2,w64 (n:=((zigN n / 2:Nat):Int)) (by omega) (by omega),w64 (n:=((zigN n % 2:Nat):Int)) (by omega) (by omega),w64 (by omega) (by omega)]
 unfold R64 at h
 rcases Nat.mod_two_eq_zero_or_one (zigN n) with hm | hm
 ·rw [hm,show (0:Int) - ((0:Nat):Int)=0 by omega,ixori_zero (by omega)]
  unfold zigN at hm ⊢
  split at hm
  ·rw [zH (by omega)];omega
  ·omega
 ·rw [hm,show (0:Int) - ((1:Nat):Int) = -1 by omega,ixori_ones (by omega)]
  unfold zigN at hm ⊢
  split at hm
  ·omega
  ·rw [zK (by omega)];omega
theorem ior64{x d s:Nat}(hx:x<2 ^ s)(hd:d*2 ^ s+x<18446744073709551616):ior .u64 (x:Int) ((d*2 ^ s:Nat):Int)=((d*2 ^ s+x:Nat):Int):=by
 show IntKind.u64.wrap ((BitVec.ofInt 64 (x:Int) ||| BitVec.ofInt 64 ((d*2 ^ s:Nat):Int)).toNat:Int)=_
 rw [BitVec.toNat_or,bv64 (by omega),bv64 (by omega),Nat.or_comm]
 have:=zBz (a:=d) (b:=x) (i:=s) hx
 rw [Nat.shiftLeft_eq] at this
 rw [<- this,u64id hd]
theorem nxt7_eq{x i c:Nat}(hi:i<=9)(hc:c<256)(hx:x<2 ^ (7*i))(hd:c % 128*2 ^ (7*i)+x<18446744073709551616):nxt7 (x:Int) i (c:Int)=((c % 128*2 ^ (7*i)+x:Nat):Int):=by
 unfold nxt7
 rw [and127 c hc,u64id (by omega)]
 have e:ishl .u64 ((c % 128:Nat):Int) (7*(i:Int))=((c % 128*2 ^ (7*i):Nat):Int):=by
  unfold ishl
  have:min (7*(i:Int)).toNat IntKind.u64.bits=7*i:=by show min _ 64=_;omega
  rw [this,show ((c % 128:Nat):Int)*2 ^ (7*i)=((c % 128*2 ^ (7*i):Nat):Int) by push_cast;rfl,u64id (by omega)]
 rw [e,ior64 hx hd]
theorem rd_groups{z:Nat}(hz:z<18446744073709551616)(r:List Int):∀ (k i:Nat) (pre:List Int),i+(k+1)=10->pre.length=i->z / 2 ^ (7*i)<128 ^ (k+1) ->
  rdN (pre++(gN (k+1) (z / 2 ^ (7*i))++r)) (k+1) i ((z % 2 ^ (7*i):Nat):Int)=some (unz (z:Int),r):=by
 intro k
 induction k with
 | zero=>
  intro i pre hi hp hy
  obtain rfl:i=9:=by omega
  have hq:z / 2 ^ (7*9)<128:=by simpa using hy
  have hn:nth 0 (pre++([((z / 2 ^ (7*9):Nat):Int)]++r)) 9=((z / 2 ^ (7*9):Nat):Int):=by
   rw [nth_lt (by simp;omega),zBU (by omega)]
   simp [hp]
  have hdm:=Nat.div_add_mod z (2 ^ (7*9))
  have hml:=zBN z (show 0<2 ^ (7*9) by decide)
  simp only [gN,zH hq,rdN]
  rw [zH (by simp;omega),hn,zH (by omega),nxt7_eq (by omega) (by omega) hml (by rw [zAg hq,zBg];omega),zAg hq,zBg,hdm]
  congr 2
  rw [<- zN,List.drop_left' (by simp [hp])]
 | succ k ih=>
  intro i pre hi hp hy
  have hpos:0<2 ^ (7*i):=Nat.two_pow_pos _
  have hdm:=Nat.div_add_mod z (2 ^ (7*i))
  have hml:=zBN z hpos
  have hle:z / 2 ^ (7*i) % 128*2 ^ (7*i)<=2 ^ (7*i)*(z / 2 ^ (7*i)):=by
   rw [zBg];exact zAn _ (Nat.mod_le _ _)
  by_cases hq:z / 2 ^ (7*i)<128
  ·have hn:nth 0 (pre++([((z / 2 ^ (7*i):Nat):Int)]++r)) i=((z / 2 ^ (7*i):Nat):Int):=by
    rw [nth_lt (by simp;omega),zBU (by omega)]
    simp [hp]
   rw [gN,zH hq,rdN,zH (by simp;omega),hn,zH (by omega),nxt7_eq (by omega) (by omega) hml (by omega),zAg hq,zBg,hdm]
   congr 2
   rw [<- zN,List.drop_left' (by simp [hp])]
  ·have hn:nth 0 (pre++((((z / 2 ^ (7*i) % 128+128:Nat):Int) :: gN (k+1) (z / 2 ^ (7*i) / 128))++r)) i=((z / 2 ^ (7*i) % 128+128:Nat):Int):=by
    rw [nth_lt (by simp;omega),zBU (by omega)]
    simp [hp]
   have e7:2 ^ (7*(i+1))=2 ^ (7*i)*128:=by rw [show 7*(i+1)=7*i+7 by omega,Nat.pow_add]
   have ediv:z / 2 ^ (7*i) / 128=z / 2 ^ (7*(i+1)):=by rw [Nat.div_div_eq_div_mul,e7]
   have emod:z % 2 ^ (7*(i+1))=z / 2 ^ (7*i) % 128*2 ^ (7*i)+z % 2 ^ (7*i):=by
    rw [e7,Nat.mod_mul,zBg (2 ^ (7*i)) (z / 2 ^ (7*i) % 128),zBE]
   have e128:(z / 2 ^ (7*i) % 128+128) % 128=z / 2 ^ (7*i) % 128:=by omega
   rw [gN,zK hq,rdN,zH (by simp;omega),hn,zK (by omega),nxt7_eq (by omega) (by omega) hml (by rw [e128];omega),e128,<- emod,ediv]
   have:=ih (i+1) (pre ++ [((z / 2 ^ (7*i) % 128+128:Nat):Int)]) (by omega) (by simp [hp]) (by
    rw [<- ediv,Nat.div_lt_iff_lt_mul (by omega)]
    rw [Nat.pow_succ] at hy
    exact hy)
   rw [zN,zAs] at this
   exact this
theorem num_back{N:Nat}(hN:1000<=N){n:Int}(h:R64 n)(r:List Int):numD (numB N n++r)=some (n,r):=by
 have hz:=zig_lt h
 have:=rd_groups hz r 9 0 [] rfl rfl (by simp;omega)
 simp only [Nat.mul_zero,Nat.pow_zero,Nat.div_one,Nat.mod_one,List.nil_append,unz_zig h] at this
 rw [numB_gN hN h]
 exact this
theorem size_back{N:Nat}(hN:1000<=N){n most:Int}(h0:0<=n)(h1:n<=most)(hm:most<=9223372036854775807)(r:List Int):sizeD most (numB N n++r)=some (n,r):=by
 unfold sizeD
 rw [num_back hN ⟨by omega,by omega⟩,Option.bind_some,zK (by simp only;omega)]
theorem many_back{α:Type}{f:List Int->Option (α×List Int)}{e:α->List Int}:∀ (l:List α),(∀ a∈l,∀ r,f (e a++r)=some (a,r))->∀ r,many f l.length (l.flatMap e++r)=some (l,r)
 | [],_,r=>rfl
 | a :: l,h,r=>by
  rw [List.length_cons,many,List.flatMap_cons,zN,h a zAN,Option.bind_some,many_back l (fun b hb=>h b (zc _ hb)),Option.bind_some]
structure Fine (h:List Df):Prop where
 ok:HOkk h
 num:∀ d∈h,(∀ x∈d.1,0<=x/\x<=1048576)/\∀ r∈d.2,R64 r.1/\R64 r.2.1/\R64 r.2.2
theorem row_back{N:Nat}(hN:1000<=N){x:Row}(h:R64 x.1/\R64 x.2.1/\R64 x.2.2)(r:List Int):rowD (rowB N x++r)=some (x,r):=by
 unfold rowD rowB
 simp only [List.flatMap_cons,List.flatMap_nil,List.append_nil,zN]
 rw [num_back hN h.1,Option.bind_some,num_back hN h.2.1,Option.bind_some,num_back hN h.2.2,Option.bind_some]
theorem hist_back{N:Nat}(hN:1000<=N){h:List Df}(F:Fine h)(r:List Int):histD (hisB N h++r)=some (h,r):=by
 have h64:=F.ok.len
 unfold histD hisB
 rw [zN,size_back hN (by omega) (by omega) (by omega),Option.bind_some]
 simp only [Int.toNat_natCast]
 refine many_back h (fun d hd r=>?_) r
 have ht4:=tok4 (F.ok.tok hd)
 have hr8:=F.ok.row hd
 obtain⟨n1,n2⟩:=F.num d hd
 unfold diffD difB timeD
 simp only [zN]
 rw [size_back hN (by omega) (by omega) (by omega),Option.bind_some]
 simp only [Int.toNat_natCast]
 rw [many_back d.1 (fun x hx r=>size_back hN (n1 x hx).1 (n1 x hx).2 (by omega) r),Option.bind_some]
 unfold rowsD
 rw [size_back hN (by omega) (by omega) (by omega),Option.bind_some]
 simp only [Int.toNat_natCast]
 rw [many_back d.2 (fun x hx r=>row_back hN (n2 x hx) r),Option.bind_some]
end Go.Proofs.Ytcjecibocjbdmaa
