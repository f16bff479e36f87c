import Derived.Test.YtcjecibocjbdmaaWirY
import Derived.Laws.BytesString
import Derived.Laws.BytesArg
import Derived.Lib.Bytes
namespace Go.Proofs.Ytcjecibocjbdmaa
open Go.Abs
abbrev Ks_eqB:List Kd:=[.dat (.sl (.int .u8)),.dat (.sl (.int .u8))]
abbrev Rk_eqB:List Kd:=[.dat .bool]
abbrev Rt_eqB:Type:=Dens Rk_eqB
def D_eqB(_N:Nat)(x:Dens Ks_eqB):Option Rt_eqB:=some ((strOfNums x.1).toList==(strOfNums x.2.1).toList,())
theorem conv_bytes{w:World}{M:Nat->Prop}{h:List O}{σ:Nat->Abs.Loc}{xs:List Int}{v:Value}(hv:RV w M h σ (.sl (.int .u8) xs) v):(convert 61 9 v).run Try.prog w=.ok (.string (strOfNums xs)) w:=by
 have hs:Try.prog.underlying 61=some (.slice 5):=by kernel_rfl
 have he:Try.prog.underlying 5=some (.int .u8):=by kernel_rfl
 have hd:Try.prog.underlying 9=some .string:=by kernel_rfl
 simp only [RV,RC] at hv
 obtain⟨a,cap,h1,-,-,h2⟩:=hv
 simp only [zy,and_true] at h1
 subst h1
 cases xs with
 | nil=>
  show (convert 61 9 (.slice a 0 cap)).run Try.prog w=.ok (.string (strOfNums [])) w
  rw [run_convert_bytes_string w _ _ _ _ 0 cap hs he hd]
  cases a <;> simp [Conv.bytesToString,loadCells]
  all_goals rfl
 | cons x xs=>
  obtain⟨b,q,rfl,-,-,hr⟩:=h2 (by simp)
  refine run_convert_bytes_arg (P:=Try.prog) w _ _ hs he b q _ cap (x :: xs) rfl (fun i hi=>?_) _ hd
  obtain⟨cs,hc,hx⟩:=hr i _ (zT hi)
  have hx:cs = [.int .u8 (x :: xs)[i]]:=hx
  subst hx
  have:=hc 0 _ rfl
  rw [zJ,zT hi]
  simpa [Sh.n] using this
theorem sp_eqB(N:Nat):SpecD Try.prog [] 44 Ks_eqB Rk_eqB (D_eqB N):=by
 intro M w x y vs hM hgw hv hD
 obtain⟨v1,_,rfl,h1,v2,_,rfl,h2,h3⟩:=hv
 have h3:_ = []:=h3
 subst h3
 cases hD
 have c1:=conv_bytes h1
 have c2:=conv_bytes h2
 refine Calls.mono (R:=fun e w'=>e=.returned (.bool ((strOfNums x.1).toList==(strOfNums x.2.1).toList))/\w'=w) ?_ ?_
 ·go_enter Try.func44,Try.ntmps44
  go_wp2
  simp [bodyPost,results,Try.results44,go_sem]
 ·rintro e w' ⟨rfl,rfl⟩
  exact⟨_,rfl,Below.refl _ _,by simp only [kvals,retV,Kd.val,Go.Abs.enc,RV]⟩
theorem hb_eqB:HasBody Try.prog 44:=⟨Try.f44,bodyOf Try.f44,by kernel_rfl,by kernel_rfl,rfl⟩
theorem en_eqB(_N:Nat):EntOk Try.prog [] (mkP 44 Ks_eqB Rk_eqB (D_eqB _N)):=entP hb_eqB (by kernel_rfl) (sp_eqB _N)
end Go.Proofs.Ytcjecibocjbdmaa
