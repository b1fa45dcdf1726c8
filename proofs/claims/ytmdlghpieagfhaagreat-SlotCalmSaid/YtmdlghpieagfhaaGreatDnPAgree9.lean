import Derived.Test.YtmdlghpieagfhaaGreatDnPAgree8
/- A new slot has few bad ones. Conditions: none. -/
set_option linter.unusedVariables false
set_option linter.unusedSimpArgs false
open Bool renaming not_false→cV
open Go Dn
namespace Dn.S
theorem afv (s:ae)(bad:List Bool)(want:List (List UInt8))(hb:bad.length<=30)(hw:want.length<=30):aK (pI s bad want) λr=>r.2=0->(bad.countP id:Int)<=s.F:=by
 unfold pI;rw [iK,au];by_cases hs:cC s;rotate_left
 ·simp only [hs,decide_false,cV,if_true,au];exact .mk (λh=>absurd h (by decide))
 rw [decide_eq_true hs];simp only [Bool.not_true,Bool.false_eq_true,if_false,om hs,au];by_cases c1:(bad.length:Int)=3 *s.F+2 *s.T+1;rotate_left
 ·simp only [c1,decide_false,cV,if_true,au];exact .mk (λh=>absurd h (by decide))
 by_cases c2:(want.length:Int)=(bad.length:Int);rotate_left
 ·have hg:(if !decide ((bad.length:Int)=3 *s.F+2 *s.T+1) then some true else some (!decide ((want.length:Int)=(bad.length:Int))):Option Bool)=some true:=by simp [c1];rw [<-c1];exact c2
  rw [hg,au,if_pos rfl];exact .mk (λh=>absurd h (by decide))
 have c2':want.length=bad.length:=by omega
 have hg:(if !decide ((bad.length:Int)=3 *s.F+2 *s.T+1) then some true else some (!decide ((want.length:Int)=(bad.length:Int))):Option Bool)=some false:=by simp [c1,c2]
 rw [hg,au,if_neg (by simp),gO (by omega),au,gO (by omega),au];have Nj:=(b7 s).1 hs;refine aK.bd (P:=λr=>(r= .inl (0,0,([]:List Bool),([]:List (List UInt8)),([]:List ao),([]:List ai),s.F,s.T,bad,want,(tC s bad want).N,([]:List ai))/\(bad.countP id:Int)<=s.F)\/(∃q,r= .inr q/\q.2.2.2.2.2.2=1)) ?_ ?_
 ·refine aK.loop (λst=> ∃(k:Nat) (left:Int),k<=bad.length/\0<=left/\left=s.F-((bad.take k).countP id:Int)/\st=(0,0,([]:List Bool),([]:List (List UInt8)),([]:List ao),([]:List ai),s.F,s.T,bad,want,(List.range k).map (λ(i:Nat)=>rc s (i:Int)),([]:List ai),left,(k:Int))) (λst=>bad.length-(st.2.2.2.2.2.2.2.2.2.2.2.2.2).toNat) ⟨0,s.F,Nat.zero_le _,by omega,by simp,rfl⟩ ?_;rintro st ⟨k,left,hk,NV,y9,rfl⟩;unfold yq;simp only;by_cases cJ:k<bad.length
  ·have hlw:k<want.length:=by omega
   rw [if_pos (by omega),bB cJ];have hle:(bad.take k).countP id<=30:=by have:=List.countP_le_length (p:=id) (l:=bad.take k);rw [List.length_take] at this;omega
   have HM:bad.take (k+1)=bad.take k++[bad[k]]:=by rw [List.take_add_one,List.getElem?_eq_getElem cJ];rfl
   have acC: ∃xH,(if bad[k] then some (IntKind.wrap .i64 (left-1)) else some left:Option Int)=some xH/\xH=s.F-((bad.take (k+1)).countP id:Int):=by
    rw [HM,List.countP_append,List.countP_singleton];cases S7:bad[k] with
    |true=>exact ⟨left-1,by rw [if_pos rfl,wrap64 (by omega) (by omega)],by simp;omega⟩
    |false=>exact ⟨left,by simp,by simp;omega⟩
   obtain ⟨xH,e1,g1⟩:=acC;rw [e1,au,bB hlw,or_some,au];by_cases c3:(6000:Int)<(want[k].length:Int)\/xH<0
   ·rw [decide_eq_true c3,if_pos rfl];exact .mk (.inr ⟨_,rfl,rfl⟩)
   ·rw [decide_eq_false c3,if_neg (by simp),KU (s:=s) (i:=(k:Int)) ⟨hs,by omega,by unfold kz;omega⟩,au,if_pos (by rw [List.length_map,List.length_range,List.length_singleton];omega),wrap64 (by omega) (by omega)];refine .mk ⟨⟨k+1,xH,cJ,by omega,g1,?_⟩,by simp only;omega⟩;rw [List.range_succ,List.map_append];rfl
  ·have:k=bad.length:=by omega
   subst this;rw [if_neg (by omega)];rw [List.take_length] at y9;exact .mk (.inl ⟨rfl,by omega⟩)
 ·rintro r (⟨rfl,hx⟩|⟨q,rfl,hq⟩)
  ·exact .mk λ_=>hx
  ·refine .mk λh=> ?_;simp only at h;rw [hq] at h;exact absurd h (by decide)
end Dn.S
