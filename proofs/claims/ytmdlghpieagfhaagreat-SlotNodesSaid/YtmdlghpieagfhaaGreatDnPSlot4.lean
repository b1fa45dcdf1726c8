import Derived.Test.YtmdlghpieagfhaaGreatDnPSlot8
/-
  SlotNodes. Conditions: none.
-/
set_option linter.unusedVariables false
set_option linter.unusedSimpArgs false
open Bool renaming false_eq_true→fj,not_true→sh
open Go Dn
namespace Dn.S
abbrev S37 (n:aD)(k:Int):=(n.A.S.F,n.A.S.T,n.A.Me,n.A.View,n.A.Has,n.A.At,n.A.Value,n.A.Proof,n.A.bI.L,n.L.S.F,n.L.S.T,n.L.aO.L,n.L.aP.L,n.L.Told.L,n.L.bE,n.L.Value,n.cy,n.fh,n.A.S.F,n.A.S.T,n.A.Me,n.A.View,n.A.Has,n.A.At,n.A.Value,n.A.Proof,n.A.bI.L,n.L.S.F,n.L.S.T,n.L.aO.L,n.L.aP.L,n.L.Told.L,n.L.bE,n.L.Value,n.cy,n.fh,k)
abbrev T38 (n:aD)(out:List aw):=(n.A.S.F,n.A.S.T,n.A.Me,n.A.View,n.A.Has,n.A.At,n.A.Value,n.A.Proof,n.A.bI.L,n.L.S.F,n.L.S.T,n.L.aO.L,n.L.aP.L,n.L.Told.L,n.L.bE,n.L.Value,n.cy,n.fh,n.A.S.F,n.A.S.T,n.A.Me,n.A.View,n.A.Has,n.A.At,n.A.Value,n.A.Proof,n.A.bI.L,n.L.S.F,n.L.S.T,n.L.aO.L,n.L.aP.L,n.L.Told.L,n.L.bE,n.L.Value,n.cy,n.fh,out,out.map z6)
theorem eNP (n:aD):(⟨(⟨(⟨n.A.S.F,n.A.S.T⟩:ak),n.A.Me,n.A.View,n.A.Has,n.A.At,n.A.Value,n.A.Proof,(⟨n.A.bI.L⟩:az)⟩:aj),(⟨(⟨n.L.S.F,n.L.S.T⟩:ak),(⟨n.L.aO.L⟩:az),(⟨n.L.aP.L⟩:az),(⟨n.L.Told.L⟩:az),n.L.bE,n.L.Value⟩:aq),n.cy,n.fh⟩:aD)=n:=rfl
theorem eNR (n:aD):(⟨(⟨(⟨n.A.S.F,n.A.S.T⟩:aV),n.A.Me,n.A.View,n.A.Has,n.A.At,n.A.Value,n.A.Proof,(⟨n.A.bI.L⟩:aL)⟩:aN),(⟨(⟨n.L.S.F,n.L.S.T⟩:aV),(⟨n.L.aO.L⟩:aL),(⟨n.L.aP.L⟩:aL),(⟨n.L.Told.L⟩:aL),n.L.bE,n.L.Value⟩:bq),n.cy,n.fh⟩:cC)=yO n:=rfl
theorem Xr {c:lh}{i:Int}{L:List eh}{n:aD}{k:Nat}(hk:k<L.length)(h80:L.length<=80)(h:kV c.S i n k)(hL: ∀y∈L,Qf y): bD (lC c i L (S37 n (k:Int))) λx=>match x with| .inl st=> ∃n',st=S37 n' ((k+1:Nat):Int)/\kV c.S i n' (k+1)| .inr r=>r= .inr true:=by
 have ha:=hL _ (List.getElem_mem hk);unfold lC S37;simp only [eNP,eNR,II,Qd,ar];rw [if_pos (by omega),bP hk];generalize L[k]=y at ha;have hg:(if y.Kind=0 then some (decide (y.Kind=0)) else some (decide (y.Kind=3)):Option Bool)=some (decide (y.Kind=0\/y.Kind=3)):=by by_cases c:y.Kind=0<;>simp [c]
 rw [hg,ar];refine bD.bd (P:=λw=> ∃n' out,w=T38 n' out/\kV c.S i n' (k+1)/\out.length<=10/\ ∀m∈out,M0 m) ?_ ?_
 ·by_cases k0:y.Kind=0\/y.Kind=3
  ·rw [decide_eq_true k0,if_pos rfl];obtain ⟨x,hx⟩:=afv h (by omega) ha.m;rw [hx.prog,hx.ref];simp only [ar];exact .mk ⟨x.1,x.2,rfl,hx.inv,hx.out,hx.small⟩
  rw [decide_eq_false k0,if_neg (by simp)];by_cases k1:y.Kind=1
  ·rw [if_pos k1];have hx:=aaA h y.I;rw [hx.prog,hx.ref];simp only [ar];exact .mk ⟨(xe n y.I).1,(xe n y.I).2,rfl,hx.inv,hx.out,hx.small⟩
  rw [if_neg k1];by_cases k2:y.Kind=2
  ·rw [if_pos k2];obtain ⟨x,hx⟩:=afw h (by omega) y.M.Value;rw [hx.prog,hx.ref];simp only [ar];exact .mk ⟨x.1,x.2,rfl,hx.inv,hx.out,hx.small⟩
  rw [if_neg k2];by_cases k4:y.Kind=4
  ·rw [if_pos k4];obtain ⟨q1,q2,q3⟩:=Xi h;rw [q1,q2];simp only [ar];exact .mk ⟨BP c.S n,[],rfl,q3,by simp,by simp⟩
  ·rw [if_neg k4];simp only [ar];exact .mk ⟨n,[],rfl,h.mono (by omega),by simp,by simp⟩
 ·rintro w ⟨n',out,rfl,h1,h2,h3⟩;simp only [T38,eNP,eNR,EA,ar,M1 h1 (by omega),sh,fj,if_false,ahY (show out.length<=1000 by omega),Xh (show out.length<=1000 by omega) h3];rw [wrap64 (by omega) (by omega)];exact .mk ⟨n',rfl,h1⟩
theorem Ol (a:lh)(a1:Int)(a2:List eh):r9 a a1 a2=some true:=by
 unfold r9;obtain ⟨b,e,hb⟩:=Xk a a2;rw [e,ar,ah6];cases b with
 |false=>simp
 |true=>
 have hc:=hb rfl;simp only [sh,fj,if_false,II,ar];by_cases c:q8 a.S a1;rotate_left
 ·obtain ⟨q1,q2⟩:=afx c;rw [q1,q2];simp only [ar,decide_true,sh,fj,if_false,EA,Xj,show decide ((1:Int)=0)=false by decide,Bool.not_false,if_true]
 obtain ⟨q1,q2⟩:=Qe c;have hI:=aaB c;rw [q1,q2];simp only [ar,decide_true,sh,fj,if_false,EA,M1 hI (by omega)];refine bD.eq (bD.bd (P:=λr=>r= .inl ()\/r= .inr true) ?_ ?_)
 ·refine bD.loop (λst=> ∃(k:Nat) (n:aD),k<=a2.length/\st=S37 n (k:Int)/\kV a.S a1 n k) (λst=>a2.length-(st.2.2.2.2.2.2.2.2.2.2.2.2.2.2.2.2.2.2.2.2.2.2.2.2.2.2.2.2.2.2.2.2.2.2.2.2).toNat) ⟨0,z8 a.S a1,Nat.zero_le _,rfl,hI⟩ ?_;rintro st ⟨k,n,hk,rfl,hn⟩;by_cases eE:k<a2.length
  ·refine (Xr eE hc.len hn hc.ay0).imp ?_;rintro (cB|r) jf
   ·obtain ⟨n',rfl,hI'⟩:=jf;exact ⟨⟨k+1,n',eE,rfl,hI'⟩,by simp only [S37];omega⟩
   ·exact .inr jf
  ·unfold lC S37;simp only;rw [if_neg (by omega)];exact .mk (.inl rfl)
 ·rintro r (rfl|rfl)
  ·exact .mk rfl
  ·exact .mk rfl
end Dn.S
