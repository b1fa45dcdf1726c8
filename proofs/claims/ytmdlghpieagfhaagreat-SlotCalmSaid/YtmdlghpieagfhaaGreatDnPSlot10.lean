import Derived.Test.YtmdlghpieagfhaaGreatDnPSlot5
/- Slots: what is alike, what is sound. Conditions: none. -/
set_option linter.unusedVariables false
set_option linter.unusedSimpArgs false
open List renaming getElem_mem→cV
open Go Dn
namespace Dn.S
theorem G8 (x y:ab)(h:x.Proof.length<2^60):kc x y=some (decide (x=y)):=by obtain ⟨a,b,c,d,e,p⟩:=x;obtain ⟨a',b',c',d',e',p'⟩:=y;unfold kc;simp only [Pc _ _ h,au,ab3];by_cases c1:a=a'<;>by_cases c2:b=b'<;>by_cases c3:c=c'<;>by_cases c4:d=d'<;>by_cases c5:e=e'<;>by_cases c6:p=p'<;>simp [c1,c2,c3,c4,c5,c6]
theorem UI (r x:ab)(h:r.Proof.length<2^60):aK (mP [r] [x]) λ_=>True:=by
 unfold mP bP;simp only [List.length_singleton,decide_true,Bool.not_true,Bool.false_eq_true,if_false];refine aK.bd (P:=λ_=>True) (aK.bd (P:=λ_=>True) ?_ ?_) (λ_ _=> .mk trivial)
 ·refine aK.count (λk=>(k:Int)) 1 (λ_=>True) rfl trivial (λk hk _=> ?_) (λ_=> ?_)
  ·have:k=0:=by omega
   subst this;unfold bp;rw [if_pos (by simp),bB (by simp),bB (by simp)];simp only [List.getElem_cons_zero];rw [G8 _ _ h,au];split
   ·exact .mk trivial
   ·rw [wrap64 (by omega) (by omega)];exact .mk ⟨rfl,trivial⟩
  ·unfold bp;rw [if_neg (by simp)];exact .mk trivial
 ·rintro (u|b) _<;>exact .mk trivial
theorem nS (c:aj)(i:Int)(bad:Bool):dF c i bad=some (decide (0<=i/\c.bY[i.toNat]? =some bad)):=by
 unfold dF;by_cases h0:0<=i
 ·rw [if_pos h0];by_cases h1:i<(c.bY.length:Int)
  ·have hi:i.toNat<c.bY.length:=by omega
   rw [if_pos h1,ab2 h0 hi,List.getElem?_eq_getElem hi];simp [h0]
  ·rw [if_neg h1,List.getElem?_eq_none (by omega)];simp
 ·rw [if_neg h0];simp [h0]
theorem Ny {L:List ai}(hl:L.length<2^32){f:ai->Option Bool}(h: ∀x∈L,aK (f x) λ_=>True):aK (bD L f) λ_=>True:=by
 unfold bD fj;refine aK.bd (P:=λ_=>True) (aK.bd (P:=λ_=>True) ?_ ?_) (λ_ _=> .mk trivial)
 ·refine aK.count (λk=>(k:Int)) L.length (λ_=>True) rfl trivial (λk hk _=> ?_) (λ_=> ?_)
  ·unfold cP;rw [if_pos (by omega),bB hk];refine aK.bd (h _ (cV hk)) λb _=> ?_;split
   ·exact .mk trivial
   ·rw [wrap64 (by omega) (by omega)];exact .mk ⟨rfl,trivial⟩
  ·unfold cP;rw [if_neg (by omega)];exact .mk trivial
 ·rintro (u|b) _<;>exact .mk trivial
theorem Ye {L:List aa}(hl:L.length<2^32){f:aa->Option Bool}(h: ∀x∈L,aK (f x) λ_=>True):aK (ck L f) λ_=>True:=by
 unfold ck eG;refine aK.bd (P:=λ_=>True) (aK.bd (P:=λ_=>True) ?_ ?_) (λ_ _=> .mk trivial)
 ·refine aK.count (λk=>(k:Int)) L.length (λ_=>True) rfl trivial (λk hk _=> ?_) (λ_=> ?_)
  ·unfold cu;rw [if_pos (by omega),bB hk];refine aK.bd (h _ (cV hk)) λb _=> ?_;split
   ·exact .mk trivial
   ·rw [wrap64 (by omega) (by omega)];exact .mk ⟨rfl,trivial⟩
  ·unfold cu;rw [if_neg (by omega)];exact .mk trivial
 ·rintro (u|b) _<;>exact .mk trivial
theorem Yf {L:List ab}(hl:L.length<2^32){f:ab->Option Bool}(h: ∀x∈L,aK (f x) λ_=>True):aK (cm L f) λ_=>True:=by
 unfold cm eH;refine aK.bd (P:=λ_=>True) (aK.bd (P:=λ_=>True) ?_ ?_) (λ_ _=> .mk trivial)
 ·refine aK.count (λk=>(k:Int)) L.length (λ_=>True) rfl trivial (λk hk _=> ?_) (λ_=> ?_)
  ·unfold cw;rw [if_pos (by omega),bB hk];refine aK.bd (h _ (cV hk)) λb _=> ?_;split
   ·exact .mk trivial
   ·rw [wrap64 (by omega) (by omega)];exact .mk ⟨rfl,trivial⟩
  ·unfold cw;rw [if_neg (by omega)];exact .mk trivial
 ·rintro (u|b) _<;>exact .mk trivial
theorem uV {c:aj}(hp:c.aC.length<=400){L:List aa}(hl:L.length<2^32):aK (dR c L) λ_=>True:=by
 unfold dR;refine aK.bd (Ye hl λa _=> ?_) (λ_ _=> .mk trivial);unfold fQ jH;refine aK.bd (P:=λ_=>True) (aK.bd (P:=λ_=>True) ?_ (λ_ _=> .mk trivial)) (λ_ _=> .mk trivial);rw [nS,au];split
 ·exact .mk trivial
 ·refine aK.bd (Ny (by omega) λm _=> ?_) (λ_ _=> .mk trivial);unfold il;split<;>exact .mk trivial
theorem KW {c:aj}(hp:c.aC.length<=400)(hr: ∀m∈c.aC,m.R.Proof.length<2^32){r:ab}(hl:r.Proof.length<2^32):aK (fM c r) λ_=>True:=by
 have hc:aK (bD c.aC (λu=>cK u r)) λ_=>True:=by
  refine Ny (by omega) λm hm=> ?_;unfold cK;refine aK.bd (P:=λ_=>True) ?_ (λ_ _=> .mk trivial);split
  ·exact aK.bd (UI _ _ (by have:=hr m hm;omega)) (λ_ _=> .mk trivial)
  ·exact .mk trivial
 unfold fM;refine aK.bd (P:=λ_=>True) ?_ (λ_ _=> .mk trivial);rw [nS,au];split
 ·refine aK.bd (uV hp hl) λb _=> ?_;split
  ·exact .mk trivial
  ·exact aK.bd hc (λ_ _=> .mk trivial)
 ·exact aK.bd hc (λ_ _=> .mk trivial)
theorem G9 {c:aj}(hp:c.aC.length<=400)(hr: ∀m∈c.aC,m.R.Proof.length<2^32){m:ai}(h:acA m):aK (lh c m) λb=>b=true->m.Kind=2->0<=m.bM.By/\c.bY[m.bM.By.toNat]? =some true:=by
 unfold lh;by_cases k1:m.Kind=1
 ·rw [if_pos k1];refine aK.imp (P:=λ_=>True) (aK.bd (P:=λ_=>True) ?_ (λ_ _=> .mk trivial)) (λb _ _ h2=>by omega);rw [nS,au];split
  ·refine aK.bd (Yf (by have:=h.gJ;omega) λr hm=> ?_) (λ_ _=> .mk trivial);unfold nu;exact aK.bd (KW hp hr (h.G6 r hm)) (λ_ _=> .mk trivial)
  ·exact .mk trivial
 rw [if_neg k1];by_cases k2:m.Kind=2
 ·rw [if_pos k2,nS,au];exact .mk λh _=>of_decide_eq_true h
 rw [if_neg k2];refine aK.imp (P:=λ_=>True) ?_ (λb _ _ h2=>absurd h2 k2);split
 ·refine aK.bd (P:=λ_=>True) ?_ (λ_ _=> .mk trivial);rw [nS,au];split
  ·exact aK.bd (uV hp h.proof) (λ_ _=> .mk trivial)
  ·exact .mk trivial
 ·split
  ·refine aK.bd (P:=λ_=>True) ?_ (λ_ _=> .mk trivial);rw [nS,au];split
   ·exact aK.bd (uV hp h.r) (λ_ _=> .mk trivial)
   ·exact .mk trivial
  ·split
   ·rw [nS,au];exact .mk trivial
   ·exact .mk trivial
end Dn.S
