import Derived.Test.YtmdlghpieagfhaaGreatDnPSlot5
/-
  Slots: what is alike, what is sound. Conditions: none.
-/
set_option linter.unusedVariables false
set_option linter.unusedSimpArgs false
open List renaming getElem_mem→cM
open Go Dn
namespace Dn.S
theorem GF (x y:ab)(h:x.Proof.length<2^60):jY x y=some (decide (x=y)):=by obtain ⟨a,b,c,d,e,p⟩:=x;obtain ⟨a',b',c',d',e',p'⟩:=y;unfold jY;simp only [OI _ _ h,au,abk];by_cases c1:a=a'<;>by_cases c2:b=b'<;>by_cases c3:c=c'<;>by_cases c4:d=d'<;>by_cases c5:e=e'<;>by_cases c6:p=p'<;>simp [c1,c2,c3,c4,c5,c6]
theorem T7 (r x:ab)(h:r.Proof.length<2^60):aL (mB [r] [x]) λ_=>True:=by
 unfold mB bN;simp only [List.length_singleton,decide_true,Bool.not_true,Bool.false_eq_true,if_false];refine aL.bd (P:=λ_=>True) (aL.bd (P:=λ_=>True) ?_ ?_) (λ_ _=> .mk trivial)
 ·refine aL.count (λk=>(k:Int)) 1 (λ_=>True) rfl trivial (λk hk _=> ?_) (λ_=> ?_)
  ·have:k=0:=by omega
   subst this;unfold bp;rw [if_pos (by simp),bA (by simp),bA (by simp)];simp only [List.getElem_cons_zero];rw [GF _ _ h,au];split
   ·exact .mk trivial
   ·rw [wrap64 (by omega) (by omega)];exact .mk ⟨rfl,trivial⟩
  ·unfold bp;rw [if_neg (by simp)];exact .mk trivial
 ·rintro (u|b) _<;>exact .mk trivial
theorem mQ (c:aj)(i:Int)(bad:Bool):dx c i bad=some (decide (0<=i/\c.bY[i.toNat]? =some bad)):=by
 unfold dx;by_cases h0:0<=i
 ·rw [if_pos h0];by_cases h1:i<(c.bY.length:Int)
  ·have hi:i.toNat<c.bY.length:=by omega
   rw [if_pos h1,TL h0 hi,List.getElem?_eq_getElem hi];simp [h0]
  ·rw [if_neg h1,List.getElem?_eq_none (by omega)];simp
 ·rw [if_neg h0];simp [h0]
theorem M4 {L:List al}(hl:L.length<2^32){f:al->Option Bool}(h: ∀x∈L,aL (f x) λ_=>True):aL (bD L f) λ_=>True:=by
 unfold bD fb;refine aL.bd (P:=λ_=>True) (aL.bd (P:=λ_=>True) ?_ ?_) (λ_ _=> .mk trivial)
 ·refine aL.count (λk=>(k:Int)) L.length (λ_=>True) rfl trivial (λk hk _=> ?_) (λ_=> ?_)
  ·unfold cI;rw [if_pos (by omega),bA hk];refine aL.bd (h _ (cM hk)) λb _=> ?_;split
   ·exact .mk trivial
   ·rw [wrap64 (by omega) (by omega)];exact .mk ⟨rfl,trivial⟩
  ·unfold cI;rw [if_neg (by omega)];exact .mk trivial
 ·rintro (u|b) _<;>exact .mk trivial
theorem XD {L:List aa}(hl:L.length<2^32){f:aa->Option Bool}(h: ∀x∈L,aL (f x) λ_=>True):aL (cc L f) λ_=>True:=by
 unfold cc ei;refine aL.bd (P:=λ_=>True) (aL.bd (P:=λ_=>True) ?_ ?_) (λ_ _=> .mk trivial)
 ·refine aL.count (λk=>(k:Int)) L.length (λ_=>True) rfl trivial (λk hk _=> ?_) (λ_=> ?_)
  ·unfold cn;rw [if_pos (by omega),bA hk];refine aL.bd (h _ (cM hk)) λb _=> ?_;split
   ·exact .mk trivial
   ·rw [wrap64 (by omega) (by omega)];exact .mk ⟨rfl,trivial⟩
  ·unfold cn;rw [if_neg (by omega)];exact .mk trivial
 ·rintro (u|b) _<;>exact .mk trivial
theorem XE {L:List ab}(hl:L.length<2^32){f:ab->Option Bool}(h: ∀x∈L,aL (f x) λ_=>True):aL (cf L f) λ_=>True:=by
 unfold cf ej;refine aL.bd (P:=λ_=>True) (aL.bd (P:=λ_=>True) ?_ ?_) (λ_ _=> .mk trivial)
 ·refine aL.count (λk=>(k:Int)) L.length (λ_=>True) rfl trivial (λk hk _=> ?_) (λ_=> ?_)
  ·unfold cq;rw [if_pos (by omega),bA hk];refine aL.bd (h _ (cM hk)) λb _=> ?_;split
   ·exact .mk trivial
   ·rw [wrap64 (by omega) (by omega)];exact .mk ⟨rfl,trivial⟩
  ·unfold cq;rw [if_neg (by omega)];exact .mk trivial
 ·rintro (u|b) _<;>exact .mk trivial
theorem uJ {c:aj}(hp:c.aV.length<=400){L:List aa}(hl:L.length<2^32):aL (dG c L) λ_=>True:=by
 unfold dG;refine aL.bd (XD hl λa _=> ?_) (λ_ _=> .mk trivial);unfold fL jv;refine aL.bd (P:=λ_=>True) (aL.bd (P:=λ_=>True) ?_ (λ_ _=> .mk trivial)) (λ_ _=> .mk trivial);rw [mQ,au];split
 ·exact .mk trivial
 ·refine aL.bd (M4 (by omega) λm _=> ?_) (λ_ _=> .mk trivial);unfold hU;split<;>exact .mk trivial
theorem KB {c:aj}(hp:c.aV.length<=400)(hr: ∀m∈c.aV,m.R.Proof.length<2^32){r:ab}(hl:r.Proof.length<2^32):aL (fG c r) λ_=>True:=by
 have hc:aL (bD c.aV (λu=>cD u r)) λ_=>True:=by
  refine M4 (by omega) λm hm=> ?_;unfold cD;refine aL.bd (P:=λ_=>True) ?_ (λ_ _=> .mk trivial);split
  ·exact aL.bd (T7 _ _ (by have:=hr m hm;omega)) (λ_ _=> .mk trivial)
  ·exact .mk trivial
 unfold fG;refine aL.bd (P:=λ_=>True) ?_ (λ_ _=> .mk trivial);rw [mQ,au];split
 ·refine aL.bd (uJ hp hl) λb _=> ?_;split
  ·exact .mk trivial
  ·exact aL.bd hc (λ_ _=> .mk trivial)
 ·exact aL.bd hc (λ_ _=> .mk trivial)
theorem GG {c:aj}(hp:c.aV.length<=400)(hr: ∀m∈c.aV,m.R.Proof.length<2^32){m:al}(h:abP m):aL (mC c m) λb=>b=true->m.Kind=2->0<=m.dv.By/\c.bY[m.dv.By.toNat]? =some true:=by
 unfold mC;by_cases k1:m.Kind=1
 ·rw [if_pos k1];refine aL.imp (P:=λ_=>True) (aL.bd (P:=λ_=>True) ?_ (λ_ _=> .mk trivial)) (λb _ _ h2=>by omega);rw [mQ,au];split
  ·refine aL.bd (XE (by have:=h.kQ;omega) λr hm=> ?_) (λ_ _=> .mk trivial);unfold nh;exact aL.bd (KB hp hr (h.Kw r hm)) (λ_ _=> .mk trivial)
  ·exact .mk trivial
 rw [if_neg k1];by_cases k2:m.Kind=2
 ·rw [if_pos k2,mQ,au];exact .mk λh _=>of_decide_eq_true h
 rw [if_neg k2];refine aL.imp (P:=λ_=>True) ?_ (λb _ _ h2=>absurd h2 k2);split
 ·refine aL.bd (P:=λ_=>True) ?_ (λ_ _=> .mk trivial);rw [mQ,au];split
  ·exact aL.bd (uJ hp h.proof) (λ_ _=> .mk trivial)
  ·exact .mk trivial
 ·split
  ·refine aL.bd (P:=λ_=>True) ?_ (λ_ _=> .mk trivial);rw [mQ,au];split
   ·exact aL.bd (uJ hp h.r) (λ_ _=> .mk trivial)
   ·exact .mk trivial
  ·split
   ·rw [mQ,au];exact .mk trivial
   ·exact .mk trivial
end Dn.S
