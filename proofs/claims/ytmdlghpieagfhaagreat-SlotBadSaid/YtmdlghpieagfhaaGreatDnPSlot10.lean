import Derived.Test.YtmdlghpieagfhaaGreatDnPSlot5
/-
  Slots: what is alike, what is sound. Conditions: none.
-/
set_option linter.unusedVariables false
set_option linter.unusedSimpArgs false
open List renaming getElem_mem→eJ,length_singleton→sh
open Go Dn
namespace Dn.S
theorem Qz {L:List Bool}(hl:L.length<2^32):kG L L=some true:=by
 unfold kG;rw [decide_eq_true rfl,if_neg (by simp)];have:Loop (iV L L) 0=some (.inl ()):=by
  refine ua (λk=>(k:Int)) L.length _ (λk hk=> ?_) ?_
  ·unfold iV;rw [if_pos (by omega),bh hk,bh hk,if_neg (by simp),wrap64 (by omega) (by omega)];congr 2
  ·unfold iV;rw [if_neg (by omega)]
 rw [this];rfl
theorem K7 {L:List (List UInt8)}(hl:L.length<2^32):iW L L=some true:=by
 unfold iW;rw [decide_eq_true rfl,if_neg (by simp)];have:Loop (gY L L) 0=some (.inl ()):=by
  refine ua (λk=>(k:Int)) L.length _ (λk hk=> ?_) ?_
  ·unfold gY;rw [if_pos (by omega),bh hk,bh hk,if_neg (by simp),wrap64 (by omega) (by omega)];congr 2
  ·unfold gY;rw [if_neg (by omega)]
 rw [this];rfl
theorem MA {L:List ab}(hl:L.length<2^60){f:ab->ab->Option Bool}(h: ∀x∈L,f x x=some true):bA L L f=some true:=by
 unfold bA;rw [decide_eq_true rfl,if_neg (by simp)];have:Loop (bo L L f) 0=some (.inl ()):=by
  refine ua (λk=>(k:Int)) L.length _ (λk hk=> ?_) ?_
  ·unfold bo;rw [if_pos (by omega),bh hk,bh hk,h _ (eJ hk),ap,if_neg (by simp),wrap64 (by omega) (by omega)];congr 2
  ·unfold bo;rw [if_neg (by omega)]
 rw [this];rfl
theorem abS {L:List aq}(hl:L.length<2^32){f:aq->aq->Option Bool}(h: ∀x∈L,f x x=some true):bZ L L f=some true:=by
 unfold bZ;rw [decide_eq_true rfl,if_neg (by simp)];have:Loop (bW L L f) 0=some (.inl ()):=by
  refine ua (λk=>(k:Int)) L.length _ (λk hk=> ?_) ?_
  ·unfold bW;rw [if_pos (by omega),bh hk,bh hk,h _ (eJ hk),ap,if_neg (by simp),wrap64 (by omega) (by omega)];congr 2
  ·unfold bW;rw [if_neg (by omega)]
 rw [this];rfl
theorem afF {L:List al}(hl:L.length<2^32){f:al->al->Option Bool}(h: ∀x∈L,f x x=some true):cn L L f=some true:=by
 unfold cn;rw [decide_eq_true rfl,if_neg (by simp)];have:Loop (b8 L L f) 0=some (.inl ()):=by
  refine ua (λk=>(k:Int)) L.length _ (λk hk=> ?_) ?_
  ·unfold b8;rw [if_pos (by omega),bh hk,bh hk,h _ (eJ hk),ap,if_neg (by simp),wrap64 (by omega) (by omega)];congr 2
  ·unfold b8;rw [if_neg (by omega)]
 rw [this];rfl
theorem AH (x y:ab)(h:x.Proof.length<2^60):lN x y=some (decide (x=y)):=by obtain ⟨a,b,c,d,e,p⟩:=x;obtain ⟨a',b',c',d',e',p'⟩:=y;unfold lN;simp only [lm _ _ h,ap,JI];by_cases c1:a=a'<;>by_cases c2:b=b'<;>by_cases c3:c=c'<;>by_cases c4:d=d'<;>by_cases c5:e=e'<;>by_cases c6:p=p'<;>simp [c1,c2,c3,c4,c5,c6]
theorem Of {L:List ab}(hl:L.length<2^32)(h: ∀r∈L,r.Proof.length<2^60):gX L L=some true:=by unfold gX;rw [MA (by omega) (λx hx=>by rw [AH _ _ (h x hx),decide_eq_true rfl]),ap]
theorem SL (r x:ab)(h:r.Proof.length<2^60):aL (gX [r] [x]) λ_=>True:=by
 unfold gX bA;simp only [sh,decide_true,Bool.not_true,Bool.false_eq_true,if_false];refine aL.bd (P:=λ_=>True) (aL.bd (P:=λ_=>True) ?_ ?_) (λ_ _=> .mk trivial)
 ·refine aL.count (λk=>(k:Int)) 1 (λ_=>True) rfl trivial (λk hk _=> ?_) (λ_=> ?_)
  ·have:k=0:=by omega
   subst this;unfold bo;rw [if_pos (by simp),bh (by simp),bh (by simp)];simp only [List.getElem_cons_zero];rw [AH _ _ h,ap];split
   ·exact .mk trivial
   ·rw [wrap64 (by omega) (by omega)];exact .mk ⟨rfl,trivial⟩
  ·unfold bo;rw [if_neg (by simp)];exact .mk trivial
 ·rintro (u|b) _<;>exact .mk trivial
theorem VD {s:af}{i:Int}{n:aq}{k:Nat}(h:jq s i n k)(hk:k<=1000):lQ n n=some true:=by unfold lQ;have h1:=h.acc.Z3;have h2:=h.acc.GC.proof.len;have h3:=h.len;obtain ⟨q1,q2,q3⟩:=h.jf.Z3;rw [Sj _ _ (by omega) (by omega),ap,N8 _ _ (by omega) (by omega) (by omega)];simp only [decide_true,if_true,ap];rw [Of (by omega) (λr hr=>by have:=h.small r hr;omega)];simp
theorem Zy {m:al}(h:Vw m):nD m m=some true:=by
 have h1:=h.kZ;have h2:=h.proof;have h3:=h.r;unfold nD gZ;simp only [decide_true,if_true,ap,Bool.and_self,and_self];rw [if_pos ⟨by simp,by rw [sh];omega⟩,if_pos ⟨by simp,by rw [sh];omega⟩];have e:gX (m.dP++[m.R]) (m.dP++[m.R])=some true:=by
  unfold gX;rw [MA ?_ ?_,ap]
  ·rw [List.length_append,sh];omega
  ·intro x hx;rw [AH,decide_eq_true rfl];rcases List.mem_append.1 hx with hx|hx
   ·have:=h.Qw x hx;omega
   ·rw [List.mem_singleton.1 hx];omega
 rw [e,ap,if_pos rfl,lm _ _ (by omega)];simp
theorem AJ (c:au)(i:Int)(bad:Bool):dY c i bad=some (decide (0<=i/\c.cQ[i.toNat]? =some bad)):=by
 unfold dY;by_cases h0:0<=i
 ·rw [if_pos h0];by_cases h1:i<(c.cQ.length:Int)
  ·have hi:i.toNat<c.cQ.length:=by omega
   rw [if_pos h1,NT h0 hi,List.getElem?_eq_getElem hi];simp [h0]
  ·rw [if_neg h1,List.getElem?_eq_none (by omega)];simp
 ·rw [if_neg h0];simp [h0]
theorem MB {L:List al}(hl:L.length<2^32){f:al->Option Bool}(h: ∀x∈L,aL (f x) λ_=>True):aL (cm L f) λ_=>True:=by
 unfold cm ic;refine aL.bd (P:=λ_=>True) (aL.bd (P:=λ_=>True) ?_ ?_) (λ_ _=> .mk trivial)
 ·refine aL.count (λk=>(k:Int)) L.length (λ_=>True) rfl trivial (λk hk _=> ?_) (λ_=> ?_)
  ·unfold fU;rw [if_pos (by omega),bh hk];refine aL.bd (h _ (eJ hk)) λb _=> ?_;split
   ·exact .mk trivial
   ·rw [wrap64 (by omega) (by omega)];exact .mk ⟨rfl,trivial⟩
  ·unfold fU;rw [if_neg (by omega)];exact .mk trivial
 ·rintro (u|b) _<;>exact .mk trivial
theorem VE {L:List aa}(hl:L.length<2^32){f:aa->Option Bool}(h: ∀x∈L,aL (f x) λ_=>True):aL (dC L f) λ_=>True:=by
 unfold dC fV;refine aL.bd (P:=λ_=>True) (aL.bd (P:=λ_=>True) ?_ ?_) (λ_ _=> .mk trivial)
 ·refine aL.count (λk=>(k:Int)) L.length (λ_=>True) rfl trivial (λk hk _=> ?_) (λ_=> ?_)
  ·unfold fv;rw [if_pos (by omega),bh hk];refine aL.bd (h _ (eJ hk)) λb _=> ?_;split
   ·exact .mk trivial
   ·rw [wrap64 (by omega) (by omega)];exact .mk ⟨rfl,trivial⟩
  ·unfold fv;rw [if_neg (by omega)];exact .mk trivial
 ·rintro (u|b) _<;>exact .mk trivial
theorem VF {L:List ab}(hl:L.length<2^32){f:ab->Option Bool}(h: ∀x∈L,aL (f x) λ_=>True):aL (dD L f) λ_=>True:=by
 unfold dD fW;refine aL.bd (P:=λ_=>True) (aL.bd (P:=λ_=>True) ?_ ?_) (λ_ _=> .mk trivial)
 ·refine aL.count (λk=>(k:Int)) L.length (λ_=>True) rfl trivial (λk hk _=> ?_) (λ_=> ?_)
  ·unfold fw;rw [if_pos (by omega),bh hk];refine aL.bd (h _ (eJ hk)) λb _=> ?_;split
   ·exact .mk trivial
   ·rw [wrap64 (by omega) (by omega)];exact .mk ⟨rfl,trivial⟩
  ·unfold fw;rw [if_neg (by omega)];exact .mk trivial
 ·rintro (u|b) _<;>exact .mk trivial
theorem uQ {c:au}(hp:c.bg.length<=400){L:List aa}(hl:L.length<2^32):aL (fH c L) λ_=>True:=by
 unfold fH;refine aL.bd (VE hl λa _=> ?_) (λ_ _=> .mk trivial);unfold iB oO;refine aL.bd (P:=λ_=>True) (aL.bd (P:=λ_=>True) ?_ (λ_ _=> .mk trivial)) (λ_ _=> .mk trivial);rw [AJ,ap];split
 ·exact .mk trivial
 ·refine aL.bd (MB (by omega) λm _=> ?_) (λ_ _=> .mk trivial);unfold jI;split<;>exact .mk trivial
theorem Kf {c:au}(hp:c.bg.length<=400)(hr: ∀m∈c.bg,m.R.Proof.length<2^32){r:ab}(hl:r.Proof.length<2^32):aL (jJ c r) λ_=>True:=by
 have hc:aL (cm c.bg (λu=>dL u r)) λ_=>True:=by
  refine MB (by omega) λm hm=> ?_;unfold dL;refine aL.bd (P:=λ_=>True) ?_ (λ_ _=> .mk trivial);split
  ·exact aL.bd (SL _ _ (by have:=hr m hm;omega)) (λ_ _=> .mk trivial)
  ·exact .mk trivial
 unfold jJ;refine aL.bd (P:=λ_=>True) ?_ (λ_ _=> .mk trivial);rw [AJ,ap];split
 ·refine aL.bd (uQ hp hl) λb _=> ?_;split
  ·exact .mk trivial
  ·exact aL.bd hc (λ_ _=> .mk trivial)
 ·exact aL.bd hc (λ_ _=> .mk trivial)
theorem GI {c:au}(hp:c.bg.length<=400)(hr: ∀m∈c.bg,m.R.Proof.length<2^32){m:al}(h:Vw m):aL (mV c m) λb=>b=true->m.Kind=2->0<=m.cf.By/\c.cQ[m.cf.By.toNat]? =some true:=by
 unfold mV;by_cases k1:m.Kind=1
 ·rw [if_pos k1];refine aL.imp (P:=λ_=>True) (aL.bd (P:=λ_=>True) ?_ (λ_ _=> .mk trivial)) (λb _ _ h2=>by omega);rw [AJ,ap];split
  ·refine aL.bd (VF (by have:=h.kZ;omega) λr hm=> ?_) (λ_ _=> .mk trivial);unfold pV;exact aL.bd (Kf hp hr (h.Qw r hm)) (λ_ _=> .mk trivial)
  ·exact .mk trivial
 rw [if_neg k1];by_cases k2:m.Kind=2
 ·rw [if_pos k2,AJ,ap];exact .mk λh _=>of_decide_eq_true h
 rw [if_neg k2];refine aL.imp (P:=λ_=>True) ?_ (λb _ _ h2=>absurd h2 k2);split
 ·refine aL.bd (P:=λ_=>True) ?_ (λ_ _=> .mk trivial);rw [AJ,ap];split
  ·exact aL.bd (uQ hp h.proof) (λ_ _=> .mk trivial)
  ·exact .mk trivial
 ·split
  ·refine aL.bd (P:=λ_=>True) ?_ (λ_ _=> .mk trivial);rw [AJ,ap];split
   ·exact aL.bd (uQ hp h.r) (λ_ _=> .mk trivial)
   ·exact .mk trivial
  ·split
   ·rw [AJ,ap];exact .mk trivial
   ·exact .mk trivial
end Dn.S
