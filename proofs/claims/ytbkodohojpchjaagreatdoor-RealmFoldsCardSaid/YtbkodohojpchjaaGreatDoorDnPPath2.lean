import Derived.Test.YtbkodohojpchjaaGreatDoorDnPPath
/-
  Paths: their names. Conditions: none.
-/
set_option linter.unusedVariables false
set_option linter.unusedSimpArgs false
open Bool renaming false_eq_true→c9,true_and→aaq,not_true→aaJ
open List renaming cons_append→sh,getLastD_eq_getLast?→AI,flatMap_cons→AS,mem_cons→AT,getLast?_cons_cons→By,length_cons→IN,length_nil→IT,length_dropLast→No,drop_succ_cons→OF,take_length→aar,drop_zero→aaF
open Int renaming toNat→BY
open List.cons renaming injEq→IS
open UInt8 renaming toNat_inj→aas
open Go Dn
namespace Dn.S
section
variable {c:UInt8}
theorem s9 (l:List UInt8):ct c l≠[]:=by
 cases l with
 |nil=>simp [ct]
 |cons x l=>
  simp only [ct];split
  ·simp
  ·split<;>simp
theorem iV (l:List UInt8):ct c (c::l)=[]::ct c l:=by simp [ct]
theorem gJ {x:UInt8}(h:x≠c)(l:List UInt8): ∃p r,ct c l=p::r/\ct c (x::l)=(x::p)::r:=by
 cases hs:ct c l with
 |nil=>exact absurd hs (s9 l)
 |cons p r=>exact ⟨p,r,rfl,by simp [ct,h,hs]⟩
theorem CP (l:List UInt8):(ct c l).flatMap (c::·)=c::l:=by
 induction l with
 |nil=>rfl
 |cons x l ih=>
  by_cases h:x=c
  ·subst h;rw [iV,AS,ih];rfl
  ·obtain ⟨p,r,h1,h2⟩:=gJ h l;rw [h2,AS];rw [h1,AS] at ih;simp only [sh,IS,true_and] at ih⊢;exact ih
theorem abv (l:List UInt8): ∀x∈ct c l,c∉x:=by
 induction l with
 |nil=>intro x hx;simp [ct] at hx;subst hx;simp
 |cons y l ih=>
  intro x hx;by_cases h:y=c
  ·subst h;rw [iV] at hx;rcases AT.1 hx with rfl|hx
   ·simp
   ·exact ih x hx
  ·obtain ⟨p,r,h1,h2⟩:=gJ h l;rw [h2] at hx;rw [h1] at ih;rcases AT.1 hx with rfl|hx
   ·have:=ih p (by simp);intro hm;rcases AT.1 hm with rfl|hm
    ·exact h rfl
    ·exact this hm
   ·exact ih x (by simp [hx])
theorem Xi {a:List UInt8}(ha:c∉a)(l:List UInt8):ct c (a++c::l)=a::ct c l:=by
 induction a with
 |nil=>exact iV l
 |cons x a ih=>
  have hx:x≠c:=by intro e;subst e;simp at ha
  have ha':c∉a:=λh=>ha (by simp [h]);obtain ⟨p,r,h1,h2⟩:=gJ hx (a++c::l);rw [ih ha'] at h1;cases h1;exact h2
theorem Ty {a:List UInt8}(ha:c∉a):ct c a=[a]:=by
 induction a with
 |nil=>rfl
 |cons x a ih=>
  have hx:x≠c:=by intro e;subst e;simp at ha
  have ha':c∉a:=λh=>ha (by simp [h]);obtain ⟨p,r,h1,h2⟩:=gJ hx a;rw [ih ha'] at h1;cases h1;exact h2
theorem Tz {L:List (List UInt8)}(h0:L≠[])(h: ∀x∈L,c∉x):ct c ((L.flatMap (c::·)).drop 1)=L:=by
 induction L with
 |nil=>exact absurd rfl h0
 |cons a L ih=>
  have ha:=h a (by simp);cases L with
  |nil=>simp [Ty ha]
  |cons b L=>have ih:=ih (by simp) (λx hx=>h x (by simp [hx]));simp only [AS,sh,OF,aaF] at ih⊢;rw [Xi ha,ih]
theorem yK (l:List UInt8):(ct c l).length<=l.length+1:=by
 induction l with
 |nil=>simp [ct]
 |cons x l ih=>
  by_cases h:x=c
  ·subst h;rw [iV];simp;exact ih
  ·obtain ⟨p,r,h1,h2⟩:=gJ h l;rw [h2];rw [h1] at ih;simp at ih⊢;omega
theorem Re (l:List UInt8): ∀x∈ct c l,x.length<=l.length:=by
 induction l with
 |nil=>intro x hx;simp [ct] at hx;subst hx;simp
 |cons y l ih=>
  intro x hx;by_cases h:y=c
  ·subst h;rw [iV] at hx;rcases AT.1 hx with rfl|hx
   ·simp
   ·have:=ih x hx;simp;omega
  ·obtain ⟨p,r,h1,h2⟩:=gJ h l;rw [h2] at hx;rw [h1] at ih;rcases AT.1 hx with rfl|hx
   ·have:=ih p (by simp);simp;omega
   ·have:=ih x (by simp [hx]);simp;omega
theorem TA (l:List UInt8)(x:UInt8):ct c (l++[x])=if x=c then ct c l++[[]] else (ct c l).dropLast++[(ct c l).getLastD []++[x]]:=by
 induction l with
 |nil=>by_cases h:x=c<;>simp [ct,h]
 |cons y l ih=>
  rw [sh];by_cases hy:y=c
  ·subst hy;rw [iV,iV,ih];split
   ·rfl
   ·cases hs:ct y l with
    |nil=>exact absurd hs (s9 l)
    |cons p r=>simp [List.dropLast,List.getLastD,By]
  ·obtain ⟨p,r,h1,h2⟩:=gJ hy l;obtain ⟨p',r',h3,h4⟩:=gJ hy (l++[x]);rw [h4,h2];rw [ih,h1] at h3;split
   ·rename_i hx;rw [if_pos hx] at h3;simp only [sh,IS] at h3;rw [<-h3.1,<-h3.2];rfl
   ·rename_i hx;rw [if_neg hx] at h3;cases r with
    |nil=>simp at h3;rw [h3.2,<-h3.1];rfl
    |cons q r=>simp only [List.dropLast_cons_cons,sh,IS] at h3;rw [<-h3.1,<-h3.2];simp [List.getLastD,By]
end
theorem pI {α:Type}{l:List (List α)}(h:l≠[]):l.dropLast++[l.getLastD []]=l:=by rw [AI,List.getLast?_eq_some_getLast h];exact List.dropLast_concat_getLast h
def aH (p:List UInt8):List (List UInt8):=if p=[47] then [] else ct 47 (p.drop 1)
def lQ (p:List UInt8):Bool:=decide (p.head? =some 47)
def bA (p:List UInt8):Bool:=(lQ p&&decide (p.length<=100))&&(decide ((aH p).length<=8)&&(aH p).all gV)
theorem OA (p:List UInt8):jm p ([47]:List UInt8)=some (if lQ p then (p.drop 1,true) else (p,false)):=by
 unfold jm iX iW;simp only [Gz];cases p with
 |nil=>simp [lQ,bd]
 |cons x r=>
  have e1:(([47]:List UInt8).length:Int)<=((x::r).length:Int):=by simp;omega
  rw [if_pos e1,if_pos ⟨by decide,by decide,e1⟩,av];by_cases hx:x=47
  ·subst hx;have e2:decide (List.drop (BY 0) (List.take (BY (([47]:List UInt8).length:Int)) (47::r))=([47]:List UInt8))=true:=by simp
   rw [e2];simp only [aaJ,c9,if_false];rw [if_pos ⟨by decide,e1,Int.le_refl _⟩,av];simp [lQ]
  ·have e2:decide (List.drop (BY 0) (List.take (BY (([47]:List UInt8).length:Int)) (x::r))=([47]:List UInt8))=false:=by simp [hx]
   rw [e2];simp [lQ,hx,av]
theorem TB (s:List UInt8):mH s=some (!gV s):=by unfold mH;rw [Xh];rfl
theorem OB {l:List (List UInt8)}{f:List UInt8->Option Bool}{q:List UInt8->Bool}(hf: ∀s,f s=some (q s))(hl:l.length<2^60):et l f=some (l.any q):=by
 obtain ⟨r,e,hr⟩: ∃r,Loop (eK l f) 0=some r/\((r= .inl ()/\l.any q=false)\/((∃k:Nat,r= .inr (k:Int))/\l.any q=true)):=by
  refine aO.count (λk=>(k:Int)) l.length (λk=>(l.take k).any q=false) rfl rfl (λk hk hp=> ?_) (λhp=> ?_)
  ·unfold eK;rw [if_pos (by omega),ba hk,hf,av];cases hq:q l[k] with
   |true=>simp only [if_true];exact .mk (.inr ⟨⟨k,rfl⟩,List.any_eq_true.2 ⟨_,List.getElem_mem hk,hq⟩⟩)
   |false=>simp only [c9,if_false];rw [wrap64 (by omega) (by omega)];refine .mk ⟨by omega,?_⟩;rw [take_succ hk,List.any_append,hp];simp [hq]
  ·unfold eK;rw [if_neg (by omega)];rw [aar] at hp;exact .mk (.inl ⟨rfl,hp⟩)
 unfold et iw;rw [e];rcases hr with ⟨rfl,h⟩|⟨⟨k,rfl⟩,h⟩<;>simp only [av,h]
 ·rfl
 ·simp
theorem aeN (l:List (List UInt8)):(!l.any λs=>!gV s)=l.all gV:=by
 induction l with
 |nil=>rfl
 |cons a l ih=>simp only [List.any_cons,List.all_cons,Bool.not_or,Bool.not_not,ih]
theorem Kf (p:List UInt8):iN p=some (if lQ p&&decide (p.length<=100) then (aH p,decide ((aH p).length<=8)&&(aH p).all gV) else ([],false)):=by
 unfold iN;rw [OA,av];cases ha:lQ p with
 |false=>simp [av]
 |true=>
  simp only [if_true,aaJ,c9,if_false,av,aaq];by_cases hl:p.length<=100
  ·have e1:decide ((100:Int)<(p.length:Int))=false:=decide_eq_false (by omega);rw [e1];simp only [c9,if_false,hl,decide_true,if_true];cases p with
   |nil=>simp [lQ] at ha
   |cons x r=>
    have hx:x=47:=by simpa [lQ] using ha
    subst hx;simp only [OF,aaF,aH];by_cases hr:r=[]
    ·subst hr;simp
    ·have hr': ¬(47::r:List UInt8)=[47]:=by simp [hr]
     rw [if_neg hr,if_neg hr'];have hlen:=yK (c:=47) r;have BH:r.length<=99:=by simpa using hl
     unfold NH;rw [Nat.ble_eq_true_of_le (by omega:r.length<=4294967280)];simp only [cond_true,av];by_cases h8:(ct 47 r).length<=8
     ·rw [if_pos (by omega),OB TB (by omega)];simp only [av,aeN,h8,decide_true,aaq]
     ·rw [if_neg (by omega)];simp only [av,h8,decide_false,Bool.false_and]
  ·have e1:decide ((100:Int)<(p.length:Int))=true:=decide_eq_true (by omega);rw [e1];simp [hl]
theorem xi (p:List UInt8):kE p=some (bA p):=by
 unfold kE;rw [Kf,av];unfold bA;split
 ·rename_i h;rw [h];rfl
 ·rename_i h;rw [Bool.not_eq_true] at h;rw [h];rfl
theorem Rf (p:List UInt8):qm p=some (if bA p then (aH p,0) else ([],13)):=by
 unfold qm;rw [Kf,av];unfold bA;cases lQ p&&decide (p.length<=100) with
 |false=>simp
 |true=>simp only [if_true,aaq];cases decide ((aH p).length<=8)&&(aH p).all gV<;>simp
theorem abw {R:Type}(b:UInt8)(K:List UInt8->Option R):KS [(b.toNat:Int)] K=K [b]:=by unfold KS;simp [isByte]
theorem MI (p:List UInt8)(hl:p.length<=1000):Bf p=some (if lQ p then aH p else [],lQ p):=by
 unfold Bf;cases p with
 |nil=>simp [lQ,av]
 |cons x r=>
  have dG: ¬(((x::r).length:Int)=0):=by simp;omega
  have dY:(0:Int)<((x::r).length:Int):=by simp
  rw [if_neg dG,if_pos ⟨by decide,dY⟩,av];have XY:((x::r:List UInt8).getD (BY 0) 0)=x:=rfl;rw [XY];by_cases hx:x=47;rotate_left
  ·have hx': ¬((x.toNat:Int)=47):=by intro e;apply hx;apply aas.1;show x.toNat=47;omega
   simp [hx',lQ,hx]
  subst hx;have e0:(!decide ((((47:UInt8).toNat:Nat):Int)=47))=false:=by decide
  rw [e0];simp only [c9,if_false];have Tx:lQ (47::r)=true:=by simp [lQ]
  rw [Tx];simp only [if_true,aH];by_cases hr:r=[]
  ·subst hr;simp
  have hr': ¬(47::r:List UInt8)=[47]:=by simp [hr]
  rw [if_neg hr',if_neg hr'];have BH:r.length<=999:=by simpa using hl
  have cw:Loop (wD (47::r)) (([]:List (List UInt8)),([]:List UInt8),1)=some ((ct 47 r).dropLast,(ct 47 r).getLastD []):=by
   refine aO.eq (aO.count (λk=>((ct 47 (r.take k)).dropLast,(ct 47 (r.take k)).getLastD [],((k+1:Nat):Int))) r.length (λ_=>True) rfl trivial (λk hk _=> ?_) (λ_=> ?_))
   ·unfold wD;dsimp only;have vZ:(0:Int)<=((k+1:Nat):Int)/\((k+1:Nat):Int)<(((47:UInt8)::r).length:Int):=by simp;omega
    rw [if_pos vZ.2,if_pos vZ];have na:((47::r:List UInt8).getD (BY ((k+1:Nat):Int)) 0)=r[k]:=by rw [Int.toNat_natCast,List.getD_eq_getElem?_getD,List.getElem?_cons_succ,List.getElem?_eq_getElem hk];rfl
    rw [na,wrap64 (by omega) (by omega)];have hsn:=TA (c:=47) (r.take k) r[k];rw [<-take_succ hk] at hsn;have amB:=yK (c:=47) (r.take k);have auk:(r.take k).length<=999:=by rw [List.length_take];omega
    have aqe:=s9 (c:=47) (r.take k);have LQ:(ct 47 (r.take k)).dropLast++[(ct 47 (r.take k)).getLastD []]=ct 47 (r.take k):=by exact pI aqe
    by_cases hc:r[k]=47
    ·have hc':((r[k].toNat:Nat):Int)=47:=by rw [hc];rfl
     rw [if_pos hc',if_pos (by simp only [No,IN,IT];omega),av];rw [if_pos hc] at hsn;refine .mk ⟨?_,trivial⟩;rw [LQ,hsn];simp [AI]
    ·have hc': ¬((r[k].toNat:Nat):Int)=47:=by intro e;apply hc;apply aas.1;show r[k].toNat=47;omega
     have hle:((ct 47 (r.take k)).getLastD []).length<=999:=by have:=Re (c:=47) (r.take k) ((ct 47 (r.take k)).getLastD []) (by rw [<-LQ];simp);omega
     rw [if_neg hc',if_pos vZ,abw,if_pos (by simp only [IN,IT];omega),av];rw [if_neg hc] at hsn;refine .mk ⟨?_,trivial⟩;rw [hsn];simp [AI]
   ·unfold wD;dsimp only;rw [if_neg (by simp),aar];exact .mk rfl
  rw [cw,av];have amB:=yK (c:=47) r;rw [if_pos (by simp only [No,IN,IT];omega)];have LQ:(ct 47 r).dropLast++[(ct 47 r).getLastD []]=ct 47 r:=by exact pI (s9 r)
  rw [LQ];rfl
end Dn.S
