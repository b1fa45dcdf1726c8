import Derived.Test.YtbkodohojpchjaaGreatDoorDnPPath
/-
  Paths: their names. Conditions: none.
-/
set_option linter.unusedVariables false
set_option linter.unusedSimpArgs false
open Bool renaming false_eq_true→c8,true_and→aaa,not_true→aaG
open List renaming cons_append→sh,getLastD_eq_getLast?→AI,flatMap_cons→AS,mem_cons→AT,getLast?_cons_cons→By,length_cons→IN,length_nil→IT,length_dropLast→No,drop_succ_cons→OF,take_length→aaf,drop_zero→aaj
open Int renaming toNat→BY
open List.cons renaming injEq→IS
open UInt8 renaming toNat_inj→aai
open Go Dn
namespace Dn.S
section
variable {c:UInt8}
theorem s9 (l:List UInt8):cy c l≠[]:=by
 cases l with
 |nil=>simp [cy]
 |cons x l=>
  simp only [cy];split
  ·simp
  ·split<;>simp
theorem iW (l:List UInt8):cy c (c::l)=[]::cy c l:=by simp [cy]
theorem gG {x:UInt8}(h:x≠c)(l:List UInt8): ∃p r,cy c l=p::r/\cy c (x::l)=(x::p)::r:=by
 cases hs:cy c l with
 |nil=>exact absurd hs (s9 l)
 |cons p r=>exact ⟨p,r,rfl,by simp [cy,h,hs]⟩
theorem C6 (l:List UInt8):(cy c l).flatMap (c::·)=c::l:=by
 induction l with
 |nil=>rfl
 |cons x l ih=>
  by_cases h:x=c
  ·subst h;rw [iW,AS,ih];rfl
  ·obtain ⟨p,r,h1,h2⟩:=gG h l;rw [h2,AS];rw [h1,AS] at ih;simp only [sh,IS,true_and] at ih⊢;exact ih
theorem abK (l:List UInt8): ∀x∈cy c l,c∉x:=by
 induction l with
 |nil=>intro x hx;simp [cy] at hx;subst hx;simp
 |cons y l ih=>
  intro x hx;by_cases h:y=c
  ·subst h;rw [iW] at hx;rcases AT.1 hx with rfl|hx
   ·simp
   ·exact ih x hx
  ·obtain ⟨p,r,h1,h2⟩:=gG h l;rw [h2] at hx;rw [h1] at ih;rcases AT.1 hx with rfl|hx
   ·have:=ih p (by simp);intro hm;rcases AT.1 hm with rfl|hm
    ·exact h rfl
    ·exact this hm
   ·exact ih x (by simp [hx])
theorem XB {a:List UInt8}(ha:c∉a)(l:List UInt8):cy c (a++c::l)=a::cy c l:=by
 induction a with
 |nil=>exact iW l
 |cons x a ih=>
  have hx:x≠c:=by intro e;subst e;simp at ha
  have ha':c∉a:=λh=>ha (by simp [h]);obtain ⟨p,r,h1,h2⟩:=gG hx (a++c::l);rw [ih ha'] at h1;cases h1;exact h2
theorem TX {a:List UInt8}(ha:c∉a):cy c a=[a]:=by
 induction a with
 |nil=>rfl
 |cons x a ih=>
  have hx:x≠c:=by intro e;subst e;simp at ha
  have ha':c∉a:=λh=>ha (by simp [h]);obtain ⟨p,r,h1,h2⟩:=gG hx a;rw [ih ha'] at h1;cases h1;exact h2
theorem TY {L:List (List UInt8)}(h0:L≠[])(h: ∀x∈L,c∉x):cy c ((L.flatMap (c::·)).drop 1)=L:=by
 induction L with
 |nil=>exact absurd rfl h0
 |cons a L ih=>
  have ha:=h a (by simp);cases L with
  |nil=>simp [TX ha]
  |cons b L=>have ih:=ih (by simp) (λx hx=>h x (by simp [hx]));simp only [AS,sh,OF,aaj] at ih⊢;rw [XB ha,ih]
theorem yX (l:List UInt8):(cy c l).length<=l.length+1:=by
 induction l with
 |nil=>simp [cy]
 |cons x l ih=>
  by_cases h:x=c
  ·subst h;rw [iW];simp;exact ih
  ·obtain ⟨p,r,h1,h2⟩:=gG h l;rw [h2];rw [h1] at ih;simp at ih⊢;omega
theorem Rj (l:List UInt8): ∀x∈cy c l,x.length<=l.length:=by
 induction l with
 |nil=>intro x hx;simp [cy] at hx;subst hx;simp
 |cons y l ih=>
  intro x hx;by_cases h:y=c
  ·subst h;rw [iW] at hx;rcases AT.1 hx with rfl|hx
   ·simp
   ·have:=ih x hx;simp;omega
  ·obtain ⟨p,r,h1,h2⟩:=gG h l;rw [h2] at hx;rw [h1] at ih;rcases AT.1 hx with rfl|hx
   ·have:=ih p (by simp);simp;omega
   ·have:=ih x (by simp [hx]);simp;omega
theorem TZ (l:List UInt8)(x:UInt8):cy c (l++[x])=if x=c then cy c l++[[]] else (cy c l).dropLast++[(cy c l).getLastD []++[x]]:=by
 induction l with
 |nil=>by_cases h:x=c<;>simp [cy,h]
 |cons y l ih=>
  rw [sh];by_cases hy:y=c
  ·subst hy;rw [iW,iW,ih];split
   ·rfl
   ·cases hs:cy y l with
    |nil=>exact absurd hs (s9 l)
    |cons p r=>simp [List.dropLast,List.getLastD,By]
  ·obtain ⟨p,r,h1,h2⟩:=gG hy l;obtain ⟨p',r',h3,h4⟩:=gG hy (l++[x]);rw [h4,h2];rw [ih,h1] at h3;split
   ·rename_i hx;rw [if_pos hx] at h3;simp only [sh,IS] at h3;rw [<-h3.1,<-h3.2];rfl
   ·rename_i hx;rw [if_neg hx] at h3;cases r with
    |nil=>simp at h3;rw [h3.2,<-h3.1];rfl
    |cons q r=>simp only [List.dropLast_cons_cons,sh,IS] at h3;rw [<-h3.1,<-h3.2];simp [List.getLastD,By]
end
theorem pL {α:Type}{l:List (List α)}(h:l≠[]):l.dropLast++[l.getLastD []]=l:=by rw [AI,List.getLast?_eq_some_getLast h];exact List.dropLast_concat_getLast h
def aE (p:List UInt8):List (List UInt8):=if p=[47] then [] else cy 47 (p.drop 1)
def lP (p:List UInt8):Bool:=decide (p.head? =some 47)
def bn (p:List UInt8):Bool:=(lP p&&decide (p.length<=100))&&(decide ((aE p).length<=8)&&(aE p).all gX)
theorem OE (p:List UInt8):jk p ([47]:List UInt8)=some (if lP p then (p.drop 1,true) else (p,false)):=by
 unfold jk iY iX;simp only [GC];cases p with
 |nil=>simp [lP,bd]
 |cons x r=>
  have e1:(([47]:List UInt8).length:Int)<=((x::r).length:Int):=by simp;omega
  rw [if_pos e1,if_pos ⟨by decide,by decide,e1⟩,al];by_cases hx:x=47
  ·subst hx;have e2:decide (List.drop (BY 0) (List.take (BY (([47]:List UInt8).length:Int)) (47::r))=([47]:List UInt8))=true:=by simp
   rw [e2];simp only [aaG,c8,if_false];rw [if_pos ⟨by decide,e1,Int.le_refl _⟩,al];simp [lP]
  ·have e2:decide (List.drop (BY 0) (List.take (BY (([47]:List UInt8).length:Int)) (x::r))=([47]:List UInt8))=false:=by simp [hx]
   rw [e2];simp [lP,hx,al]
theorem T0 (s:List UInt8):mK s=some (!gX s):=by unfold mK;rw [XA];rfl
theorem OG {l:List (List UInt8)}{f:List UInt8->Option Bool}{q:List UInt8->Bool}(hf: ∀s,f s=some (q s))(hl:l.length<2^60):et l f=some (l.any q):=by
 obtain ⟨r,e,hr⟩: ∃r,Loop (eL l f) 0=some r/\((r= .inl ()/\l.any q=false)\/((∃k:Nat,r= .inr (k:Int))/\l.any q=true)):=by
  refine aM.count (λk=>(k:Int)) l.length (λk=>(l.take k).any q=false) rfl rfl (λk hk hp=> ?_) (λhp=> ?_)
  ·unfold eL;rw [if_pos (by omega),aP hk,hf,al];cases hq:q l[k] with
   |true=>simp only [if_true];exact .mk (.inr ⟨⟨k,rfl⟩,List.any_eq_true.2 ⟨_,List.getElem_mem hk,hq⟩⟩)
   |false=>simp only [c8,if_false];rw [wrap64 (by omega) (by omega)];refine .mk ⟨by omega,?_⟩;rw [take_succ hk,List.any_append,hp];simp [hq]
  ·unfold eL;rw [if_neg (by omega)];rw [aaf] at hp;exact .mk (.inl ⟨rfl,hp⟩)
 unfold et iv;rw [e];rcases hr with ⟨rfl,h⟩|⟨⟨k,rfl⟩,h⟩<;>simp only [al,h]
 ·rfl
 ·simp
theorem aeY (l:List (List UInt8)):(!l.any λs=>!gX s)=l.all gX:=by
 induction l with
 |nil=>rfl
 |cons a l ih=>simp only [List.any_cons,List.all_cons,Bool.not_or,Bool.not_not,ih]
theorem Ka (p:List UInt8):iO p=some (if lP p&&decide (p.length<=100) then (aE p,decide ((aE p).length<=8)&&(aE p).all gX) else ([],false)):=by
 unfold iO;rw [OE,al];cases ha:lP p with
 |false=>simp [al]
 |true=>
  simp only [if_true,aaG,c8,if_false,al,aaa];by_cases hl:p.length<=100
  ·have e1:decide ((100:Int)<(p.length:Int))=false:=decide_eq_false (by omega);rw [e1];simp only [c8,if_false,hl,decide_true,if_true];cases p with
   |nil=>simp [lP] at ha
   |cons x r=>
    have hx:x=47:=by simpa [lP] using ha
    subst hx;simp only [OF,aaj,aE];by_cases hr:r=[]
    ·subst hr;simp
    ·have hr': ¬(47::r:List UInt8)=[47]:=by simp [hr]
     rw [if_neg hr,if_neg hr'];have hlen:=yX (c:=47) r;have B0:r.length<=99:=by simpa using hl
     unfold NP;rw [Nat.ble_eq_true_of_le (by omega:r.length<=4294967280)];simp only [cond_true,al];by_cases h8:(cy 47 r).length<=8
     ·rw [if_pos (by omega),OG T0 (by omega)];simp only [al,aeY,h8,decide_true,aaa]
     ·rw [if_neg (by omega)];simp only [al,h8,decide_false,Bool.false_and]
  ·have e1:decide ((100:Int)<(p.length:Int))=true:=decide_eq_true (by omega);rw [e1];simp [hl]
theorem xt (p:List UInt8):kq p=some (bn p):=by
 unfold kq;rw [Ka,al];unfold bn;split
 ·rename_i h;rw [h];rfl
 ·rename_i h;rw [Bool.not_eq_true] at h;rw [h];rfl
theorem Rk (p:List UInt8):qm p=some (if bn p then (aE p,0) else ([],13)):=by
 unfold qm;rw [Ka,al];unfold bn;cases lP p&&decide (p.length<=100) with
 |false=>simp
 |true=>simp only [if_true,aaa];cases decide ((aE p).length<=8)&&(aE p).all gX<;>simp
theorem abL {R:Type}(b:UInt8)(K:List UInt8->Option R):KS [(b.toNat:Int)] K=K [b]:=by unfold KS;simp [isByte]
theorem MR (p:List UInt8)(hl:p.length<=1000):Bt p=some (if lP p then aE p else [],lP p):=by
 unfold Bt;cases p with
 |nil=>simp [lP,al]
 |cons x r=>
  have dG: ¬(((x::r).length:Int)=0):=by simp;omega
  have dK:(0:Int)<((x::r).length:Int):=by simp
  rw [if_neg dG,if_pos ⟨by decide,dK⟩,al];have Yf:((x::r:List UInt8).getD (BY 0) 0)=x:=rfl;rw [Yf];by_cases hx:x=47;rotate_left
  ·have hx': ¬((x.toNat:Int)=47):=by intro e;apply hx;apply aai.1;show x.toNat=47;omega
   simp [hx',lP,hx]
  subst hx;have e0:(!decide ((((47:UInt8).toNat:Nat):Int)=47))=false:=by decide
  rw [e0];simp only [c8,if_false];have TW:lP (47::r)=true:=by simp [lP]
  rw [TW];simp only [if_true,aE];by_cases hr:r=[]
  ·subst hr;simp
  have hr': ¬(47::r:List UInt8)=[47]:=by simp [hr]
  rw [if_neg hr',if_neg hr'];have B0:r.length<=999:=by simpa using hl
  have cV:Loop (wL (47::r)) (([]:List (List UInt8)),([]:List UInt8),1)=some ((cy 47 r).dropLast,(cy 47 r).getLastD []):=by
   refine aM.eq (aM.count (λk=>((cy 47 (r.take k)).dropLast,(cy 47 (r.take k)).getLastD [],((k+1:Nat):Int))) r.length (λ_=>True) rfl trivial (λk hk _=> ?_) (λ_=> ?_))
   ·unfold wL;dsimp only;have wj:(0:Int)<=((k+1:Nat):Int)/\((k+1:Nat):Int)<(((47:UInt8)::r).length:Int):=by simp;omega
    rw [if_pos wj.2,if_pos wj];have lX:((47::r:List UInt8).getD (BY ((k+1:Nat):Int)) 0)=r[k]:=by rw [Int.toNat_natCast,List.getD_eq_getElem?_getD,List.getElem?_cons_succ,List.getElem?_eq_getElem hk];rfl
    rw [lX,wrap64 (by omega) (by omega)];have hsn:=TZ (c:=47) (r.take k) r[k];rw [<-take_succ hk] at hsn;have amT:=yX (c:=47) (r.take k);have auz:(r.take k).length<=999:=by rw [List.length_take];omega
    have aqy:=s9 (c:=47) (r.take k);have LW:(cy 47 (r.take k)).dropLast++[(cy 47 (r.take k)).getLastD []]=cy 47 (r.take k):=by exact pL aqy
    by_cases hc:r[k]=47
    ·have hc':((r[k].toNat:Nat):Int)=47:=by rw [hc];rfl
     rw [if_pos hc',if_pos (by simp only [No,IN,IT];omega),al];rw [if_pos hc] at hsn;refine .mk ⟨?_,trivial⟩;rw [LW,hsn];simp [AI]
    ·have hc': ¬((r[k].toNat:Nat):Int)=47:=by intro e;apply hc;apply aai.1;show r[k].toNat=47;omega
     have hle:((cy 47 (r.take k)).getLastD []).length<=999:=by have:=Rj (c:=47) (r.take k) ((cy 47 (r.take k)).getLastD []) (by rw [<-LW];simp);omega
     rw [if_neg hc',if_pos wj,abL,if_pos (by simp only [IN,IT];omega),al];rw [if_neg hc] at hsn;refine .mk ⟨?_,trivial⟩;rw [hsn];simp [AI]
   ·unfold wL;dsimp only;rw [if_neg (by simp),aaf];exact .mk rfl
  rw [cV,al];have amT:=yX (c:=47) r;rw [if_pos (by simp only [No,IN,IT];omega)];have LW:(cy 47 r).dropLast++[(cy 47 r).getLastD []]=cy 47 r:=by exact pL (s9 r)
  rw [LW];rfl
end Dn.S
