import Derived.Test.YtmdlghpieagfhaaGreatDnPAcc7
import Derived.Test.YtmdlghpieagfhaaGreatDnPLearn4
/-
  Nodes: what they come to, as the document says. Conditions: none.
-/
set_option linter.unusedVariables false
set_option linter.unusedSimpArgs false
open List renaming length_take→fj,length_singleton→sh,getElem_mem→AT,take_length→BY,mem_iff_getElem→IN,drop_append_of_le_length→IS,mem_singleton→IT,length_append→No,length_drop→aav,pairwise_append→aay,mem_append→aaJ
open Bool renaming false_eq_true→AI,not_true→OF,not_false→aaH,not_eq_true'→aaI
open Go Dn
namespace Dn.S
def yO (n:aD):cC:=⟨sr n.A,Ez n.L,n.cy,n.fh⟩
def z6 (m:aw):bF:=⟨m.Kind,m.dU,m.View,m.Value,m.dX,m.fM,m.Proof,m.R⟩
theorem EA (n:aD):Ba n=some (yO n):=rfl
theorem Qd (m:aw):Fk m=some (z6 m):=rfl
theorem II (s:ak):lM s=some (vF s):=rfl
theorem IJ {r:ae}(h:r.Proof.length<2^60):zr r r=some true:=by unfold zr;simp [pi _ _ h]
theorem z7 {L:List ae}(hl:L.length<2^60)(h: ∀r∈L,r.Proof.length<2^60):qx L L=some true:=by
 unfold qx;rw [decide_eq_true rfl,if_neg (by simp)];have:Loop (uZ L L) 0=some (.inl ()):=by
  refine Tr (λk=>(k:Int)) L.length _ (λk hk=> ?_) ?_
  ·unfold uZ;rw [if_pos (by omega),bP hk,bP hk,IJ (h _ (AT hk)),ar];simp only [OF,AI,if_false];rw [wrap64 (by omega) (by omega)];congr 2
  ·unfold uZ;rw [if_neg (by omega)]
 rw [this];rfl
structure M0 (m:aw):Prop where
 jE:m.dX.length<2^32
 afr: ∀r∈m.dX,r.Proof.length<2^32
 proof:m.Proof.length<2^32
 r:m.R.Proof.length<2^32
theorem Va {m:aw}(h:M0 m):Fl (z6 m) (z6 m)=some true:=by
 unfold Fl;have h1:=h.jE;have h2:=h.proof;have h3:=h.r;have e1:qx (z6 m).dX (z6 m).dX=some true:=z7 (by simp only [z6];omega) (λr hr=>by have:=h.afr r hr;omega);have e2:lB (z6 m).Proof (z6 m).Proof=some true:=by rw [pi _ _ (by simp only [z6];omega)];simp
 have e3:zr (z6 m).R (z6 m).R=some true:=IJ (by simp only [z6];omega);simp [e1,e2,e3]
theorem ahY {L:List aw}(hl:L.length<=1000):Bh L=some (L.map z6):=by
 unfold Bh;have:Loop (vd L) (([]:List bF),0)=some (L.map z6):=by
  refine bD.eq (bD.count (λk=>((L.take k).map z6,(k:Int))) L.length (λ_=>True) (by simp) trivial (λk hk _=> ?_) (λ_=> ?_))
  ·unfold vd;have hlen:((L.take k).map z6).length<=1000:=by rw [List.length_map,fj];omega
   simp only [Qd,ar];rw [if_pos (by omega),bP hk,if_pos (by rw [sh];omega),wrap64 (by omega) (by omega)];refine .mk ⟨?_,trivial⟩;rw [Of z6 hk];rfl
  ·unfold vd;simp only;rw [if_neg (by omega),BY];exact .mk rfl
 rw [this];rfl
theorem Xh {L:List aw}(hl:L.length<=1000)(h: ∀m∈L,M0 m):yt (L.map z6) (L.map z6)=some true:=by
 unfold yt;rw [decide_eq_true rfl,if_neg (by simp)];have:Loop (sS (L.map z6) (L.map z6)) 0=some (.inl ()):=by
  refine Tr (λk=>(k:Int)) (L.map z6).length _ (λk hk=> ?_) ?_
  ·unfold sS;have OC:k<L.length:=by simpa using hk
   rw [if_pos (by omega),bP hk,bP hk,List.getElem_map,Va (h _ (AT OC)),ar];simp only [OF,AI,if_false];rw [wrap64 (by omega) (by omega)];congr 2
  ·unfold sS;rw [if_neg (by omega)]
 rw [this];rfl
abbrev rk (r:ae):Int:=r.By
structure kV (s:ak) (i:Int) (n:aD) (k:Nat):Prop where
 acc:iZ n.A
 GL:n.A.S=s
 yP:n.A.Me=i
 iv:kJ n.L
 xH:n.L.S=s
 inc:pg rk n.cy
 small: ∀r∈n.cy,r.Proof.length<=100
 len:n.cy.length<=k
theorem kV.sz {s:ak}{i:Int}{n:aD}{k:Nat}(h:kV s i n k):cR s:=by have:=h.acc.sz;rw [h.GL] at this;exact this
theorem kV.mono {s:ak}{i:Int}{n:aD} {k k':Nat}(h:kV s i n k)(hk:k<=k'):kV s i n k':=⟨h.acc,h.GL,h.yP,h.iv,h.xH,h.inc,h.small,by have:=h.len;omega⟩
theorem iZ.few {a:aj}(h:iZ a):a.bI.L.length<2^31:=ue h.sz (s:=a.S) (last:=a.View) ⟨λe he=>⟨(h.all e he).1,by have:=(h.all e he).2;omega⟩,h.tG⟩
theorem kJ.few {l:aq}(h:kJ l):l.aO.L.length<2^31/\l.aP.L.length<2^31/\l.Told.L.length<2^31:=⟨ue h.sz h.acc,ue h.sz h.com,ue h.sz h.told⟩
theorem kJ.ayZ {l:aq}(h:kJ l):asZ l:=by obtain ⟨h1,h2,h3⟩:=h.few;exact ⟨by omega,by omega,by omega⟩
theorem M1 {s:ak}{i:Int}{n:aD}{k:Nat}(h:kV s i n k)(hk:k<=1000):pv (yO n) (yO n)=some true:=by
 unfold pv;have h1:=h.acc.few;have h2:=h.acc.MR.proof.len;have h3:=h.len;have e1:qw (yO n).A (yO n).A=some true:=by show qw (sr n.A) (sr n.A)=some true;rw [My _ _ (by simp only [sr];omega) (by simp only [sr];omega)];simp
 have e2:sM (yO n).L (yO n).L=some true:=IH h.iv.ayZ;have e3:qx (yO n).cy (yO n).cy=some true:=z7 (by simp only [yO];omega) (λr hr=>by have:=h.small r hr;omega);simp [e1,e2,e3]
def nR (s:ak)(v:Int):Int:=Int.tmod (imax v 0) (tF s)
theorem nK {s:ak}(h:cR s)(v:Int):kQ s v=some (nR s v):=by unfold kQ nR tF;have hso:=(eZ s).1 h;rw [vE h,ar,if_pos (by rw [aaI,decide_eq_false_iff_not];omega)]
theorem lk {s:ak}(h:cR s)(v:Int):o9 (vF s) v=some (nR s v):=by unfold o9 nR tF;have hso:=(eZ s).1 h;rw [uc h,ar,if_pos (by rw [aaI,decide_eq_false_iff_not];omega)]
theorem amn {L:List ae}(h:pg rk L)(a:ae)(hn:mF rk L (rk a)=false):pg rk (Mr rk L a):=by
 obtain ⟨h1,h2⟩:=h.lb (rk a);unfold Mr pg;rw [aay,aay];have ht: ∀x∈L.take (gX rk L (rk a)),rk x<rk a:=by intro x hx;obtain ⟨k,hk,rfl⟩:=IN.1 hx;rw [fj] at hk;rw [List.getElem_take];exact h1 k (by omega) (by omega)
 have hd: ∀x∈L.drop (gX rk L (rk a)),rk a<rk x:=by
  intro x hx;obtain ⟨k,hk,rfl⟩:=IN.1 hx;rw [aav] at hk;rw [List.getElem_drop];have g:=h2 (gX rk L (rk a)+k) (by omega) (by omega);have eu:rk L[gX rk L (rk a)+k]≠rk a:=by intro he;have:mF rk L (rk a)=true:=vC.2 ⟨_,AT _,he⟩;rw [hn] at this;cases this
  omega
 refine ⟨⟨h.sublist (List.take_sublist _ _),List.pairwise_singleton _ _,λx hx y hy=> ?_⟩,h.sublist (List.drop_sublist _ _),λx hx y hy=> ?_⟩
 ·simp only [IT] at hy;subst hy;exact ht x hx
 ·have hy:=hd y hy;rcases aaJ.1 hx with hx|hx
  ·have:=ht x hx;omega
  ·simp only [IT] at hx;subst hx;exact hy
theorem amo {L:List ae}{a x:ae}(h:x∈Mr rk L a):x=a\/x∈L:=by
 unfold Mr at h;simp only [aaJ,IT] at h;rcases h with (h|h)|h
 ·exact .inr (List.mem_of_mem_take h)
 ·exact .inl h
 ·exact .inr (List.mem_of_mem_drop h)
theorem amp (L:List ae)(a:ae):(Mr rk L a).length=L.length+1:=by have:=xF (key:=rk) L (rk a);unfold Mr;simp only [No,fj,aav,List.length_cons,List.length_nil];omega
def Vb (n:aD)(r:ae)(ok:Bool):List ae:=if ok=true/\mF rk n.cy r.By=false then Mr rk n.cy r else n.cy
theorem aft {L:List ae}{s:Int}(hs:pg rk L)(hl:L.length<2^60):da L s ga=some ((gX rk L s:Int),mF rk L s):=by have:da L s ga=bsearch L s ga:=rfl;rw [this];exact Mq hs hl λa=>by unfold ga;rw [Mv];rfl
theorem ahZ {n:aD}{r:ae}(hs:pg rk n.cy)(hl:n.cy.length<=1000): Loop (yl (yO n) r) (([]:List ae),false,0)=some (if mF rk n.cy r.By=true then .inr n.cy else .inl (if gX rk n.cy r.By<n.cy.length then Mr rk n.cy r else n.cy,decide (gX rk n.cy r.By<n.cy.length))):=by
 obtain ⟨h1,h2⟩:=hs.lb r.By;have hle:=xF (key:=rk) n.cy r.By;have eG:(yO n).cy=n.cy:=rfl;refine bD.eq (bD.count (λk=>(if k<=gX rk n.cy r.By then n.cy.take k else n.cy.take (gX rk n.cy r.By)++[r]++(n.cy.take k).drop (gX rk n.cy r.By),decide (gX rk n.cy r.By<k),(k:Int))) n.cy.length (λk=> ∀j (hj:j<n.cy.length),j<k->n.cy[j].By≠r.By) (by simp) (λj _ hj=>by omega) (λk hk hp=> ?_) (λhp=> ?_))
 ·unfold yl;rw [eG];simp only;rw [if_pos (by omega),bP hk];by_cases he:n.cy[k].By=r.By
  ·rw [if_pos he];have:mF rk n.cy r.By=true:=vC.2 ⟨_,AT hk,he⟩;rw [if_pos this];exact .mk rfl
  ·rw [if_neg he];have hP: ∀j (hj:j<n.cy.length),j<k+1->n.cy[j].By≠r.By:=λj hj hjk=>by
    by_cases MD:j=k
    ·subst MD;exact he
    ·exact hp j hj (by omega)
   rw [wrap64 (by omega) (by omega)];have M6:n.cy.take (k+1)=n.cy.take k++[n.cy[k]]:=by rw [List.take_add_one,List.getElem?_eq_getElem hk];rfl
   by_cases c1:k<gX rk n.cy r.By
   ·have eE:=h1 k hk c1;rw [decide_eq_false (show¬gX rk n.cy r.By<k by omega),if_pos (show k<=gX rk n.cy r.By by omega)];simp only [aaH,if_true,bP hk,ar];rw [decide_eq_false (show¬r.By<n.cy[k].By by simp only [rk] at eE;omega)];simp only [AI,if_false,ar];rw [if_pos (by rw [sh,fj];omega)];refine .mk ⟨?_,hP⟩;rw [if_pos (by omega),M6,decide_eq_false (by omega)];rfl
   ·by_cases c2:k=gX rk n.cy r.By
    ·have SI:=h2 k hk (by omega);rw [decide_eq_false (show¬gX rk n.cy r.By<k by omega),if_pos (show k<=gX rk n.cy r.By by omega)];simp only [aaH,if_true,bP hk,ar];rw [decide_eq_true (show r.By<n.cy[k].By by simp only [rk] at SI;omega)];simp only [if_true,ar];rw [if_pos (by rw [sh,fj];omega),ar];simp only;rw [if_pos (by rw [No,sh,sh,fj];omega)];refine .mk ⟨?_,hP⟩;rw [if_neg (by omega),M6,decide_eq_true (by omega),<-c2,IS (by rw [fj];omega),List.drop_of_length_le (by rw [fj];omega)];rfl
    ·rw [decide_eq_true (show gX rk n.cy r.By<k by omega),if_neg (show¬k<=gX rk n.cy r.By by omega)];simp only [OF,AI,if_false,ar];rw [bP hk,if_pos (by simp only [No,sh,fj,aav];omega)];refine .mk ⟨?_,hP⟩;rw [if_neg (by omega),M6,decide_eq_true (by omega),IS (by rw [fj];omega),List.append_assoc (n.cy.take (gX rk n.cy r.By)++[r])];rfl
 ·unfold yl;rw [eG];simp only;rw [if_neg (by omega)];have:mF rk n.cy r.By=false:=by rw [Bool.eq_false_iff];intro hh;obtain ⟨e,he,h3⟩:=vC.1 hh;obtain ⟨j,hj,rfl⟩:=IN.1 he;exact hp j hj hj h3
  refine .mk ?_;show Sum.inl (_,_)=_;rw [this,if_neg (show¬(false=true) by simp)];by_cases c:gX rk n.cy r.By<n.cy.length
  ·rw [if_neg (show¬n.cy.length<=gX rk n.cy r.By by omega),decide_eq_true c,if_pos c,BY];rfl
  ·rw [if_pos (show n.cy.length<=gX rk n.cy r.By by omega),decide_eq_false c,if_neg c,BY]
theorem get_eq {s:ak}{i:Int}{n:aD}{k:Nat}(h:kV s i n k)(hk:k<=500){r:ae}(hr:r.Proof.length<=100): ∃ok,ou n s i r=some ((),⟨n.A,n.L,Vb n r ok,n.fh⟩)/\Fj (vF s) i (yO n) r=some (Vb n r ok):=by
 have hs:=h.sz;have hl:=h.len;obtain ⟨b,eb,eb2,_⟩:=MA s r (by omega);have hle:=xF (key:=rk) n.cy r.By;refine ⟨decide (n.A.View=r.fP)&&decide (nR s r.fP=i)&&b,?_,?_⟩
 ·unfold ou Vb;rw [aft h.inc (by omega),ar,nK hs];simp only [ar,eb];have hg:(if !(mF rk n.cy r.By) then if n.A.View=r.fP then if nR s r.fP=i then some b else some false else some false else some false:Option Bool)=some (decide ((decide (n.A.View=r.fP)&&decide (nR s r.fP=i)&&b)=true/\mF rk n.cy r.By=false)):=by cases mF rk n.cy r.By<;>by_cases c1:n.A.View=r.fP<;>by_cases c2:nR s r.fP=i<;>cases b<;>simp [c1,c2]
  rw [hg,ar];by_cases c:(decide (n.A.View=r.fP)&&decide (nR s r.fP=i)&&b)=true/\mF rk n.cy r.By=false
  ·rw [decide_eq_true c,if_pos rfl,if_pos c,pJ (by omega),ar,Ms (key:=rk) (by omega)];rfl
  ·rw [decide_eq_false c,if_neg (by simp),if_neg c];rfl
 ·unfold Fj Vb;have eV:(yO n).A.View=n.A.View:=rfl;have eG:(yO n).cy=n.cy:=rfl;rw [eV,eG,lk hs,ahZ h.inc (by omega)];simp only [ar,eb2];have hg:(if !decide (n.A.View=r.fP) then some true else if !decide (nR s r.fP=i) then some true else some (!b):Option Bool)=some (!(decide (n.A.View=r.fP)&&decide (nR s r.fP=i)&&b)):=by by_cases c1:n.A.View=r.fP<;>by_cases c2:nR s r.fP=i<;>cases b<;>simp [c1,c2]
  rw [hg,ar];cases hb:(decide (n.A.View=r.fP)&&decide (nR s r.fP=i)&&b) with
  |false=>simp
  |true=>
   simp only [OF,AI,if_false,true_and];cases hh:mF rk n.cy r.By with
   |true=>simp
   |false=>
    simp only [AI,if_false,ar,if_true];by_cases c:gX rk n.cy r.By<n.cy.length
    ·rw [decide_eq_true c,if_pos c];simp
    ·rw [decide_eq_false c,if_neg c];simp only [aaH,if_true];rw [if_pos (by rw [sh];omega)];simp only [ar];unfold Mr;rw [show gX rk n.cy (rk r)=n.cy.length by simp only [rk] at *;omega,BY,List.drop_length,List.append_nil]
theorem ah0 {s:ak}{i:Int}{n:aD}{k:Nat}(h:kV s i n k){r:ae}(hr:r.Proof.length<=100)(ok:Bool):kV s i ⟨n.A,n.L,Vb n r ok,n.fh⟩ (k+1):=by
 have hl:=h.len;unfold Vb;split
 ·rename_i hc;refine ⟨h.acc,h.GL,h.yP,h.iv,h.xH,amn h.inc r hc.2,λx hx=> ?_,by rw [amp];omega⟩;rcases amo hx with rfl|hx
  ·exact hr
  ·exact h.small x hx
 ·exact ⟨h.acc,h.GL,h.yP,h.iv,h.xH,h.inc,h.small,by simp only;omega⟩
end Dn.S
