import Derived.Test.YtmdlghpieagfhaaGreatDnPSlot12
/-
  SlotBad. Conditions: none.
-/
set_option linter.unusedVariables false
set_option linter.unusedSimpArgs false
open Bool renaming false_eq_true→eJ,not_true→AT
open List renaming getElem?_eq_getElem→sh,getElem_mem→AI
open Go Dn
namespace Dn.S
theorem ajC {a:jg}{a1:List dy}(hc:Zx a a1)(hs:cr a.S)(hw:a.Want.length=a.cQ.length){c:au}{k:Nat}(h:Inv a.S a.cQ a.Want c k)(hk:k<=a1.length): aL (rz a a1 (c.S.F,c.S.T,c.cQ,c.Want,c.N,c.bg,(k:Int))) λx=>match x with
  | .inl st=> ∃c',k<a1.length/\st=(c'.S.F,c'.S.T,c'.cQ,c'.Want,c'.N,c'.bg,((k+1:Nat):Int))/\Inv a.S a.cQ a.Want c' (k+1)
  | .inr r=>r= .inl (S6 c):=by
 have h80:=hc.len;have ZC:=hc.bad;unfold rz;simp only [eS];by_cases dO:k<a1.length;rotate_left
 ·rw [if_neg (by omega)];exact .mk rfl
 rw [if_pos (by omega),bh dO];have hy:=hc.aos _ (AI dO);generalize a1[k]=y at hy;obtain ⟨c',ec,nR⟩:=Nf h (by omega) ZC hw hy;have FV:=nR.inv.AK;have aqs:=nR.more;have qI:=VI h (by omega) ZC hw;rw [ec,ap];obtain ⟨w,ew,hw1⟩: ∃w:Bool,(if y.I<0 then some true else if (a.cQ.length:Int)<=y.I then some true else ix a.cQ y.I λy1=>some y1:Option Bool)=some w/\(w=true-> ¬(0<=y.I/\a.cQ[y.I.toNat]? =some false)):=by
  by_cases c1:y.I<0
  ·exact ⟨true,by rw [if_pos c1],λ_ h=>by omega⟩
  ·rw [if_neg c1];by_cases c2:(a.cQ.length:Int)<=y.I
   ·exact ⟨true,by rw [if_pos c2],λ_ h=>by rw [List.getElem?_eq_none (by omega)] at h;cases h.2⟩
   ·have hi:y.I.toNat<a.cQ.length:=by omega
    refine ⟨a.cQ[y.I.toNat],by rw [if_neg c2,NT (by omega) hi],λhb h=> ?_⟩;rw [sh hi,hb] at h;cases h.2
 rw [ew,ap];obtain ⟨b,eb,_⟩:=GI h.AK (λm hm=>(h.short m hm).s.r) hy.m.s;have hq:(if y.Kind=3 then bd (mV c y.M) λlz=>if !lz then bd (lR c c') λqK=>some (!qK) else if !decide (y.Kind=3) then if w then bd (lR c c') λzw=>some (!zw) else some false else some false
  else if !decide (y.Kind=3) then if w then bd (lR c c') λTG=>some (!TG) else some false else some false:Option Bool)=some false:=by
  by_cases k3:y.Kind=3
  ·rw [if_pos k3,eb,ap];cases b with
   |false=>rw [nR.sound k3 eb,qI];rfl
   |true=>simp [k3]
  ·rw [if_neg k3,decide_eq_false k3];cases w with
   |false=>rfl
   |true=>rw [nR.ZA k3 (hw1 rfl),qI];rfl
 rw [hq,ap,if_neg (by simp),if_neg (by omega),decide_eq_false (by omega),ap,if_neg (by simp),wrap64 (by omega) (by omega)];exact .mk ⟨c',dO,rfl,nR.inv⟩
theorem ajD {a:jg}{c:au}{k:Nat}(h:Inv a.S a.cQ a.Want c k):Loop (ou a (S6 c)) 0=some (.inl ()):=by
 have hp:=h.AK;refine ua (λk=>(k:Int)) c.bg.length _ (λi hi=> ?_) ?_
 ·unfold ou;simp only [S6];rw [if_pos (by omega)];have:Loop (ot a (S6 c) (i:Int)) 0=some (.inl ()):=by
   refine ua (λk=>(k:Int)) i _ (λj hj=> ?_) ?_
   ·unfold ot;simp only [S6];have EP:j<c.bg.length:=by omega
    rw [if_pos (by omega),bh hi,bh EP];have hm:=AI hi;have HE:=AI EP;generalize c.bg[i]=m at hm;generalize c.bg[j]=m' at HE;by_cases hB:m.Kind=2/\m'.Kind=2/\m.cf.By=m'.cf.By/\m.cf.View=m'.cf.View/\m.cf.Value≠m'.cf.Value
    ·obtain ⟨b1,b2,b3,b4,b5⟩:=hB;obtain ⟨r1,r2⟩:=h.range m hm b1;have aox:a.cQ[m.cf.By.toNat]=true:=by
      cases hb:a.cQ[m.cf.By.toNat] with
      |true=>rfl
      |false=>exact absurd (h.one m hm m' HE b1 b2 b3 (by rw [sh r2,hb]) b4) b5
     have hx:(if m.cf.By<0 then some true else if (a.cQ.length:Int)<=m.cf.By then some true else ix a.cQ m.cf.By λy4=>some (!y4):Option Bool)=some false:=by rw [if_neg (by omega),if_neg (by omega),NT r1 r2,aox];rfl
     rw [if_pos b1,if_pos b2,if_pos b3,if_pos b4,decide_eq_false b5,ap];simp only [Bool.not_false,if_true];rw [hx,ap,if_neg (by simp),wrap64 (by omega) (by omega)];congr 2
    ·have hx:(if m.Kind=2 then if m'.Kind=2 then if m.cf.By=m'.cf.By then if m.cf.View=m'.cf.View then some (!decide (m.cf.Value=m'.cf.Value)) else some false else some false else some false else some false:Option Bool)=some false:=by by_cases b1:m.Kind=2<;>by_cases b2:m'.Kind=2<;>by_cases b3:m.cf.By=m'.cf.By<;>by_cases b4:m.cf.View=m'.cf.View<;>by_cases b5:m.cf.Value=m'.cf.Value<;>simp [b1,b2,b3,b4,b5];exact hB ⟨b1,b2,b3,b4,b5⟩
     rw [hx,ap];simp only [eJ,if_false,ap];rw [wrap64 (by omega) (by omega)];congr 2
   ·unfold ot;rw [if_neg (by omega)]
  simp only [S6] at this;rw [this,ap];simp only;rw [wrap64 (by omega) (by omega)];congr 2
 ·unfold ou;simp only [S6];rw [if_neg (by omega)]
theorem QI (a:jg)(a1:List dy):vH a a1=some true:=by
 unfold vH;rw [abY];obtain ⟨b,e,hb⟩:=SJ a a1;rw [e,ap];cases b with
 |false=>simp
 |true=>
 have hc:=hb rfl;simp only [AT,eJ,if_false,ap];obtain ⟨r,er,h1,_⟩:=Mz a.S a.cQ a.Want hc.bad hc.want;rw [er,ap];by_cases c5:r.2=0;rotate_left
 ·simp [c5]
 obtain ⟨hs,hn,hw,hws,hr⟩:=h1 c5;have h80:=hc.len;simp only [c5,decide_true,AT,eJ,if_false];rw [hr];refine aL.eq (aL.bd (P:=λr=> ∃c k,r= .inl (S6 c)/\Inv a.S a.cQ a.Want c k) ?_ ?_)
 ·refine aL.loop (λst=> ∃(c:au) (k:Nat),k<=a1.length/\st=(c.S.F,c.S.T,c.cQ,c.Want,c.N,c.bg,(k:Int))/\Inv a.S a.cQ a.Want c k) (λst=>a1.length-(st.2.2.2.2.2.2).toNat) ⟨AG a.S a.cQ a.Want,0,Nat.zero_le _,rfl,ab0 hs hn⟩ ?_;rintro st ⟨c,k,hk,rfl,hI⟩;refine (ajC hc hs hw hI hk).imp ?_;rintro (b7|r) jn
  ·obtain ⟨c',dO,rfl,hI'⟩:=jn;exact ⟨⟨c',k+1,dO,rfl,hI'⟩,by simp only;omega⟩
  ·exact ⟨c,k,jn,hI⟩
 ·rintro r ⟨c,k,rfl,hI⟩;simp only;rw [ajD hI];exact .mk rfl
end Dn.S
