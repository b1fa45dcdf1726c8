import Derived.Test.YtmdlghpieagfhaaGreatDnPCalm2
/-
  SlotAgree. Conditions: none.
-/
set_option linter.unusedVariables false
set_option linter.unusedSimpArgs false
open Bool renaming false_eq_true→cM,not_true→sh
open Nat renaming zero_le→AI
open Option.some renaming inj→AT
open Go Dn
namespace Dn.S
theorem RN {F T:Nat}{s:ae}{bad:List Bool}{want:List (List UInt8)}{g:Gh}{c:aj}{k:Nat}(h:sb F T s bad want g c k)(Ud:bad.length<=30){EU:Bool}{value:List UInt8}(hv:EU=true->g.L value):aL (qH c EU value) λr=>r.1=true/\(r.2.1=true->g.L r.2.2):=by
 have hlen:=h.inv.len;have hB:=h.inv.bY;unfold qH;refine aL.bd (P:=λw=> ∃p:Bool×List UInt8,w= .inl p/\(p.1=true->g.L p.2)) ?_ ?_
 ·refine aL.loop (λst=> ∃i:Nat,st.2.2=(i:Int)/\i<=c.N.length/\(st.1=true->g.L st.2.1)) (λst=>c.N.length-st.2.2.toNat) ⟨0,rfl,AI _,hv⟩ ?_;rintro ⟨hd,val,n⟩ ⟨i,rfl,hi,rF⟩;unfold ya;dsimp only at rF⊢;by_cases cT:(i:Int)<(c.N.length:Int);rotate_left
  ·rw [if_neg cT];exact .mk ⟨_,rfl,rF⟩
  have hil:i<c.N.length:=by omega
  rw [if_pos cT,RM hil (by rw [hB];exact hlen),au,wrap64 (by omega) (by omega)];by_cases hl:c.bY[i]? =some false/\c.N[i].L.bQ=true
  ·rw [if_pos hl];have hg:=h.say.Hf hB hil hl;dsimp only;have hq:(if true=true then if hd=true then some (!decide (c.N[i].L.Value=val)) else some false else some false:Option Bool)=some false:=by
    cases hd with
    |false=>rfl
    |true=>simp only [if_true];rw [decide_eq_true (h.say.one hg (rF rfl))];rfl
   rw [hq,au,if_neg (by simp),if_pos rfl,au];exact .mk ⟨⟨i+1,by simp,by omega,λ_=>hg⟩,by simp only;omega⟩
  ·rw [if_neg hl];dsimp only;rw [if_neg (by simp),au,if_neg (by simp),if_neg (by simp),au];exact .mk ⟨⟨i+1,by simp,by omega,rF⟩,by simp only;omega⟩
 ·rintro w ⟨p,rfl,hp⟩;exact .mk ⟨rfl,hp⟩
theorem LD (a:na)(a1:List dz):qZ a a1=some true:=by
 unfold qZ;rw [aeM];obtain ⟨b,e,hb⟩:=T6 a a1;rw [e,au];cases b with
 |false=>simp
 |true=>
 have hc:=hb rfl;simp only [sh,cM,if_false,au];obtain ⟨r,er,h1,_⟩:=M3 a.S a.bY a.Want hc.bad hc.want;obtain ⟨r',er',aeW⟩:=aeT a.S a.bY a.Want hc.bad hc.want;rw [er] at er';obtain rfl:=AT er';rw [er,au];by_cases c5:r.2=0;rotate_left
 ·simp [c5]
 obtain ⟨hs,hn,hw,hws,hr⟩:=h1 c5;have aeW:=aeW c5;have h80:=hc.len;simp only [c5,decide_true,sh,cM,if_false];rw [hr];have Xl:=(dB a.S).1 hs;obtain ⟨F,hF⟩: ∃F:Nat,a.S.F=F:=⟨a.S.F.toNat,by omega⟩
 obtain ⟨T,hT⟩: ∃T:Nat,a.S.T=T:=⟨a.S.T.toNat,by omega⟩
 have tT:sb F T a.S a.bY a.Want noG (uU a.S a.bY a.Want) 0:=⟨aeN hs hn,anb hF hT hs hn (by omega)⟩
 refine aL.eq (aL.bd (P:=λr=> ∃(c:aj) (k:Nat) (g:Gh) (hd:Bool) (val:List UInt8),k<=80/\r= .inl (c.S.F,c.S.T,c.bY,c.Want,c.N,c.aV,hd,val)/\sb F T a.S a.bY a.Want g c k/\(hd=true->g.L val)) ?_ ?_)
 ·refine aL.loop (λst=> ∃(c:aj) (k:Nat) (g:Gh) (hd:Bool) (val:List UInt8),k<=a1.length/\st=(c.S.F,c.S.T,c.bY,c.Want,c.N,c.aV,hd,val,(k:Int))/\sb F T a.S a.bY a.Want g c k/\(hd=true->g.L val)) (λst=>a1.length-(st.2.2.2.2.2.2.2.2).toNat) ⟨uU a.S a.bY a.Want,0,noG,false,[],AI _,rfl,tT,λh=>by cases h⟩ ?_;rintro st ⟨c,k,g,hd,val,hk,rfl,hI,rF⟩;unfold sm;simp only [eS];by_cases cT:k<a1.length;rotate_left
  ·rw [if_neg (by omega)];exact .mk ⟨c,k,g,hd,val,by omega,rfl,hI,rF⟩
  rw [if_pos (by omega),bA cT];obtain ⟨c',ec,hI',g',YC,hG'⟩:=aiH hF hT hn hI.inv (by omega) hc.bad hw hI.say (hc.arP _ (List.getElem_mem cT));have hH':sb F T a.S a.bY a.Want g' c' (k+1):=⟨hI',hG'⟩
  obtain ⟨q,eq',hq1,hq2⟩:=RN hH' hc.bad (EU:=hd) (value:=val) λh=>YC.L _ (rF h);rw [ec,au,eq',au,hq1,if_neg (by simp),wrap64 (by omega) (by omega)];exact .mk ⟨⟨c',k+1,g',q.2.1,q.2.2,cT,rfl,hH',hq2⟩,by simp only;omega⟩
 ·rintro r ⟨c,k,g,hd,val,hk,rfl,hI,rF⟩;simp only [eS];obtain ⟨c',ec,k',g',YC,hH'⟩:=aiL hF hT hs hn hc.bad hw (by omega) hI;obtain ⟨q,eq',hq1,hq2⟩:=RN hH' hc.bad (EU:=hd) (value:=val) λh=>YC.L _ (rF h);rw [ec,au,eq',au,hq1];exact .mk rfl
end Dn.S
