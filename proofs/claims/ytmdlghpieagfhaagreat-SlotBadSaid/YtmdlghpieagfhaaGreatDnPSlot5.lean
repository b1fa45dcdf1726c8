import Derived.Test.YtmdlghpieagfhaaGreatDnPSlot3
/-
  Slots: steps. Conditions: none.
-/
set_option linter.unusedVariables false
set_option linter.unusedSimpArgs false
open List renaming getElem?_eq_some_iff→eJ,length_singleton→AT,getElem_mem→BY,range→IS
open Bool renaming false_eq_true→sh,not_true→AI,not_false→IN
open Go Dn
namespace Dn.S
theorem abR {c:au}{l:List al}(h:c.bg.length+l.length<=400):hM c l=some ((),⟨c.S,c.cQ,c.Want,c.N,c.bg++l⟩):=by
 unfold hM;have:Loop (fg l) (0,c.S.F,c.S.T,c.cQ,c.Want,c.N,c.bg)=some (c.S.F,c.S.T,c.cQ,c.Want,c.N,c.bg++l):=by
  refine aL.eq (aL.count (λk=>((k:Int),c.S.F,c.S.T,c.cQ,c.Want,c.N,c.bg++l.take k)) l.length (λ_=>True) (by simp) trivial (λk hk _=> ?_) (λ_=> ?_))
  ·unfold fg;simp only;have hlen:(c.bg++l.take k).length=c.bg.length+k:=by rw [List.length_append,List.length_take];omega
   rw [if_pos (by omega),bh hk,if_pos (by omega)];unfold gq;rw [if_pos ⟨rfl,rfl⟩,ap,if_pos ⟨by simp,by rw [AT];omega⟩,ap,wrap64 (by omega) (by omega)];refine .mk ⟨?_,trivial⟩;rw [List.take_add_one,List.getElem?_eq_getElem hk,List.append_assoc];rfl
  ·unfold fg;simp only;rw [if_neg (by omega),List.take_length];exact .mk rfl
 rw [this];rfl
theorem put_eq {c:au}{i:Nat}(hi:i<c.N.length)(n:aq){l:List al}(h:c.bg.length+l.length<=400):gE c (i:Int) n l=some ((),⟨c.S,c.cQ,c.Want,c.N.set i n,c.bg++l⟩):=by unfold gE;rw [bh hi,Int.toNat_natCast,abR (by exact h)];rfl
theorem TX (c:au)(i:Nat)(bad b:Bool)(h:c.cQ[i]? =some b):dY c (i:Int) bad=some (decide (b=bad)):=by obtain ⟨hi,he⟩:=eJ.1 h;unfold dY;rw [if_pos (by omega),if_pos (by omega),bh hi,he,ap]
theorem EM {c:au}{i j:Nat}{n:aq}{m m0:al}{x:aq×List al}(hb:c.cQ[i]? =some false)(hn:c.N[i]? =some n)(hm:c.bg[j]? =some m)(hh:dZ c.S (i:Int) n m=some x)(hp:c.bg.length+x.2.length<=400)(hl:c.N.length<=1000): gu c ⟨0,(i:Int),(j:Int),m0⟩=some ⟨c.S,c.cQ,c.Want,c.N.set i x.1,c.bg++x.2⟩:=by obtain ⟨hi,he⟩:=eJ.1 hn;obtain ⟨hj,hej⟩:=eJ.1 hm;unfold gu;simp only [TX c i false false hb,decide_true,AI,sh,if_false,ap,show¬((0:Int)=3) by decide,if_true];rw [nL (by omega),ap,if_pos (by omega),decide_eq_true (show (j:Int)<(c.bg.length:Int) by omega)];simp only [ap,if_true];rw [bh hj,hej];unfold jN;simp only;rw [bh hi,he,hh,ap,put_eq (c:=⟨c.S,c.cQ,c.Want,c.N,c.bg⟩) hi _ hp];rfl
theorem VC {c:au}{i:Nat}{n:aq}{w:List UInt8}{m0:al}{j:Int}{x:aq×List al}(hb:c.cQ[i]? =some false)(hn:c.N[i]? =some n)(hw:c.Want[i]? =some w)(hh:iU c.S (i:Int) n w=some x)(hp:c.bg.length+x.2.length<=400)(hl:c.N.length<=1000): gu c ⟨2,(i:Int),j,m0⟩=some ⟨c.S,c.cQ,c.Want,c.N.set i x.1,c.bg++x.2⟩:=by obtain ⟨hi,he⟩:=eJ.1 hn;obtain ⟨hj,hej⟩:=eJ.1 hw;unfold gu;simp only [TX c i false false hb,decide_true,AI,sh,if_false,ap,show¬((2:Int)=3) by decide,show¬((2:Int)=0) by decide,show¬((2:Int)=1) by decide,if_true];rw [nL (by omega),ap];unfold mZ;simp only;rw [bh hi,he,bh hj,hej,hh,ap,put_eq (c:=⟨c.S,c.cQ,c.Want,c.N,c.bg⟩) hi _ hp];rfl
theorem SK {c:au}{i:Nat}{n:aq}(hb:c.cQ[i]? =some false)(hn:c.N[i]? =some n)(hd:n.L.cq=true):jL c (i:Int)=some (n.L.Value,true):=by obtain ⟨hi,he⟩:=eJ.1 hn;unfold jL;rw [TX c i false false hb];simp only [decide_true,AI,sh,if_false,ap];rw [bh hi,he,hd];simp only [AI,ap,sh,if_false];rw [bh hi,he]
def AG (s:af)(bad:List Bool)(want:List (List UInt8)):au:=⟨s,bad,want,(IS bad.length).map λ(i:Nat)=>yL s (i:Int),[]⟩
def adf (bad:List Bool)(want:List (List UInt8)):Prop:=(∀x∈bad,x=false)/\ ∀x∈want,x.length<=6000
theorem Mz (s:af)(bad:List Bool)(want:List (List UInt8))(hb:bad.length<=30)(hw:want.length<=30):aL (ud s bad want) λr=>(r.2=0->cr s/\(bad.length:Int)=uI s/\want.length=bad.length/\(∀x∈want,x.length<=6000)/\r.1=AG s bad want)/\ (cr s->(bad.length:Int)=uI s->want.length=bad.length->adf bad want->r.2=0):=by
 unfold ud;rw [nN,ap];by_cases hs:cr s;rotate_left
 ·simp only [hs,decide_false,IN,if_true,ap];exact .mk ⟨λh=>absurd h (by decide),λh=>absurd h (by simp)⟩
 rw [decide_eq_true hs];simp only [AI,sh,if_false,uH hs,ap];by_cases c1:(bad.length:Int)=3 *s.F+2 *s.T+1;rotate_left
 ·simp only [c1,decide_false,IN,if_true,ap];exact .mk ⟨λh=>absurd h (by decide),λ_ h=>absurd h c1⟩
 by_cases c2:(want.length:Int)=(bad.length:Int);rotate_left
 ·have hg:(if !decide ((bad.length:Int)=3 *s.F+2 *s.T+1) then some true else some (!decide ((want.length:Int)=(bad.length:Int))):Option Bool)=some true:=by simp [c1];rw [<-c1];exact c2
  rw [hg,ap,if_pos rfl];exact .mk ⟨λh=>absurd h (by decide),λ_ _ h=>absurd h (by omega)⟩
 have c2':want.length=bad.length:=by omega
 have hg:(if !decide ((bad.length:Int)=3 *s.F+2 *s.T+1) then some true else some (!decide ((want.length:Int)=(bad.length:Int))):Option Bool)=some false:=by simp [c1,c2]
 rw [hg,ap,if_neg (by simp),nL (by omega),ap,nL (by omega),ap];have Vl:=(ei s).1 hs;refine aL.bd (P:=λr=>(r= .inl (0,0,([]:List Bool),([]:List (List UInt8)),([]:List aq),([]:List al),s.F,s.T,bad,want,(AG s bad want).N,([]:List al))/\ ∀x∈want,x.length<=6000)\/(∃q,r= .inr q/\q.2.2.2.2.2.2=1/\ ¬adf bad want)) ?_ ?_
 ·refine aL.loop (λst=> ∃(k:Nat) (left:Int),k<=bad.length/\s.F-(k:Int)<=left/\left<=s.F/\((∀x∈bad,x=false)->left=s.F)/\(∀j (hj:j<want.length),j<k->want[j].length<=6000)/\st=(0,0,([]:List Bool),([]:List (List UInt8)),([]:List aq),([]:List al),s.F,s.T,bad,want,(IS k).map (λ(i:Nat)=>yL s (i:Int)),([]:List al),left,(k:Int))) (λst=>bad.length-(st.2.2.2.2.2.2.2.2.2.2.2.2.2).toNat) ⟨0,s.F,Nat.zero_le _,by simp,by omega,λ_=>rfl,λj _ hj=>by omega,rfl⟩ ?_;rintro st ⟨k,left,hk,QN,Cn,hl3,hws,rfl⟩;unfold CD;simp only;by_cases dO:k<bad.length
  ·have hlw:k<want.length:=by omega
   rw [if_pos (by omega),bh dO];have ajy: ∃Ke,(if bad[k] then some (IntKind.wrap .i64 (left-1)) else some left:Option Int)=some Ke/\s.F-((k+1:Nat):Int)<=Ke/\Ke<=s.F/\((∀x∈bad,x=false)->Ke=s.F):=by
    cases hbk:bad[k] with
    |true=>exact ⟨left-1,by rw [if_pos rfl,wrap64 (by omega) (by omega)],by omega,by omega,λh=>by have:=h _ (BY dO);rw [hbk] at this;cases this⟩
    |false=>exact ⟨left,by simp,by omega,Cn,hl3⟩
   obtain ⟨Ke,e1,g1,g2,g3⟩:=ajy;rw [e1,ap,bh hlw,or_some,ap];by_cases c3:(6000:Int)<(want[k].length:Int)\/Ke<0
   ·rw [decide_eq_true c3,if_pos rfl];refine .mk (.inr ⟨_,rfl,rfl,λh=> ?_⟩);have h1:=g3 h.1;have h2:=h.2 _ (BY hlw);omega
   ·rw [decide_eq_false c3,if_neg (by simp),(Vz (s:=s) (i:=(k:Int)) ⟨hs,by omega,by unfold uI;omega⟩).1,ap,if_pos (by rw [List.length_map,List.length_range,AT];omega),wrap64 (by omega) (by omega)];refine .mk ⟨⟨k+1,Ke,dO,g1,g2,g3,λj hj VY=> ?_,?_⟩,by simp only;omega⟩
    ·by_cases JT:j=k
     ·subst JT;omega
     ·exact hws j hj (by omega)
    ·rw [List.range_succ,List.map_append];rfl
  ·have:k=bad.length:=by omega
   subst this;rw [if_neg (by omega)];refine .mk (.inl ⟨rfl,λx hx=> ?_⟩);obtain ⟨j,hj,rfl⟩:=List.mem_iff_getElem.1 hx;exact hws j hj (by omega)
 ·rintro r (⟨rfl,hx⟩|⟨q,rfl,hq,VV⟩)
  ·exact .mk ⟨λ_=>⟨hs,by unfold uI;omega,c2',hx,rfl⟩,λ_ _ _ _=>rfl⟩
  ·refine .mk ⟨λh=> ?_,λ_ _ _ h=>absurd h VV⟩;simp only at h;rw [hq] at h;exact absurd h (by decide)
end Dn.S
