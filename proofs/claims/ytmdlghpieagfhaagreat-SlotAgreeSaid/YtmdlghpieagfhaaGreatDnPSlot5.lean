import Derived.Test.YtmdlghpieagfhaaGreatDnPSlot3
/-
  Slots: steps. Conditions: none.
-/
set_option linter.unusedVariables false
set_option linter.unusedSimpArgs false
open List renaming getElem?_eq_some_iff→cM,length_singleton→AT,getElem_mem→BY,range→No
open Bool renaming false_eq_true→sh,not_true→AI,not_false→IT
open Go Dn
namespace Dn.S
theorem aeG {c:aj}{l:List al}(h:c.aV.length+l.length<=400):gX c l=some ((),⟨c.S,c.bY,c.Want,c.N,c.aV++l⟩):=by
 unfold gX;have:Loop (fe l) (0,c.S.F,c.S.T,c.bY,c.Want,c.N,c.aV)=some (c.S.F,c.S.T,c.bY,c.Want,c.N,c.aV++l):=by
  refine aL.eq (aL.count (λk=>((k:Int),c.S.F,c.S.T,c.bY,c.Want,c.N,c.aV++l.take k)) l.length (λ_=>True) (by simp) trivial (λk hk _=> ?_) (λ_=> ?_))
  ·unfold fe;simp only;have hlen:(c.aV++l.take k).length=c.aV.length+k:=by rw [List.length_append,List.length_take];omega
   rw [if_pos (by omega),bA hk,if_pos (by omega)];unfold gw;rw [if_pos ⟨rfl,rfl⟩,au,if_pos ⟨by simp,by rw [AT];omega⟩,au,wrap64 (by omega) (by omega)];refine .mk ⟨?_,trivial⟩;rw [List.take_add_one,List.getElem?_eq_getElem hk,List.append_assoc];rfl
  ·unfold fe;simp only;rw [if_neg (by omega),List.take_length];exact .mk rfl
 rw [this];rfl
theorem put_eq {c:aj}{i:Nat}(hi:i<c.N.length)(n:ar){l:List al}(h:c.aV.length+l.length<=400):gJ c (i:Int) n l=some ((),⟨c.S,c.bY,c.Want,c.N.set i n,c.aV++l⟩):=by unfold gJ;rw [bA hi,Int.toNat_natCast,aeG (by exact h)];rfl
theorem RC (c:aj)(i:Nat)(bad b:Bool)(h:c.bY[i]? =some b):dx c (i:Int) bad=some (decide (b=bad)):=by obtain ⟨hi,he⟩:=cM.1 h;unfold dx;rw [if_pos (by omega),if_pos (by omega),bA hi,he,au]
theorem Eu {c:aj}{i j:Nat}{n:ar}{m m0:al}{x:ar×List al}(hb:c.bY[i]? =some false)(hn:c.N[i]? =some n)(hm:c.aV[j]? =some m)(hh:ch c.S (i:Int) n m=some x)(hp:c.aV.length+x.2.length<=400)(hl:c.N.length<=1000): eF c ⟨0,(i:Int),(j:Int),m0⟩=some ⟨c.S,c.bY,c.Want,c.N.set i x.1,c.aV++x.2⟩:=by obtain ⟨hi,he⟩:=cM.1 hn;obtain ⟨hj,hej⟩:=cM.1 hm;unfold eF;simp only [RC c i false false hb,decide_true,AI,sh,if_false,au,show¬((0:Int)=3) by decide,if_true];rw [iq (by omega),au,if_pos (by omega),decide_eq_true (show (j:Int)<(c.aV.length:Int) by omega)];simp only [au,if_true];rw [bA hj,hej];unfold cN;simp only;rw [bA hi,he,hh,au,put_eq (c:=⟨c.S,c.bY,c.Want,c.N,c.aV⟩) hi _ hp];rfl
theorem XC {c:aj}{i:Nat}{n:ar}{w:List UInt8}{m0:al}{j:Int}{x:ar×List al}(hb:c.bY[i]? =some false)(hn:c.N[i]? =some n)(hw:c.Want[i]? =some w)(hh:eB c.S (i:Int) n w=some x)(hp:c.aV.length+x.2.length<=400)(hl:c.N.length<=1000): eF c ⟨2,(i:Int),j,m0⟩=some ⟨c.S,c.bY,c.Want,c.N.set i x.1,c.aV++x.2⟩:=by obtain ⟨hi,he⟩:=cM.1 hn;obtain ⟨hj,hej⟩:=cM.1 hw;unfold eF;simp only [RC c i false false hb,decide_true,AI,sh,if_false,au,show¬((2:Int)=3) by decide,show¬((2:Int)=0) by decide,show¬((2:Int)=1) by decide,if_true];rw [iq (by omega),au];unfold dO;simp only;rw [bA hi,he,bA hj,hej,hh,au,put_eq (c:=⟨c.S,c.bY,c.Want,c.N,c.aV⟩) hi _ hp];rfl
theorem KA {c:aj}{i:Nat}{n:ar}(hb:c.bY[i]? =some false)(hn:c.N[i]? =some n)(hd:n.L.bQ=true):fI c (i:Int)=some (n.L.Value,true):=by obtain ⟨hi,he⟩:=cM.1 hn;unfold fI;rw [RC c i false false hb];simp only [decide_true,AI,sh,if_false,au];rw [bA hi,he,hd];simp only [AI,au,sh,if_false];rw [bA hi,he]
def uU (s:ae)(bad:List Bool)(want:List (List UInt8)):aj:=⟨s,bad,want,(No bad.length).map λ(i:Nat)=>sE s (i:Int),[]⟩
def af4 (bad:List Bool)(want:List (List UInt8)):Prop:=(∀x∈bad,x=false)/\ ∀x∈want,x.length<=6000
theorem M3 (s:ae)(bad:List Bool)(want:List (List UInt8))(hb:bad.length<=30)(hw:want.length<=30):aL (pu s bad want) λr=>(r.2=0->cC s/\(bad.length:Int)=mS s/\want.length=bad.length/\(∀x∈want,x.length<=6000)/\r.1=uU s bad want)/\ (cC s->(bad.length:Int)=mS s->want.length=bad.length->af4 bad want->r.2=0):=by
 unfold pu;rw [jO,au];by_cases hs:cC s;rotate_left
 ·simp only [hs,decide_false,IT,if_true,au];exact .mk ⟨λh=>absurd h (by decide),λh=>absurd h (by simp)⟩
 rw [decide_eq_true hs];simp only [AI,sh,if_false,qa hs,au];by_cases c1:(bad.length:Int)=3 *s.F+2 *s.T+1;rotate_left
 ·simp only [c1,decide_false,IT,if_true,au];exact .mk ⟨λh=>absurd h (by decide),λ_ h=>absurd h c1⟩
 by_cases c2:(want.length:Int)=(bad.length:Int);rotate_left
 ·have hg:(if !decide ((bad.length:Int)=3 *s.F+2 *s.T+1) then some true else some (!decide ((want.length:Int)=(bad.length:Int))):Option Bool)=some true:=by simp [c1];rw [<-c1];exact c2
  rw [hg,au,if_pos rfl];exact .mk ⟨λh=>absurd h (by decide),λ_ _ h=>absurd h (by omega)⟩
 have c2':want.length=bad.length:=by omega
 have hg:(if !decide ((bad.length:Int)=3 *s.F+2 *s.T+1) then some true else some (!decide ((want.length:Int)=(bad.length:Int))):Option Bool)=some false:=by simp [c1,c2]
 rw [hg,au,if_neg (by simp),iq (by omega),au,iq (by omega),au];have Xl:=(dB s).1 hs;refine aL.bd (P:=λr=>(r= .inl (0,0,([]:List Bool),([]:List (List UInt8)),([]:List ar),([]:List al),s.F,s.T,bad,want,(uU s bad want).N,([]:List al))/\ ∀x∈want,x.length<=6000)\/(∃q,r= .inr q/\q.2.2.2.2.2.2=1/\ ¬af4 bad want)) ?_ ?_
 ·refine aL.loop (λst=> ∃(k:Nat) (left:Int),k<=bad.length/\s.F-(k:Int)<=left/\left<=s.F/\((∀x∈bad,x=false)->left=s.F)/\(∀j (hj:j<want.length),j<k->want[j].length<=6000)/\st=(0,0,([]:List Bool),([]:List (List UInt8)),([]:List ar),([]:List al),s.F,s.T,bad,want,(No k).map (λ(i:Nat)=>sE s (i:Int)),([]:List al),left,(k:Int))) (λst=>bad.length-(st.2.2.2.2.2.2.2.2.2.2.2.2.2).toNat) ⟨0,s.F,Nat.zero_le _,by simp,by omega,λ_=>rfl,λj _ hj=>by omega,rfl⟩ ?_;rintro st ⟨k,left,hk,Nv,yE,hl3,hws,rfl⟩;unfold xY;simp only;by_cases cT:k<bad.length
  ·have hlw:k<want.length:=by omega
   rw [if_pos (by omega),bA cT];have abT: ∃xm,(if bad[k] then some (IntKind.wrap .i64 (left-1)) else some left:Option Int)=some xm/\s.F-((k+1:Nat):Int)<=xm/\xm<=s.F/\((∀x∈bad,x=false)->xm=s.F):=by
    cases Sw:bad[k] with
    |true=>exact ⟨left-1,by rw [if_pos rfl,wrap64 (by omega) (by omega)],by omega,by omega,λh=>by have:=h _ (BY cT);rw [Sw] at this;cases this⟩
    |false=>exact ⟨left,by simp,by omega,yE,hl3⟩
   obtain ⟨xm,e1,g1,g2,g3⟩:=abT;rw [e1,au,bA hlw,or_some,au];by_cases c3:(6000:Int)<(want[k].length:Int)\/xm<0
   ·rw [decide_eq_true c3,if_pos rfl];refine .mk (.inr ⟨_,rfl,rfl,λh=> ?_⟩);have h1:=g3 h.1;have h2:=h.2 _ (BY hlw);omega
   ·rw [decide_eq_false c3,if_neg (by simp),Ky (s:=s) (i:=(k:Int)) ⟨hs,by omega,by unfold mS;omega⟩,au,if_pos (by rw [List.length_map,List.length_range,AT];omega),wrap64 (by omega) (by omega)];refine .mk ⟨⟨k+1,xm,cT,g1,g2,g3,λj hj hjk=> ?_,?_⟩,by simp only;omega⟩
    ·by_cases T5:j=k
     ·subst T5;omega
     ·exact hws j hj (by omega)
    ·rw [List.range_succ,List.map_append];rfl
  ·have:k=bad.length:=by omega
   subst this;rw [if_neg (by omega)];refine .mk (.inl ⟨rfl,λx hx=> ?_⟩);obtain ⟨j,hj,rfl⟩:=List.mem_iff_getElem.1 hx;exact hws j hj (by omega)
 ·rintro r (⟨rfl,hx⟩|⟨q,rfl,hq,FY⟩)
  ·exact .mk ⟨λ_=>⟨hs,by unfold mS;omega,c2',hx,rfl⟩,λ_ _ _ _=>rfl⟩
  ·refine .mk ⟨λh=> ?_,λ_ _ _ h=>absurd h FY⟩;simp only at h;rw [hq] at h;exact absurd h (by decide)
end Dn.S
