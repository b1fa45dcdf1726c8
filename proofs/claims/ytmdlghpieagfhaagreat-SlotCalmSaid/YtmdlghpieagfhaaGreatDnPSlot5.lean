import Derived.Test.YtmdlghpieagfhaaGreatDnPSlot3
/- Slots: steps. Conditions: none. -/
set_option linter.unusedVariables false
set_option linter.unusedSimpArgs false
open List renaming getElem?_eq_some_iff→cV,length_singleton→AT,getElem_mem→BY,range→No
open Bool renaming false_eq_true→sh,not_true→AI,not_false→IT
open Go Dn
namespace Dn.S
theorem afi {c:aj}{l:List ai}(h:c.aC.length+l.length<=400):ig c l=some ((),⟨c.S,c.bY,c.Want,c.N,c.aC++l⟩):=by
 unfold ig;have:Loop (fm l) (0,c.S.F,c.S.T,c.bY,c.Want,c.N,c.aC)=some (c.S.F,c.S.T,c.bY,c.Want,c.N,c.aC++l):=by
  refine aK.eq (aK.count (λk=>((k:Int),c.S.F,c.S.T,c.bY,c.Want,c.N,c.aC++l.take k)) l.length (λ_=>True) (by simp) trivial (λk hk _=> ?_) (λ_=> ?_))
  ·unfold fm;simp only;have hlen:(c.aC++l.take k).length=c.aC.length+k:=by rw [List.length_append,List.length_take];omega
   rw [if_pos (by omega),bB hk,if_pos (by omega)];unfold gE;rw [if_pos ⟨rfl,rfl⟩,au,if_pos ⟨by simp,by rw [AT];omega⟩,au,wrap64 (by omega) (by omega)];refine .mk ⟨?_,trivial⟩;rw [List.take_add_one,List.getElem?_eq_getElem hk,List.append_assoc];rfl
  ·unfold fm;simp only;rw [if_neg (by omega),List.take_length];exact .mk rfl
 rw [this];rfl
theorem put_eq {c:aj}{i:Nat}(hi:i<c.N.length)(n:ao){l:List ai}(h:c.aC.length+l.length<=400):fH c (i:Int) n l=some ((),⟨c.S,c.bY,c.Want,c.N.set i n,c.aC++l⟩):=by unfold fH;rw [bB hi,Int.toNat_natCast,afi (by exact h)];rfl
theorem R6 (c:aj)(i:Nat)(bad b:Bool)(h:c.bY[i]? =some b):dF c (i:Int) bad=some (decide (b=bad)):=by obtain ⟨hi,he⟩:=cV.1 h;unfold dF;rw [if_pos (by omega),if_pos (by omega),bB hi,he,au]
theorem ES {c:aj}{i j:Nat}{n:ao}{m m0:ai}{x:ao×List ai}(hb:c.bY[i]? =some false)(hn:c.N[i]? =some n)(hm:c.aC[j]? =some m)(hh:bq c.S (i:Int) n m=some x)(hp:c.aC.length+x.2.length<=400)(hl:c.N.length<=1000): eB c ⟨0,(i:Int),(j:Int),m0⟩=some ⟨c.S,c.bY,c.Want,c.N.set i x.1,c.aC++x.2⟩:=by obtain ⟨hi,he⟩:=cV.1 hn;obtain ⟨hj,hej⟩:=cV.1 hm;unfold eB;simp only [R6 c i false false hb,decide_true,AI,sh,if_false,au,show¬((0:Int)=3) by decide,if_true];rw [gO (by omega),au,if_pos (by omega),decide_eq_true (show (j:Int)<(c.aC.length:Int) by omega)];simp only [au,if_true];rw [bB hj,hej];unfold cD;simp only;rw [bB hi,he,hh,au,put_eq (c:=⟨c.S,c.bY,c.Want,c.N,c.aC⟩) hi _ hp];rfl
theorem Yd {c:aj}{i:Nat}{n:ao}{w:List UInt8}{m0:ai}{j:Int}{x:ao×List ai}(hb:c.bY[i]? =some false)(hn:c.N[i]? =some n)(hw:c.Want[i]? =some w)(hh:cF c.S (i:Int) n w=some x)(hp:c.aC.length+x.2.length<=400)(hl:c.N.length<=1000): eB c ⟨2,(i:Int),j,m0⟩=some ⟨c.S,c.bY,c.Want,c.N.set i x.1,c.aC++x.2⟩:=by obtain ⟨hi,he⟩:=cV.1 hn;obtain ⟨hj,hej⟩:=cV.1 hw;unfold eB;simp only [R6 c i false false hb,decide_true,AI,sh,if_false,au,show¬((2:Int)=3) by decide,show¬((2:Int)=0) by decide,show¬((2:Int)=1) by decide,if_true];rw [gO (by omega),au];unfold cX;simp only;rw [bB hi,he,bB hj,hej,hh,au,put_eq (c:=⟨c.S,c.bY,c.Want,c.N,c.aC⟩) hi _ hp];rfl
theorem KV {c:aj}{i:Nat}{n:ao}(hb:c.bY[i]? =some false)(hn:c.N[i]? =some n)(hd:n.L.bw=true):fN c (i:Int)=some (n.L.Value,true):=by obtain ⟨hi,he⟩:=cV.1 hn;unfold fN;rw [R6 c i false false hb];simp only [decide_true,AI,sh,if_false,au];rw [bB hi,he,hd];simp only [AI,au,sh,if_false];rw [bB hi,he]
def tC (s:ae)(bad:List Bool)(want:List (List UInt8)):aj:=⟨s,bad,want,(No bad.length).map λ(i:Nat)=>rc s (i:Int),[]⟩
def agQ (bad:List Bool)(want:List (List UInt8)):Prop:=(∀x∈bad,x=false)/\ ∀x∈want,x.length<=6000
theorem Nw (s:ae)(bad:List Bool)(want:List (List UInt8))(hb:bad.length<=30)(hw:want.length<=30):aK (pI s bad want) λr=>(r.2=0->cC s/\(bad.length:Int)=kz s/\want.length=bad.length/\(∀x∈want,x.length<=6000)/\r.1=tC s bad want)/\ (cC s->(bad.length:Int)=kz s->want.length=bad.length->agQ bad want->r.2=0):=by
 unfold pI;rw [iK,au];by_cases hs:cC s;rotate_left
 ·simp only [hs,decide_false,IT,if_true,au];exact .mk ⟨λh=>absurd h (by decide),λh=>absurd h (by simp)⟩
 rw [decide_eq_true hs];simp only [AI,sh,if_false,om hs,au];by_cases c1:(bad.length:Int)=3 *s.F+2 *s.T+1;rotate_left
 ·simp only [c1,decide_false,IT,if_true,au];exact .mk ⟨λh=>absurd h (by decide),λ_ h=>absurd h c1⟩
 by_cases c2:(want.length:Int)=(bad.length:Int);rotate_left
 ·have hg:(if !decide ((bad.length:Int)=3 *s.F+2 *s.T+1) then some true else some (!decide ((want.length:Int)=(bad.length:Int))):Option Bool)=some true:=by simp [c1];rw [<-c1];exact c2
  rw [hg,au,if_pos rfl];exact .mk ⟨λh=>absurd h (by decide),λ_ _ h=>absurd h (by omega)⟩
 have c2':want.length=bad.length:=by omega
 have hg:(if !decide ((bad.length:Int)=3 *s.F+2 *s.T+1) then some true else some (!decide ((want.length:Int)=(bad.length:Int))):Option Bool)=some false:=by simp [c1,c2]
 rw [hg,au,if_neg (by simp),gO (by omega),au,gO (by omega),au];have Nj:=(b7 s).1 hs;refine aK.bd (P:=λr=>(r= .inl (0,0,([]:List Bool),([]:List (List UInt8)),([]:List ao),([]:List ai),s.F,s.T,bad,want,(tC s bad want).N,([]:List ai))/\ ∀x∈want,x.length<=6000)\/(∃q,r= .inr q/\q.2.2.2.2.2.2=1/\ ¬agQ bad want)) ?_ ?_
 ·refine aK.loop (λst=> ∃(k:Nat) (left:Int),k<=bad.length/\s.F-(k:Int)<=left/\left<=s.F/\((∀x∈bad,x=false)->left=s.F)/\(∀j (hj:j<want.length),j<k->want[j].length<=6000)/\st=(0,0,([]:List Bool),([]:List (List UInt8)),([]:List ao),([]:List ai),s.F,s.T,bad,want,(No k).map (λ(i:Nat)=>rc s (i:Int)),([]:List ai),left,(k:Int))) (λst=>bad.length-(st.2.2.2.2.2.2.2.2.2.2.2.2.2).toNat) ⟨0,s.F,Nat.zero_le _,by simp,by omega,λ_=>rfl,λj _ hj=>by omega,rfl⟩ ?_;rintro st ⟨k,left,hk,NV,y9,hl3,hws,rfl⟩;unfold yq;simp only;by_cases cJ:k<bad.length
  ·have hlw:k<want.length:=by omega
   rw [if_pos (by omega),bB cJ];have acC: ∃xH,(if bad[k] then some (IntKind.wrap .i64 (left-1)) else some left:Option Int)=some xH/\s.F-((k+1:Nat):Int)<=xH/\xH<=s.F/\((∀x∈bad,x=false)->xH=s.F):=by
    cases S7:bad[k] with
    |true=>exact ⟨left-1,by rw [if_pos rfl,wrap64 (by omega) (by omega)],by omega,by omega,λh=>by have:=h _ (BY cJ);rw [S7] at this;cases this⟩
    |false=>exact ⟨left,by simp,by omega,y9,hl3⟩
   obtain ⟨xH,e1,g1,g2,g3⟩:=acC;rw [e1,au,bB hlw,or_some,au];by_cases c3:(6000:Int)<(want[k].length:Int)\/xH<0
   ·rw [decide_eq_true c3,if_pos rfl];refine .mk (.inr ⟨_,rfl,rfl,λh=> ?_⟩);have h1:=g3 h.1;have h2:=h.2 _ (BY hlw);omega
   ·rw [decide_eq_false c3,if_neg (by simp),KU (s:=s) (i:=(k:Int)) ⟨hs,by omega,by unfold kz;omega⟩,au,if_pos (by rw [List.length_map,List.length_range,AT];omega),wrap64 (by omega) (by omega)];refine .mk ⟨⟨k+1,xH,cJ,g1,g2,g3,λj hj hjk=> ?_,?_⟩,by simp only;omega⟩
    ·by_cases UF:j=k
     ·subst UF;omega
     ·exact hws j hj (by omega)
    ·rw [List.range_succ,List.map_append];rfl
  ·have:k=bad.length:=by omega
   subst this;rw [if_neg (by omega)];refine .mk (.inl ⟨rfl,λx hx=> ?_⟩);obtain ⟨j,hj,rfl⟩:=List.mem_iff_getElem.1 hx;exact hws j hj (by omega)
 ·rintro r (⟨rfl,hx⟩|⟨q,rfl,hq,B3⟩)
  ·exact .mk ⟨λ_=>⟨hs,by unfold kz;omega,c2',hx,rfl⟩,λ_ _ _ _=>rfl⟩
  ·refine .mk ⟨λh=> ?_,λ_ _ _ h=>absurd h B3⟩;simp only at h;rw [hq] at h;exact absurd h (by decide)
end Dn.S
