import Derived.Test.YtmdlghpieagfhaaGreatDnPSlot3
/-
  Slots: steps. Conditions: none.
-/
set_option linter.unusedVariables false
set_option linter.unusedSimpArgs false
open List renaming getElem?_eq_some_iff→fj,length_singleton→AT,getElem_mem→BY,range→IS
open Bool renaming false_eq_true→sh,not_true→AI,not_false→IN
open Go Dn
namespace Dn.S
theorem ah2 {c:aQ}{l:List aw}(h:c.cA.length+l.length<=400):mW c l=some ((),⟨c.S,c.fW,c.Want,c.N,c.cA++l⟩):=by
 unfold mW;have:Loop (kC l) (0,c.S.F,c.S.T,c.fW,c.Want,c.N,c.cA)=some (c.S.F,c.S.T,c.fW,c.Want,c.N,c.cA++l):=by
  refine bD.eq (bD.count (λk=>((k:Int),c.S.F,c.S.T,c.fW,c.Want,c.N,c.cA++l.take k)) l.length (λ_=>True) (by simp) trivial (λk hk _=> ?_) (λ_=> ?_))
  ·unfold kC;simp only;have hlen:(c.cA++l.take k).length=c.cA.length+k:=by rw [List.length_append,List.length_take];omega
   rw [if_pos (by omega),bP hk,if_pos (by omega)];unfold iW;rw [if_pos ⟨rfl,rfl⟩,ar,if_pos ⟨by simp,by rw [AT];omega⟩,ar,wrap64 (by omega) (by omega)];refine .mk ⟨?_,trivial⟩;rw [List.take_add_one,List.getElem?_eq_getElem hk,List.append_assoc];rfl
  ·unfold kC;simp only;rw [if_neg (by omega),List.take_length];exact .mk rfl
 rw [this];rfl
theorem put_eq {c:aQ}{i:Nat}(hi:i<c.N.length)(n:aD){l:List aw}(h:c.cA.length+l.length<=400):jV c (i:Int) n l=some ((),⟨c.S,c.fW,c.Want,c.N.set i n,c.cA++l⟩):=by unfold jV;rw [bP hi,Int.toNat_natCast,ah2 (by exact h)];rfl
theorem YU (c:aQ)(i:Nat)(bad b:Bool)(h:c.fW[i]? =some b):fG c (i:Int) bad=some (decide (b=bad)):=by obtain ⟨hi,he⟩:=fj.1 h;unfold fG;rw [if_pos (by omega),if_pos (by omega),bP hi,he,ar]
theorem GO {c:aQ}{i j:Nat}{n:aD}{m m0:aw}{x:aD×List aw}(hb:c.fW[i]? =some false)(hn:c.N[i]? =some n)(hm:c.cA[j]? =some m)(hh:eI c.S (i:Int) n m=some x)(hp:c.cA.length+x.2.length<=400)(hl:c.N.length<=1000): jo c ⟨0,(i:Int),(j:Int),m0⟩=some ⟨c.S,c.fW,c.Want,c.N.set i x.1,c.cA++x.2⟩:=by obtain ⟨hi,he⟩:=fj.1 hn;obtain ⟨hj,hej⟩:=fj.1 hm;unfold jo;simp only [YU c i false false hb,decide_true,AI,sh,if_false,ar,show¬((0:Int)=3) by decide,if_true];rw [pJ (by omega),ar,if_pos (by omega),decide_eq_true (show (j:Int)<(c.cA.length:Int) by omega)];simp only [ar,if_true];rw [bP hj,hej];unfold mj;simp only;rw [bP hi,he,hh,ar,put_eq (c:=⟨c.S,c.fW,c.Want,c.N,c.cA⟩) hi _ hp];rfl
theorem aaE {c:aQ}{i:Nat}{n:aD}{w:List UInt8}{m0:aw}{j:Int}{x:aD×List aw}(hb:c.fW[i]? =some false)(hn:c.N[i]? =some n)(hw:c.Want[i]? =some w)(hh:iA c.S (i:Int) n w=some x)(hp:c.cA.length+x.2.length<=400)(hl:c.N.length<=1000): jo c ⟨2,(i:Int),j,m0⟩=some ⟨c.S,c.fW,c.Want,c.N.set i x.1,c.cA++x.2⟩:=by obtain ⟨hi,he⟩:=fj.1 hn;obtain ⟨hj,hej⟩:=fj.1 hw;unfold jo;simp only [YU c i false false hb,decide_true,AI,sh,if_false,ar,show¬((2:Int)=3) by decide,show¬((2:Int)=0) by decide,show¬((2:Int)=1) by decide,if_true];rw [pJ (by omega),ar];unfold qB;simp only;rw [bP hi,he,bP hj,hej,hh,ar,put_eq (c:=⟨c.S,c.fW,c.Want,c.N,c.cA⟩) hi _ hp];rfl
theorem Xl {c:aQ}{i:Nat}{n:aD}(hb:c.fW[i]? =some false)(hn:c.N[i]? =some n)(hd:n.L.bE=true):jG c (i:Int)=some (n.L.Value,true):=by obtain ⟨hi,he⟩:=fj.1 hn;unfold jG;rw [YU c i false false hb];simp only [decide_true,AI,sh,if_false,ar];rw [bP hi,he,hd];simp only [AI,ar,sh,if_false];rw [bP hi,he]
def Ok (s:ak)(bad:List Bool)(want:List (List UInt8)):aQ:=⟨s,bad,want,(IS bad.length).map λ(i:Nat)=>z8 s (i:Int),[]⟩
def ajd (bad:List Bool)(want:List (List UInt8)):Prop:=(∀x∈bad,x=false)/\ ∀x∈want,x.length<=6000
theorem aaF (s:ak)(bad:List Bool)(want:List (List UInt8))(hb:bad.length<=30)(hw:want.length<=30):bD (yb s bad want) λr=>(r.2=0->cR s/\(bad.length:Int)=tF s/\want.length=bad.length/\(∀x∈want,x.length<=6000)/\r.1=Ok s bad want)/\ (cR s->(bad.length:Int)=tF s->want.length=bad.length->ajd bad want->r.2=0):=by
 unfold yb;rw [nI,ar];by_cases hs:cR s;rotate_left
 ·simp only [hs,decide_false,IN,if_true,ar];exact .mk ⟨λh=>absurd h (by decide),λh=>absurd h (by simp)⟩
 rw [decide_eq_true hs];simp only [AI,sh,if_false,vE hs,ar];by_cases c1:(bad.length:Int)=3 *s.F+2 *s.T+1;rotate_left
 ·simp only [c1,decide_false,IN,if_true,ar];exact .mk ⟨λh=>absurd h (by decide),λ_ h=>absurd h c1⟩
 by_cases c2:(want.length:Int)=(bad.length:Int);rotate_left
 ·have hg:(if !decide ((bad.length:Int)=3 *s.F+2 *s.T+1) then some true else some (!decide ((want.length:Int)=(bad.length:Int))):Option Bool)=some true:=by simp [c1];rw [<-c1];exact c2
  rw [hg,ar,if_pos rfl];exact .mk ⟨λh=>absurd h (by decide),λ_ _ h=>absurd h (by omega)⟩
 have c2':want.length=bad.length:=by omega
 have hg:(if !decide ((bad.length:Int)=3 *s.F+2 *s.T+1) then some true else some (!decide ((want.length:Int)=(bad.length:Int))):Option Bool)=some false:=by simp [c1,c2]
 rw [hg,ar,if_neg (by simp),pJ (by omega),ar,pJ (by omega),ar];have hso:=(eZ s).1 hs;refine bD.bd (P:=λr=>(r= .inl (0,0,([]:List Bool),([]:List (List UInt8)),([]:List aD),([]:List aw),s.F,s.T,bad,want,(Ok s bad want).N,([]:List aw))/\ ∀x∈want,x.length<=6000)\/(∃q,r= .inr q/\q.2.2.2.2.2.2=1/\ ¬ajd bad want)) ?_ ?_
 ·refine bD.loop (λst=> ∃(k:Nat) (left:Int),k<=bad.length/\s.F-(k:Int)<=left/\left<=s.F/\((∀x∈bad,x=false)->left=s.F)/\(∀j (hj:j<want.length),j<k->want[j].length<=6000)/\st=(0,0,([]:List Bool),([]:List (List UInt8)),([]:List aD),([]:List aw),s.F,s.T,bad,want,(IS k).map (λ(i:Nat)=>z8 s (i:Int)),([]:List aw),left,(k:Int))) (λst=>bad.length-(st.2.2.2.2.2.2.2.2.2.2.2.2.2).toNat) ⟨0,s.F,Nat.zero_le _,by simp,by omega,λ_=>rfl,λj _ hj=>by omega,rfl⟩ ?_;rintro st ⟨k,left,hk,Vj,DM,hl3,hws,rfl⟩;unfold D7;simp only;by_cases eE:k<bad.length
  ·have hlw:k<want.length:=by omega
   rw [if_pos (by omega),bP eE];have as0: ∃M3,(if bad[k] then some (IntKind.wrap .i64 (left-1)) else some left:Option Int)=some M3/\s.F-((k+1:Nat):Int)<=M3/\M3<=s.F/\((∀x∈bad,x=false)->M3=s.F):=by
    cases hbk:bad[k] with
    |true=>exact ⟨left-1,by rw [if_pos rfl,wrap64 (by omega) (by omega)],by omega,by omega,λh=>by have:=h _ (BY eE);rw [hbk] at this;cases this⟩
    |false=>exact ⟨left,by simp,by omega,DM,hl3⟩
   obtain ⟨M3,e1,g1,g2,g3⟩:=as0;rw [e1,ar,bP hlw,or_some,ar];by_cases c3:(6000:Int)<(want[k].length:Int)\/M3<0
   ·rw [decide_eq_true c3,if_pos rfl];refine .mk (.inr ⟨_,rfl,rfl,λh=> ?_⟩);have h1:=g3 h.1;have h2:=h.2 _ (BY hlw);omega
   ·rw [decide_eq_false c3,if_neg (by simp),(Qe (s:=s) (i:=(k:Int)) ⟨hs,by omega,by unfold tF;omega⟩).1,ar,if_pos (by rw [List.length_map,List.length_range,AT];omega),wrap64 (by omega) (by omega)];refine .mk ⟨⟨k+1,M3,eE,g1,g2,g3,λj hj hjk=> ?_,?_⟩,by simp only;omega⟩
    ·by_cases MD:j=k
     ·subst MD;omega
     ·exact hws j hj (by omega)
    ·rw [List.range_succ,List.map_append];rfl
  ·have:k=bad.length:=by omega
   subst this;rw [if_neg (by omega)];refine .mk (.inl ⟨rfl,λx hx=> ?_⟩);obtain ⟨j,hj,rfl⟩:=List.mem_iff_getElem.1 hx;exact hws j hj (by omega)
 ·rintro r (⟨rfl,hx⟩|⟨q,rfl,hq,hno⟩)
  ·exact .mk ⟨λ_=>⟨hs,by unfold tF;omega,c2',hx,rfl⟩,λ_ _ _ _=>rfl⟩
  ·refine .mk ⟨λh=> ?_,λ_ _ _ h=>absurd h hno⟩;simp only at h;rw [hq] at h;exact absurd h (by decide)
end Dn.S
