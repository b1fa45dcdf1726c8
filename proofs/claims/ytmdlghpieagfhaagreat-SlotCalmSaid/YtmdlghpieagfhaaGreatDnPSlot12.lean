import Derived.Test.YtmdlghpieagfhaaGreatDnPSlot11
import Derived.Test.YtmdlghpieagfhaaGreatDnPSlot8
/- Slots: what holds of a slot after any acts. Conditions: none. -/
set_option linter.unusedVariables false
set_option linter.unusedSimpArgs false
open List renaming getElem?_eq_some_iff→cV,length_append→AI,getElem?_eq_getElem→AT,length_take→BY,getElem_mem→OF,mem_append→aau
open Int renaming toNat_natCast→sh
open Option.some renaming inj→IT
open Bool renaming false_eq_true→No
open Go.IntKind renaming wrap→aaJ
open Go Dn
namespace Dn.S
def KZ (c:aj)(l:List ai):aj:=⟨c.S,c.bY,c.Want,c.N,c.aC++l.take (400-c.aC.length)⟩
theorem Sb {c:aj}{l:List ai}(h:c.aC.length<=400)(hl:l.length<=1000):ig c l=some ((),KZ c l):=by
 unfold ig;have:Loop (fm l) (0,c.S.F,c.S.T,c.bY,c.Want,c.N,c.aC)=some (c.S.F,c.S.T,c.bY,c.Want,c.N,c.aC++l.take (400-c.aC.length)):=by
  refine aK.eq (aK.count (λk=>((k:Int),c.S.F,c.S.T,c.bY,c.Want,c.N,c.aC++l.take (min k (400-c.aC.length)))) l.length (λ_=>True) (by simp) trivial (λk hk _=> ?_) (λ_=> ?_))
  ·unfold fm;simp only;have hlen:(c.aC++l.take (min k (400-c.aC.length))).length=c.aC.length+min k (400-c.aC.length):=by rw [AI,BY];omega
   rw [if_pos (by omega),bB hk];by_cases hr:k<400-c.aC.length
   ·rw [if_pos (by omega)];unfold gE;rw [if_pos ⟨rfl,rfl⟩,au,if_pos ⟨by simp,by rw [List.length_singleton];omega⟩,au,wrap64 (by omega) (by omega)];refine .mk ⟨?_,trivial⟩;rw [show min k (400-c.aC.length)=k by omega,show min (k+1) (400-c.aC.length)=k+1 by omega,List.take_add_one,AT hk,List.append_assoc];rfl
   ·rw [if_neg (by omega),au,wrap64 (by omega) (by omega)];refine .mk ⟨?_,trivial⟩;rw [show min (k+1) (400-c.aC.length)=min k (400-c.aC.length) by omega];rfl
  ·unfold fm;simp only;rw [if_neg (by omega)];refine .mk ?_;show (_,_)=_;by_cases hr:l.length<=400-c.aC.length
   ·rw [show min l.length (400-c.aC.length)=l.length by omega,List.take_length,List.take_of_length_le hr]
   ·rw [show min l.length (400-c.aC.length)=400-c.aC.length by omega]
 rw [this];rfl
theorem afp {c:aj}{l:List ai}(h:c.aC.length<=400)(hl:l.length<=1000):n6 c l=some ((),KZ c l):=(show n6 c l=ig c l from rfl).trans (Sb h hl)
def kl (c:aj)(i:Nat)(n:ao)(l:List ai):aj:=⟨c.S,c.bY,c.Want,c.N.set i n,c.aC++l.take (400-c.aC.length)⟩
theorem yV {c:aj}{i:Nat}(hi:i<c.N.length)(n:ao){l:List ai}(h:c.aC.length<=400)(hl:l.length<=1000):fH c (i:Int) n l=some ((),kl c i n l):=by unfold fH;rw [bB hi,sh,Sb (c:=⟨c.S,c.bY,c.Want,c.N.set i n,c.aC⟩) h hl];rfl
structure Inv (s:ae) (bad:List Bool) (want:List (List UInt8)) (c:aj) (k:Nat):Prop where
 S:c.S=s
 bY:c.bY=bad
 Want:c.Want=want
 len:c.N.length=bad.length
 nodes: ∀(i:Nat) n,c.N[i]? =some n->dP s (i:Int) n k
 lI:c.aC.length<=400
 short: ∀m∈c.aC,qq m
 range: ∀m∈c.aC,m.Kind=2->0<=m.bM.By/\m.bM.By.toNat<bad.length
 last: ∀m∈c.aC,m.Kind=2-> ∀(b:Nat) n,m.bM.By=(b:Int)->bad[b]? =some false->c.N[b]? =some n->n.A.Has=true/\m.bM.View<=n.A.At/\(m.bM.View=n.A.At->m.bM.Value=n.A.Value)
 one: ∀m∈c.aC,∀m'∈c.aC,m.Kind=2->m'.Kind=2->m.bM.By=m'.bM.By->bad[m.bM.By.toNat]? =some false->m.bM.View=m'.bM.View->m.bM.Value=m'.bM.Value
theorem Inv.mono {s:ae}{bad:List Bool}{want:List (List UInt8)}{c:aj}{k:Nat}(h:Inv s bad want c k):Inv s bad want c (k+1):={h with nodes:=λi n hn=>(h.nodes i n hn).mono (by omega)}
theorem EW {α:Type}{l:List α}{k:Nat}{x:α}(h:x∈l.take k):x∈l:=List.mem_of_mem_take h
theorem Inv.put {s:ae}{bad:List Bool}{want:List (List UInt8)}{c:aj}{k:Nat}(h:Inv s bad want c k){i:Nat}{n:ao}(hb:bad[i]? =some false)(hn:c.N[i]? =some n){x:ao×List ai}(hx:lH s (i:Int) n k x):Inv s bad want (kl c i x.1 x.2) (k+1):=by
 obtain ⟨hi,he⟩:=cV.1 hn;have hp:=h.lI;have hil:i<bad.length:=by rw [<-h.len];exact hi
 have za:(kl c i x.1 x.2).N[i]? =some x.1:=List.getElem?_set_self hi;have zt: ∀b,b≠i->(kl c i x.1 x.2).N[b]? =c.N[b]? :=λb hb=>List.getElem?_set_ne (λe=>hb e.symm);have kG: ∀m∈(kl c i x.1 x.2).aC,m∈c.aC\/m∈x.2:=λm hm=>(aau.1 hm).imp id EW;have hold: ∀m∈c.aC,m.Kind=2->m.bM.By=(i:Int)->n.A.Has=true/\m.bM.View<=n.A.At/\(m.bM.View=n.A.At->m.bM.Value=n.A.Value):=λm hm hk Du=>h.last m hm hk i n Du hb hn;refine ⟨h.S,h.bY,h.Want,by show (c.N.set i x.1).length=_;rw [List.length_set];exact h.len,?_,?_,?_,?_,?_,?_⟩
 ·intro b n' V0;by_cases Lc:b=i
  ·subst Lc;rw [za] at V0;obtain rfl:=IT V0;exact hx.inv
  ·rw [zt b Lc] at V0;exact (h.nodes b n' V0).mono (by omega)
 ·show (c.aC++x.2.take (400-c.aC.length)).length<=400;rw [AI,BY];omega
 ·intro m hm;rcases kG m hm with hm|hm
  ·exact h.short m hm
  ·exact hx.short m hm
 ·intro m hm hk;rcases kG m hm with hm|hm
  ·exact h.range m hm hk
  ·rw [(hx.says m hm hk).1];exact ⟨by omega,by rw [sh];exact hil⟩
 ·intro m hm hk b n' Du uf V0;by_cases Lc:b=i
  ·subst Lc;rw [za] at V0;obtain rfl:=IT V0;rcases kG m hm with hm|hm
   ·obtain ⟨g1,g2,g3⟩:=hold m hm hk Du;obtain ⟨g4,g5⟩:=hx.has g1;refine ⟨g4,by omega,λe=> ?_⟩;rcases g5 with g5|⟨g5,g6⟩
    ·omega
    ·rw [<-g6];exact g3 (by omega)
   ·obtain ⟨g1,g2,g3,g4,g5⟩:=hx.says m hm hk;exact ⟨g2,by omega,λ_=>g4⟩
  ·rw [zt b Lc] at V0;rcases kG m hm with hm|hm
   ·exact h.last m hm hk b n' Du uf V0
   ·have:=(hx.says m hm hk).1;omega
 ·intro m hm m' Mh hk PJ Du uf hv;rcases kG m hm with hm|hm<;>rcases kG m' Mh with Mh|Mh
  ·exact h.one m hm m' Mh hk PJ Du uf hv
  ·obtain ⟨g1,g2,g3,g4,g5⟩:=hx.says m' Mh PJ;obtain ⟨q1,q2,q3⟩:=hold m hm hk (by omega);have:=g5 q1;omega
  ·obtain ⟨g1,g2,g3,g4,g5⟩:=hx.says m hm hk;obtain ⟨q1,q2,q3⟩:=hold m' Mh PJ (by omega);have:=g5 q1;omega
  ·rw [(hx.says m hm hk).2.2.2.1,(hx.says m' Mh PJ).2.2.2.1]
theorem Inv.say {s:ae}{bad:List Bool}{want:List (List UInt8)}{c:aj}{k:Nat}(h:Inv s bad want c k){m0:ai}(h0:qq m0)(hv:m0.Kind=2->0<=m0.bM.By/\bad[m0.bM.By.toNat]? =some true):Inv s bad want (KZ c [m0]) (k+1):=by
 have hp:=h.lI;have kG: ∀m∈(KZ c [m0]).aC,m∈c.aC\/m=m0:=λm hm=>(aau.1 hm).imp id (λh=>List.mem_singleton.1 (EW h));have B3:m0.Kind=2-> ∀b:Nat,m0.bM.By=(b:Int)->bad[b]? =some false->False:=λhk b hb uf=>by have:=(hv hk).2;rw [hb,sh,uf] at this;cases this
 refine ⟨h.S,h.bY,h.Want,h.len,h.mono.nodes,?_,?_,?_,?_,?_⟩
 ·show (c.aC++[m0].take (400-c.aC.length)).length<=400;rw [AI,BY];omega
 ·intro m hm;rcases kG m hm with hm|rfl
  ·exact h.short m hm
  ·exact h0
 ·intro m hm hk;rcases kG m hm with hm|rfl
  ·exact h.range m hm hk
  ·exact ⟨(hv hk).1,(cV.1 (hv hk).2).1⟩
 ·intro m hm hk b n' Du uf V0;rcases kG m hm with hm|rfl
  ·exact h.last m hm hk b n' Du uf V0
  ·exact (B3 hk b Du uf).elim
 ·intro m hm m' Mh hk PJ Du uf Sq;rcases kG m hm with hm|rfl
  ·rcases kG m' Mh with Mh|rfl
   ·exact h.one m hm m' Mh hk PJ Du uf Sq
   ·rw [Du,(hv PJ).2] at uf;cases uf
  ·rw [(hv hk).2] at uf;cases uf
theorem acF {p q:Prop}[Decidable p][Decidable q]:(if p then some (decide q) else some false:Option Bool)=some (decide (p/\q)):=by by_cases hp:p<;>by_cases hq:q<;>simp [hp,hq]
structure anW (s:ae) (bad:List Bool) (want:List (List UInt8)) (c:aj) (k:Nat) (y:dv) (c':aj):Prop where
 inv:Inv s bad want c' (k+1)
 more:c.aC.length<=c'.aC.length
 sound:y.Kind=3->lh c y.M=some false->c'=c
 L2:y.Kind≠3-> ¬(0<=y.I/\bad[y.I.toNat]? =some false)->c'=c
def Yi (s:ae)(c:aj)(i:Nat)(n:ao)(k:Nat)(x:ao×List ai):Prop:=lH s (i:Int) n k x/\((∃m∈c.aC,bq s (i:Int) n m=some x)\/x=dV n (aaJ .i64 (n.A.View+1))\/(∃w,cF s (i:Int) n w=some x)\/x=(nd s n,[]))
theorem K0 {s:ae}{bad:List Bool}{want:List (List UInt8)}{c:aj}{k:Nat}(h:Inv s bad want c k)(hk:k<=400)(Dq:bad.length<=30)(hw:want.length=bad.length){y:dv}(hy:ER y){Q:aj->Prop}(h0:Q c)(hs:y.Kind=3->lh c y.M=some true->Q (KZ c [y.M]))(ha: ∀(i:Nat) n x,y.Kind≠3->y.I=(i:Int)->bad[i]? =some false->i<c.N.length->c.N[i]? =some n->dP s (i:Int) n k->Yi s c i n k x->Q (kl c i x.1 x.2)):aK (eB c y) Q:=by
 have hp:=h.lI;have hl:=h.len;unfold eB;by_cases k3:y.Kind=3
 ·rw [if_pos k3];obtain ⟨b,eb,hb⟩:=G9 h.lI (λm hm=>(h.short m hm).s.r) hy.m.s;rw [eb,au];cases b with
  |false=>simp only [No,if_false,au,eS];exact .mk h0
  |true=>rw [if_pos rfl,afp hp (by simp)];simp only [au,eS];exact .mk (hs k3 eb)
 rw [if_neg k3,nS,au];by_cases hg:0<=y.I/\c.bY[y.I.toNat]? =some false;rotate_left
 ·rw [decide_eq_false hg,if_pos (by simp)];exact .mk h0
 rw [decide_eq_true hg,if_neg (by simp),gO (by omega),au];obtain ⟨hI,hb⟩:=hg;have ajq:y.I=(y.I.toNat:Int):=by omega
 generalize y.I.toNat=i at hb ajq;rw [h.bY] at hb;have TW:i<bad.length:=(cV.1 hb).1;have hi:i<c.N.length:=by omega
 have hn:c.N[i]? =some c.N[i]:=AT hi;have E5:=h.nodes i _ hn;have hdo: ∀{x},Yi s c i c.N[i] k x->Q (kl c i x.1 x.2):=λhx=>ha i _ _ k3 ajq hb hi hn E5 hx;have TA: ∀{x},Yi s c i c.N[i] k x->fH ⟨c.S,c.bY,c.Want,c.N,c.aC⟩ (i:Int) x.1 x.2=some ((),kl c i x.1 x.2):=λhx=>yV (c:=⟨c.S,c.bY,c.Want,c.N,c.aC⟩) hi _ hp (by have:=hx.1.out;omega);rw [ajq];by_cases k0:y.Kind=0
 ·simp only [k0,if_true];rw [acF,au];by_cases hj:0<=y.J/\y.J<(c.aC.length:Int)
  ·have Gi:y.J.toNat<c.aC.length:=by omega
   rw [decide_eq_true hj,if_pos rfl,ab2 hj.1 Gi];obtain ⟨x,ex,hx⟩:=Ha E5 (by omega) (h.short _ (OF Gi));have hA:Yi s c i c.N[i] k x:=⟨hx,.inl ⟨_,OF Gi,ex⟩⟩
   rw [<-h.S] at ex;unfold cD;simp only [eS];rw [bB hi,ex,au,TA hA];simp only [au,eS];exact .mk (hdo hA)
  ·rw [decide_eq_false hj];simp only [No,if_false,au,eS];exact .mk h0
 simp only [k0,if_false];by_cases k1:y.Kind=1
 ·simp only [k1,if_true];rw [bB hi];obtain ⟨ex,hx⟩:=yU E5 (aaJ .i64 (c.N[i].A.View+1));have hA:Yi s c i c.N[i] k _:=⟨hx,.inr (.inl rfl)⟩
  rw [<-h.S] at ex;unfold dx;simp only [eS];rw [bB hi,ex,au,TA hA];simp only [au,eS];exact .mk (hdo hA)
 simp only [k1,if_false];by_cases k2:y.Kind=2
 ·simp only [k2,if_true];have hiw:i<c.Want.length:=by rw [h.Want];omega
  obtain ⟨x,ex,hx⟩:=Hb E5 (by omega) c.Want[i];have hA:Yi s c i c.N[i] k x:=⟨hx,.inr (.inr (.inl ⟨_,ex⟩))⟩
  rw [<-h.S] at ex;unfold cX;simp only [eS];rw [bB hi,bB hiw,ex,au,TA hA];simp only [au,eS];exact .mk (hdo hA)
 simp only [k2,if_false];by_cases k4:y.Kind=4
 ·simp only [k4,if_true];obtain ⟨ex,hx⟩:=L6 E5;have hd:=hdo (x:=(nd s c.N[i],[])) ⟨hx,.inr (.inr (.inr rfl))⟩;rw [<-h.S] at ex;rw [bB hi,ex,au,bB hi];simp only [au];have he:kl c i (nd s c.N[i]) []=⟨c.S,c.bY,c.Want,c.N.set i (nd c.S c.N[i]),c.aC⟩:=by unfold kl;rw [List.take_nil,List.append_nil,h.S]
  rw [he] at hd;exact .mk hd
 ·simp only [k4,if_false,au,eS];exact .mk h0
theorem Oj {s:ae}{bad:List Bool}{want:List (List UInt8)}{c:aj}{k:Nat}(h:Inv s bad want c k)(hk:k<=400)(Dq:bad.length<=30)(hw:want.length=bad.length){y:dv}(hy:ER y):aK (eB c y) (anW s bad want c k y):=by
 refine K0 h hk Dq hw hy ⟨h.mono,Nat.le_refl _,λ_ _=>rfl,λ_ _=>rfl⟩ (λk3 e=> ?_) λi n x k3 hI hb hi hn _ hx=>⟨h.put hb hn hx.1,by simp [kl],λh=>absurd h k3,λ_ B3=>absurd ⟨by omega,by rw [hI,sh];exact hb⟩ B3⟩
 obtain ⟨b,eb,hb⟩:=G9 h.lI (λm hm=>(h.short m hm).s.r) hy.m.s;rw [e] at eb;obtain rfl:=IT eb;exact ⟨h.say hy.m (λh2=>by have:=hb rfl h2;rw [h.bY] at this;exact this),by simp [KZ],λ_ h=>absurd h (by rw [e];simp),λh=>absurd k3 h⟩
theorem afq {s:ae}(hs:cC s){bad:List Bool}{want:List (List UInt8)}(hn:(bad.length:Int)=kz s):Inv s bad want (tC s bad want) 0:=by
 refine ⟨rfl,rfl,rfl,by simp [tC],λi n h=> ?_,by simp [tC],?_,?_,?_,?_⟩
 ·obtain ⟨hi,he⟩:=cV.1 h;have hi':i<bad.length:=by simpa [tC] using hi
  have:n=rc s (i:Int):=by rw [<-he];simp [tC]
  rw [this];exact Ya ⟨hs,by omega,by omega⟩
 all_goals (intro m hm;exact absurd hm (by simp [tC]))
end Dn.S
