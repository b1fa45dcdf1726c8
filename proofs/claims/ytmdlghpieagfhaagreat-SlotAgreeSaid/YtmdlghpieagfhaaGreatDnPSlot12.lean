import Derived.Test.YtmdlghpieagfhaaGreatDnPSlot11
import Derived.Test.YtmdlghpieagfhaaGreatDnPSlot8
/-
  Slots: what holds of a slot after any acts. Conditions: none.
-/
set_option linter.unusedVariables false
set_option linter.unusedSimpArgs false
open List renaming getElem?_eq_some_iff→cM,length_append→AI,getElem?_eq_getElem→AT,length_take→BY,mem_append→OF
open Int renaming toNat_natCast→sh
open Bool renaming false_eq_true→IT
open Nat renaming le_refl→No
open Option.some renaming inj→aaf
open Go Dn
namespace Dn.S
def M7 (c:aj)(l:List al):aj:=⟨c.S,c.bY,c.Want,c.N,c.aV++l.take (400-c.aV.length)⟩
theorem RH {c:aj}{l:List al}(h:c.aV.length<=400)(hl:l.length<=1000):gX c l=some ((),M7 c l):=by
 unfold gX;have:Loop (fe l) (0,c.S.F,c.S.T,c.bY,c.Want,c.N,c.aV)=some (c.S.F,c.S.T,c.bY,c.Want,c.N,c.aV++l.take (400-c.aV.length)):=by
  refine aL.eq (aL.count (λk=>((k:Int),c.S.F,c.S.T,c.bY,c.Want,c.N,c.aV++l.take (min k (400-c.aV.length)))) l.length (λ_=>True) (by simp) trivial (λk hk _=> ?_) (λ_=> ?_))
  ·unfold fe;simp only;have hlen:(c.aV++l.take (min k (400-c.aV.length))).length=c.aV.length+min k (400-c.aV.length):=by rw [AI,BY];omega
   rw [if_pos (by omega),bA hk];by_cases hr:k<400-c.aV.length
   ·rw [if_pos (by omega)];unfold gw;rw [if_pos ⟨rfl,rfl⟩,au,if_pos ⟨by simp,by rw [List.length_singleton];omega⟩,au,wrap64 (by omega) (by omega)];refine .mk ⟨?_,trivial⟩;rw [show min k (400-c.aV.length)=k by omega,show min (k+1) (400-c.aV.length)=k+1 by omega,List.take_add_one,AT hk,List.append_assoc];rfl
   ·rw [if_neg (by omega),au,wrap64 (by omega) (by omega)];refine .mk ⟨?_,trivial⟩;rw [show min (k+1) (400-c.aV.length)=min k (400-c.aV.length) by omega];rfl
  ·unfold fe;simp only;rw [if_neg (by omega)];refine .mk ?_;show (_,_)=_;by_cases hr:l.length<=400-c.aV.length
   ·rw [show min l.length (400-c.aV.length)=l.length by omega,List.take_length,List.take_of_length_le hr]
   ·rw [show min l.length (400-c.aV.length)=400-c.aV.length by omega]
 rw [this];rfl
theorem Vt {c:aj}{l:List al}(h:c.aV.length<=400)(hl:l.length<=1000):nV c l=some ((),M7 c l):=(show nV c l=gX c l from rfl).trans (RH h hl)
def BJ (c:aj)(i:Nat)(n:ar)(l:List al):aj:=⟨c.S,c.bY,c.Want,c.N.set i n,c.aV++l.take (400-c.aV.length)⟩
theorem th {c:aj}{i:Nat}(hi:i<c.N.length)(n:ar){l:List al}(h:c.aV.length<=400)(hl:l.length<=1000):gJ c (i:Int) n l=some ((),BJ c i n l):=by unfold gJ;rw [bA hi,sh,RH (c:=⟨c.S,c.bY,c.Want,c.N.set i n,c.aV⟩) h hl];rfl
structure Inv (s:ae) (bad:List Bool) (want:List (List UInt8)) (c:aj) (k:Nat):Prop where
 S:c.S=s
 bY:c.bY=bad
 Want:c.Want=want
 len:c.N.length=bad.length
 nodes: ∀(i:Nat) n,c.N[i]? =some n->gE s (i:Int) n k
 r9:c.aV.length<=400
 short: ∀m∈c.aV,xl m
 range: ∀m∈c.aV,m.Kind=2->0<=m.dv.By/\m.dv.By.toNat<bad.length
 last: ∀m∈c.aV,m.Kind=2-> ∀(b:Nat) n,m.dv.By=(b:Int)->bad[b]? =some false->c.N[b]? =some n->n.A.Has=true/\m.dv.View<=n.A.At/\(m.dv.View=n.A.At->m.dv.Value=n.A.Value)
 one: ∀m∈c.aV,∀m'∈c.aV,m.Kind=2->m'.Kind=2->m.dv.By=m'.dv.By->bad[m.dv.By.toNat]? =some false->m.dv.View=m'.dv.View->m.dv.Value=m'.dv.Value
theorem Inv.mono {s:ae}{bad:List Bool}{want:List (List UInt8)}{c:aj}{k:Nat}(h:Inv s bad want c k):Inv s bad want c (k+1):={h with nodes:=λi n hn=>(h.nodes i n hn).mono (by omega)}
theorem Ex {α:Type}{l:List α}{k:Nat}{x:α}(h:x∈l.take k):x∈l:=List.mem_of_mem_take h
theorem Inv.put {s:ae}{bad:List Bool}{want:List (List UInt8)}{c:aj}{k:Nat}(h:Inv s bad want c k){i:Nat}{n:ar}(hb:bad[i]? =some false)(hn:c.N[i]? =some n){x:ar×List al}(hx:mR s (i:Int) n k x):Inv s bad want (BJ c i x.1 x.2) (k+1):=by
 obtain ⟨hi,he⟩:=cM.1 hn;have hp:=h.r9;have hil:i<bad.length:=by rw [<-h.len];exact hi
 have Us:(BJ c i x.1 x.2).N[i]? =some x.1:=List.getElem?_set_self hi;have K3: ∀b,b≠i->(BJ c i x.1 x.2).N[b]? =c.N[b]? :=λb hb=>List.getElem?_set_ne (λe=>hb e.symm);have ov: ∀m∈(BJ c i x.1 x.2).aV,m∈c.aV\/m∈x.2:=λm hm=>(OF.1 hm).imp id Ex;have hold: ∀m∈c.aV,m.Kind=2->m.dv.By=(i:Int)->n.A.Has=true/\m.dv.View<=n.A.At/\(m.dv.View=n.A.At->m.dv.Value=n.A.Value):=λm hm hk EC=>h.last m hm hk i n EC hb hn;refine ⟨h.S,h.bY,h.Want,by show (c.N.set i x.1).length=_;rw [List.length_set];exact h.len,?_,?_,?_,?_,?_,?_⟩
 ·intro b n' hn';by_cases Tj:b=i
  ·subst Tj;rw [Us] at hn';obtain rfl:=aaf hn';exact hx.inv
  ·rw [K3 b Tj] at hn';exact (h.nodes b n' hn').mono (by omega)
 ·show (c.aV++x.2.take (400-c.aV.length)).length<=400;rw [AI,BY];omega
 ·intro m hm;rcases ov m hm with hm|hm
  ·exact h.short m hm
  ·exact hx.short m hm
 ·intro m hm hk;rcases ov m hm with hm|hm
  ·exact h.range m hm hk
  ·rw [(hx.says m hm hk).1];exact ⟨by omega,by rw [sh];exact hil⟩
 ·intro m hm hk b n' EC tR hn';by_cases Tj:b=i
  ·subst Tj;rw [Us] at hn';obtain rfl:=aaf hn';rcases ov m hm with hm|hm
   ·obtain ⟨g1,g2,g3⟩:=hold m hm hk EC;obtain ⟨g4,g5⟩:=hx.has g1;refine ⟨g4,by omega,λe=> ?_⟩;rcases g5 with g5|⟨g5,g6⟩
    ·omega
    ·rw [<-g6];exact g3 (by omega)
   ·obtain ⟨g1,g2,g3,g4,g5⟩:=hx.says m hm hk;exact ⟨g2,by omega,λ_=>g4⟩
  ·rw [K3 b Tj] at hn';rcases ov m hm with hm|hm
   ·exact h.last m hm hk b n' EC tR hn'
   ·have:=(hx.says m hm hk).1;omega
 ·intro m hm m' LM hk LX EC tR hv;rcases ov m hm with hm|hm<;>rcases ov m' LM with LM|LM
  ·exact h.one m hm m' LM hk LX EC tR hv
  ·obtain ⟨g1,g2,g3,g4,g5⟩:=hx.says m' LM LX;obtain ⟨q1,q2,q3⟩:=hold m hm hk (by omega);have:=g5 q1;omega
  ·obtain ⟨g1,g2,g3,g4,g5⟩:=hx.says m hm hk;obtain ⟨q1,q2,q3⟩:=hold m' LM LX (by omega);have:=g5 q1;omega
  ·rw [(hx.says m hm hk).2.2.2.1,(hx.says m' LM LX).2.2.2.1]
theorem Inv.say {s:ae}{bad:List Bool}{want:List (List UInt8)}{c:aj}{k:Nat}(h:Inv s bad want c k){m0:al}(h0:xl m0)(hv:m0.Kind=2->0<=m0.dv.By/\bad[m0.dv.By.toNat]? =some true):Inv s bad want (M7 c [m0]) (k+1):=by
 have hp:=h.r9;have ov: ∀m∈(M7 c [m0]).aV,m∈c.aV\/m=m0:=λm hm=>(OF.1 hm).imp id (λh=>List.mem_singleton.1 (Ex h));have FY:m0.Kind=2-> ∀b:Nat,m0.dv.By=(b:Int)->bad[b]? =some false->False:=λhk b hb tR=>by have:=(hv hk).2;rw [hb,sh,tR] at this;cases this
 refine ⟨h.S,h.bY,h.Want,h.len,h.mono.nodes,?_,?_,?_,?_,?_⟩
 ·show (c.aV++[m0].take (400-c.aV.length)).length<=400;rw [AI,BY];omega
 ·intro m hm;rcases ov m hm with hm|rfl
  ·exact h.short m hm
  ·exact h0
 ·intro m hm hk;rcases ov m hm with hm|rfl
  ·exact h.range m hm hk
  ·exact ⟨(hv hk).1,(cM.1 (hv hk).2).1⟩
 ·intro m hm hk b n' EC tR hn';rcases ov m hm with hm|rfl
  ·exact h.last m hm hk b n' EC tR hn'
  ·exact (FY hk b EC tR).elim
 ·intro m hm m' LM hk LX EC tR RP;rcases ov m hm with hm|rfl
  ·rcases ov m' LM with LM|rfl
   ·exact h.one m hm m' LM hk LX EC tR RP
   ·rw [EC,(hv LX).2] at tR;cases tR
  ·rw [(hv hk).2] at tR;cases tR
theorem RI {p q:Prop}[Decidable p][Decidable q]:(if p then some (decide q) else some false:Option Bool)=some (decide (p/\q)):=by by_cases hp:p<;>by_cases hq:q<;>simp [hp,hq]
structure Vu (s:ae) (bad:List Bool) (want:List (List UInt8)) (c:aj) (k:Nat) (y:dz) (c':aj):Prop where
 inv:Inv s bad want c' (k+1)
 more:c.aV.length<=c'.aV.length
 sound:y.Kind=3->mC c y.M=some false->c'=c
 Lw:y.Kind≠3-> ¬(0<=y.I/\bad[y.I.toNat]? =some false)->c'=c
theorem NO {s:ae}{bad:List Bool}{want:List (List UInt8)}{c:aj}{k:Nat}(h:Inv s bad want c k)(hk:k<=400)(Ud:bad.length<=30)(hw:want.length=bad.length){y:dz}(hy:Kz y):aL (eF c y) (Vu s bad want c k y):=by
 have hp:=h.r9;have hl:=h.len;unfold eF;by_cases k3:y.Kind=3
 ·rw [if_pos k3];obtain ⟨b,eb,hb⟩:=GG h.r9 (λm hm=>(h.short m hm).s.r) hy.m.s;rw [eb,au];cases b with
  |false=>simp only [IT,if_false,au,eS];exact .mk ⟨h.mono,No _,λ_ _=>rfl,λh=>absurd k3 h⟩
  |true=>rw [if_pos rfl,Vt hp (by simp)];simp only [au,eS];exact .mk ⟨h.say hy.m (λh2=>by have:=hb rfl h2;rw [h.bY] at this;exact this),by simp [M7],λ_ h=>absurd h (by rw [eb];simp),λh=>absurd k3 h⟩
 rw [if_neg k3,mQ,au];by_cases hg:0<=y.I/\c.bY[y.I.toNat]? =some false;rotate_left
 ·rw [decide_eq_false hg,if_pos (by simp)];exact .mk ⟨h.mono,No _,λh=>absurd h k3,λ_ _=>rfl⟩
 rw [decide_eq_true hg,if_neg (by simp),iq (by omega),au];obtain ⟨hI,hb⟩:=hg;have XH:y.I=(y.I.toNat:Int):=by omega
 generalize y.I.toNat=i at hb XH;rw [h.bY] at hb;rw [XH];have U5:i<bad.length:=(cM.1 hb).1;have hi:i<c.N.length:=by omega
 have hn:c.N[i]? =some c.N[i]:=AT hi;have KL:=h.nodes i _ hn;have Gw: ∀c',y.Kind≠3-> ¬(0<=y.I/\bad[y.I.toNat]? =some false)->c'=c:=λc' _ FY=>absurd ⟨by omega,by rw [XH,sh];exact hb⟩ FY;have qo: ∀{x:ar×List al},mR s (i:Int) c.N[i] k x->Vu s bad want c k y (BJ c i x.1 x.2):=λhx=>⟨h.put hb hn hx,by simp [BJ],λh=>absurd h k3,Gw _⟩
 have gV:Vu s bad want c k y c:=⟨h.mono,No _,λh=>absurd h k3,λ_ _=>rfl⟩
 by_cases k0:y.Kind=0
 ·simp only [k0,if_true];rw [RI,au];by_cases hj:0<=y.J/\y.J<(c.aV.length:Int)
  ·have C2:y.J.toNat<c.aV.length:=by omega
   rw [decide_eq_true hj,if_pos rfl,TL hj.1 C2];obtain ⟨x,ex,hx⟩:=AO KL (by omega) (h.short _ (List.getElem_mem C2));rw [<-h.S] at ex;unfold cN;simp only [eS];rw [bA hi,ex,au,th (c:=⟨c.S,c.bY,c.Want,c.N,c.aV⟩) hi _ hp (by have:=hx.out;omega)];simp only [au,eS];exact .mk (qo hx)
  ·rw [decide_eq_false hj];simp only [IT,if_false,au,eS];exact .mk gV
 simp only [k0,if_false];by_cases k1:y.Kind=1
 ·simp only [k1,if_true];rw [bA hi];obtain ⟨ex,hx⟩:=yA KL (IntKind.wrap .i64 (c.N[i].A.View+1));rw [<-h.S] at ex;unfold dW;simp only [eS];rw [bA hi,ex,au,th (c:=⟨c.S,c.bY,c.Want,c.N,c.aV⟩) hi _ hp (by have:=hx.out;omega)];simp only [au,eS];exact .mk (qo hx)
 simp only [k1,if_false];by_cases k2:y.Kind=2
 ·simp only [k2,if_true];have hiw:i<c.Want.length:=by rw [h.Want];omega
  obtain ⟨x,ex,hx⟩:=AP KL (by omega) c.Want[i];rw [<-h.S] at ex;unfold dO;simp only [eS];rw [bA hi,bA hiw,ex,au,th (c:=⟨c.S,c.bY,c.Want,c.N,c.aV⟩) hi _ hp (by have:=hx.out;omega)];simp only [au,eS];exact .mk (qo hx)
 simp only [k2,if_false];by_cases k4:y.Kind=4
 ·simp only [k4,if_true];obtain ⟨ex,hx⟩:=Cc KL;rw [<-h.S] at ex;rw [bA hi,ex,au,bA hi];simp only [au];have hd:Vu s bad want c k y (BJ c i (kD s c.N[i]) []):=qo hx;have he:BJ c i (kD s c.N[i]) []=⟨c.S,c.bY,c.Want,c.N.set i (kD c.S c.N[i]),c.aV⟩:=by unfold BJ;rw [List.take_nil,List.append_nil,h.S]
  rw [he] at hd;exact .mk hd
 ·simp only [k4,if_false,au,eS];exact .mk gV
theorem aeN {s:ae}(hs:cC s){bad:List Bool}{want:List (List UInt8)}(hn:(bad.length:Int)=mS s):Inv s bad want (uU s bad want) 0:=by
 refine ⟨rfl,rfl,rfl,by simp [uU],λi n h=> ?_,by simp [uU],?_,?_,?_,?_⟩
 ·obtain ⟨hi,he⟩:=cM.1 h;have hi':i<bad.length:=by simpa [uU] using hi
  have:n=sE s (i:Int):=by rw [<-he];simp [uU]
  rw [this];exact Xz ⟨hs,by omega,by omega⟩
 all_goals (intro m hm;exact absurd hm (by simp [uU]))
end Dn.S
