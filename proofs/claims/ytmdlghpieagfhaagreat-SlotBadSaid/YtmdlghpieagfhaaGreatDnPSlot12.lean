import Derived.Test.YtmdlghpieagfhaaGreatDnPSlot11
import Derived.Test.YtmdlghpieagfhaaGreatDnPSlot8
/-
  Slots: what holds of a slot after any acts. Conditions: none.
-/
set_option linter.unusedVariables false
set_option linter.unusedSimpArgs false
open List renaming getElem?_eq_some_iff→eJ,getElem?_eq_getElem→sh,length_append→AT,length_take→BY,mem_append→IT
open Int renaming toNat_natCast→AI
open Bool renaming false_eq_true→IN
open Nat renaming le_refl→IS
open Go Dn
namespace Dn.S
def QF (c:au)(l:List al):au:=⟨c.S,c.cQ,c.Want,c.N,c.bg++l.take (400-c.bg.length)⟩
theorem QG {c:au}{l:List al}(h:c.bg.length<=400)(hl:l.length<=1000):hM c l=some ((),QF c l):=by
 unfold hM;have:Loop (fg l) (0,c.S.F,c.S.T,c.cQ,c.Want,c.N,c.bg)=some (c.S.F,c.S.T,c.cQ,c.Want,c.N,c.bg++l.take (400-c.bg.length)):=by
  refine aL.eq (aL.count (λk=>((k:Int),c.S.F,c.S.T,c.cQ,c.Want,c.N,c.bg++l.take (min k (400-c.bg.length)))) l.length (λ_=>True) (by simp) trivial (λk hk _=> ?_) (λ_=> ?_))
  ·unfold fg;simp only;have hlen:(c.bg++l.take (min k (400-c.bg.length))).length=c.bg.length+min k (400-c.bg.length):=by rw [AT,BY];omega
   rw [if_pos (by omega),bh hk];by_cases hr:k<400-c.bg.length
   ·rw [if_pos (by omega)];unfold gq;rw [if_pos ⟨rfl,rfl⟩,ap,if_pos ⟨by simp,by rw [List.length_singleton];omega⟩,ap,wrap64 (by omega) (by omega)];refine .mk ⟨?_,trivial⟩;rw [show min k (400-c.bg.length)=k by omega,show min (k+1) (400-c.bg.length)=k+1 by omega,List.take_add_one,sh hk,List.append_assoc];rfl
   ·rw [if_neg (by omega),ap,wrap64 (by omega) (by omega)];refine .mk ⟨?_,trivial⟩;rw [show min (k+1) (400-c.bg.length)=min k (400-c.bg.length) by omega];rfl
  ·unfold fg;simp only;rw [if_neg (by omega)];refine .mk ?_;show (_,_)=_;by_cases hr:l.length<=400-c.bg.length
   ·rw [show min l.length (400-c.bg.length)=l.length by omega,List.take_length,List.take_of_length_le hr]
   ·rw [show min l.length (400-c.bg.length)=400-c.bg.length by omega]
 rw [this];rfl
theorem abZ {c:au}{l:List al}(h:c.bg.length<=400)(hl:l.length<=1000):oq c l=some ((),QF c l):=(show oq c l=hM c l from rfl).trans (QG h hl)
def La (c:au)(i:Nat)(n:aq)(l:List al):au:=⟨c.S,c.cQ,c.Want,c.N.set i n,c.bg++l.take (400-c.bg.length)⟩
theorem Oh {c:au}{i:Nat}(hi:i<c.N.length)(n:aq){l:List al}(h:c.bg.length<=400)(hl:l.length<=1000):gE c (i:Int) n l=some ((),La c i n l):=by unfold gE;rw [bh hi,AI,QG (c:=⟨c.S,c.cQ,c.Want,c.N.set i n,c.bg⟩) h hl];rfl
structure Inv (s:af) (bad:List Bool) (want:List (List UInt8)) (c:au) (k:Nat):Prop where
 S:c.S=s
 cQ:c.cQ=bad
 Want:c.Want=want
 len:c.N.length=bad.length
 nodes: ∀(i:Nat) n,c.N[i]? =some n->jq s (i:Int) n k
 AK:c.bg.length<=400
 short: ∀m∈c.bg,AF m
 range: ∀m∈c.bg,m.Kind=2->0<=m.cf.By/\m.cf.By.toNat<bad.length
 last: ∀m∈c.bg,m.Kind=2-> ∀(b:Nat) n,m.cf.By=(b:Int)->bad[b]? =some false->c.N[b]? =some n->n.A.Has=true/\m.cf.View<=n.A.At/\(m.cf.View=n.A.At->m.cf.Value=n.A.Value)
 one: ∀m∈c.bg,∀m'∈c.bg,m.Kind=2->m'.Kind=2->m.cf.By=m'.cf.By->bad[m.cf.By.toNat]? =some false->m.cf.View=m'.cf.View->m.cf.Value=m'.cf.Value
theorem Inv.mono {s:af}{bad:List Bool}{want:List (List UInt8)}{c:au}{k:Nat}(h:Inv s bad want c k):Inv s bad want c (k+1):={h with nodes:=λi n hn=>(h.nodes i n hn).mono (by omega)}
theorem QH {α:Type}{l:List α}{k:Nat}{x:α}(h:x∈l.take k):x∈l:=List.mem_of_mem_take h
theorem Inv.put {s:af}{bad:List Bool}{want:List (List UInt8)}{c:au}{k:Nat}(h:Inv s bad want c k){i:Nat}{n:aq}(hb:bad[i]? =some false)(hn:c.N[i]? =some n){x:aq×List al}(hx:nV s (i:Int) n k x):Inv s bad want (La c i x.1 x.2) (k+1):=by
 obtain ⟨hi,he⟩:=eJ.1 hn;have hp:=h.AK;have hil:i<bad.length:=by rw [<-h.len];exact hi
 have S4:(La c i x.1 x.2).N[i]? =some x.1:=List.getElem?_set_self hi;have RT: ∀b,b≠i->(La c i x.1 x.2).N[b]? =c.N[b]? :=λb hb=>List.getElem?_set_ne (λe=>hb e.symm);have qW: ∀m∈(La c i x.1 x.2).bg,m∈c.bg\/m∈x.2:=λm hm=>(IT.1 hm).imp id QH;have hold: ∀m∈c.bg,m.Kind=2->m.cf.By=(i:Int)->n.A.Has=true/\m.cf.View<=n.A.At/\(m.cf.View=n.A.At->m.cf.Value=n.A.Value):=λm hm hk Hh=>h.last m hm hk i n Hh hb hn;refine ⟨h.S,h.cQ,h.Want,by show (c.N.set i x.1).length=_;rw [List.length_set];exact h.len,?_,?_,?_,?_,?_,?_⟩
 ·intro b n' ZD;by_cases hbi:b=i
  ·subst hbi;rw [S4] at ZD;obtain rfl:=Option.some.inj ZD;exact hx.inv
  ·rw [RT b hbi] at ZD;exact (h.nodes b n' ZD).mono (by omega)
 ·show (c.bg++x.2.take (400-c.bg.length)).length<=400;rw [AT,BY];omega
 ·intro m hm;rcases qW m hm with hm|hm
  ·exact h.short m hm
  ·exact hx.short m hm
 ·intro m hm hk;rcases qW m hm with hm|hm
  ·exact h.range m hm hk
  ·rw [(hx.says m hm hk).1];exact ⟨by omega,by rw [AI];exact hil⟩
 ·intro m hm hk b n' Hh tP ZD;by_cases hbi:b=i
  ·subst hbi;rw [S4] at ZD;obtain rfl:=Option.some.inj ZD;rcases qW m hm with hm|hm
   ·obtain ⟨g1,g2,g3⟩:=hold m hm hk Hh;obtain ⟨g4,g5⟩:=hx.has g1;refine ⟨g4,by omega,λe=> ?_⟩;rcases g5 with g5|⟨g5,g6⟩
    ·omega
    ·rw [<-g6];exact g3 (by omega)
   ·obtain ⟨g1,g2,g3,g4,g5⟩:=hx.says m hm hk;exact ⟨g2,by omega,λ_=>g4⟩
  ·rw [RT b hbi] at ZD;rcases qW m hm with hm|hm
   ·exact h.last m hm hk b n' Hh tP ZD
   ·have:=(hx.says m hm hk).1;omega
 ·intro m hm m' HE hk Tk Hh tP hv;rcases qW m hm with hm|hm<;>rcases qW m' HE with HE|HE
  ·exact h.one m hm m' HE hk Tk Hh tP hv
  ·obtain ⟨g1,g2,g3,g4,g5⟩:=hx.says m' HE Tk;obtain ⟨q1,q2,q3⟩:=hold m hm hk (by omega);have:=g5 q1;omega
  ·obtain ⟨g1,g2,g3,g4,g5⟩:=hx.says m hm hk;obtain ⟨q1,q2,q3⟩:=hold m' HE Tk (by omega);have:=g5 q1;omega
  ·rw [(hx.says m hm hk).2.2.2.1,(hx.says m' HE Tk).2.2.2.1]
theorem Inv.say {s:af}{bad:List Bool}{want:List (List UInt8)}{c:au}{k:Nat}(h:Inv s bad want c k){m0:al}(h0:AF m0)(hv:m0.Kind=2->0<=m0.cf.By/\bad[m0.cf.By.toNat]? =some true):Inv s bad want (QF c [m0]) (k+1):=by
 have hp:=h.AK;have qW: ∀m∈(QF c [m0]).bg,m∈c.bg\/m=m0:=λm hm=>(IT.1 hm).imp id (λh=>List.mem_singleton.1 (QH h));have VV:m0.Kind=2-> ∀b:Nat,m0.cf.By=(b:Int)->bad[b]? =some false->False:=λhk b hb tP=>by have:=(hv hk).2;rw [hb,AI,tP] at this;cases this
 refine ⟨h.S,h.cQ,h.Want,h.len,h.mono.nodes,?_,?_,?_,?_,?_⟩
 ·show (c.bg++[m0].take (400-c.bg.length)).length<=400;rw [AT,BY];omega
 ·intro m hm;rcases qW m hm with hm|rfl
  ·exact h.short m hm
  ·exact h0
 ·intro m hm hk;rcases qW m hm with hm|rfl
  ·exact h.range m hm hk
  ·exact ⟨(hv hk).1,(eJ.1 (hv hk).2).1⟩
 ·intro m hm hk b n' Hh tP ZD;rcases qW m hm with hm|rfl
  ·exact h.last m hm hk b n' Hh tP ZD
  ·exact (VV hk b Hh tP).elim
 ·intro m hm m' HE hk Tk Hh tP ZG;rcases qW m hm with hm|rfl
  ·rcases qW m' HE with HE|rfl
   ·exact h.one m hm m' HE hk Tk Hh tP ZG
   ·rw [Hh,(hv Tk).2] at tP;cases tP
  ·rw [(hv hk).2] at tP;cases tP
theorem ZE {p q:Prop}[Decidable p][Decidable q]:(if p then some (decide q) else some false:Option Bool)=some (decide (p/\q)):=by by_cases hp:p<;>by_cases hq:q<;>simp [hp,hq]
structure TY (s:af) (bad:List Bool) (want:List (List UInt8)) (c:au) (k:Nat) (y:dy) (c':au):Prop where
 inv:Inv s bad want c' (k+1)
 more:c.bg.length<=c'.bg.length
 sound:y.Kind=3->mV c y.M=some false->c'=c
 ZA:y.Kind≠3-> ¬(0<=y.I/\bad[y.I.toNat]? =some false)->c'=c
theorem Nf {s:af}{bad:List Bool}{want:List (List UInt8)}{c:au}{k:Nat}(h:Inv s bad want c k)(hk:k<=400)(ZC:bad.length<=30)(hw:want.length=bad.length){y:dy}(hy:My y):aL (gu c y) (TY s bad want c k y):=by
 have hp:=h.AK;have hl:=h.len;unfold gu;by_cases k3:y.Kind=3
 ·rw [if_pos k3];obtain ⟨b,eb,hb⟩:=GI h.AK (λm hm=>(h.short m hm).s.r) hy.m.s;rw [eb,ap];cases b with
  |false=>simp only [IN,if_false,ap,eS];exact .mk ⟨h.mono,IS _,λ_ _=>rfl,λh=>absurd k3 h⟩
  |true=>rw [if_pos rfl,abZ hp (by simp)];simp only [ap,eS];exact .mk ⟨h.say hy.m (λh2=>by have:=hb rfl h2;rw [h.cQ] at this;exact this),by simp [QF],λ_ h=>absurd h (by rw [eb];simp),λh=>absurd k3 h⟩
 rw [if_neg k3,AJ,ap];by_cases hg:0<=y.I/\c.cQ[y.I.toNat]? =some false;rotate_left
 ·rw [decide_eq_false hg,if_pos (by simp)];exact .mk ⟨h.mono,IS _,λh=>absurd h k3,λ_ _=>rfl⟩
 rw [decide_eq_true hg,if_neg (by simp),nL (by omega),ap];obtain ⟨hI,hb⟩:=hg;have afJ:y.I=(y.I.toNat:Int):=by omega
 generalize y.I.toNat=i at hb afJ;rw [h.cQ] at hb;rw [afJ];have ZQ:i<bad.length:=(eJ.1 hb).1;have hi:i<c.N.length:=by omega
 have hn:c.N[i]? =some c.N[i]:=sh hi;have hNI:=h.nodes i _ hn;have TQ: ∀c',y.Kind≠3-> ¬(0<=y.I/\bad[y.I.toNat]? =some false)->c'=c:=λc' _ VV=>absurd ⟨by omega,by rw [afJ,AI];exact hb⟩ VV;have BV: ∀{x:aq×List al},nV s (i:Int) c.N[i] k x->TY s bad want c k y (La c i x.1 x.2):=λhx=>⟨h.put hb hn hx,by simp [La],λh=>absurd h k3,TQ _⟩
 have qI:TY s bad want c k y c:=⟨h.mono,IS _,λh=>absurd h k3,λ_ _=>rfl⟩
 by_cases k0:y.Kind=0
 ·simp only [k0,if_true];rw [ZE,ap];by_cases hj:0<=y.J/\y.J<(c.bg.length:Int)
  ·have EP:y.J.toNat<c.bg.length:=by omega
   rw [decide_eq_true hj,if_pos rfl,NT hj.1 EP];obtain ⟨x,ex,hx⟩:=QB hNI (by omega) (h.short _ (List.getElem_mem EP));rw [<-h.S] at ex;unfold jN;simp only [eS];rw [bh hi,ex,ap,Oh (c:=⟨c.S,c.cQ,c.Want,c.N,c.bg⟩) hi _ hp (by have:=hx.out;omega)];simp only [ap,eS];exact .mk (BV hx)
  ·rw [decide_eq_false hj];simp only [IN,if_false,ap,eS];exact .mk qI
 simp only [k0,if_false];by_cases k1:y.Kind=1
 ·simp only [k1,if_true];rw [bh hi];obtain ⟨ex,hx⟩:=Og hNI (IntKind.wrap .i64 (c.N[i].A.View+1));rw [<-h.S] at ex;unfold oP;simp only [eS];rw [bh hi,ex,ap,Oh (c:=⟨c.S,c.cQ,c.Want,c.N,c.bg⟩) hi _ hp (by have:=hx.out;omega)];simp only [ap,eS];exact .mk (BV hx)
 simp only [k1,if_false];by_cases k2:y.Kind=2
 ·simp only [k2,if_true];have hiw:i<c.Want.length:=by rw [h.Want];omega
  obtain ⟨x,ex,hx⟩:=QC hNI (by omega) c.Want[i];rw [<-h.S] at ex;unfold mZ;simp only [eS];rw [bh hi,bh hiw,ex,ap,Oh (c:=⟨c.S,c.cQ,c.Want,c.N,c.bg⟩) hi _ hp (by have:=hx.out;omega)];simp only [ap,eS];exact .mk (BV hx)
 simp only [k2,if_false];by_cases k4:y.Kind=4
 ·simp only [k4,if_true];obtain ⟨ex,hx⟩:=K9 hNI;rw [<-h.S] at ex;rw [bh hi,ex,ap,bh hi];simp only [ap];have hd:TY s bad want c k y (La c i (qB s c.N[i]) []):=BV hx;have he:La c i (qB s c.N[i]) []=⟨c.S,c.cQ,c.Want,c.N.set i (qB c.S c.N[i]),c.bg⟩:=by unfold La;rw [List.take_nil,List.append_nil,h.S]
  rw [he] at hd;exact .mk hd
 ·simp only [k4,if_false,ap,eS];exact .mk qI
theorem VI {s:af}{bad:List Bool}{want:List (List UInt8)}{c:au}{k:Nat}(h:Inv s bad want c k)(hk:k<=1000)(ZC:bad.length<=30)(hw:want.length=bad.length):lR c c=some true:=by
 have hp:=h.AK;unfold lR;rw [Qz (by rw [h.cQ];omega),K7 (by rw [h.Want];omega),abS (by rw [h.len];omega) (λn hn=> ?_),afF (by omega) (λm hm=>Zy (h.short m hm).s)]
 ·simp
 ·obtain ⟨i,hi,rfl⟩:=List.mem_iff_getElem.1 hn;exact VD (h.nodes i _ (sh hi)) hk
theorem ab0 {s:af}(hs:cr s){bad:List Bool}{want:List (List UInt8)}(hn:(bad.length:Int)=uI s):Inv s bad want (AG s bad want) 0:=by
 refine ⟨rfl,rfl,rfl,by simp [AG],λi n h=> ?_,by simp [AG],?_,?_,?_,?_⟩
 ·obtain ⟨hi,he⟩:=eJ.1 h;have hi':i<bad.length:=by simpa [AG] using hi
  have:n=yL s (i:Int):=by rw [<-he];simp [AG]
  rw [this];exact Vy ⟨hs,by omega,by omega⟩
 all_goals (intro m hm;exact absurd hm (by simp [AG]))
end Dn.S
