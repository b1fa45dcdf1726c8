import Derived.Test.YtmdlghpieagfhaaGreatDnPAcc7
import Derived.Test.YtmdlghpieagfhaaGreatDnPLearn4
/-
  Nodes: what they come to, as the document says. Conditions: none.
-/
set_option linter.unusedVariables false
set_option linter.unusedSimpArgs false
open List renaming mem_singleton→cM,pairwise_append→sh,mem_iff_getElem→AI,length_take→AT,length_drop→BY,mem_append→IT
open Go Dn
namespace Dn.S
def plN (n:ar):xX:=⟨plA n.A,plL n.L,n.eH,n.ir⟩
def plM (m:al):fA:=⟨m.Kind,m.eE,m.View,m.Value,m.fN,m.dv,m.Proof,m.R⟩
structure abP (m:al):Prop where
 kQ:m.fN.length<2^32
 Kw: ∀r∈m.fN,r.Proof.length<2^32
 proof:m.Proof.length<2^32
 r:m.R.Proof.length<2^32
abbrev rk (r:ab):Int:=r.By
structure gE (s:ae) (i:Int) (n:ar) (k:Nat):Prop where
 acc:kV n.A
 CX:n.A.S=s
 uH:n.A.Me=i
 eP:lN n.L
 qS:n.L.S=s
 inc:o8 rk n.eH
 small: ∀r∈n.eH,r.Proof.length<=100
 len:n.eH.length<=k
theorem gE.sz {s:ae}{i:Int}{n:ar}{k:Nat}(h:gE s i n k):cC s:=by have:=h.acc.sz;rw [h.CX] at this;exact this
theorem gE.mono {s:ae}{i:Int}{n:ar} {k k':Nat}(h:gE s i n k)(hk:k<=k'):gE s i n k':=⟨h.acc,h.CX,h.uH,h.eP,h.qS,h.inc,h.small,by have:=h.len;omega⟩
theorem kV.Hs {a:ah}(h:kV a):a.cF.L.length<2^31:=td h.sz (s:=a.S) (last:=a.View) ⟨λe he=>⟨(h.all e he).1,by have:=(h.all e he).2;omega⟩,h.ll⟩
theorem lN.Hs {l:aq}(h:lN l):l.aY.L.length<2^31/\l.bn.L.length<2^31/\l.Told.L.length<2^31:=⟨td h.sz h.acc,td h.sz h.zk,td h.sz h.told⟩
def kC (s:ae)(v:Int):Int:=Int.tmod (imax v 0) (mS s)
theorem fp {s:ae}(h:cC s)(v:Int):eC s v=some (kC s v):=by unfold eC kC mS;have Xl:=(dB s).1 h;rw [qa h,au,if_pos (by rw [Bool.not_eq_true',decide_eq_false_iff_not];omega)]
theorem aiA {L:List ab}(h:o8 rk L)(a:ab)(hn:qk rk L (rk a)=false):o8 rk (OH rk L a):=by
 obtain ⟨h1,h2⟩:=h.lb (rk a);unfold OH o8;rw [sh,sh];have ht: ∀x∈L.take (qQ rk L (rk a)),rk x<rk a:=by intro x hx;obtain ⟨k,hk,rfl⟩:=AI.1 hx;rw [AT] at hk;rw [List.getElem_take];exact h1 k (by omega) (by omega)
 have hd: ∀x∈L.drop (qQ rk L (rk a)),rk a<rk x:=by
  intro x hx;obtain ⟨k,hk,rfl⟩:=AI.1 hx;rw [BY] at hk;rw [List.getElem_drop];have g:=h2 (qQ rk L (rk a)+k) (by omega) (by omega);have db:rk L[qQ rk L (rk a)+k]≠rk a:=by intro he;have:qk rk L (rk a)=true:=AE.2 ⟨_,List.getElem_mem _,he⟩;rw [hn] at this;cases this
  omega
 refine ⟨⟨h.sublist (List.take_sublist _ _),List.pairwise_singleton _ _,λx hx y hy=> ?_⟩,h.sublist (List.drop_sublist _ _),λx hx y hy=> ?_⟩
 ·simp only [cM] at hy;subst hy;exact ht x hx
 ·have hy:=hd y hy;rcases IT.1 hx with hx|hx
  ·have:=ht x hx;omega
  ·simp only [cM] at hx;subst hx;exact hy
theorem abQ {L:List ab}{a x:ab}(h:x∈OH rk L a):x=a\/x∈L:=by
 unfold OH at h;simp only [IT,cM] at h;rcases h with (h|h)|h
 ·exact .inr (List.mem_of_mem_take h)
 ·exact .inl h
 ·exact .inr (List.mem_of_mem_drop h)
theorem aiB (L:List ab)(a:ab):(OH rk L a).length=L.length+1:=by have:=CM (key:=rk) L (rk a);unfold OH;simp only [List.length_append,AT,BY,List.length_cons,List.length_nil];omega
def Hd (n:ar)(r:ab)(ok:Bool):List ab:=if ok=true/\qk rk n.eH r.By=false then OH rk n.eH r else n.eH
theorem abR {L:List ab}{s:Int}(hs:o8 rk L)(hl:L.length<2^60):cu L s fP=some ((qQ rk L s:Int),qk rk L s):=by have:cu L s fP=bsearch L s fP:=rfl;rw [this];exact Kc hs hl λa=>by unfold fP;rw [Ki];rfl
theorem aeD {s:ae}{i:Int}{n:ar}{k:Nat}(h:gE s i n k){r:ab}(hr:r.Proof.length<=100)(ok:Bool):gE s i ⟨n.A,n.L,Hd n r ok,n.ir⟩ (k+1):=by
 have hl:=h.len;unfold Hd;split
 ·rename_i hc;refine ⟨h.acc,h.CX,h.uH,h.eP,h.qS,aiA h.inc r hc.2,λx hx=> ?_,by rw [aiB];omega⟩;rcases abQ hx with rfl|hx
  ·exact hr
  ·exact h.small x hx
 ·exact ⟨h.acc,h.CX,h.uH,h.eP,h.qS,h.inc,h.small,by simp only;omega⟩
end Dn.S
