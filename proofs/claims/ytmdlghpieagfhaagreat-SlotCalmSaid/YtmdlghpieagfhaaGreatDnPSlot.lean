import Derived.Test.YtmdlghpieagfhaaGreatDnPAcc7
import Derived.Test.YtmdlghpieagfhaaGreatDnPLearn4
/- Nodes: what they come to, as the document says. Conditions: none. -/
set_option linter.unusedVariables false
set_option linter.unusedSimpArgs false
open List renaming mem_singleton→cV,pairwise_append→sh,mem_iff_getElem→AI,length_take→AT,length_drop→BY,mem_append→IT
open Go Dn
namespace Dn.S
def plN (n:ao):yp:=⟨plA n.A,plL n.L,n.dq,n.et⟩
def plM (m:ai):fD:=⟨m.Kind,m.cN,m.View,m.Value,m.fC,m.bM,m.Proof,m.R⟩
structure acA (m:ai):Prop where
 gJ:m.fC.length<2^32
 G6: ∀r∈m.fC,r.Proof.length<2^32
 proof:m.Proof.length<2^32
 r:m.R.Proof.length<2^32
abbrev rk (r:ab):Int:=r.By
structure dP (s:ae) (i:Int) (n:ao) (k:Nat):Prop where
 acc:kO n.A
 zM:n.A.S=s
 sq:n.A.Me=i
 dU:lZ n.L
 qp:n.L.S=s
 inc:oh rk n.dq
 small: ∀r∈n.dq,r.Proof.length<=100
 len:n.dq.length<=k
theorem dP.sz {s:ae}{i:Int}{n:ao}{k:Nat}(h:dP s i n k):cC s:=by have:=h.acc.sz;rw [h.zM] at this;exact this
theorem dP.mono {s:ae}{i:Int}{n:ao} {k k':Nat}(h:dP s i n k)(hk:k<=k'):dP s i n k':=⟨h.acc,h.zM,h.sq,h.dU,h.qp,h.inc,h.small,by have:=h.len;omega⟩
theorem kO.E4 {a:af}(h:kO a):a.bT.L.length<2^31:=tA h.sz (s:=a.S) (last:=a.View) ⟨λe he=>⟨(h.all e he).1,by have:=(h.all e he).2;omega⟩,h.jA⟩
theorem lZ.E4 {l:ar}(h:lZ l):l.aY.L.length<2^31/\l.aR.L.length<2^31/\l.Told.L.length<2^31:=⟨tA h.sz h.acc,tA h.sz h.sL,tA h.sz h.told⟩
def dG (s:ae)(v:Int):Int:=Int.tmod (imax v 0) (kz s)
theorem dI {s:ae}(h:cC s)(v:Int):eN s v=some (dG s v):=by unfold eN dG kz;have Nj:=(b7 s).1 h;rw [om h,au,if_pos (by rw [Bool.not_eq_true',decide_eq_false_iff_not];omega)]
theorem ajl {L:List ab}(h:oh rk L)(a:ab)(hn:nR rk L (rk a)=false):oh rk (Kz rk L a):=by
 obtain ⟨h1,h2⟩:=h.lb (rk a);unfold Kz oh;rw [sh,sh];have ht: ∀x∈L.take (qH rk L (rk a)),rk x<rk a:=by intro x hx;obtain ⟨k,hk,rfl⟩:=AI.1 hx;rw [AT] at hk;rw [List.getElem_take];exact h1 k (by omega) (by omega)
 have hd: ∀x∈L.drop (qH rk L (rk a)),rk a<rk x:=by
  intro x hx;obtain ⟨k,hk,rfl⟩:=AI.1 hx;rw [BY] at hk;rw [List.getElem_drop];have g:=h2 (qH rk L (rk a)+k) (by omega) (by omega);have di:rk L[qH rk L (rk a)+k]≠rk a:=by intro he;have:nR rk L (rk a)=true:=xB.2 ⟨_,List.getElem_mem _,he⟩;rw [hn] at this;cases this
  omega
 refine ⟨⟨h.sublist (List.take_sublist _ _),List.pairwise_singleton _ _,λx hx y hy=> ?_⟩,h.sublist (List.drop_sublist _ _),λx hx y hy=> ?_⟩
 ·simp only [cV] at hy;subst hy;exact ht x hx
 ·have hy:=hd y hy;rcases IT.1 hx with hx|hx
  ·have:=ht x hx;omega
  ·simp only [cV] at hx;subst hx;exact hy
theorem UE {L:List ab}{a x:ab}(h:x∈Kz rk L a):x=a\/x∈L:=by
 unfold Kz at h;simp only [IT,cV] at h;rcases h with (h|h)|h
 ·exact .inr (List.mem_of_mem_take h)
 ·exact .inl h
 ·exact .inr (List.mem_of_mem_drop h)
theorem ajm (L:List ab)(a:ab):(Kz rk L a).length=L.length+1:=by have:=A6 (key:=rk) L (rk a);unfold Kz;simp only [List.length_append,AT,BY,List.length_cons,List.length_nil];omega
def wL (n:ao)(r:ab)(ok:Bool):List ab:=if ok=true/\nR rk n.dq r.By=false then Kz rk n.dq r else n.dq
theorem R3 {L:List ab}{s:Int}(hs:oh rk L)(hl:L.length<2^60):cA L s fU=some ((qH rk L s:Int),nR rk L s):=by have:cA L s fU=bsearch L s fU:=rfl;rw [this];exact Kx hs hl λa=>by unfold fU;rw [KC];rfl
theorem afg {s:ae}{i:Int}{n:ao}{k:Nat}(h:dP s i n k){r:ab}(hr:r.Proof.length<=100)(ok:Bool):dP s i ⟨n.A,n.L,wL n r ok,n.et⟩ (k+1):=by
 have hl:=h.len;unfold wL;split
 ·rename_i hc;refine ⟨h.acc,h.zM,h.sq,h.dU,h.qp,ajl h.inc r hc.2,λx hx=> ?_,by rw [ajm];omega⟩;rcases UE hx with rfl|hx
  ·exact hr
  ·exact h.small x hx
 ·exact ⟨h.acc,h.zM,h.sq,h.dU,h.qp,h.inc,h.small,by simp only;omega⟩
end Dn.S
