import Derived.Test.YtmdlghpieagfhaaGreatDnPSlot5
/-
  Slots: a proposal that is accepted, accepts that are heard. Conditions: none.
-/
set_option linter.unusedVariables false
set_option linter.unusedSimpArgs false
open Bool renaming false_eq_true→cM,eq_false_iff→BY,not_true→IT
open List.Pairwise renaming nil→sh
open Int renaming le_refl→AI
open List renaming length_append→AT
open Go Dn
namespace Dn.S
abbrev vt (w:List UInt8)(b:Nat):aa:=⟨(b:Int),0,w⟩
structure M6 (s:ae) (a:Nat) (n:ar):Prop where
 ok:vN s (a:Int)
 acc:n.A=⟨s,(a:Int),0,false,0,[],[],⟨[]⟩⟩
 eP:n.L=(zh s).1
 Hf:n.eH=[]
structure GH (s:ae) (a:Nat) (w:List UInt8) (n:ar):Prop where
 ok:vN s (a:Int)
 short:w.length<=6000
 acc:n.A=⟨s,(a:Int),0,true,0,w,[],⟨[]⟩⟩
 eP:n.L=(zh s).1
 Hf:n.eH=[]
theorem M6.inv {s:ae}{a:Nat}{n:ar}(h:M6 s a n):gE s (a:Int) n 0:=by obtain ⟨n1,n2,_⟩:=uI h.ok.1;refine ⟨?_,by rw [h.acc],by rw [h.acc],by rw [h.eP];exact n1,by rw [h.eP];exact n2,by rw [h.Hf];exact sh,λr hr=>(by rw [h.Hf] at hr;cases hr),by rw [h.Hf];simp⟩;rw [h.acc];exact Kt h.ok
theorem GH.inv {s:ae}{a:Nat}{w:List UInt8}{n:ar}(h:GH s a w n):gE s (a:Int) n 0:=by obtain ⟨n1,n2,_⟩:=uI h.ok.1;refine ⟨?_,by rw [h.acc],by rw [h.acc],by rw [h.eP];exact n1,by rw [h.eP];exact n2,by rw [h.Hf];exact sh,λr hr=>(by rw [h.Hf] at hr;cases hr),by rw [h.Hf];simp⟩;rw [h.acc];exact ⟨h.ok.1,h.ok.2.1,h.ok.2.2,⟨AI 0,show (0:Int)<=100000 by decide,λ_=>⟨AI 0,AI 0,h.short⟩,λh=>(by cases h),.inl rfl⟩,⟨λe he=>(by cases he),sh⟩,λe he=>(by cases he)⟩
theorem af5 (s:ae):kC s 0=0:=by unfold kC imax;simp
theorem GI {s:ae}{a:Nat}(h:vN s (a:Int)):M6 s a (sE s (a:Int)):=⟨h,rfl,rfl,rfl⟩
theorem T9 {s:ae}{n:ar}(h:M6 s 0 n)(hl:n.ir= -1)(w:List UInt8):eB s 0 n w=some (⟨n.A,n.L,n.eH,0⟩,[sD 0 0 w []]):=by
 have hs:=h.ok.1;have hv:n.A.View=0:=by rw [h.acc]
 unfold eB;rw [iN hs,au,fp hs,au,hv,af5,hl];simp only [decide_true,IT,cM,if_false,show decide ((0:Int)<= -1)=false by decide,au,show¬((0:Int)<0) by decide];rfl
theorem Ua {s:ae}{a:Nat}{n:ar}(h:M6 s a n){w:List UInt8}(hw:w.length<=6000): ∃n',ch s (a:Int) n (sD 0 0 w [])=some (n',[sC (vt w a)])/\GH s a w n':=by
 have hs:=h.ok.1;refine ⟨⟨⟨s,(a:Int),0,true,0,w,[],⟨[]⟩⟩,n.L,n.eH,n.ir⟩,?_,⟨h.ok,hw,rfl,h.eP,h.Hf⟩⟩;have hp:fc n.A 0 w []=some (⟨s,(a:Int),0,true,0,w,[],⟨[]⟩⟩,vt w a,true):=by rw [h.acc];unfold fc;simp only [decide_true,IT,cM,if_false,au];rw [decide_eq_false (show¬(6000:Int)<(w.length:Int) by omega)];simp
 have hd:n.L.bQ=false:=by rw [h.eP];unfold zh;split<;>rfl
 have k1:(sD 0 0 w []).Kind=1:=rfl;have GO:fc n.A (sD 0 0 w []).View (sD 0 0 w []).Value (sD 0 0 w []).fN=some (⟨s,(a:Int),0,true,0,w,[],⟨[]⟩⟩,vt w a,true):=hp;have hl:eC s (sD 0 0 w []).View=some 0:=by rw [show (sD 0 0 w []).View=0 from rfl,fp hs,af5]
 unfold ch;rw [if_pos k1,hl,au,if_neg (by simp [sD]),GO];simp only [au,if_true];rw [if_pos (by simp)];simp only [au];rw [n7 _ _ _ (by simp),if_neg (show¬(n.L.bQ&&!n.L.bQ)=true by simp)];rfl
structure Bs (s:ae) (a:Nat) (w:List UInt8) (n:ar) (seen:List Nat):Prop where
 inv:gE s (a:Int) n 0
 short:w.length<=6000
 view:n.A.View=0
 all: ∀e∈n.L.aY.L,e.View=0/\e.Value=w/\ ∃b∈seen,e.By=(b:Int)
 done:n.L.bQ=true->n.L.Value=w
 not:n.L.bQ=false->n.L.aY.L.length=seen.length/\(seen.length:Int)<3 *s.F+s.T+1
 zk:n.L.bn.L=[]
theorem GH.aeJ {s:ae}{a:Nat}{w:List UInt8}{n:ar}(h:GH s a w n):Bs s a w n []:=by
 have Xl:=(dB s).1 h.ok.1;have hl:(zh s).1=⟨s,⟨[]⟩,⟨[]⟩,⟨[]⟩,false,[]⟩:=by unfold zh;rw [if_pos h.ok.1]
 refine ⟨h.inv,h.short,by rw [h.acc],?_,?_,?_,?_⟩
 ·rw [h.eP,hl];intro e he;cases he
 ·rw [h.eP,hl];intro h;cases h
 ·rw [h.eP,hl];intro _;exact ⟨rfl,by simp;omega⟩
 ·rw [h.eP,hl]
theorem XG {L:List aa}{b:Int}(h: ∀e∈L,e.By≠b):qk vk L b=false:=by rw [BY];intro hh;obtain ⟨e,he,h3⟩:=AE.1 hh;exact h e he h3
theorem Ub {L:List aa}{v:aa}(hs:o8 vk L)(hm:xe v)(h: ∀e∈L,e.By≠v.By):(dV L v).1=tc L v/\(tc L v).length=L.length+1:=by
 have ho:Rg L v=false:=by rw [BY];intro hh;unfold Rg at hh;rw [List.any_eq_true] at hh;obtain ⟨e,he,h2⟩:=hh;simp only [Bool.and_eq_true,decide_eq_true_eq] at h2;exact h e he h2.1
 refine ⟨by unfold dV;rw [if_pos ⟨hm,ho⟩],?_⟩;have hle:=CM (key:=vk) L v.By;unfold tc;rw [XG h];simp only [cM,if_false,Nat.add_zero,AT,List.length_take,List.length_drop,List.length_cons,List.length_nil];omega
theorem aeK {L:List aa}{w:List UInt8}(h: ∀e∈L,e.View=0/\e.Value=w):AG L 0 w=L.length:=by unfold AG;rw [List.filter_eq_self.2 λe he=>by unfold xf;simp [h e he]]
theorem RF {s:ae}{a:Nat}{w:List UInt8}{n:ar}{seen:List Nat}(h:Bs s a w n seen){b:Nat}(hb:(b:Int)<mS s)(V5:b∉seen): ∃x,ch s (a:Int) n (sC (vt w b))=some x/\x.2.length<=2/\Bs s a w x.1 (seen++[b]):=by
 have hs:=h.inv.sz;have Xl:=(dB s).1 hs;obtain ⟨q1,q2,q3⟩:=h.inv.eP.Hs;have p1:=FD h.inv.acc h.inv.acc.Hs (vt w b);have a1:=AL h.inv.eP q1 (vt w b);have abU:xe (vt w b):=⟨by simp only;omega,AI 0,show (0:Int)<=100000 by decide,h.short⟩
 have hS:=h.inv.qS;refine ⟨(⟨(fm n.A (vt w b)).1,da n.L (vt w b),n.eH,n.ir⟩,nA (a:Int) n.L.bQ ⟨(fm n.A (vt w b)).1,da n.L (vt w b),n.eH,n.ir⟩ (if (fm n.A (vt w b)).2.2 then [Es (a:Int) (fm n.A (vt w b)).2.1] else [])),?_,?_,?_⟩
 ·have k1: ¬(sC (vt w b)).Kind=1:=by show¬(2:Int)=1;decide
  have k2:(sC (vt w b)).Kind=2:=rfl;have p1':lv n.A (sC (vt w b)).dv=some (fm n.A (vt w b)):=p1;have a1':iT n.L (sC (vt w b)).dv=some (da n.L (vt w b)):=a1;unfold ch;rw [if_neg k1,if_pos k2,p1'];cases hh:(fm n.A (vt w b)).2.2 with
  |true=>simp only [au,hh,if_true];rw [if_pos (by simp)];simp only [au,a1'];rw [n7 _ _ _ (by simp)];rfl
  |false=>simp only [au,hh,if_false,cM,a1'];rw [n7 _ _ _ (by simp)];rfl
 ·unfold nA;split<;>split<;>simp
 ·have hinv:gE s (a:Int) ⟨(fm n.A (vt w b)).1,da n.L (vt w b),n.eH,n.ir⟩ 0:=⟨GB h.inv.acc _,by rw [(Ht _ _).1];exact h.inv.CX,by rw [(Ht _ _).2];exact h.inv.uH,yR h.inv.eP _,by rw [GD];exact hS,h.inv.inc,h.inv.small,h.inv.len⟩
  have Vs:(fm n.A (vt w b)).1.View=0:=by
   unfold fm;split
   ·exact h.view
   ·split<;>exact h.view
  cases hd:n.L.bQ with
  |true=>
   have am7:mP n.L (vt w b):= .inl hd;have ea:da n.L (vt w b)=n.L:=by unfold da;rw [if_pos am7]
   rw [ea] at hinv⊢;refine ⟨hinv,h.short,Vs,λe he=> ?_,h.done,λhf=> ?_,h.zk⟩
   ·obtain ⟨g1,g2,c,hc,g3⟩:=h.all e he;exact ⟨g1,g2,c,by simp [hc],g3⟩
   ·simp only at hf;rw [hd] at hf;cases hf
  |false=>
   have hnd: ¬mP n.L (vt w b):=by
    rintro (h1|h1|h1)
    ·rw [hd] at h1;cases h1
    ·rw [hS] at h1;simp only at h1;omega
    ·exact h1 abU
   obtain ⟨n1,n2⟩:=h.not hd;have abV:o8 vk n.L.aY.L:=h.inv.eP.acc.2.2;have db: ∀e∈n.L.aY.L,e.By≠(vt w b).By:=λe he hh=>by
    obtain ⟨_,_,c,hc,g3⟩:=h.all e he;rw [g3] at hh;have:c=b:=by simp only at hh;omega
    exact V5 (this▸hc)
   obtain ⟨e1,e2⟩:=Ub abV abU db;have kF: ∀e∈tc n.L.aY.L (vt w b),e.View=0/\e.Value=w/\ ∃c∈seen++[b],e.By=(c:Int):=λe he=>by
    rcases (AF abV).1 he with rfl|⟨he,_⟩
    ·exact ⟨rfl,rfl,b,by simp,rfl⟩
    ·obtain ⟨g1,g2,c,hc,g3⟩:=h.all e he;exact ⟨g1,g2,c,by simp [hc],g3⟩
   have ea:da n.L (vt w b)=eu ⟨n.L.S,⟨tc n.L.aY.L (vt w b)⟩,n.L.bn,n.L.Told,n.L.bQ,n.L.Value⟩ (tc n.L.aY.L (vt w b)) (3 *s.F+s.T+1):=by unfold da;rw [if_neg hnd,e1,hS]
   rw [ea] at hinv⊢;cases hbz:p0 (tc n.L.aY.L (vt w b)) (3 *s.F+s.T+1) with
   |none=>
    have el:eu ⟨n.L.S,⟨tc n.L.aY.L (vt w b)⟩,n.L.bn,n.L.Told,n.L.bQ,n.L.Value⟩ (tc n.L.aY.L (vt w b)) (3 *s.F+s.T+1)=⟨n.L.S,⟨tc n.L.aY.L (vt w b)⟩,n.L.bn,n.L.Told,n.L.bQ,n.L.Value⟩:=by unfold eu;rw [hbz]
    rw [el] at hinv⊢;refine ⟨hinv,h.short,Vs,kF,h.done,λ_=>⟨by simp only;rw [e2,n1];simp,?_⟩,h.zk⟩;refine Int.not_le.1 λVX=> ?_;have hsp:=CO (tc n.L.aY.L (vt w b)) (3 *s.F+s.T+1);rw [hbz] at hsp;have ov:vt w b∈tc n.L.aY.L (vt w b):=(AF abV).2 (.inl rfl);have hg:=hsp _ ov;unfold r8 at hg;have aeq:=aeK (L:=tc n.L.aY.L (vt w b)) (w:=w) (λe he=>⟨(kF e he).1,(kF e he).2.1⟩);simp only [aeq,e2,n1] at hg;rw [AT,List.length_singleton] at VX;rw [decide_eq_true (show (1:Int)<=3 *s.F+s.T+1 by omega),decide_eq_true (show 3 *s.F+s.T+1<=((seen.length+1:Nat):Int) by omega)] at hg;cases hg
   |some z=>
    have el:eu ⟨n.L.S,⟨tc n.L.aY.L (vt w b)⟩,n.L.bn,n.L.Told,n.L.bQ,n.L.Value⟩ (tc n.L.aY.L (vt w b)) (3 *s.F+s.T+1)=⟨n.L.S,⟨tc n.L.aY.L (vt w b)⟩,n.L.bn,n.L.Told,true,z.Value⟩:=by unfold eu;rw [hbz]
    rw [el] at hinv⊢;refine ⟨hinv,h.short,Vs,kF,λ_=>(kF z (M2 hbz).1).2.1,λhf=>(by cases hf),h.zk⟩
theorem Bs.end_ {s:ae}{a:Nat}{w:List UInt8}{n:ar}{seen:List Nat}(h:Bs s a w n seen)(hl:3 *s.F+s.T+1<=(seen.length:Int)):n.L.bQ=true/\n.L.Value=w/\n.L.bn.L=[]:=by
 have hd:n.L.bQ=true:=by
  cases hd:n.L.bQ with
  |true=>rfl
  |false=>have:=(h.not hd).2;omega
 exact ⟨hd,h.done hd,h.zk⟩
end Dn.S
