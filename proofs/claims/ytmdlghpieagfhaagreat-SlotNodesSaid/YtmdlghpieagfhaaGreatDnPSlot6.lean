import Derived.Test.YtmdlghpieagfhaaGreatDnPSlot5
/-
  Slots: a proposal that is accepted, accepts that are heard. Conditions: none.
-/
set_option linter.unusedVariables false
set_option linter.unusedSimpArgs false
open Bool renaming false_eq_true→fj,eq_false_iff→BY,not_true→IN
open List.Pairwise renaming nil→sh
open Int renaming le_refl→AI
open List renaming length_append→AT
open Go Dn
namespace Dn.S
abbrev vt (w:List UInt8)(b:Nat):aa:=⟨(b:Int),0,w⟩
structure Qg (s:ak) (a:Nat) (n:aD):Prop where
 ok:q8 s (a:Int)
 acc:n.A=⟨s,(a:Int),0,false,0,[],[],⟨[]⟩⟩
 iv:n.L=(BO s).1
 got:n.cy=[]
structure IL (s:ak) (a:Nat) (w:List UInt8) (n:aD):Prop where
 ok:q8 s (a:Int)
 short:w.length<=6000
 acc:n.A=⟨s,(a:Int),0,true,0,w,[],⟨[]⟩⟩
 iv:n.L=(BO s).1
 got:n.cy=[]
theorem Qg.inv {s:ak}{a:Nat}{n:aD}(h:Qg s a n):kV s (a:Int) n 0:=by obtain ⟨n1,n2,_⟩:=vM h.ok.1;refine ⟨?_,by rw [h.acc],by rw [h.acc],by rw [h.iv];exact n1,by rw [h.iv];exact n2,by rw [h.got];exact sh,λr hr=>(by rw [h.got] at hr;cases hr),by rw [h.got];simp⟩;rw [h.acc];exact MX h.ok
theorem IL.inv {s:ak}{a:Nat}{w:List UInt8}{n:aD}(h:IL s a w n):kV s (a:Int) n 0:=by obtain ⟨n1,n2,_⟩:=vM h.ok.1;refine ⟨?_,by rw [h.acc],by rw [h.acc],by rw [h.iv];exact n1,by rw [h.iv];exact n2,by rw [h.got];exact sh,λr hr=>(by rw [h.got] at hr;cases hr),by rw [h.got];simp⟩;rw [h.acc];exact ⟨h.ok.1,h.ok.2.1,h.ok.2.2,⟨AI 0,show (0:Int)<=100000 by decide,λ_=>⟨AI 0,AI 0,h.short⟩,λh=>(by cases h),.inl rfl⟩,⟨λe he=>(by cases he),sh⟩,λe he=>(by cases he)⟩
theorem ajf (s:ak):nR s 0=0:=by unfold nR imax;simp
theorem IM {s:ak}{a:Nat}(h:q8 s (a:Int)):Qg s a (z8 s (a:Int)):=⟨h,rfl,rfl,rfl⟩
theorem Xm {s:ak}{n:aD}(h:Qg s 0 n)(hl:n.fh= -1)(w:List UInt8):iA s 0 n w=some (⟨n.A,n.L,n.cy,0⟩,[yQ 0 0 w []]):=by
 have hs:=h.ok.1;have hv:n.A.View=0:=by rw [h.acc]
 unfold iA;rw [pM hs,ar,nK hs,ar,hv,ajf,hl];simp only [decide_true,IN,fj,if_false,show decide ((0:Int)<= -1)=false by decide,ar,show¬((0:Int)<0) by decide];rfl
theorem Xn {s:ak}{a:Nat}{n:aD}(h:Qg s a n){w:List UInt8}(hw:w.length<=6000): ∃n',eI s (a:Int) n (yQ 0 0 w [])=some (n',[GM (vt w a)])/\IL s a w n':=by
 have hs:=h.ok.1;refine ⟨⟨⟨s,(a:Int),0,true,0,w,[],⟨[]⟩⟩,n.L,n.cy,n.fh⟩,?_,⟨h.ok,hw,rfl,h.iv,h.got⟩⟩;have hp:fH n.A 0 w []=some (⟨s,(a:Int),0,true,0,w,[],⟨[]⟩⟩,vt w a,true):=by rw [h.acc];unfold fH;simp only [decide_true,IN,fj,if_false,ar];rw [decide_eq_false (show¬(6000:Int)<(w.length:Int) by omega)];simp
 have hd:n.L.bE=false:=by rw [h.iv];unfold BO;split<;>rfl
 have k1:(yQ 0 0 w []).Kind=1:=rfl;have IU:fH n.A (yQ 0 0 w []).View (yQ 0 0 w []).Value (yQ 0 0 w []).dX=some (⟨s,(a:Int),0,true,0,w,[],⟨[]⟩⟩,vt w a,true):=hp;have hl:kQ s (yQ 0 0 w []).View=some 0:=by rw [show (yQ 0 0 w []).View=0 from rfl,nK hs,ajf]
 unfold eI;rw [if_pos k1,hl,ar,if_neg (by simp [yQ]),IU];simp only [ar,if_true];rw [if_pos (by simp)];simp only [ar];rw [Am _ _ _ (by simp),if_neg (show¬(n.L.bE&&!n.L.bE)=true by simp)];rfl
structure CG (s:ak) (a:Nat) (w:List UInt8) (n:aD) (seen:List Nat):Prop where
 inv:kV s (a:Int) n 0
 short:w.length<=6000
 view:n.A.View=0
 all: ∀e∈n.L.aO.L,e.View=0/\e.Value=w/\ ∃b∈seen,e.By=(b:Int)
 done:n.L.bE=true->n.L.Value=w
 not:n.L.bE=false->n.L.aO.L.length=seen.length/\(seen.length:Int)<3 *s.F+s.T+1
 com:n.L.aP.L=[]
theorem IL.ah3 {s:ak}{a:Nat}{w:List UInt8}{n:aD}(h:IL s a w n):CG s a w n []:=by
 have hso:=(eZ s).1 h.ok.1;have hl:(BO s).1=⟨s,⟨[]⟩,⟨[]⟩,⟨[]⟩,false,[]⟩:=by unfold BO;rw [if_pos h.ok.1]
 refine ⟨h.inv,h.short,by rw [h.acc],?_,?_,?_,?_⟩
 ·rw [h.iv,hl];intro e he;cases he
 ·rw [h.iv,hl];intro h;cases h
 ·rw [h.iv,hl];intro _;exact ⟨rfl,by simp;omega⟩
 ·rw [h.iv,hl]
theorem aaG {L:List aa}{b:Int}(h: ∀e∈L,e.By≠b):mF vk L b=false:=by rw [BY];intro hh;obtain ⟨e,he,h3⟩:=vC.1 hh;exact h e he h3
theorem Xo {L:List aa}{v:aa}(hs:pg vk L)(hm:rc v)(h: ∀e∈L,e.By≠v.By):(ek L v).1=s7 L v/\(s7 L v).length=L.length+1:=by
 have ho:C1 L v=false:=by rw [BY];intro hh;unfold C1 at hh;rw [List.any_eq_true] at hh;obtain ⟨e,he,h2⟩:=hh;simp only [Bool.and_eq_true,decide_eq_true_eq] at h2;exact h e he h2.1
 refine ⟨by unfold ek;rw [if_pos ⟨hm,ho⟩],?_⟩;have hle:=xF (key:=vk) L v.By;unfold s7;rw [aaG h];simp only [fj,if_false,Nat.add_zero,AT,List.length_take,List.length_drop,List.length_cons,List.length_nil];omega
theorem ah4 {L:List aa}{w:List UInt8}(h: ∀e∈L,e.View=0/\e.Value=w):AB L 0 w=L.length:=by unfold AB;rw [List.filter_eq_self.2 λe he=>by unfold ub;simp [h e he]]
theorem Vd {s:ak}{a:Nat}{w:List UInt8}{n:aD}{seen:List Nat}(h:CG s a w n seen){b:Nat}(hb:(b:Int)<tF s)(hns:b∉seen): ∃x,eI s (a:Int) n (GM (vt w b))=some x/\x.2.length<=2/\CG s a w x.1 (seen++[b]):=by
 have hs:=h.inv.sz;have hso:=(eZ s).1 hs;obtain ⟨q1,q2,q3⟩:=h.inv.iv.few;obtain ⟨p1,p2⟩:=YR h.inv.acc h.inv.acc.few (vt w b);have a1:=IG h.inv.iv q1 (vt w b);have as1:rc (vt w b):=⟨by simp only;omega,AI 0,show (0:Int)<=100000 by decide,h.short⟩
 have hS:=h.inv.xH;refine ⟨(⟨(kU n.A (vt w b)).1,fb n.L (vt w b),n.cy,n.fh⟩,vK (a:Int) n.L.bE ⟨(kU n.A (vt w b)).1,fb n.L (vt w b),n.cy,n.fh⟩ (if (kU n.A (vt w b)).2.2 then [aaz (a:Int) (kU n.A (vt w b)).2.1] else [])),?_,?_,?_⟩
 ·have k1: ¬(GM (vt w b)).Kind=1:=by show¬(2:Int)=1;decide
  have k2:(GM (vt w b)).Kind=2:=rfl;have p1':lK n.A (GM (vt w b)).fM=some (kU n.A (vt w b)):=p1;have a1':iV n.L (GM (vt w b)).fM=some (fb n.L (vt w b)):=a1;unfold eI;rw [if_neg k1,if_pos k2,p1'];cases hh:(kU n.A (vt w b)).2.2 with
  |true=>simp only [ar,hh,if_true];rw [if_pos (by simp)];simp only [ar,a1'];rw [Am _ _ _ (by simp)];rfl
  |false=>simp only [ar,hh,if_false,fj,a1'];rw [Am _ _ _ (by simp)];rfl
 ·unfold vK;split<;>split<;>simp
 ·have hinv:kV s (a:Int) ⟨(kU n.A (vt w b)).1,fb n.L (vt w b),n.cy,n.fh⟩ 0:=⟨IE h.inv.acc _,by rw [(JK _ _).1];exact h.inv.GL,by rw [(JK _ _).2];exact h.inv.yP,Al h.inv.iv _,by rw [IK];exact hS,h.inv.inc,h.inv.small,h.inv.len⟩
  have afy:(kU n.A (vt w b)).1.View=0:=by
   unfold kU;split
   ·exact h.view
   ·split<;>exact h.view
  cases hd:n.L.bE with
  |true=>
   have as2:iu n.L (vt w b):= .inl hd;have ea:fb n.L (vt w b)=n.L:=by unfold fb;rw [if_pos as2]
   rw [ea] at hinv⊢;refine ⟨hinv,h.short,afy,λe he=> ?_,h.done,λhf=> ?_,h.com⟩
   ·obtain ⟨g1,g2,c,hc,g3⟩:=h.all e he;exact ⟨g1,g2,c,by simp [hc],g3⟩
   ·simp only at hf;rw [hd] at hf;cases hf
  |false=>
   have hnd: ¬iu n.L (vt w b):=by
    rintro (h1|h1|h1)
    ·rw [hd] at h1;cases h1
    ·rw [hS] at h1;simp only at h1;omega
    ·exact h1 as1
   obtain ⟨n1,n2⟩:=h.not hd;have amw:pg vk n.L.aO.L:=h.inv.iv.acc.2.2;have eu: ∀e∈n.L.aO.L,e.By≠(vt w b).By:=λe he hh=>by
    obtain ⟨_,_,c,hc,g3⟩:=h.all e he;rw [g3] at hh;have:c=b:=by simp only at hh;omega
    exact hns (this▸hc)
   obtain ⟨e1,e2⟩:=Xo amw as1 eu;have mz: ∀e∈s7 n.L.aO.L (vt w b),e.View=0/\e.Value=w/\ ∃c∈seen++[b],e.By=(c:Int):=λe he=>by
    rcases (BJ amw).1 he with rfl|⟨he,_⟩
    ·exact ⟨rfl,rfl,b,by simp,rfl⟩
    ·obtain ⟨g1,g2,c,hc,g3⟩:=h.all e he;exact ⟨g1,g2,c,by simp [hc],g3⟩
   have ea:fb n.L (vt w b)=ic ⟨n.L.S,⟨s7 n.L.aO.L (vt w b)⟩,n.L.aP,n.L.Told,n.L.bE,n.L.Value⟩ (s7 n.L.aO.L (vt w b)) (3 *s.F+s.T+1):=by unfold fb;rw [if_neg hnd,e1,hS]
   rw [ea] at hinv⊢;cases hbz:kH (s7 n.L.aO.L (vt w b)) (3 *s.F+s.T+1) with
   |none=>
    have el:ic ⟨n.L.S,⟨s7 n.L.aO.L (vt w b)⟩,n.L.aP,n.L.Told,n.L.bE,n.L.Value⟩ (s7 n.L.aO.L (vt w b)) (3 *s.F+s.T+1)=⟨n.L.S,⟨s7 n.L.aO.L (vt w b)⟩,n.L.aP,n.L.Told,n.L.bE,n.L.Value⟩:=by unfold ic;rw [hbz]
    rw [el] at hinv⊢;refine ⟨hinv,h.short,afy,mz,h.done,λ_=>⟨by simp only;rw [e2,n1];simp,?_⟩,h.com⟩;refine Int.not_le.1 λSI=> ?_;have hsp:=Er (s7 n.L.aO.L (vt w b)) (3 *s.F+s.T+1);rw [hbz] at hsp;have Fb:vt w b∈s7 n.L.aO.L (vt w b):=(BJ amw).2 (.inl rfl);have hg:=hsp _ Fb;unfold nQ at hg;have ae2:=ah4 (L:=s7 n.L.aO.L (vt w b)) (w:=w) (λe he=>⟨(mz e he).1,(mz e he).2.1⟩);simp only [ae2,e2,n1] at hg;rw [AT,List.length_singleton] at SI;rw [decide_eq_true (show (1:Int)<=3 *s.F+s.T+1 by omega),decide_eq_true (show 3 *s.F+s.T+1<=((seen.length+1:Nat):Int) by omega)] at hg;cases hg
   |some z=>
    have el:ic ⟨n.L.S,⟨s7 n.L.aO.L (vt w b)⟩,n.L.aP,n.L.Told,n.L.bE,n.L.Value⟩ (s7 n.L.aO.L (vt w b)) (3 *s.F+s.T+1)=⟨n.L.S,⟨s7 n.L.aO.L (vt w b)⟩,n.L.aP,n.L.Told,true,z.Value⟩:=by unfold ic;rw [hbz]
    rw [el] at hinv⊢;refine ⟨hinv,h.short,afy,mz,λ_=>(mz z (Qc hbz).1).2.1,λhf=>(by cases hf),h.com⟩
theorem CG.end_ {s:ak}{a:Nat}{w:List UInt8}{n:aD}{seen:List Nat}(h:CG s a w n seen)(hl:3 *s.F+s.T+1<=(seen.length:Int)):n.L.bE=true/\n.L.Value=w/\n.L.aP.L=[]:=by
 have hd:n.L.bE=true:=by
  cases hd:n.L.bE with
  |true=>rfl
  |false=>have:=(h.not hd).2;omega
 exact ⟨hd,h.done hd,h.com⟩
end Dn.S
