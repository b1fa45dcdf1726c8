import Derived.Test.YtmdlghpieagfhaaGreatDnPSlot5
/-
  Slots: a proposal that is accepted, accepts that are heard. Conditions: none.
-/
open Go Dn
set_option linter.unusedVariables false
set_option linter.unusedSimpArgs false
namespace Dn.S
abbrev vt (w:List UInt8) (b:Nat):aa:=⟨(b:Int),0,w⟩
structure Hr (s:af) (a:Nat) (n:au):Prop where
 ok:Hm s (a:Int)
 acc:n.A=⟨s,(a:Int),0,false,0,[],[],⟨[]⟩⟩
 nO:n.L=(xG s).1
 Wz:n.iX=[]
structure Cq (s:af) (a:Nat) (w:List UInt8) (n:au):Prop where
 ok:Hm s (a:Int)
 short:w.length≤6000
 acc:n.A=⟨s,(a:Int),0,true,0,w,[],⟨[]⟩⟩
 nO:n.L=(xG s).1
 Wz:n.iX=[]
theorem Hr.inv {s:af} {a:Nat} {n:au} (h:Hr s a n):wN s (a:Int) n 0:=by
 obtain ⟨n1,n2,_⟩:=ze h.ok.1
 refine ⟨?_,by rw [h.acc],by rw [h.acc],by rw [h.nO];exact n1,by rw [h.nO];exact n2,by rw [h.Wz];exact List.Pairwise.nil,fun r hr=>(by rw [h.Wz] at hr;cases hr),by rw [h.Wz];simp⟩
 rw [h.acc];exact MG h.ok
theorem Cq.inv {s:af} {a:Nat} {w:List UInt8} {n:au} (h:Cq s a w n):wN s (a:Int) n 0:=by
 obtain ⟨n1,n2,_⟩:=ze h.ok.1
 refine ⟨?_,by rw [h.acc],by rw [h.acc],by rw [h.nO];exact n1,by rw [h.nO];exact n2,by rw [h.Wz];exact List.Pairwise.nil,fun r hr=>(by rw [h.Wz] at hr;cases hr),by rw [h.Wz];simp⟩
 rw [h.acc]
 exact ⟨h.ok.1,h.ok.2.1,h.ok.2.2,⟨Int.le_refl 0,show (0:Int)≤100000 by decide,fun _=>⟨Int.le_refl 0,Int.le_refl 0,h.short⟩,fun h=>(by cases h),.inl rfl⟩,⟨fun e he=>(by cases he),List.Pairwise.nil⟩,fun e he=>(by cases he)⟩
theorem WA (s:af):NV s 0=0:=by unfold NV imax;simp
theorem Cr {s:af} {a:Nat} (h:Hm s (a:Int)):Hr s a (BG s (a:Int)):=⟨h,rfl,rfl,rfl⟩
theorem ML {s:af} {n:au} (h:Hr s 0 n) (hl:n.mE= -1) (w:List UInt8):nX s 0 n w=some (⟨n.A,n.L,n.iX,0⟩,[Ft 0 0 w []]):=by
 have hs:=h.ok.1
 have hv:n.A.View=0:=by rw [h.acc]
 unfold nX
 rw [KK hs,bl,Hp hs,bl,hv,WA,hl]
 simp only [decide_true,Bool.not_true,Bool.false_eq_true,if_false,show decide ((0:Int)≤ -1)=false by decide,bl,show¬((0:Int)<0) by decide]
 rfl
theorem MM {s:af} {a:Nat} {n:au} (h:Hr s a n) {w:List UInt8} (hw:w.length≤6000): ∃n',jk s (a:Int) n (Ft 0 0 w [])=some (n',[II (vt w a)])∧Cq s a w n':=by
 have hs:=h.ok.1
 refine ⟨⟨⟨s,(a:Int),0,true,0,w,[],⟨[]⟩⟩,n.L,n.iX,n.mE⟩,?_,⟨h.ok,hw,rfl,h.nO,h.Wz⟩⟩
 have hp:fP n.A 0 w []=some (⟨s,(a:Int),0,true,0,w,[],⟨[]⟩⟩,vt w a,true):=by
  rw [h.acc]
  unfold fP
  simp only [decide_true,Bool.not_true,Bool.false_eq_true,if_false,bl]
  rw [decide_eq_false (show¬(6000:Int)<(w.length:Int) by omega)]
  simp
 have hd:n.L.ch=false:=by rw [h.nO];unfold xG;split<;>rfl
 have k1:(Ft 0 0 w []).Kind=1:=rfl
 have FF:fP n.A (Ft 0 0 w []).View (Ft 0 0 w []).Value (Ft 0 0 w []).fE=some (⟨s,(a:Int),0,true,0,w,[],⟨[]⟩⟩,vt w a,true):=hp
 have hl:iZ s (Ft 0 0 w []).View=some 0:=by rw [show (Ft 0 0 w []).View=0 from rfl,Hp hs,WA]
 unfold jk
 rw [if_pos k1,hl,bl,if_neg (by simp [Ft]),FF]
 simp only [bl,if_true]
 rw [if_pos (by simp)]
 simp only [bl]
 rw [Tp _ _ _ (by simp),if_neg (show¬(n.L.ch&&!n.L.ch)=true by simp)]
 rfl
structure xt (s:af) (a:Nat) (w:List UInt8) (n:au) (seen:List Nat):Prop where
 inv:wN s (a:Int) n 0
 short:w.length≤6000
 view:n.A.View=0
 all: ∀e∈n.L.aZ.L,e.View=0∧e.Value=w∧ ∃b∈seen,e.By=(b:Int)
 done:n.L.ch=true→n.L.Value=w
 not:n.L.ch=false→n.L.aZ.L.length=seen.length∧(seen.length:Int)<3 *s.F+s.T+1
 Wv:n.L.bA.L=[]
theorem Cq.NY {s:af} {a:Nat} {w:List UInt8} {n:au} (h:Cq s a w n):xt s a w n []:=by
 have YM:=(fY s).1 h.ok.1
 have hl:(xG s).1=⟨s,⟨[]⟩,⟨[]⟩,⟨[]⟩,false,[]⟩:=by unfold xG;rw [if_pos h.ok.1]
 refine ⟨h.inv,h.short,by rw [h.acc],?_,?_,?_,?_⟩
 ·rw [h.nO,hl];intro e he;cases he
 ·rw [h.nO,hl];intro h;cases h
 ·rw [h.nO,hl];intro _;exact ⟨rfl,by simp;omega⟩
 ·rw [h.nO,hl]
theorem PF {L:List aa} {b:Int} (h: ∀e∈L,e.By≠b):qg vk L b=false:=by
 rw [Bool.eq_false_iff]
 intro hh
 obtain ⟨e,he,h3⟩:=AJ.1 hh
 exact h e he h3
theorem MN {L:List aa} {v:aa} (hs:qh vk L) (hm:tm v) (h: ∀e∈L,e.By≠v.By):(iS L v).1=pg L v∧(pg L v).length=L.length+1:=by
 have ho:xF L v=false:=by
  rw [Bool.eq_false_iff]
  intro hh
  unfold xF at hh
  rw [List.any_eq_true] at hh
  obtain ⟨e,he,h2⟩:=hh
  simp only [Bool.and_eq_true,decide_eq_true_eq] at h2
  exact h e he h2.1
 refine ⟨by unfold iS;rw [if_pos ⟨hm,ho⟩],?_⟩
 have hle:=za (key:=vk) L v.By
 unfold pg
 rw [PF h]
 simp only [Bool.false_eq_true,if_false,Nat.add_zero,List.length_append,List.length_take,List.length_drop,List.length_cons,List.length_nil]
 omega
theorem Vw {L:List aa} {w:List UInt8} (h: ∀e∈L,e.View=0∧e.Value=w):AL L 0 w=L.length:=by
 unfold AL
 rw [List.filter_eq_self.2 fun e he=>by unfold rl;simp [h e he]]
theorem KR {s:af} {a:Nat} {w:List UInt8} {n:au} {seen:List Nat} (h:xt s a w n seen) {b:Nat} (hb:(b:Int)<vl s) (OA:b∉seen):
 ∃x,jk s (a:Int) n (II (vt w b))=some x∧x.2.length≤2∧xt s a w x.1 (seen++[b]):=by
 have hs:=h.inv.sz
 have YM:=(fY s).1 hs
 obtain ⟨q1,q2,q3⟩:=h.inv.nO.ZF
 obtain ⟨p1,p2⟩:=Vt h.inv.acc h.inv.acc.ZF (vt w b)
 have a1:=KO h.inv.nO q1 (vt w b)
 have ade:tm (vt w b):=⟨by simp only;omega,Int.le_refl 0,show (0:Int)≤100000 by decide,h.short⟩
 have hS:=h.inv.To
 refine ⟨(⟨(nN n.A (vt w b)).1,ft n.L (vt w b),n.iX,n.mE⟩,Wx (a:Int) n.L.ch ⟨(nN n.A (vt w b)).1,ft n.L (vt w b),n.iX,n.mE⟩ (if (nN n.A (vt w b)).2.2 then [ahN (a:Int) (nN n.A (vt w b)).2.1] else [])),?_,?_,?_⟩
 ·have k1: ¬(II (vt w b)).Kind=1:=by show¬(2:Int)=1;decide
  have k2:(II (vt w b)).Kind=2:=rfl
  have p1':jE n.A (II (vt w b)).oW=some (nN n.A (vt w b)):=p1
  have a1':fQ n.L (II (vt w b)).oW=some (ft n.L (vt w b)):=a1
  unfold jk
  rw [if_neg k1,if_pos k2,p1']
  cases hh:(nN n.A (vt w b)).2.2 with
  |true=>
   simp only [bl,hh,if_true]
   rw [if_pos (by simp)]
   simp only [bl,a1']
   rw [Tp _ _ _ (by simp)]
   rfl
  |false=>
   simp only [bl,hh,if_false,Bool.false_eq_true,a1']
   rw [Tp _ _ _ (by simp)]
   rfl
 ·unfold Wx
  split<;>split<;>simp
 ·have hinv:wN s (a:Int) ⟨(nN n.A (vt w b)).1,ft n.L (vt w b),n.iX,n.mE⟩ 0:=⟨KL h.inv.acc _,by rw [(NW _ _).1];exact h.inv.YO,by rw [(NW _ _).2];exact h.inv.Ww,CQ h.inv.nO _,by rw [KP];exact hS,h.inv.inc,h.inv.small,h.inv.len⟩
  have Tq:(nN n.A (vt w b)).1.View=0:=by
   unfold nN
   split
   ·exact h.view
   ·split<;>exact h.view
  cases hd:n.L.ch with
  |true=>
   have adf:rY n.L (vt w b):= .inl hd
   have ea:ft n.L (vt w b)=n.L:=by unfold ft;rw [if_pos adf]
   rw [ea] at hinv⊢
   refine ⟨hinv,h.short,Tq,fun e he=> ?_,h.done,fun hf=> ?_,h.Wv⟩
   ·obtain ⟨g1,g2,c,hc,g3⟩:=h.all e he
    exact ⟨g1,g2,c,by simp [hc],g3⟩
   ·simp only at hf;rw [hd] at hf;cases hf
  |false=>
   have VL: ¬rY n.L (vt w b):=by
    rintro (h1|h1|h1)
    ·rw [hd] at h1;cases h1
    ·rw [hS] at h1;simp only at h1;omega
    ·exact h1 ade
   obtain ⟨n1,n2⟩:=h.not hd
   have YQ:qh vk n.L.aZ.L:=h.inv.nO.acc.2.2
   have dt: ∀e∈n.L.aZ.L,e.By≠(vt w b).By:=fun e he hh=>by
    obtain ⟨_,_,c,hc,g3⟩:=h.all e he
    rw [g3] at hh
    have:c=b:=by simp only at hh;omega
    exact OA (this▸hc)
   obtain ⟨e1,e2⟩:=MN YQ ade dt
   have oR: ∀e∈pg n.L.aZ.L (vt w b),e.View=0∧e.Value=w∧ ∃c∈seen++[b],e.By=(c:Int):=fun e he=>by
    rcases (wL YQ).1 he with rfl|⟨he,_⟩
    ·exact ⟨rfl,rfl,b,by simp,rfl⟩
    ·obtain ⟨g1,g2,c,hc,g3⟩:=h.all e he
     exact ⟨g1,g2,c,by simp [hc],g3⟩
   have ea:ft n.L (vt w b)=kO ⟨n.L.S,⟨pg n.L.aZ.L (vt w b)⟩,n.L.bA,n.L.Told,n.L.ch,n.L.Value⟩ (pg n.L.aZ.L (vt w b)) (3 *s.F+s.T+1):=by
    unfold ft;rw [if_neg VL,e1,hS]
   rw [ea] at hinv⊢
   cases Y5:kN (pg n.L.aZ.L (vt w b)) (3 *s.F+s.T+1) with
   |none=>
    have el:kO ⟨n.L.S,⟨pg n.L.aZ.L (vt w b)⟩,n.L.bA,n.L.Told,n.L.ch,n.L.Value⟩ (pg n.L.aZ.L (vt w b)) (3 *s.F+s.T+1)=⟨n.L.S,⟨pg n.L.aZ.L (vt w b)⟩,n.L.bA,n.L.Told,n.L.ch,n.L.Value⟩:=by unfold kO;rw [Y5]
    rw [el] at hinv⊢
    refine ⟨hinv,h.short,Tq,oR,h.done,fun _=>⟨by simp only;rw [e2,n1];simp,?_⟩,h.Wv⟩
    refine Int.not_le.1 fun Oq=> ?_
    have Ux:=zb (pg n.L.aZ.L (vt w b)) (3 *s.F+s.T+1)
    rw [Y5] at Ux
    have JU:vt w b∈pg n.L.aZ.L (vt w b):=(wL YQ).2 (.inl rfl)
    have hg:=Ux _ JU
    unfold lq at hg
    have YJ:=Vw (L:=pg n.L.aZ.L (vt w b)) (w:=w) (fun e he=>⟨(oR e he).1,(oR e he).2.1⟩)
    simp only [YJ,e2,n1] at hg
    rw [List.length_append,List.length_singleton] at Oq
    rw [decide_eq_true (show (1:Int)≤3 *s.F+s.T+1 by omega),decide_eq_true (show 3 *s.F+s.T+1≤((seen.length+1:Nat):Int) by omega)] at hg
    cases hg
   |some z=>
    have el:kO ⟨n.L.S,⟨pg n.L.aZ.L (vt w b)⟩,n.L.bA,n.L.Told,n.L.ch,n.L.Value⟩ (pg n.L.aZ.L (vt w b)) (3 *s.F+s.T+1)=⟨n.L.S,⟨pg n.L.aZ.L (vt w b)⟩,n.L.bA,n.L.Told,true,z.Value⟩:=by unfold kO;rw [Y5]
    rw [el] at hinv⊢
    refine ⟨hinv,h.short,Tq,oR,fun _=>(oR z (Ho Y5).1).2.1,fun hf=>(by cases hf),h.Wv⟩
theorem xt.end_ {s:af} {a:Nat} {w:List UInt8} {n:au} {seen:List Nat} (h:xt s a w n seen) (hl:3 *s.F+s.T+1≤(seen.length:Int)):n.L.ch=true∧n.L.Value=w∧n.L.bA.L=[]:=by
 have hd:n.L.ch=true:=by
  cases hd:n.L.ch with
  |true=>rfl
  |false=>have:=(h.not hd).2;omega
 exact ⟨hd,h.done hd,h.Wv⟩
end Dn.S
