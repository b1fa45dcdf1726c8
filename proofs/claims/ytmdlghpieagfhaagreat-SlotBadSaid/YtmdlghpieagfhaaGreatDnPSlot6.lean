import Derived.Test.YtmdlghpieagfhaaGreatDnPSlot5
/-
  Slots: a proposal that is accepted, accepts that are heard. Conditions: none.
-/
set_option linter.unusedVariables false
set_option linter.unusedSimpArgs false
open Bool renaming false_eq_true→eJ,eq_false_iff→BY,not_true→IN
open List.Pairwise renaming nil→sh
open Int renaming le_refl→AI
open List renaming length_append→AT
open Go Dn
namespace Dn.S
abbrev vt (w:List UInt8)(b:Nat):aa:=⟨(b:Int),0,w⟩
structure MD (s:af) (a:Nat) (n:aq):Prop where
 ok:sr s (a:Int)
 acc:n.A=⟨s,(a:Int),0,false,0,[],[],⟨[]⟩⟩
 jf:n.L=(AD s).1
 got:n.df=[]
structure GJ (s:af) (a:Nat) (w:List UInt8) (n:aq):Prop where
 ok:sr s (a:Int)
 short:w.length<=6000
 acc:n.A=⟨s,(a:Int),0,true,0,w,[],⟨[]⟩⟩
 jf:n.L=(AD s).1
 got:n.df=[]
theorem MD.inv {s:af}{a:Nat}{n:aq}(h:MD s a n):jq s (a:Int) n 0:=by obtain ⟨n1,n2,_⟩:=uP h.ok.1;refine ⟨?_,by rw [h.acc],by rw [h.acc],by rw [h.jf];exact n1,by rw [h.jf];exact n2,by rw [h.got];exact sh,λr hr=>(by rw [h.got] at hr;cases hr),by rw [h.got];simp⟩;rw [h.acc];exact Ka h.ok
theorem GJ.inv {s:af}{a:Nat}{w:List UInt8}{n:aq}(h:GJ s a w n):jq s (a:Int) n 0:=by obtain ⟨n1,n2,_⟩:=uP h.ok.1;refine ⟨?_,by rw [h.acc],by rw [h.acc],by rw [h.jf];exact n1,by rw [h.jf];exact n2,by rw [h.got];exact sh,λr hr=>(by rw [h.got] at hr;cases hr),by rw [h.got];simp⟩;rw [h.acc];exact ⟨h.ok.1,h.ok.2.1,h.ok.2.2,⟨AI 0,show (0:Int)<=100000 by decide,λ_=>⟨AI 0,AI 0,h.short⟩,λh=>(by cases h),.inl rfl⟩,⟨λe he=>(by cases he),sh⟩,λe he=>(by cases he)⟩
theorem adh (s:af):pF s 0=0:=by unfold pF imax;simp
theorem GK {s:af}{a:Nat}(h:sr s (a:Int)):MD s a (yL s (a:Int)):=⟨h,rfl,rfl,rfl⟩
theorem SN {s:af}{n:aq}(h:MD s 0 n)(hl:n.jy= -1)(w:List UInt8):iU s 0 n w=some (⟨n.A,n.L,n.df,0⟩,[u9 0 0 w []]):=by
 have hs:=h.ok.1;have hv:n.A.View=0:=by rw [h.acc]
 unfold iU;rw [pD hs,ap,nP hs,ap,hv,adh,hl];simp only [decide_true,IN,eJ,if_false,show decide ((0:Int)<= -1)=false by decide,ap,show¬((0:Int)<0) by decide];rfl
theorem SO {s:af}{a:Nat}{n:aq}(h:MD s a n){w:List UInt8}(hw:w.length<=6000): ∃n',dZ s (a:Int) n (u9 0 0 w [])=some (n',[AE (vt w a)])/\GJ s a w n':=by
 have hs:=h.ok.1;refine ⟨⟨⟨s,(a:Int),0,true,0,w,[],⟨[]⟩⟩,n.L,n.df,n.jy⟩,?_,⟨h.ok,hw,rfl,h.jf,h.got⟩⟩;have hp:fe n.A 0 w []=some (⟨s,(a:Int),0,true,0,w,[],⟨[]⟩⟩,vt w a,true):=by rw [h.acc];unfold fe;simp only [decide_true,IN,eJ,if_false,ap];rw [decide_eq_false (show¬(6000:Int)<(w.length:Int) by omega)];simp
 have hd:n.L.cq=false:=by rw [h.jf];unfold AD;split<;>rfl
 have k1:(u9 0 0 w []).Kind=1:=rfl;have FV:fe n.A (u9 0 0 w []).View (u9 0 0 w []).Value (u9 0 0 w []).dP=some (⟨s,(a:Int),0,true,0,w,[],⟨[]⟩⟩,vt w a,true):=hp;have hl:kP s (u9 0 0 w []).View=some 0:=by rw [show (u9 0 0 w []).View=0 from rfl,nP hs,adh]
 unfold dZ;rw [if_pos k1,hl,ap,if_neg (by simp [u9]),FV];simp only [ap,if_true];rw [if_pos (by simp)];simp only [ap];rw [za _ _ _ (by simp),if_neg (show¬(n.L.cq&&!n.L.cq)=true by simp)];rfl
structure Bq (s:af) (a:Nat) (w:List UInt8) (n:aq) (seen:List Nat):Prop where
 inv:jq s (a:Int) n 0
 short:w.length<=6000
 view:n.A.View=0
 all: ∀e∈n.L.bj.L,e.View=0/\e.Value=w/\ ∃b∈seen,e.By=(b:Int)
 done:n.L.cq=true->n.L.Value=w
 not:n.L.cq=false->n.L.bj.L.length=seen.length/\(seen.length:Int)<3 *s.F+s.T+1
 V5:n.L.bp.L=[]
theorem GJ.abV {s:af}{a:Nat}{w:List UInt8}{n:aq}(h:GJ s a w n):Bq s a w n []:=by
 have Vl:=(ei s).1 h.ok.1;have hl:(AD s).1=⟨s,⟨[]⟩,⟨[]⟩,⟨[]⟩,false,[]⟩:=by unfold AD;rw [if_pos h.ok.1]
 refine ⟨h.inv,h.short,by rw [h.acc],?_,?_,?_,?_⟩
 ·rw [h.jf,hl];intro e he;cases he
 ·rw [h.jf,hl];intro h;cases h
 ·rw [h.jf,hl];intro _;exact ⟨rfl,by simp;omega⟩
 ·rw [h.jf,hl]
theorem VH {L:List aa}{b:Int}(h: ∀e∈L,e.By≠b):mG vk L b=false:=by rw [BY];intro hh;obtain ⟨e,he,h3⟩:=uF.1 hh;exact h e he h3
theorem SP {L:List aa}{v:aa}(hs:pc vk L)(hm:sF v)(h: ∀e∈L,e.By≠v.By):(ia L v).1=sq L v/\(sq L v).length=L.length+1:=by
 have ho:BF L v=false:=by rw [BY];intro hh;unfold BF at hh;rw [List.any_eq_true] at hh;obtain ⟨e,he,h2⟩:=hh;simp only [Bool.and_eq_true,decide_eq_true_eq] at h2;exact h e he h2.1
 refine ⟨by unfold ia;rw [if_pos ⟨hm,ho⟩],?_⟩;have hle:=wE (key:=vk) L v.By;unfold sq;rw [VH h];simp only [eJ,if_false,Nat.add_zero,AT,List.length_take,List.length_drop,List.length_cons,List.length_nil];omega
theorem abW {L:List aa}{w:List UInt8}(h: ∀e∈L,e.View=0/\e.Value=w):zr L 0 w=L.length:=by unfold zr;rw [List.filter_eq_self.2 λe he=>by unfold th;simp [h e he]]
theorem QD {s:af}{a:Nat}{w:List UInt8}{n:aq}{seen:List Nat}(h:Bq s a w n seen){b:Nat}(hb:(b:Int)<uI s)(Xg:b∉seen): ∃x,dZ s (a:Int) n (AE (vt w b))=some x/\x.2.length<=2/\Bq s a w x.1 (seen++[b]):=by
 have hs:=h.inv.sz;have Vl:=(ei s).1 hs;obtain ⟨q1,q2,q3⟩:=h.inv.jf.Z3;obtain ⟨p1,p2⟩:=TT h.inv.acc h.inv.acc.Z3 (vt w b);have a1:=GG h.inv.jf q1 (vt w b);have ajz:sF (vt w b):=⟨by simp only;omega,AI 0,show (0:Int)<=100000 by decide,h.short⟩
 have hS:=h.inv.wG;refine ⟨(⟨(iD n.A (vt w b)).1,ft n.L (vt w b),n.df,n.jy⟩,uO (a:Int) n.L.cq ⟨(iD n.A (vt w b)).1,ft n.L (vt w b),n.df,n.jy⟩ (if (iD n.A (vt w b)).2.2 then [SH (a:Int) (iD n.A (vt w b)).2.1] else [])),?_,?_,?_⟩
 ·have k1: ¬(AE (vt w b)).Kind=1:=by show¬(2:Int)=1;decide
  have k2:(AE (vt w b)).Kind=2:=rfl;have p1':lP n.A (AE (vt w b)).cf=some (iD n.A (vt w b)):=p1;have a1':iS n.L (AE (vt w b)).cf=some (ft n.L (vt w b)):=a1;unfold dZ;rw [if_neg k1,if_pos k2,p1'];cases hh:(iD n.A (vt w b)).2.2 with
  |true=>simp only [ap,hh,if_true];rw [if_pos (by simp)];simp only [ap,a1'];rw [za _ _ _ (by simp)];rfl
  |false=>simp only [ap,hh,if_false,eJ,a1'];rw [za _ _ _ (by simp)];rfl
 ·unfold uO;split<;>split<;>simp
 ·have hinv:jq s (a:Int) ⟨(iD n.A (vt w b)).1,ft n.L (vt w b),n.df,n.jy⟩ 0:=⟨GD h.inv.acc _,by rw [(Hn _ _).1];exact h.inv.EL,by rw [(Hn _ _).2];exact h.inv.vV,y9 h.inv.jf _,by rw [GH];exact hS,h.inv.inc,h.inv.small,h.inv.len⟩
  have Zz:(iD n.A (vt w b)).1.View=0:=by
   unfold iD;split
   ·exact h.view
   ·split<;>exact h.view
  cases hd:n.L.cq with
  |true=>
   have ajA:pE n.L (vt w b):= .inl hd;have ea:ft n.L (vt w b)=n.L:=by unfold ft;rw [if_pos ajA]
   rw [ea] at hinv⊢;refine ⟨hinv,h.short,Zz,λe he=> ?_,h.done,λhf=> ?_,h.V5⟩
   ·obtain ⟨g1,g2,c,hc,g3⟩:=h.all e he;exact ⟨g1,g2,c,by simp [hc],g3⟩
   ·simp only at hf;rw [hd] at hf;cases hf
  |false=>
   have hnd: ¬pE n.L (vt w b):=by
    rintro (h1|h1|h1)
    ·rw [hd] at h1;cases h1
    ·rw [hS] at h1;simp only at h1;omega
    ·exact h1 ajz
   obtain ⟨n1,n2⟩:=h.not hd;have afG:pc vk n.L.bj.L:=h.inv.jf.acc.2.2;have dS: ∀e∈n.L.bj.L,e.By≠(vt w b).By:=λe he hh=>by
    obtain ⟨_,_,c,hc,g3⟩:=h.all e he;rw [g3] at hh;have:c=b:=by simp only at hh;omega
    exact Xg (this▸hc)
   obtain ⟨e1,e2⟩:=SP afG ajz dS;have my: ∀e∈sq n.L.bj.L (vt w b),e.View=0/\e.Value=w/\ ∃c∈seen++[b],e.By=(c:Int):=λe he=>by
    rcases (Ay afG).1 he with rfl|⟨he,_⟩
    ·exact ⟨rfl,rfl,b,by simp,rfl⟩
    ·obtain ⟨g1,g2,c,hc,g3⟩:=h.all e he;exact ⟨g1,g2,c,by simp [hc],g3⟩
   have ea:ft n.L (vt w b)=je ⟨n.L.S,⟨sq n.L.bj.L (vt w b)⟩,n.L.bp,n.L.Told,n.L.cq,n.L.Value⟩ (sq n.L.bj.L (vt w b)) (3 *s.F+s.T+1):=by unfold ft;rw [if_neg hnd,e1,hS]
   rw [ea] at hinv⊢;cases hbz:lJ (sq n.L.bj.L (vt w b)) (3 *s.F+s.T+1) with
   |none=>
    have el:je ⟨n.L.S,⟨sq n.L.bj.L (vt w b)⟩,n.L.bp,n.L.Told,n.L.cq,n.L.Value⟩ (sq n.L.bj.L (vt w b)) (3 *s.F+s.T+1)=⟨n.L.S,⟨sq n.L.bj.L (vt w b)⟩,n.L.bp,n.L.Told,n.L.cq,n.L.Value⟩:=by unfold je;rw [hbz]
    rw [el] at hinv⊢;refine ⟨hinv,h.short,Zz,my,h.done,λ_=>⟨by simp only;rw [e2,n1];simp,?_⟩,h.V5⟩;refine Int.not_le.1 λOU=> ?_;have hsp:=C2 (sq n.L.bj.L (vt w b)) (3 *s.F+s.T+1);rw [hbz] at hsp;have qW:vt w b∈sq n.L.bj.L (vt w b):=(Ay afG).2 (.inl rfl);have hg:=hsp _ qW;unfold nU at hg;have Y4:=abW (L:=sq n.L.bj.L (vt w b)) (w:=w) (λe he=>⟨(my e he).1,(my e he).2.1⟩);simp only [Y4,e2,n1] at hg;rw [AT,List.length_singleton] at OU;rw [decide_eq_true (show (1:Int)<=3 *s.F+s.T+1 by omega),decide_eq_true (show 3 *s.F+s.T+1<=((seen.length+1:Nat):Int) by omega)] at hg;cases hg
   |some z=>
    have el:je ⟨n.L.S,⟨sq n.L.bj.L (vt w b)⟩,n.L.bp,n.L.Told,n.L.cq,n.L.Value⟩ (sq n.L.bj.L (vt w b)) (3 *s.F+s.T+1)=⟨n.L.S,⟨sq n.L.bj.L (vt w b)⟩,n.L.bp,n.L.Told,true,z.Value⟩:=by unfold je;rw [hbz]
    rw [el] at hinv⊢;refine ⟨hinv,h.short,Zz,my,λ_=>(my z (Mx hbz).1).2.1,λhf=>(by cases hf),h.V5⟩
theorem Bq.end_ {s:af}{a:Nat}{w:List UInt8}{n:aq}{seen:List Nat}(h:Bq s a w n seen)(hl:3 *s.F+s.T+1<=(seen.length:Int)):n.L.cq=true/\n.L.Value=w/\n.L.bp.L=[]:=by
 have hd:n.L.cq=true:=by
  cases hd:n.L.cq with
  |true=>rfl
  |false=>have:=(h.not hd).2;omega
 exact ⟨hd,h.done hd,h.V5⟩
end Dn.S
