import Derived.Test.YtmdlghpieagfhaaGreatDnPSlot5
/- Slots: a proposal that is accepted, accepts that are heard. Conditions: none. -/
set_option linter.unusedVariables false
set_option linter.unusedSimpArgs false
open Bool renaming false_eq_true→cV,eq_false_iff→BY,not_true→IT
open List.Pairwise renaming nil→sh
open Int renaming le_refl→AI
open List renaming length_append→AT
open Go Dn
namespace Dn.S
abbrev vt (w:List UInt8)(b:Nat):aa:=⟨(b:Int),0,w⟩
structure NA (s:ae) (a:Nat) (n:ao):Prop where
 ok:v8 s (a:Int)
 acc:n.A=⟨s,(a:Int),0,false,0,[],[],⟨[]⟩⟩
 dU:n.L=(zL s).1
 Bg:n.dq=[]
structure Hc (s:ae) (a:Nat) (w:List UInt8) (n:ao):Prop where
 ok:v8 s (a:Int)
 short:w.length<=6000
 acc:n.A=⟨s,(a:Int),0,true,0,w,[],⟨[]⟩⟩
 dU:n.L=(zL s).1
 Bg:n.dq=[]
theorem NA.inv {s:ae}{a:Nat}{n:ao}(h:NA s a n):dP s (a:Int) n 0:=by obtain ⟨n1,n2,_⟩:=uU h.ok.1;refine ⟨?_,by rw [h.acc],by rw [h.acc],by rw [h.dU];exact n1,by rw [h.dU];exact n2,by rw [h.Bg];exact sh,λr hr=>(by rw [h.Bg] at hr;cases hr),by rw [h.Bg];simp⟩;rw [h.acc];exact KP h.ok
theorem Hc.inv {s:ae}{a:Nat}{w:List UInt8}{n:ao}(h:Hc s a w n):dP s (a:Int) n 0:=by obtain ⟨n1,n2,_⟩:=uU h.ok.1;refine ⟨?_,by rw [h.acc],by rw [h.acc],by rw [h.dU];exact n1,by rw [h.dU];exact n2,by rw [h.Bg];exact sh,λr hr=>(by rw [h.Bg] at hr;cases hr),by rw [h.Bg];simp⟩;rw [h.acc];exact ⟨h.ok.1,h.ok.2.1,h.ok.2.2,⟨AI 0,show (0:Int)<=100000 by decide,λ_=>⟨AI 0,AI 0,h.short⟩,λh=>(by cases h),.inl rfl⟩,⟨λe he=>(by cases he),sh⟩,λe he=>(by cases he)⟩
theorem agR (s:ae):dG s 0=0:=by unfold dG imax;simp
theorem Hd {s:ae}{a:Nat}(h:v8 s (a:Int)):NA s a (rc s (a:Int)):=⟨h,rfl,rfl,rfl⟩
theorem UK {s:ae}{n:ao}(h:NA s 0 n)(hl:n.et= -1)(w:List UInt8):cF s 0 n w=some (⟨n.A,n.L,n.dq,0⟩,[mA 0 0 w []]):=by
 have hs:=h.ok.1;have hv:n.A.View=0:=by rw [h.acc]
 unfold cF;rw [fX hs,au,dI hs,au,hv,agR,hl];simp only [decide_true,IT,cV,if_false,show decide ((0:Int)<= -1)=false by decide,au,show¬((0:Int)<0) by decide];rfl
theorem UL {s:ae}{a:Nat}{n:ao}(h:NA s a n){w:List UInt8}(hw:w.length<=6000): ∃n',bq s (a:Int) n (mA 0 0 w [])=some (n',[pq (vt w a)])/\Hc s a w n':=by
 have hs:=h.ok.1;refine ⟨⟨⟨s,(a:Int),0,true,0,w,[],⟨[]⟩⟩,n.L,n.dq,n.et⟩,?_,⟨h.ok,hw,rfl,h.dU,h.Bg⟩⟩;have hp:dO n.A 0 w []=some (⟨s,(a:Int),0,true,0,w,[],⟨[]⟩⟩,vt w a,true):=by rw [h.acc];unfold dO;simp only [decide_true,IT,cV,if_false,au];rw [decide_eq_false (show¬(6000:Int)<(w.length:Int) by omega)];simp
 have hd:n.L.bw=false:=by rw [h.dU];unfold zL;split<;>rfl
 have k1:(mA 0 0 w []).Kind=1:=rfl;have Hn:dO n.A (mA 0 0 w []).View (mA 0 0 w []).Value (mA 0 0 w []).fC=some (⟨s,(a:Int),0,true,0,w,[],⟨[]⟩⟩,vt w a,true):=hp;have hl:eN s (mA 0 0 w []).View=some 0:=by rw [show (mA 0 0 w []).View=0 from rfl,dI hs,agR]
 unfold bq;rw [if_pos k1,hl,au,if_neg (by simp [mA]),Hn];simp only [au,if_true];rw [if_pos (by simp)];simp only [au];rw [jY _ _ _ (by simp),if_neg (show¬(n.L.bw&&!n.L.bw)=true by simp)];rfl
structure BW (s:ae) (a:Nat) (w:List UInt8) (n:ao) (seen:List Nat):Prop where
 inv:dP s (a:Int) n 0
 short:w.length<=6000
 view:n.A.View=0
 all: ∀e∈n.L.aY.L,e.View=0/\e.Value=w/\ ∃b∈seen,e.By=(b:Int)
 done:n.L.bw=true->n.L.Value=w
 not:n.L.bw=false->n.L.aY.L.length=seen.length/\(seen.length:Int)<3 *s.F+s.T+1
 sL:n.L.aR.L=[]
theorem Hc.afl {s:ae}{a:Nat}{w:List UInt8}{n:ao}(h:Hc s a w n):BW s a w n []:=by
 have Nj:=(b7 s).1 h.ok.1;have hl:(zL s).1=⟨s,⟨[]⟩,⟨[]⟩,⟨[]⟩,false,[]⟩:=by unfold zL;rw [if_pos h.ok.1]
 refine ⟨h.inv,h.short,by rw [h.acc],?_,?_,?_,?_⟩
 ·rw [h.dU,hl];intro e he;cases he
 ·rw [h.dU,hl];intro h;cases h
 ·rw [h.dU,hl];intro _;exact ⟨rfl,by simp;omega⟩
 ·rw [h.dU,hl]
theorem Yh {L:List aa}{b:Int}(h: ∀e∈L,e.By≠b):nR vk L b=false:=by rw [BY];intro hh;obtain ⟨e,he,h3⟩:=xB.1 hh;exact h e he h3
theorem UM {L:List aa}{v:aa}(hs:oh vk L)(hm:tw v)(h: ∀e∈L,e.By≠v.By):(cL L v).1=tx L v/\(tx L v).length=L.length+1:=by
 have ho:KD L v=false:=by rw [BY];intro hh;unfold KD at hh;rw [List.any_eq_true] at hh;obtain ⟨e,he,h2⟩:=hh;simp only [Bool.and_eq_true,decide_eq_true_eq] at h2;exact h e he h2.1
 refine ⟨by unfold cL;rw [if_pos ⟨hm,ho⟩],?_⟩;have hle:=A6 (key:=vk) L v.By;unfold tx;rw [Yh h];simp only [cV,if_false,Nat.add_zero,AT,List.length_take,List.length_drop,List.length_cons,List.length_nil];omega
theorem afm {L:List aa}{w:List UInt8}(h: ∀e∈L,e.View=0/\e.Value=w):wJ L 0 w=L.length:=by unfold wJ;rw [List.filter_eq_self.2 λe he=>by unfold ve;simp [h e he]]
theorem R9 {s:ae}{a:Nat}{w:List UInt8}{n:ao}{seen:List Nat}(h:BW s a w n seen){b:Nat}(hb:(b:Int)<kz s)(WG:b∉seen): ∃x,bq s (a:Int) n (pq (vt w b))=some x/\x.2.length<=2/\BW s a w x.1 (seen++[b]):=by
 have hs:=h.inv.sz;have Nj:=(b7 s).1 hs;obtain ⟨q1,q2,q3⟩:=h.inv.dU.E4;have p1:=BU h.inv.acc h.inv.acc.E4 (vt w b);have a1:=wb h.inv.dU q1 (vt w b);have KX:tw (vt w b):=⟨by simp only;omega,AI 0,show (0:Int)<=100000 by decide,h.short⟩
 have hS:=h.inv.qp;refine ⟨(⟨(dp n.A (vt w b)).1,b8 n.L (vt w b),n.dq,n.et⟩,lG (a:Int) n.L.bw ⟨(dp n.A (vt w b)).1,b8 n.L (vt w b),n.dq,n.et⟩ (if (dp n.A (vt w b)).2.2 then [yT (a:Int) (dp n.A (vt w b)).2.1] else [])),?_,?_,?_⟩
 ·have k1: ¬(pq (vt w b)).Kind=1:=by show¬(2:Int)=1;decide
  have k2:(pq (vt w b)).Kind=2:=rfl;have p1':lO n.A (pq (vt w b)).bM=some (dp n.A (vt w b)):=p1;have a1':jc n.L (pq (vt w b)).bM=some (b8 n.L (vt w b)):=a1;unfold bq;rw [if_neg k1,if_pos k2,p1'];cases hh:(dp n.A (vt w b)).2.2 with
  |true=>simp only [au,hh,if_true];rw [if_pos (by simp)];simp only [au,a1'];rw [jY _ _ _ (by simp)];rfl
  |false=>simp only [au,hh,if_false,cV,a1'];rw [jY _ _ _ (by simp)];rfl
 ·unfold lG;split<;>split<;>simp
 ·have hinv:dP s (a:Int) ⟨(dp n.A (vt w b)).1,b8 n.L (vt w b),n.dq,n.et⟩ 0:=⟨G4 h.inv.acc _,by rw [(HV _ _).1];exact h.inv.zM,by rw [(HV _ _).2];exact h.inv.sq,zo h.inv.dU _,by rw [G7];exact hS,h.inv.inc,h.inv.small,h.inv.len⟩
  have Bh:(dp n.A (vt w b)).1.View=0:=by
   unfold dp;split
   ·exact h.view
   ·split<;>exact h.view
  cases hd:n.L.bw with
  |true=>
   have anU:lF n.L (vt w b):= .inl hd;have ea:b8 n.L (vt w b)=n.L:=by unfold b8;rw [if_pos anU]
   rw [ea] at hinv⊢;refine ⟨hinv,h.short,Bh,λe he=> ?_,h.done,λhf=> ?_,h.sL⟩
   ·obtain ⟨g1,g2,c,hc,g3⟩:=h.all e he;exact ⟨g1,g2,c,by simp [hc],g3⟩
   ·simp only at hf;rw [hd] at hf;cases hf
  |false=>
   have hnd: ¬lF n.L (vt w b):=by
    rintro (h1|h1|h1)
    ·rw [hd] at h1;cases h1
    ·rw [hS] at h1;simp only at h1;omega
    ·exact h1 KX
   obtain ⟨n1,n2⟩:=h.not hd;have Gb:oh vk n.L.aY.L:=h.inv.dU.acc.2.2;have di: ∀e∈n.L.aY.L,e.By≠(vt w b).By:=λe he hh=>by
    obtain ⟨_,_,c,hc,g3⟩:=h.all e he;rw [g3] at hh;have:c=b:=by simp only at hh;omega
    exact WG (this▸hc)
   obtain ⟨e1,e2⟩:=UM Gb KX di;have ku: ∀e∈tx n.L.aY.L (vt w b),e.View=0/\e.Value=w/\ ∃c∈seen++[b],e.By=(c:Int):=λe he=>by
    rcases (sn Gb).1 he with rfl|⟨he,_⟩
    ·exact ⟨rfl,rfl,b,by simp,rfl⟩
    ·obtain ⟨g1,g2,c,hc,g3⟩:=h.all e he;exact ⟨g1,g2,c,by simp [hc],g3⟩
   have ea:b8 n.L (vt w b)=dS ⟨n.L.S,⟨tx n.L.aY.L (vt w b)⟩,n.L.aR,n.L.Told,n.L.bw,n.L.Value⟩ (tx n.L.aY.L (vt w b)) (3 *s.F+s.T+1):=by unfold b8;rw [if_neg hnd,e1,hS]
   rw [ea] at hinv⊢;cases hbz:ol (tx n.L.aY.L (vt w b)) (3 *s.F+s.T+1) with
   |none=>
    have el:dS ⟨n.L.S,⟨tx n.L.aY.L (vt w b)⟩,n.L.aR,n.L.Told,n.L.bw,n.L.Value⟩ (tx n.L.aY.L (vt w b)) (3 *s.F+s.T+1)=⟨n.L.S,⟨tx n.L.aY.L (vt w b)⟩,n.L.aR,n.L.Told,n.L.bw,n.L.Value⟩:=by unfold dS;rw [hbz]
    rw [el] at hinv⊢;refine ⟨hinv,h.short,Bh,ku,h.done,λ_=>⟨by simp only;rw [e2,n1];simp,?_⟩,h.sL⟩;refine Int.not_le.1 λWy=> ?_;have hsp:=yO (tx n.L.aY.L (vt w b)) (3 *s.F+s.T+1);rw [hbz] at hsp;have kG:vt w b∈tx n.L.aY.L (vt w b):=(sn Gb).2 (.inl rfl);have hg:=hsp _ kG;unfold qI at hg;have XU:=afm (L:=tx n.L.aY.L (vt w b)) (w:=w) (λe he=>⟨(ku e he).1,(ku e he).2.1⟩);simp only [XU,e2,n1] at hg;rw [AT,List.length_singleton] at Wy;rw [decide_eq_true (show (1:Int)<=3 *s.F+s.T+1 by omega),decide_eq_true (show 3 *s.F+s.T+1<=((seen.length+1:Nat):Int) by omega)] at hg;cases hg
   |some z=>
    have el:dS ⟨n.L.S,⟨tx n.L.aY.L (vt w b)⟩,n.L.aR,n.L.Told,n.L.bw,n.L.Value⟩ (tx n.L.aY.L (vt w b)) (3 *s.F+s.T+1)=⟨n.L.S,⟨tx n.L.aY.L (vt w b)⟩,n.L.aR,n.L.Told,true,z.Value⟩:=by unfold dS;rw [hbz]
    rw [el] at hinv⊢;refine ⟨hinv,h.short,Bh,ku,λ_=>(ku z (Nv hbz).1).2.1,λhf=>(by cases hf),h.sL⟩
theorem BW.end_ {s:ae}{a:Nat}{w:List UInt8}{n:ao}{seen:List Nat}(h:BW s a w n seen)(hl:3 *s.F+s.T+1<=(seen.length:Int)):n.L.bw=true/\n.L.Value=w/\n.L.aR.L=[]:=by
 have hd:n.L.bw=true:=by
  cases hd:n.L.bw with
  |true=>rfl
  |false=>have:=(h.not hd).2;omega
 exact ⟨hd,h.done hd,h.sL⟩
end Dn.S
