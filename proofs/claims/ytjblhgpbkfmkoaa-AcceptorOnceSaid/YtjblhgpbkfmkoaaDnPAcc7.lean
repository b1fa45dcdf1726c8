import Derived.Test.YtjblhgpbkfmkoaaDnPAcc5
/-
  AcceptorOnce. Conditions: none.
-/
open Go Dn
set_option linter.unusedVariables false
set_option linter.unusedSimpArgs false
namespace Dn.S
theorem EI {a:ae} (h:et a) (view:Int):et (AV a view).1:=by
 have h0:=h.dR.v0
 unfold AV
 split
 ·exact h
 ·rename_i hc
  refine ⟨h.sz,h.VO,h.Ih,⟨by simp only;omega,by simp only;omega,fun hh=> ?_,h.dR.jP,?_⟩,⟨fun e he=>(by cases he),List.Pairwise.nil⟩,fun e he=>(by cases he)⟩
  ·have:=h.dR.has hh;simp only;omega
  ·rcases h.dR.proof with hp|⟨hp,hv⟩
   ·exact .inl hp
   ·exact .inr ⟨hp,fun e he=>by have:=hv e he;simp only;omega⟩
theorem A7 {a:ae} (h:et a) {view:Int} {value:List UInt8} {ok:Bool} (hf:ok=true→PG a view value):et (eg a view value ok).1:=by
 unfold eg
 split
 ·rename_i HH
  obtain ⟨f1,f2,f3⟩:=hf HH
  have h0:=h.dR.v0
  have h1:=h.dR.v1
  exact ⟨h.sz,h.VO,h.Ih,⟨h0,h1,fun _=>by simp only;omega,fun hh=>(by cases hh),h.dR.proof⟩,h.ji,h.all⟩
 ·exact h
theorem GS {a:ae} (h:et a) (v:aa):et (vN a v).1:=by
 unfold vN
 split
 ·exact h
 ·rename_i hc
  have gb:v.By<ur a.S:=by
   refine Int.not_le.1 fun h2=>hc (.inl h2)
  have gv:v.View=a.View:=by
   by_cases h:v.View=a.View
   ·exact h
   ·exact absurd (.inr h) hc
  have hv:n7 (iz a.ba.L v).1:=uc h.ji
  have jT:=AW h gb gv
  split
  ·exact ⟨h.sz,h.VO,h.Ih,⟨h.dR.v0,h.dR.v1,h.dR.has,h.dR.jP,h.dR.proof⟩,hv,jT⟩
  ·rename_i Xa
   have hm:(gw a.S (iz a.ba.L v).1).2=true:=by
    cases hk:(gw a.S (iz a.ba.L v).1).2 with
    |true=>rfl
    |false=>exact absurd (.inr (.inl hk)) Xa
   exact ⟨h.sz,h.VO,h.Ih,⟨h.dR.v0,h.dR.v1,h.dR.has,h.dR.jP,.inr ⟨xN h.sz hv (fun e he=>(jT e he).1) hm,fun e he=>by have:=(jT e (wY he)).2;simp only;omega⟩⟩,hv,jT⟩
theorem IX {a:ae} (h:et a):et (EG a):=⟨h.sz,h.VO,h.Ih,A6 h.dR,⟨fun e he=>(by cases he),List.Pairwise.nil⟩,fun e he=>(by cases he)⟩
theorem LX (a:ae) (v:aa):(vN a v).1.ba.L.length≤a.ba.L.length+1:=by
 have:=Gx (L:=a.ba.L) (a:=v)
 unfold vN
 split
 ·simp only;omega
 ·split<;>exact this
theorem IY {s:ai} {me:Int} (h:tu s me):et ⟨s,me,0,false,0,[],[],⟨[]⟩⟩:=
 ⟨h.1,h.2.1,h.2.2,⟨Int.le_refl 0,show (0:Int)≤100000 by decide,fun h=>(by cases h),fun _=>⟨rfl,rfl⟩,.inl rfl⟩,⟨fun e he=>(by cases he),List.Pairwise.nil⟩,fun e he=>(by cases he)⟩
theorem PV {a:ae} (h:et a):((0:Int)≤(xM a.Proof).1↔0<a.Proof.length):=by
 cases hp:a.Proof with
 |nil=>simp [xM]
 |cons e p=>
  have hr:rD a.S a.Proof:=by
   rcases h.dR.proof with h1|⟨h1,_⟩
   ·rw [h1] at hp;cases hp
   ·exact h1
  have:=(hr.ji.all e (by rw [hp];simp)).2.1
  simp [xM,this]
structure qA (s:ai) (me:Int) (a:ae) (l:aa) (p:Int) (n:Nat):Prop where
 right:et a
 hs:a.S=s
 hm:a.Me=me
 ji:a.ba.L.length≤n
 has:a.Has=true→0≤l.View∧l.View=a.At∧l.Value=a.Value
 jP:a.Has=false→l.View= -1
 rL:p=(xM a.Proof).1
theorem qA.VT {s:ai} {me:Int} {a:ae} {l:aa} {p:Int} {n:Nat} (h:qA s me a l p n):a.Has=decide ((0:Int)≤l.View):=by
 cases hh:a.Has with
 |true=>exact (decide_eq_true (h.has hh).1).symm
 |false=>rw [h.jP hh];rfl
abbrev Zg (a:ae) (l:aa) (p:Int):=(a.S.F,a.S.T,a.Me,a.View,a.Has,a.At,a.Value,a.Proof,a.ba.L,l.By,l.View,l.Value,p)
abbrev S3 (a:ae) (l:aa) (p:Int) (i:Int):=(a.S.F,a.S.T,a.Me,a.View,a.Has,a.At,a.Value,a.Proof,a.ba.L,l.By,l.View,l.Value,p,i)
theorem eA (a:ae):(⟨(⟨a.S.F,a.S.T⟩:ai),a.Me,a.View,a.Has,a.At,a.Value,a.Proof,(⟨a.ba.L⟩:au)⟩:ae)=a:=rfl
theorem LY {s:ai} {me:Int} {L:List ll} {a:ae} {l:aa} {p:Int} {k:Nat} (hk:k<L.length) (X5:L.length≤40) (h:qA s me a l p k):
 aO (dQ s me L (S3 a l p (k:Int))) fun x=>match x with| .inl st=> ∃a' l' p',st=S3 a' l' p' ((k+1:Nat):Int)∧qA s me a' l' p' (k+1)| .inr r=>r= .inr true:=by
 have hr:=h.right
 have KH:=hr.dR.v0
 have hhe:=h.VT
 have hpv:=PV hr
 have Ke: ∀a' l' p',qA s me a' l' p' k→qA s me a' l' p' (k+1):=fun a' l' p' h=>⟨h.right,h.hs,h.hm,by have:=h.ji;omega,h.has,h.jP,h.rL⟩
 unfold dQ S3
 simp only [eA]
 rw [if_pos (by omega),bO hk,bO hk,AQ,aq]
 generalize L[k]=y
 obtain ⟨b2,e2,h2⟩:=PH y.C.tU
 rw [e2,aq]
 cases b2 with
 |false=>simp only [Bool.not_false,if_true,aq];exact .mk rfl
 |true=>
 obtain ⟨g4,g5⟩:=h2 rfl
 simp only [Bool.not_true,Bool.false_eq_true,if_false]
 rw [or_some,aq]
 by_cases c1:(6100:Int)<(y.C.Value.length:Int)∨(6100:Int)<(y.C.iy.Value.length:Int)
 ·rw [decide_eq_true c1,if_pos rfl];exact .mk rfl
 rw [decide_eq_false c1,if_neg (by simp)]
 have key: ∀{X:Option (Bool⊕(Int×Int×Int×Int×Bool×Int×(List UInt8)×(List aa)×(List aa)×Int×Int×(List UInt8)×Int))} {K:Bool⊕(Int×Int×Int×Int×Bool×Int×(List UInt8)×(List aa)×(List aa)×Int×Int×(List UInt8)×Int)→Option ((Int×Int×Int×Int×Bool×Int×(List UInt8)×(List aa)×(List aa)×Int×Int×(List UInt8)×Int×Int)⊕(Unit⊕Bool))},
  aO X (fun w=> ∃a' l' p',w= .inr (Zg a' l' p')∧qA s me a' l' p' (k+1)∧a.View≤a'.View)→
  (∀a' l' p',qA s me a' l' p' (k+1)→a.View≤a'.View→K (.inr (Zg a' l' p'))=some (.inl (S3 a' l' p' ((k+1:Nat):Int))))→
  aO (bd X K) fun x=>match x with| .inl st=> ∃a' l' p',st=S3 a' l' p' ((k+1:Nat):Int)∧qA s me a' l' p' (k+1)| .inr r=>r= .inr true:=by
  intro X K hX hK
  refine aO.bd hX ?_
  rintro w ⟨a',l',p',rfl,h1,h2⟩
  rw [hK a' l' p' h1 h2]
  exact .mk ⟨a',l',p',rfl,h1⟩
 refine key ?_ ?_
 rotate_left
 ·intro a' l' p' h1 h2
  have Tk:=h1.right
  have EL:=Tk.Kb.proof.len
  obtain ⟨b,e,hb⟩:=GD a' (by omega) (by have:=h1.ji;omega)
  have Zx:=hb.2 Tk
  subst Zx
  simp only [Zg,eA,LF,aq,e,Bool.not_true,Bool.false_eq_true,if_false]
  rw [if_neg (by rw [decide_eq_true_iff];omega),wrap64 (by omega) (by omega)]
  rfl
 by_cases k0:y.Kind=0
 ·rw [if_pos k0,PF,aq]
  have hR:=EI hr y.C.View
  unfold AV at hR⊢
  by_cases c:y.C.View≤a.View∨100000<y.C.View
  ·rw [if_pos c]
   simp only [Bool.false_eq_true,if_false,aq]
   exact .mk ⟨a,l,p,rfl,Ke _ _ _ h,Int.le_refl _⟩
  ·rw [if_neg c] at hR⊢
   have hI:qA s me ⟨a.S,a.Me,y.C.View,a.Has,a.At,a.Value,a.Proof,⟨[]⟩⟩ l p (k+1):=⟨hR,h.hs,h.hm,by simp,h.has,h.jP,h.rL⟩
   have f1: ¬y.C.View≤a.View:=fun h=>c (.inl h)
   simp only [if_true,f1,if_false,decide_true,Bool.not_true,Bool.false_eq_true,h.hm,hhe]
   have f2:(if decide ((0:Int)≤l.View)=true then if !decide (a.At=l.View) then some true else some (!decide (a.Value=l.Value)) else some false:Option Bool)=some false:=by
    cases hh:a.Has with
    |true=>
     obtain ⟨q1,q2,q3⟩:=h.has hh
     simp [q1,q2,q3]
    |false=>rw [h.jP hh];rfl
   rw [f2]
   simp only [aq,Bool.false_eq_true,if_false]
   have f3:(!(decide ((decide ((0:Int)≤p))=(decide ((0:Int)<(a.Proof.length:Int))))))=false:=by
    rw [h.rL]
    have:(decide ((0:Int)≤(xM a.Proof).1))=(decide ((0:Int)<(a.Proof.length:Int))):=by rw [decide_eq_decide,hpv];omega
    rw [this];simp
   rw [f3]
   simp only [Bool.false_eq_true,if_false]
   have f4:(if (0:Int)<(a.Proof.length:Int) then ix a.Proof 0 fun y2=>some (!decide (y2.View=p)) else some false:Option Bool)=some false:=by
    by_cases hp:0<a.Proof.length
    ·rw [if_pos (by omega),jO hp,←AS hp,h.rL];simp
    ·rw [if_neg (by omega)]
   rw [f4]
   simp only [aq,Bool.false_eq_true,if_false]
   refine .mk ⟨_,l,p,?_,hI,by simp only;omega⟩
   simp only [Zg,h.hm,hhe]
 rw [if_neg k0]
 by_cases k1:y.Kind=1
 ·rw [if_pos k1]
  obtain ⟨ok,e1,_,HH⟩:=IJ a y.C.View y.C.Value y.C.tU (fun r hr=>by have:=(g5 r hr).2;omega) (by omega)
  rw [e1,aq]
  have hR:=A7 hr (ok:=ok) (fun h=>(HH h).1)
  unfold eg at hR⊢
  cases ok with
  |false=>
   simp only [Bool.false_eq_true,if_false,aq]
   exact .mk ⟨a,l,p,rfl,Ke _ _ _ h,Int.le_refl _⟩
  |true=>
   obtain ⟨⟨f1,f2,f3⟩,f4⟩:=HH rfl
   simp only [if_true] at hR⊢
   have hI:qA s me ⟨a.S,a.Me,a.View,true,y.C.View,y.C.Value,a.Proof,a.ba⟩ ⟨a.Me,y.C.View,y.C.Value⟩ p (k+1):=⟨hR,h.hs,h.hm,by have:=h.ji;simp only;omega,fun _=>⟨by simp only;omega,rfl,rfl⟩,fun h=>(by cases h),h.rL⟩
   have f5: ¬y.C.View≤l.View:=by
    cases hh:a.Has with
    |true=>
     obtain ⟨q1,q2,q3⟩:=h.has hh
     have:=hr.dR.has hh
     have:a.At≠y.C.View:=fun h=>f2 ⟨hh,h⟩
     omega
    |false=>rw [h.jP hh];omega
   simp only [h.hm,f1,decide_true,Bool.not_true,Bool.false_eq_true,if_false,Px,aq]
   rw [f1] at f5 f4
   rw [if_neg f5]
   have f6:(if (0:Int)<a.View then bd (cO (ue s) a.View y.C.tU y.C.Value) fun CJ=>some (!CJ) else some false:Option Bool)=some false:=by
    by_cases hp:0<a.View
    ·rw [if_pos hp,←h.hs,f4 (by omega)];rfl
    ·rw [if_neg hp]
   rw [f6]
   simp only [aq,Bool.false_eq_true,if_false]
   refine .mk ⟨_,⟨a.Me,y.C.View,y.C.Value⟩,p,?_,hI,Int.le_refl _⟩
   simp only [Zg,h.hm,f1]
 rw [if_neg k1]
 by_cases k2:y.Kind=2
 ·rw [if_pos k2]
  have hR:=GS hr y.C.iy
  have hlen:=LX a y.C.iy
  have hvl:=h.ji
  rw [(RU hr (by omega) y.C.iy).1,aq]
  unfold vN at hR hlen⊢
  by_cases c:ur a.S≤y.C.iy.By∨y.C.iy.View≠a.View
  ·rw [if_pos c]
   simp only [Bool.false_eq_true,if_false,aq]
   exact .mk ⟨a,l,p,rfl,Ke _ _ _ h,Int.le_refl _⟩
  rw [if_neg c] at hR hlen⊢
  have gb:y.C.iy.By<ur a.S:=by
   refine Int.not_le.1 fun h2=>c (.inl h2)
  have gv:y.C.iy.View=a.View:=by
   by_cases h:y.C.iy.View=a.View
   ·exact h
   ·exact absurd (.inr h) c
  by_cases c2: ¬qE y.C.iy∨(gw a.S (iz a.ba.L y.C.iy).1).2=false∨a.View≤(xM a.Proof).1
  ·rw [if_pos c2] at hR hlen⊢
   simp only [Bool.false_eq_true,if_false,aq]
   exact .mk ⟨⟨a.S,a.Me,a.View,a.Has,a.At,a.Value,a.Proof,⟨(iz a.ba.L y.C.iy).1⟩⟩,l,p,rfl,⟨hR,h.hs,h.hm,by simp only at hlen⊢;omega,h.has,h.jP,h.rL⟩,Int.le_refl _⟩
  ·rw [if_neg c2] at hR hlen⊢
   have hm:(gw a.S (iz a.ba.L y.C.iy).1).2=true:=by
    cases hk:(gw a.S (iz a.ba.L y.C.iy).1).2 with
    |true=>rfl
    |false=>exact absurd (.inr (.inl hk)) c2
   obtain ⟨h0,hv⟩:=AX hr gb gv hm
   have f1: ¬a.View≤p:=by rw [h.rL];exact fun h=>c2 (.inr (.inr h))
   simp only [if_true,jO h0,hv,decide_true,Bool.not_true,Bool.false_eq_true,if_false]
   rw [if_neg (show¬(((gw a.S (iz a.ba.L y.C.iy).1).1.length:Int)=0) by omega),decide_eq_false f1]
   simp only [aq,Bool.false_eq_true,if_false]
   refine .mk ⟨⟨a.S,a.Me,a.View,a.Has,a.At,a.Value,(gw a.S (iz a.ba.L y.C.iy).1).1,⟨(iz a.ba.L y.C.iy).1⟩⟩,l,a.View,rfl,⟨hR,h.hs,h.hm,by simp only at hlen⊢;omega,h.has,h.jP,?_⟩,Int.le_refl _⟩
   simp only
   rw [AS h0,hv]
 rw [if_neg k2]
 by_cases k3:y.Kind=3
 ·rw [if_pos k3,IU hr.Kb,aq,←h.hs,←h.hm,EH hr,aq]
  simp only [decide_true,Bool.not_true,Bool.false_eq_true,if_false,EG,aq]
  refine .mk ⟨EG a,l,p,rfl,⟨IX hr,rfl,rfl,by simp [EG],h.has,h.jP,h.rL⟩,Int.le_refl _⟩
 ·rw [if_neg k3]
  simp only [aq]
  exact .mk ⟨a,l,p,rfl,Ke _ _ _ h,Int.le_refl _⟩
theorem xb (a:ai) (a1:Int) (a2:List ll):gU a a1 a2=some true:=by
 unfold gU
 rw [Dc,aq,AQ]
 by_cases c:tu a a1
 rotate_left
 ·have e0:yo a a1=(⟨⟨0,0⟩,0,0,false,0,[],[],⟨[]⟩⟩,1):=if_neg c
  rw [e0]
  simp
 have e0:yo a a1=(⟨a,a1,0,false,0,[],[],⟨[]⟩⟩,0):=if_pos c
 rw [e0]
 simp only [decide_true,Bool.not_true,Bool.false_eq_true,if_false,aq]
 by_cases c2:(40:Int)<(a2.length:Int)
 ·simp [c2]
 rw [decide_eq_false c2,if_neg (by simp)]
 refine aO.eq (aO.bd (P:=fun r=>r= .inl ()∨r= .inr true) ?_ ?_)
 ·refine aO.loop (fun st=> ∃(k:Nat) (x:ae) (l:aa) (p:Int),k≤a2.length∧st=S3 x l p (k:Int)∧qA a a1 x l p k) (fun st=>a2.length-(st.2.2.2.2.2.2.2.2.2.2.2.2.2).toNat)
   ⟨0,⟨a,a1,0,false,0,[],[],⟨[]⟩⟩,⟨a1,-1,[]⟩,-1,Nat.zero_le _,rfl,⟨IY c,rfl,rfl,by simp,fun h=>(by cases h),fun _=>rfl,rfl⟩⟩ ?_
  rintro st ⟨k,x,l,p,hk,rfl,hI⟩
  by_cases cA:k<a2.length
  ·refine (LY cA (by omega) hI).imp ?_
   rintro (bj|r) c8
   ·obtain ⟨a',l',p',rfl,Zm⟩:=c8
    exact ⟨⟨k+1,a',l',p',cA,rfl,Zm⟩,by simp only [S3];omega⟩
   ·exact .inr c8
  ·unfold dQ S3
   simp only
   rw [if_neg (by omega)]
   exact .mk (.inl rfl)
 ·rintro r (rfl|rfl)
  ·exact .mk rfl
  ·exact .mk rfl
end Dn.S
