import Derived.Test.YtmdlghpieagfhaaGreatDnPAcc4
/-
  Acceptors that are loaded: as the document says; AcceptorLoads. Conditions: none.
-/
set_option linter.unusedVariables false
set_option linter.unusedSimpArgs false
open Bool renaming false_eq_true→fj,not_false→sh,not_true→AI
open List.Pairwise renaming nil→AT
open Go Dn
namespace Dn.S
theorem aaw {s:ak}{me:Int}{t:Int×Int×Int×List UInt8×List aa}(c:q8 s me):iZ (mkA s me t)↔Es (mkA s me t):=by
 constructor
 ·exact λh=>h.jP
 ·exact λh=>⟨c.1,c.2.1,c.2.2,h,⟨λe he=>(by cases he),AT⟩,λe he=>(by cases he)⟩
theorem Xa (s:ak)(me:Int){b:List Int}(hb:rl b)(hl:b.length<2^40): ∃r,Be (vF s) me b=some (sr r.1,r.2)/\mw s me b r:=by
 unfold Be;rw [CD,ar];by_cases c:q8 s me;rotate_left
 ·have e0:GG s me=(⟨⟨0,0⟩,0,0,false,0,[],[],⟨[]⟩⟩,1):=if_neg c;rw [e0];simp only [show decide ((1:Int)=0)=false by decide,sh,if_true];exact ⟨(xd,1),rfl,⟨λ_=>rfl,λh=>absurd h c,λh=>absurd h c,λh=>absurd h c⟩⟩
 have e0:GG s me=(⟨s,me,0,false,0,[],[],⟨[]⟩⟩,0):=if_pos c;rw [e0];simp only [decide_true,AI,fj,if_false];have h1:=xc hb hl (N:=3) (by decide);rw [show ((3:Nat):Int)=3 from rfl] at h1;rw [h1,ar];have err:kI b=none-> ∃r,(some ((⟨(⟨0,0⟩:aV),0,0,false,0,([]:List UInt8),([]:List aa),(⟨([]:List aa)⟩:aL)⟩:aN),(3:Int)))=some (sr r.1,r.2)/\mw s me b r:=λhn=>⟨(xd,3),rfl,mw.P6 c hn⟩
 cases ht:ja 3 b with
 |none=>
  have hn:kI b=none:=by
   unfold kI;simp only [ja] at ht;cases g1:gf b with
   |none=>rfl
   |some p1=>
    rw [g1] at ht;simp only at ht⊢;cases g2:gf p1.2 with
    |none=>rfl
    |some p2=>
     rw [g2] at ht;simp only at ht⊢;cases g3:gf p2.2 with
     |none=>rfl
     |some p3=>rw [g3] at ht;cases ht
  simp only [sh,if_true,ar];exact err hn
 |some q=>
  obtain ⟨l,r3⟩:=q;obtain ⟨_,hll,_,hr3,aDK⟩:=xb _ hb ht;obtain ⟨v,h,w,rfl,hA⟩: ∃v h w,l=[v,h,w]/\kI b=(match vG r3 6000 with|none=>none|some (x,r4)=>match yM r4 with|none=>none|some (p,r5)=>if r5=[] then some (v,h,w,x,p) else none):=by
   unfold kI;simp only [ja] at ht;cases g1:gf b with
   |none=>rw [g1] at ht;cases ht
   |some p1=>
    rw [g1] at ht;simp only at ht⊢;cases g2:gf p1.2 with
    |none=>rw [g2] at ht;cases ht
    |some p2=>
     rw [g2] at ht;simp only at ht⊢;cases g3:gf p2.2 with
     |none=>rw [g3] at ht;cases ht
     |some p3=>rw [g3] at ht;injection ht with ht;injection ht with H9 uP;subst H9;subst uP;exact ⟨_,_,_,rfl,rfl⟩
  simp only [AI,fj,if_false];have i0: ∀(K:Int->Option (aN×Int)),ix [v,h,w] 0 K=K v:=λK=>iK (by simp) K;have i1: ∀{R:Type} (K:Int->Option R),ix [v,h,w] 1 K=K h:=λK=>bP (k:=1) (by simp) K;have i2: ∀{R:Type} (K:Int->Option R),ix [v,h,w] 2 K=K w:=λK=>bP (k:=2) (by simp) K;rw [i1,i1];have hg:(if !decide (h=0) then some (!decide (h=1)) else some false:Option Bool)=some (decide (¬(h=0\/h=1))):=by by_cases g1:h=0<;>by_cases g2:h=1<;>simp [g1,g2]
  rw [hg,ar];have e4:jH r3 6000=some (tkT r3 6000):=BN (most:=6000) hr3 (by omega) (by decide);by_cases c1:h=0\/h=1;rotate_left
  ·rw [decide_eq_true c1,if_pos rfl];refine ⟨(xd,3),rfl,?_⟩;cases hq:kI b with
   |none=>exact mw.P6 c hq
   |some t=>
    refine mw.P7 c hq (λhk=> ?_) (λ_=>rfl);rw [hA] at hq;split at hq
    ·cases hq
    ·split at hq
     ·cases hq
     ·split at hq
      ·injection hq with hq;subst hq;exact absurd hk.1 c1
      ·cases hq
  rw [decide_eq_false (λh=>h c1),if_neg (by simp),e4,ar];rcases HP r3 6000 with ⟨x,r4,g1,g2⟩|⟨g1,e,he,g2⟩;rotate_left
  ·rw [g2];simp only [he,decide_false,sh,if_true];exact err (by rw [hA,g1])
  obtain ⟨_,_,hr4⟩:=Ex hr3 g1;have l4:=MN g1;rw [g2];simp only [decide_true,AI,fj,if_false];rw [RZ hr4 (by omega),ar];rw [g1] at hA;simp only at hA;cases ht5:yM r4 with
  |none=>rw [ht5] at hA;simp only [sh,if_true,ar];exact err hA
  |some p5=>
   obtain ⟨p,r5⟩:=p5;rw [ht5] at hA;have Ow:=P8 hr4 ht5;simp only [AI,fj,if_false,ar] at hA⊢;by_cases c2:r5=[];rotate_left
   ·rw [if_neg c2] at hA;have:0<r5.length:=List.length_pos_iff.2 c2;rw [if_pos (by simp;omega)];exact err hA
   rw [if_pos c2] at hA;rw [if_neg (by rw [c2];simp),i0,i1,i2];obtain ⟨ok,e6,h6⟩:=UP (mkA s me (v,h,w,x,p)) (by simp only [mkA];omega) (by simp [mkA]);have e7:uo (⟨(vF s),me,v,decide (h=1),w,x,p,⟨[]⟩⟩:aN)=some ok:=e6;have Ow:(sr (⟨s,me,0,false,0,[],[],⟨[]⟩⟩:aj))=⟨vF s,me,0,false,0,[],[],⟨[]⟩⟩:=rfl;rw [Ow];simp only;rw [e7,ar];have QB:ok=true↔okA s me (v,h,w,x,p):=by rw [h6,aaw c];exact ⟨λh=>⟨c1,h⟩,λh=>h.2⟩
   cases ok with
   |true=>simp only [AI,fj,if_false];exact ⟨(mkA s me (v,h,w,x,p),0),rfl,mw.P7 c hA (λ_=>rfl) (λhk=>absurd (QB.1 rfl) hk)⟩
   |false=>simp only [sh,if_true];exact ⟨(xd,3),rfl,mw.P7 c hA (λhk=>by have:=QB.2 hk;cases this) (λ_=>rfl)⟩
theorem aax {a:aj}(h:U2 a):kI (MO a)=some (a.View,vH a.Has,a.At,a.Value,a.Proof):=by unfold kI MO;rw [uD h.view];simp only;rw [uD (MP _)];simp only;rw [uD h.at_];simp only;rw [P0 h.value (by decide)];simp only;have:=aat h.proof [];rw [List.append_nil] at this;rw [this];simp
theorem iZ.MR {a:aj}(h:iZ a):U2 a:=by
 have hL:=h.jP;refine ⟨⟨by have:=hL.v0;omega,by have:=hL.v1;omega⟩,?_,?_,?_⟩
 ·cases hh:a.Has with
  |true=>have:=hL.has hh;have:=hL.v1;exact ⟨by omega,by omega⟩
  |false=>rw [(hL.DD hh).1];exact ⟨by decide,by decide⟩
 ·cases hh:a.Has with
  |true=>exact (hL.has hh).2.2
  |false=>rw [(hL.DD hh).2];simp
 ·rcases hL.proof with hp|⟨hp,_⟩
  ·rw [hp];exact .nil
  ·have hso:=(eZ a.S).1 h.sz;have hlen:=hp.len;refine ⟨by omega,hp.one,λe he=> ?_,λe he=> ?_,λe he=>(hp.tG.all e he).2.2.2⟩
   ·have h1:=(hp.tG.all e he).1;have h2:=hp.jg e he;unfold tF at h2;exact ⟨by omega,by omega⟩
   ·have h1:=(hp.tG.all e he).2;exact ⟨by omega,by omega⟩
def Xb (a:aj):aj:=⟨a.S,a.Me,a.View,a.Has,a.At,a.Value,a.Proof,⟨[]⟩⟩
theorem YT (a:aj):mkA a.S a.Me (a.View,vH a.Has,a.At,a.Value,a.Proof)=Xb a:=by unfold mkA Xb vH;cases a.Has<;>rfl
theorem MU {a:aj}(h:Es a):Es (Xb a):=⟨h.v0,h.v1,h.has,h.DD,h.proof⟩
theorem P9 {a:aj}(h:iZ a){r:aj×Int}(hr:mw a.S a.Me (MO a) r):r=(Xb a,0):=by have:=hr.yes ⟨h.sz,h.me0,h.Wx⟩ _ (aax h.MR) ⟨by show vH a.Has=0\/vH a.Has=1;cases a.Has<;>simp [vH],by rw [YT];exact MU h.jP⟩;rw [this,YT]
theorem R0 {a:aj}(h:iZ a):lH a.S a.Me (MO a)=some (Xb a,0):=by have hl:=U4 h.MR;obtain ⟨r,e,hr⟩:=W9 a.S a.Me (U3 a) (by omega);rw [e,P9 h hr]
end Dn.S
