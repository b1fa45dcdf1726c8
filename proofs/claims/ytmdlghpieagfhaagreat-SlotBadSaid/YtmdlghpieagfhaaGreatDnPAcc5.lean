import Derived.Test.YtmdlghpieagfhaaGreatDnPAcc4
/-
  Acceptors that are loaded: as the document says; AcceptorLoads. Conditions: none.
-/
set_option linter.unusedVariables false
set_option linter.unusedSimpArgs false
open Bool renaming false_eq_true→eJ,not_false→sh,not_true→AI
open List.Pairwise renaming nil→AT
open Go Dn
namespace Dn.S
theorem Vu {s:af}{me:Int}{t:Int×Int×Int×List UInt8×List aa}(c:sr s me):iK (Vt s me t)↔C3 (Vt s me t):=by
 constructor
 ·exact λh=>h.jc
 ·exact λh=>⟨c.1,c.2.1,c.2.2,h,⟨λe he=>(by cases he),AT⟩,λe he=>(by cases he)⟩
theorem SC (s:af)(me:Int){b:List Int}(hb:qO b)(hl:b.length<2^40): ∃r,IK (xI s) me b=some (u5 r.1,r.2)/\mu s me b r:=by
 unfold IK;rw [FI,ap];by_cases c:sr s me;rotate_left
 ·have e0:FH s me=(⟨⟨0,0⟩,0,0,false,0,[],[],⟨[]⟩⟩,1):=if_neg c;rw [e0];simp only [show decide ((1:Int)=0)=false by decide,sh,if_true];exact ⟨(EJ,1),rfl,⟨λ_=>rfl,λh=>absurd h c,λh=>absurd h c,λh=>absurd h c⟩⟩
 have e0:FH s me=(⟨s,me,0,false,0,[],[],⟨[]⟩⟩,0):=if_pos c;rw [e0];simp only [decide_true,AI,eJ,if_false];have h1:=vU hb hl (N:=3) (by decide);rw [show ((3:Nat):Int)=3 from rfl] at h1;rw [h1,ap];have err:kK b=none-> ∃r,(some ((⟨(⟨0,0⟩:cu),0,0,false,0,([]:List UInt8),([]:List aa),(⟨([]:List aa)⟩:bF)⟩:br),(3:Int)))=some (u5 r.1,r.2)/\mu s me b r:=λhn=>⟨(EJ,3),rfl,mu.Mr c hn⟩
 cases ht:jd 3 b with
 |none=>
  have hn:kK b=none:=by
   unfold kK;simp only [jd] at ht;cases g1:fS b with
   |none=>rfl
   |some p1=>
    rw [g1] at ht;simp only at ht⊢;cases g2:fS p1.2 with
    |none=>rfl
    |some p2=>
     rw [g2] at ht;simp only at ht⊢;cases g3:fS p2.2 with
     |none=>rfl
     |some p3=>rw [g3] at ht;cases ht
  simp only [sh,if_true,ap];exact err hn
 |some q=>
  obtain ⟨l,r3⟩:=q;obtain ⟨_,hll,_,W6,atY⟩:=vT _ hb ht;obtain ⟨v,h,w,rfl,hA⟩: ∃v h w,l=[v,h,w]/\kK b=(match uK r3 6000 with|none=>none|some (x,r4)=>match xD r4 with|none=>none|some (p,r5)=>if r5=[] then some (v,h,w,x,p) else none):=by
   unfold kK;simp only [jd] at ht;cases g1:fS b with
   |none=>rw [g1] at ht;cases ht
   |some p1=>
    rw [g1] at ht;simp only at ht⊢;cases g2:fS p1.2 with
    |none=>rw [g2] at ht;cases ht
    |some p2=>
     rw [g2] at ht;simp only at ht⊢;cases g3:fS p2.2 with
     |none=>rw [g3] at ht;cases ht
     |some p3=>rw [g3] at ht;injection ht with ht;injection ht with Ga tU;subst Ga;subst tU;exact ⟨_,_,_,rfl,rfl⟩
  simp only [AI,eJ,if_false];have i0: ∀(K:Int->Option (br×Int)),ix [v,h,w] 0 K=K v:=λK=>jT (by simp) K;have i1: ∀{R:Type} (K:Int->Option R),ix [v,h,w] 1 K=K h:=λK=>bh (k:=1) (by simp) K;have i2: ∀{R:Type} (K:Int->Option R),ix [v,h,w] 2 K=K w:=λK=>bh (k:=2) (by simp) K;rw [i1,i1];have hg:(if !decide (h=0) then some (!decide (h=1)) else some false:Option Bool)=some (decide (¬(h=0\/h=1))):=by by_cases g1:h=0<;>by_cases g2:h=1<;>simp [g1,g2]
  rw [hg,ap];have e4:nC r3 6000=some (ZZ r3 6000):=AB (most:=6000) W6 (by omega) (by decide);by_cases c1:h=0\/h=1;rotate_left
  ·rw [decide_eq_true c1,if_pos rfl];refine ⟨(EJ,3),rfl,?_⟩;cases hq:kK b with
   |none=>exact mu.Mr c hq
   |some t=>
    refine mu.Ms c hq (λhk=> ?_) (λ_=>rfl);rw [hA] at hq;split at hq
    ·cases hq
    ·split at hq
     ·cases hq
     ·split at hq
      ·injection hq with hq;subst hq;exact absurd hk.1 c1
      ·cases hq
  rw [decide_eq_false (λh=>h c1),if_neg (by simp),e4,ap];rcases FL r3 6000 with ⟨x,r4,g1,g2⟩|⟨g1,e,he,g2⟩;rotate_left
  ·rw [g2];simp only [he,decide_false,sh,if_true];exact err (by rw [hA,g1])
  obtain ⟨_,_,hr4⟩:=C6 W6 g1;have l4:=J4 g1;rw [g2];simp only [decide_true,AI,eJ,if_false];rw [N5 hr4 (by omega),ap];rw [g1] at hA;simp only at hA;cases ht5:xD r4 with
  |none=>rw [ht5] at hA;simp only [sh,if_true,ap];exact err hA
  |some p5=>
   obtain ⟨p,r5⟩:=p5;rw [ht5] at hA;have MP:=Mt hr4 ht5;simp only [AI,eJ,if_false,ap] at hA⊢;by_cases c2:r5=[];rotate_left
   ·rw [if_neg c2] at hA;have:0<r5.length:=List.length_pos_iff.2 c2;rw [if_pos (by simp;omega)];exact err hA
   rw [if_pos c2] at hA;rw [if_neg (by rw [c2];simp),i0,i1,i2];obtain ⟨ok,e6,h6⟩:=Qc (Vt s me (v,h,w,x,p)) (by simp only [Vt];omega) (by simp [Vt]);have e7:Bc (⟨(xI s),me,v,decide (h=1),w,x,p,⟨[]⟩⟩:br)=some ok:=e6;have MP:(u5 (⟨s,me,0,false,0,[],[],⟨[]⟩⟩:ae))=⟨xI s,me,0,false,0,[],[],⟨[]⟩⟩:=rfl;rw [MP];simp only;rw [e7,ap];have M4:ok=true↔okA s me (v,h,w,x,p):=by rw [h6,Vu c];exact ⟨λh=>⟨c1,h⟩,λh=>h.2⟩
   cases ok with
   |true=>simp only [AI,eJ,if_false];exact ⟨(Vt s me (v,h,w,x,p),0),rfl,mu.Ms c hA (λ_=>rfl) (λhk=>absurd (M4.1 rfl) hk)⟩
   |false=>simp only [sh,if_true];exact ⟨(EJ,3),rfl,mu.Ms c hA (λhk=>by have:=M4.2 hk;cases this) (λ_=>rfl)⟩
theorem Vv {a:ae}(h:Qo a):kK (J5 a)=some (a.View,uL a.Has,a.At,a.Value,a.Proof):=by unfold kK J5;rw [tH h.view];simp only;rw [tH (J6 _)];simp only;rw [tH h.at_];simp only;rw [Mn h.value (by decide)];simp only;have:=Vr h.proof [];rw [List.append_nil] at this;rw [this];simp
theorem iK.GC {a:ae}(h:iK a):Qo a:=by
 have hL:=h.jc;refine ⟨⟨by have:=hL.v0;omega,by have:=hL.v1;omega⟩,?_,?_,?_⟩
 ·cases hh:a.Has with
  |true=>have:=hL.has hh;have:=hL.v1;exact ⟨by omega,by omega⟩
  |false=>rw [(hL.Ce hh).1];exact ⟨by decide,by decide⟩
 ·cases hh:a.Has with
  |true=>exact (hL.has hh).2.2
  |false=>rw [(hL.Ce hh).2];simp
 ·rcases hL.proof with hp|⟨hp,_⟩
  ·rw [hp];exact .nil
  ·have Vl:=(ei a.S).1 h.sz;have hlen:=hp.len;refine ⟨by omega,hp.one,λe he=> ?_,λe he=> ?_,λe he=>(hp.uJ.all e he).2.2.2⟩
   ·have h1:=(hp.uJ.all e he).1;have h2:=hp.wL e he;unfold uI at h2;exact ⟨by omega,by omega⟩
   ·have h1:=(hp.uJ.all e he).2;exact ⟨by omega,by omega⟩
def SD (a:ae):ae:=⟨a.S,a.Me,a.View,a.Has,a.At,a.Value,a.Proof,⟨[]⟩⟩
theorem TV (a:ae):Vt a.S a.Me (a.View,uL a.Has,a.At,a.Value,a.Proof)=SD a:=by unfold Vt SD uL;cases a.Has<;>rfl
theorem J8 {a:ae}(h:C3 a):C3 (SD a):=⟨h.v0,h.v1,h.has,h.Ce,h.proof⟩
theorem Mu {a:ae}(h:iK a){r:ae×Int}(hr:mu a.S a.Me (J5 a) r):r=(SD a,0):=by have:=hr.yes ⟨h.sz,h.me0,h.YD⟩ _ (Vv h.GC) ⟨by show uL a.Has=0\/uL a.Has=1;cases a.Has<;>simp [uL],by rw [TV];exact J8 h.jc⟩;rw [this,TV]
theorem N6 {a:ae}(h:iK a):lL a.S a.Me (J5 a)=some (SD a,0):=by have hl:=Qq h.GC;obtain ⟨r,e,hr⟩:=SB a.S a.Me (Qp a) (by omega);rw [e,Mu h hr]
end Dn.S
