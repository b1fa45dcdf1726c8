import Derived.Test.YtjblhgpbkfmkoaaDnPAcc4
/-
  Acceptors that are loaded: as the document says; AcceptorLoads. Conditions: none.
-/
open Go Dn
set_option linter.unusedVariables false
set_option linter.unusedSimpArgs false
namespace Dn.S
theorem IC {s:aj} {me:Int} {t:Int×Int×Int×List UInt8×List ab} (c:qh s me):qe (Eb s me t)↔sd (Eb s me t):=by
 constructor
 ·exact fun h=>h.oV
 ·exact fun h=>⟨c.1,c.2.1,c.2.2,h,⟨fun e he=>(by cases he),List.Pairwise.nil⟩,fun e he=>(by cases he)⟩
theorem FX (s:aj) (me:Int) {b:List Int} (hb:iM b) (hl:b.length<2^40): ∃r,pJ (Ea s) me b=some (mM r.1,r.2)∧eV s me b r:=by
 unfold pJ
 rw [AF,aA]
 by_cases c:qh s me
 rotate_left
 ·have e0:vN s me=(⟨⟨0,0⟩,0,0,false,0,[],[],⟨[]⟩⟩,1):=if_neg c
  rw [e0]
  simp only [show decide ((1:Int)=0)=false by decide,Bool.not_false,if_true]
  exact ⟨(oW,1),rfl,⟨fun _=>rfl,fun h=>absurd h c,fun h=>absurd h c,fun h=>absurd h c⟩⟩
 have e0:vN s me=(⟨s,me,0,false,0,[],[],⟨[]⟩⟩,0):=if_pos c
 rw [e0]
 simp only [decide_true,Bool.not_true,Bool.false_eq_true,if_false]
 have h1:=mq hb hl (N:=3) (by decide)
 rw [show ((3:Nat):Int)=3 from rfl] at h1
 rw [h1,aA]
 have err:du b=none→ ∃r,(some ((⟨(⟨0,0⟩:bZ),0,0,false,0,([]:List UInt8),([]:List ab),(⟨([]:List ab)⟩:ct)⟩:aK),(3:Int)))=some (mM r.1,r.2)∧eV s me b r:=fun hn=>⟨(oW,3),rfl,eV.AP c hn⟩
 cases ht:dm 3 b with
 |none=>
  have hn:du b=none:=by
   unfold du
   simp only [dm] at ht
   cases g1:cu b with
   |none=>rfl
   |some p1=>
    rw [g1] at ht
    simp only at ht⊢
    cases g2:cu p1.2 with
    |none=>rfl
    |some p2=>
     rw [g2] at ht
     simp only at ht⊢
     cases g3:cu p2.2 with
     |none=>rfl
     |some p3=>rw [g3] at ht;cases ht
  simp only [Bool.not_false,if_true,aA]
  exact err hn
 |some q=>
  obtain ⟨l,r3⟩:=q
  obtain ⟨_,RA,_,Hu,abt⟩:=ml _ hb ht
  obtain ⟨v,h,w,rfl,hA⟩: ∃v h w,l=[v,h,w]∧du b=(match jX r3 6000 with|none=>none|some (x,r4)=>match mn r4 with|none=>none|some (p,r5)=>if r5=[] then some (v,h,w,x,p) else none):=by
   unfold du
   simp only [dm] at ht
   cases g1:cu b with
   |none=>rw [g1] at ht;cases ht
   |some p1=>
    rw [g1] at ht
    simp only at ht⊢
    cases g2:cu p1.2 with
    |none=>rw [g2] at ht;cases ht
    |some p2=>
     rw [g2] at ht
     simp only at ht⊢
     cases g3:cu p2.2 with
     |none=>rw [g3] at ht;cases ht
     |some p3=>
      rw [g3] at ht
      injection ht with ht
      injection ht with uZ kQ
      subst uZ;subst kQ
      exact ⟨_,_,_,rfl,rfl⟩
  simp only [Bool.not_true,Bool.false_eq_true,if_false]
  have i0: ∀(K:Int→Option (aK×Int)),ix [v,h,w] 0 K=K v:=fun K=>gn (by simp) K
  have i1: ∀{R:Type} (K:Int→Option R),ix [v,h,w] 1 K=K h:=fun K=>cG (k:=1) (by simp) K
  have i2: ∀{R:Type} (K:Int→Option R),ix [v,h,w] 2 K=K w:=fun K=>cG (k:=2) (by simp) K
  rw [i1,i1]
  have hg:(if !decide (h=0) then some (!decide (h=1)) else some false:Option Bool)=some (decide (¬(h=0∨h=1))):=by
   by_cases g1:h=0<;>by_cases g2:h=1<;>simp [g1,g2]
  rw [hg,aA]
  have e4:dA r3 6000=some (Mr r3 6000):=qg (most:=6000) Hu (by omega) (by decide)
  by_cases c1:h=0∨h=1
  rotate_left
  ·rw [decide_eq_true c1,if_pos rfl]
   refine ⟨(oW,3),rfl,?_⟩
   cases hq:du b with
   |none=>exact eV.AP c hq
   |some t=>
    refine eV.AQ c hq (fun hk=> ?_) (fun _=>rfl)
    rw [hA] at hq
    split at hq
    ·cases hq
    ·split at hq
     ·cases hq
     ·split at hq
      ·injection hq with hq;subst hq;exact absurd hk.1 c1
      ·cases hq
  rw [decide_eq_false (fun h=>h c1),if_neg (by simp),e4,aA]
  rcases uF r3 6000 with ⟨x,r4,g1,g2⟩|⟨g1,e,he,g2⟩
  rotate_left
  ·rw [g2]
   simp only [he,decide_false,Bool.not_false,if_true]
   exact err (by rw [hA,g1])
  obtain ⟨_,_,Q7⟩:=oL Hu g1
  have l4:=yv g1
  rw [g2]
  simp only [decide_true,Bool.not_true,Bool.false_eq_true,if_false]
  rw [B3 Q7 (by omega),aA]
  rw [g1] at hA
  simp only at hA
  cases N8:mn r4 with
  |none=>
   rw [N8] at hA
   simp only [Bool.not_false,if_true,aA]
   exact err hA
  |some p5=>
   obtain ⟨p,r5⟩:=p5
   rw [N8] at hA
   have zG:=AR Q7 N8
   simp only [Bool.not_true,Bool.false_eq_true,if_false,aA] at hA⊢
   by_cases c2:r5=[]
   rotate_left
   ·rw [if_neg c2] at hA
    have:0<r5.length:=List.length_pos_iff.2 c2
    rw [if_pos (by simp;omega)]
    exact err hA
   rw [if_pos c2] at hA
   rw [if_neg (by rw [c2];simp),i0,i1,i2]
   obtain ⟨ok,e6,h6⟩:=vn (Eb s me (v,h,w,x,p)) (by simp only [Eb];omega) (by simp [Eb])
   have e7:je (⟨(Ea s),me,v,decide (h=1),w,x,p,⟨[]⟩⟩:aK)=some ok:=e6
   have zG:(mM (⟨s,me,0,false,0,[],[],⟨[]⟩⟩:af))=⟨Ea s,me,0,false,0,[],[],⟨[]⟩⟩:=rfl
   rw [zG]
   simp only
   rw [e7,aA]
   have Hz:ok=true↔O6 s me (v,h,w,x,p):=by rw [h6,IC c];exact ⟨fun h=>⟨c1,h⟩,fun h=>h.2⟩
   cases ok with
   |true=>
    simp only [Bool.not_true,Bool.false_eq_true,if_false]
    exact ⟨(Eb s me (v,h,w,x,p),0),rfl,eV.AQ c hA (fun _=>rfl) (fun hk=>absurd (Hz.1 rfl) hk)⟩
   |false=>
    simp only [Bool.not_false,if_true]
    exact ⟨(oW,3),rfl,eV.AQ c hA (fun hk=>by have:=Hz.2 hk;cases this) (fun _=>rfl)⟩
theorem ID {a:af} (h:AN a):du (uG a)=some (a.View,jM a.Has,a.At,a.Value,a.Proof):=by
 unfold du uG
 rw [kv h.view]
 simp only
 rw [kv (yx _)]
 simp only
 rw [kv h.at_]
 simp only
 rw [AK h.value (by decide)]
 simp only
 have:=IA h.proof []
 rw [List.append_nil] at this
 rw [this]
 simp
theorem FY {b:List Int} (hb:iM b) {t:Int×Int×Int×List UInt8×List ab} (h:du b=some t) (s:aj) (me:Int) (h01:t.2.1=0∨t.2.1=1):b=uG (Eb s me t)∧AN (Eb s me t):=by
 unfold du at h
 cases g1:cu b with
 |none=>rw [g1] at h;cases h
 |some p1=>
  obtain ⟨v,r1⟩:=p1
  obtain ⟨e1,hv,pz⟩:=cj hb g1
  rw [g1] at h
  simp only at h
  cases g2:cu r1 with
  |none=>rw [g2] at h;cases h
  |some p2=>
   obtain ⟨f,r2⟩:=p2
   obtain ⟨e2,hf,yD⟩:=cj pz g2
   rw [g2] at h
   simp only at h
   cases g3:cu r2 with
   |none=>rw [g3] at h;cases h
   |some p3=>
    obtain ⟨w,r3⟩:=p3
    obtain ⟨e3,hw,Hu⟩:=cj yD g3
    rw [g3] at h
    simp only at h
    cases g4:jX r3 6000 with
    |none=>rw [g4] at h;cases h
    |some p4=>
     obtain ⟨x,r4⟩:=p4
     obtain ⟨e4,hx,Q7⟩:=oL Hu g4
     rw [g4] at h
     simp only at h
     cases g5:mn r4 with
     |none=>rw [g5] at h;cases h
     |some p5=>
      obtain ⟨p,r5⟩:=p5
      obtain ⟨e5,hp,_⟩:=yw Q7 g5
      rw [g5] at h
      simp only at h
      split at h
      ·rename_i hr5
       injection h with h
       subst h;subst hr5
       have XB:jM (decide (f=1))=f:=by
        unfold jM
        rcases h01 with h|h
        ·simp only at h;simp [h]
        ·simp only at h;simp [h]
       refine ⟨?_,⟨hv,hw,hx,hp⟩⟩
       unfold uG Eb
       simp only
       rw [XB,e1,e2,e3,e4,e5,List.append_nil]
      ·cases h
theorem qe.DX {a:af} (h:qe a):AN a:=by
 have hL:=h.oV
 refine ⟨⟨by have:=hL.v0;omega,by have:=hL.v1;omega⟩,?_,?_,?_⟩
 ·cases hh:a.Has with
  |true=>have:=hL.has hh;have:=hL.v1;exact ⟨by omega,by omega⟩
  |false=>rw [(hL.yl hh).1];exact ⟨by decide,by decide⟩
 ·cases hh:a.Has with
  |true=>exact (hL.has hh).2.2
  |false=>rw [(hL.yl hh).2];simp
 ·rcases hL.proof with hp|⟨hp,_⟩
  ·rw [hp];exact .nil
  ·have hso:=(r8 a.S).1 h.sz
   have hlen:=hp.len
   refine ⟨by omega,hp.one,fun e he=> ?_,fun e he=> ?_,fun e he=>(hp.ye.all e he).2.2.2⟩
   ·have h1:=(hp.ye.all e he).1
    have h2:=hp.Q1 e he
    unfold BT at h2
    exact ⟨by omega,by omega⟩
   ·have h1:=(hp.ye.all e he).2
    exact ⟨by omega,by omega⟩
def yB (a:af):af:=⟨a.S,a.Me,a.View,a.Has,a.At,a.Value,a.Proof,⟨[]⟩⟩
theorem G6 (a:af):Eb a.S a.Me (a.View,jM a.Has,a.At,a.Value,a.Proof)=yB a:=by
 unfold Eb yB jM
 cases a.Has<;>rfl
theorem FZ {a:af} (h:sd a):sd (yB a):=⟨h.v0,h.v1,h.has,h.yl,h.proof⟩
theorem IE {a:af} (h:qe a) {r:af×Int} (hr:eV a.S a.Me (uG a) r):r=(yB a,0):=by
 have:=hr.yes ⟨h.sz,h.Yz,h.Mp⟩ _ (ID h.DX) ⟨by show jM a.Has=0∨jM a.Has=1;cases a.Has<;>simp [jM],by rw [G6];exact FZ h.oV⟩
 rw [this,G6]
theorem B4 {a:af} (h:qe a):dI a.S a.Me (uG a)=some (yB a,0):=by
 have hl:=DU h.DX
 obtain ⟨r,e,hr⟩:=yA a.S a.Me (DT a) (by omega)
 rw [e,IE h hr]
theorem uH (a:af) (b:List Int) (hb:iM b):dB a b=some true:=by
 unfold dB
 obtain ⟨b1,e1,h1⟩:=Q2 a
 rw [e1]
 simp only [aA,FK]
 cases b1 with
 |false=>simp
 |true=>
  obtain ⟨g1,g2,g3⟩:=h1 rfl
  simp only [Bool.not_true,Bool.false_eq_true,if_false,Ir,aA,LY]
  by_cases c1:(7000:Int)<(b.length:Int)
  ·simp [c1]
  obtain ⟨b3,e3,h3⟩:=vn a (by omega) (by omega)
  simp only [c1,if_false,e3,aA]
  cases b3 with
  |false=>simp
  |true=>
   have hr:=h3.1 rfl
   obtain ⟨x,ex,hx⟩:=yA a.S a.Me hb (by omega)
   obtain ⟨y,ey,hy⟩:=FX a.S a.Me hb (by omega)
   have Gn:=hx.uniq hy
   subst Gn
   have hlen:=DU hr.DX
   simp only [Bool.not_true,Bool.false_eq_true,if_false,ex,ey,aA,yy hr.DX,FU hr.DX,tE (DT a),tE hb,B4 hr]
   have MQ:x.1.Proof.length≤100∧x.1.bS.L.length=0∧(x.2=0→dJ x.1=some b):=by
    by_cases c:qh a.S a.Me
    ·cases ht:du b with
     |none=>rw [hx.form c ht];exact ⟨by simp [oW],rfl,fun h=>absurd h (by decide)⟩
     |some t=>
      by_cases c2:O6 a.S a.Me t
      ·obtain ⟨q1,q2⟩:=FY hb ht a.S a.Me c2.1
       rw [hx.yes c t ht c2]
       exact ⟨q2.proof.len,rfl,fun _=>by rw [yy q2,←q1]⟩
      ·rw [hx.no c t ht c2];exact ⟨by simp [oW],rfl,fun h=>absurd h (by decide)⟩
    ·rw [hx.bad c];exact ⟨by simp [oW],rfl,fun h=>absurd h (by decide)⟩
   have cq:(yB a).Proof.length<2^60:=by simp only [yB];omega
   rw [yk (mM x.1) (mM x.1) (by simp only [mM];omega) (by simp only [mM];omega)]
   simp only [decide_true,Bool.not_true,Bool.false_eq_true,if_false,aA,if_true]
   have T9:kW (mM (yB a)) (⟨(mM a).S,(mM a).Me,(mM a).View,(mM a).Has,(mM a).At,(mM a).Value,(mM a).Proof,⟨[]⟩⟩:aK)=some true:=by
    rw [yk _ _ (by simp only [mM,yB];omega) (by simp [mM,yB])]
    simp [mM,yB]
   by_cases c2:x.2=0
   ·rw [if_pos c2,MQ.2.2 c2,aA,tE hb]
    simp only [decide_true,Bool.not_true,aA,Bool.false_eq_true,if_false,T9]
   ·rw [if_neg c2]
    simp only [aA,Bool.false_eq_true,if_false,T9]
end Dn.S
