import Derived.Test.YtjblhgpbkfmkoaaDnPAcc3
/-
  Acceptors that are loaded. Conditions: none.
-/
open Go Dn
set_option linter.unusedVariables false
set_option linter.unusedSimpArgs false
namespace Dn.S
theorem pc {b:List Int} (hb:ma b) (hl:b.length<2^40):bp ⟨b,0⟩=some (match fC b with|some (n,r)=>(n,⟨r,0⟩)|none=>(0,⟨[],A3 b⟩)):=by
 unfold bp
 simp only [if_true]
 rw [B4 hb hl,aq,aq]
 cases fC b with
 |none=>rfl
 |some p=>rfl
theorem mg {t:az} (he:t.e≠0):bp t=some (0,t):=by
 unfold bp
 rw [if_neg he,aq]
theorem Di {b:List Int} (hb:ma b) (hl:b.length<2^40):(∃s r,nP b 6000=some (s,r)∧bV ⟨b,0⟩=some (s,⟨r,0⟩))∨(nP b 6000=none∧ ∃s t,t.e≠0∧bV ⟨b,0⟩=some (s,t)):=by
 unfold bV
 simp only [if_true]
 have e:eM b 6000=some (Wq b 6000):=A5 (most:=6000) hb hl (by decide)
 rw [e,aq,aq]
 rcases LO b 6000 with ⟨s,r,h1,h2⟩|⟨h1,e,he,h2⟩
 ·exact .inl ⟨s,r,h1,by rw [h2]⟩
 ·exact .inr ⟨h1,[],⟨[],e⟩,he,by rw [h2]⟩
theorem mY {t:az} (he:t.e≠0):bV t=some ([],t):=by
 unfold bV
 rw [if_neg he,aq]
theorem GQ {t:az} (he:t.e≠0):b6 t=some ([],t):=by
 unfold b6
 rw [mg he]
 simp only [aq,show¬((0:Int)<0) by decide,if_false,show decide ((100:Int)<0)=false by decide,Bool.false_eq_true,he,decide_false,Bool.not_false,if_true]
def zA:aa:=⟨0,0,[]⟩
def xX (y:Int):aa:=⟨y,0,[]⟩
theorem PT {rA:Int×az} {N:Nat} (hN:rA.1=(N:Int)) (Ze:N≤100) {b:List Int} {e:Int} (he:e≠0): ∀(d k:Nat) (arr:List aa),k+d=N→arr.length=N→ ∃qS,qS.length=N∧Loop (br rA) (arr,(k:Int),b,e)=some (qS,b,e):=by
 intro d
 induction d with
 |zero=>
  intro k arr hk ha
  refine ⟨arr,ha,rI ?_⟩
  unfold br
  simp only
  rw [List.length_replicate,hN,if_neg (by omega)]
 |succ d ih=>
  intro k arr hk ha
  obtain ⟨qS,hx,h⟩:=ih (k+1) (arr.set k ⟨0,(arr[k]'(by omega)).View,(arr[k]'(by omega)).Value⟩) (by omega) (by rw [List.length_set];exact ha)
  refine ⟨qS,hx,kw ?_ h⟩
  unfold br
  simp only
  rw [List.length_replicate,hN,if_pos (by omega),mg he,aq,bO (by omega),wrap64 (by omega) (by omega),Int.toNat_natCast]
  rfl
theorem adW {rA:Int×az} {N:Nat} (hN:rA.1=(N:Int)) (Ze:N≤100): ∀(d:Nat) (pre:List Int) (b:List Int),ma b→b.length<2^40→pre.length+d=N→
 (∃l r,mW d b=some (l,r)∧Loop (br rA) (pre.map xX++List.replicate d zA,(pre.length:Int),b,0)=some ((pre++l).map xX,r,0))∨
 (mW d b=none∧ ∃arr r e,e≠0∧arr.length=N∧Loop (br rA) (pre.map xX++List.replicate d zA,(pre.length:Int),b,0)=some (arr,r,e)):=by
 intro d
 induction d with
 |zero=>
  intro pre b hb hl hk
  refine .inl ⟨[],b,rfl,rI ?_⟩
  unfold br
  simp only
  rw [List.length_replicate,hN,if_neg (by omega)]
  simp
 |succ d ih=>
  intro pre b hb hl hk
  have hlen:(pre.map xX++List.replicate (d+1) zA).length=N:=by simp;omega
  have ir:(pre.map xX++List.replicate (d+1) zA)[pre.length]'(by omega)=zA:=by
   rw [List.getElem_append_right (by simp)];simp
  have Hz: ∀v,(pre.map xX++List.replicate (d+1) zA).set pre.length v=pre.map xX++v::List.replicate d zA:=by
   intro v
   rw [List.set_append_right _ _ (by simp)]
   simp [List.replicate_succ]
  have lq: ∀n r e,bp ⟨b,0⟩=some (n,⟨r,e⟩)→br rA (pre.map xX++List.replicate (d+1) zA,(pre.length:Int),b,0)=some (.inl ((pre++[n]).map xX++List.replicate d zA,((pre.length+1:Nat):Int),r,e)):=by
   intro n r e ht
   unfold br
   simp only
   rw [List.length_replicate,hN,if_pos (by omega),ht,aq,bO (by omega),ir,wrap64 (by omega) (by omega),Int.toNat_natCast,Hz,List.map_append,List.append_assoc]
   rfl
  have jy:=pc hb hl
  simp only [mW]
  cases ht:fC b with
  |none=>
   rw [ht] at jy
   obtain ⟨qS,hx,h⟩:=PT hN Ze (b:=[]) (eh b) d (pre.length+1) ((pre++[0]).map xX++List.replicate d zA) (by omega) (by simp;omega)
   exact .inr ⟨rfl,qS,[],A3 b,eh b,hx,kw (lq _ _ _ jy) h⟩
  |some p=>
   obtain ⟨n,r⟩:=p
   rw [ht] at jy
   obtain ⟨_,_,hr⟩:=fj hb ht
   have Rh:=iZ ht
   simp only
   have e2:((pre.length+1:Nat):Int)=((pre++[n]).length:Int):=by simp
   rcases ih (pre++[n]) r hr (by omega) (by simp;omega) with ⟨l,r',h1,h2⟩|⟨h1,arr,r',e,he,hx,h2⟩
   ·refine .inl ⟨n::l,r',by rw [h1],kw (lq _ _ _ jy) ?_⟩
    rw [e2,h2,List.append_assoc];rfl
   ·refine .inr ⟨by rw [h1],arr,r',e,he,hx,kw (lq _ _ _ jy) ?_⟩
    rw [e2,h2]
theorem R0 {w3:List aa×List Int×Int} {cJ:Int×az} {dL:List UInt8×az} (hl:w3.1.length<2^40): ∀(R L:List aa),(L++R).length=w3.1.length→Loop (cU w3 cJ dL) (L++R,(L.length:Int))=some (L++R.map fun y=>⟨y.By,cJ.1,dL.1⟩):=by
 intro R
 induction R with
 |nil=>
  intro L h
  refine rI ?_
  unfold cU
  simp only [List.append_nil,List.map_nil] at *
  rw [if_neg (by omega)]
 |cons c R ih=>
  intro L h
  have h2:L.length<(L++c::R).length:=by simp
  have ir: ∀(d:aa) (hh:L.length<(L++d::R).length),(L++d::R)[L.length]'hh=d:=by
   intro d hh
   rw [List.getElem_append_right (Nat.le_refl _)];simp
  have Hz: ∀d v:aa,(L++d::R).set L.length v=L++v::R:=by
   intro d v
   rw [List.set_append_right _ _ (Nat.le_refl _)];simp
  have hih:=ih (L++[⟨c.By,cJ.1,dL.1⟩]) (by simp at *;omega)
  refine kw (s':=(L++[⟨c.By,cJ.1,dL.1⟩]++R,((L++[⟨c.By,cJ.1,dL.1⟩]:List aa).length:Int))) ?_ ?_
  ·unfold cU
   simp only
   rw [if_pos (by omega),bO h2,ir,Int.toNat_natCast,Hz,bO (by simp),ir,Hz,wrap64 (by omega) (by omega)]
   simp
  ·rw [hih];simp
theorem IV {b:List Int} (hb:ma b) (hl:b.length<2^40):aO (b6 ⟨b,0⟩) fun r=>match vQ b with|some (p,r')=>r=(p,⟨r',0⟩)|none=>r.2.e≠0:=by
 unfold b6 vQ
 rw [pc hb hl,aq]
 cases ht:fC b with
 |none=>
  simp only [show¬((0:Int)<0) by decide,if_false,show decide ((100:Int)<0)=false by decide,aq,Bool.false_eq_true,eh b,decide_false,Bool.not_false,if_true]
  exact .mk (eh b)
 |some p=>
  obtain ⟨n,r⟩:=p
  obtain ⟨_,hn,hr⟩:=fj hb ht
  have Rh:=iZ ht
  simp only
  rw [or_some,aq]
  by_cases c:n<0∨100<n
  ·rw [decide_eq_true c,if_pos rfl,aq,if_pos c]
   simp only [show decide ((3:Int)=0)=false by decide,Bool.not_false,if_true,aq]
   exact .mk (show (3:Int)≠0 by decide)
  ·rw [decide_eq_false c,if_neg (by simp),aq,if_neg c]
   simp only [decide_true,Bool.not_true,Bool.false_eq_true,if_false,aq]
   by_cases c0:n=0
   ·rw [if_pos c0,decide_eq_true c0,if_pos rfl]
    exact .mk rfl
   ·rw [if_neg c0,decide_eq_false c0,if_neg (by simp),if_pos ⟨by omega,trivial,by omega⟩]
    have hN:n=(n.toNat:Int):=by omega
    have h:=adW (rA:=(n,(⟨r,0⟩:az))) hN (by omega) n.toNat [] r hr (by omega) (by simp)
    simp only [List.map_nil,List.nil_append,List.length_nil,Int.natCast_zero] at h
    have dt:List.replicate (Int.toNat n) (⟨0,0,([]:List UInt8)⟩:aa)=List.replicate n.toNat zA:=rfl
    rw [dt]
    rcases h with ⟨l,r1,h1,h2⟩|⟨h1,arr,r1,e,he,hx,h2⟩
    ·rw [h2,aq,h1]
     obtain ⟨_,hll,_,sW,ajB⟩:=xO _ hr h1
     have hm:(l.map xX).length<2^40:=by rw [List.length_map];omega
     simp only
     rw [pc sW (by omega),aq]
     cases oh:fC r1 with
     |none=>
      simp only
      rw [mY (by exact eh r1),aq]
      have:=R0 (w3:=(l.map xX,r1,0)) (cJ:=((0:Int),(⟨[],A3 r1⟩:az))) (dL:=(([]:List UInt8),(⟨[],A3 r1⟩:az))) hm (l.map xX) [] rfl
      simp only [List.nil_append,List.length_nil,Int.natCast_zero] at this
      rw [this,aq]
      exact .mk (eh r1)
     |some p2=>
      obtain ⟨v,r2⟩:=p2
      obtain ⟨_,_,A9⟩:=fj sW oh
      have ajC:=iZ oh
      simp only
      rcases Di A9 (by omega) with ⟨x,r3,g1,g2⟩|⟨g1,s,t,he,g2⟩
      ·rw [g2,aq,g1]
       have:=R0 (w3:=(l.map xX,r1,0)) (cJ:=(v,(⟨r2,0⟩:az))) (dL:=(x,(⟨r3,0⟩:az))) hm (l.map xX) [] rfl
       simp only [List.nil_append,List.length_nil,Int.natCast_zero] at this
       rw [this,aq]
       refine .mk ?_
       simp only [List.map_map,PQ]
       rfl
      ·rw [g2,aq,g1]
       have:=R0 (w3:=(l.map xX,r1,0)) (cJ:=(v,(⟨r2,0⟩:az))) (dL:=(s,t)) hm (l.map xX) [] rfl
       simp only [List.nil_append,List.length_nil,Int.natCast_zero] at this
       rw [this,aq]
       exact .mk he
    ·rw [h2,aq,h1]
     simp only
     rw [mg (by exact he),aq]
     simp only
     rw [mY (by exact he),aq]
     have vU:arr.length<2^40:=by omega
     have:=R0 (w3:=(arr,r1,e)) (cJ:=((0:Int),(⟨r1,e⟩:az))) (dL:=(([]:List UInt8),(⟨r1,e⟩:az))) vU arr [] rfl
     simp only [List.nil_append,List.length_nil,Int.natCast_zero] at this
     rw [this,aq]
     exact .mk he
def GR:ae:=⟨⟨0,0⟩,0,0,false,0,[],[],⟨[]⟩⟩
def tu (s:ai) (me:Int):Prop:=cD s∧0≤me∧me<ur s
def iN (b:List Int):Option (Int×Int×Int×List UInt8×List aa):=match fC b with
 |none=>none
 |some (v,r1)=>match fC r1 with
  |none=>none
  |some (h,r2)=>match fC r2 with
   |none=>none
   |some (w,r3)=>match nP r3 6000 with
    |none=>none
    |some (x,r4)=>match vQ r4 with
     |none=>none
     |some (p,r5)=>if r5=[] then some (v,h,w,x,p) else none
def VS (s:ai) (me:Int) (t:Int×Int×Int×List UInt8×List aa):ae:=⟨s,me,t.1,decide (t.2.1=1),t.2.2.1,t.2.2.2.1,t.2.2.2.2,⟨[]⟩⟩
def Wr (s:ai) (me:Int) (t:Int×Int×Int×List UInt8×List aa):Prop:=(t.2.1=0∨t.2.1=1)∧wX (VS s me t)
structure kZ (s:ai) (me:Int) (b:List Int) (r:ae×Int):Prop where
 bad: ¬tu s me→r=(GR,1)
 form:tu s me→iN b=none→r=(GR,3)
 no:tu s me→ ∀t,iN b=some t→ ¬Wr s me t→r=(GR,3)
 yes:tu s me→ ∀t,iN b=some t→Wr s me t→r=(VS s me t,0)
theorem kZ.uniq {s:ai} {me:Int} {b:List Int} {r r':ae×Int} (h:kZ s me b r) (h':kZ s me b r'):r=r':=by
 by_cases c:tu s me
 ·cases ht:iN b with
  |none=>rw [h.form c ht,h'.form c ht]
  |some t=>
   by_cases c2:Wr s me t
   ·rw [h.yes c t ht c2,h'.yes c t ht c2]
   ·rw [h.no c t ht c2,h'.no c t ht c2]
 ·rw [h.bad c,h'.bad c]
theorem kZ.Ka {s:ai} {me:Int} {b:List Int} (c:tu s me) (ht:iN b=none):kZ s me b (GR,3):=
 ⟨fun h=>absurd c h,fun _ _=>rfl,fun _ t h=>by (rw [ht] at h;cases h),fun _ t h=>by (rw [ht] at h;cases h)⟩
theorem kZ.PU {s:ai} {me:Int} {b:List Int} {t:Int×Int×Int×List UInt8×List aa} (c:tu s me) (ht:iN b=some t) {r:ae×Int} (h1:Wr s me t→r=(VS s me t,0)) (h2: ¬Wr s me t→r=(GR,3)):kZ s me b r:=
 ⟨fun h=>absurd c h,fun _ h=>by (rw [ht] at h;cases h),fun _ t' h hn=>by (rw [ht] at h;injection h with h;subst h;exact h2 hn),fun _ t' h hn=>by (rw [ht] at h;injection h with h;subst h;exact h1 hn)⟩
theorem LU {b:List Int} {p:List aa} {r:List Int} (hb:ma b) (h:vQ b=some (p,r)):p.length≤100:=(IP hb h).2.1.len
theorem IW (s:ai) (me:Int) {b:List Int} (hb:ma b) (hl:b.length<2^40):aO (fE s me b) (kZ s me b):=by
 unfold fE
 rw [Dc,aq]
 by_cases c:tu s me
 rotate_left
 ·have e0:yo s me=(⟨⟨0,0⟩,0,0,false,0,[],[],⟨[]⟩⟩,1):=if_neg c
  rw [e0]
  simp only [show decide ((1:Int)=0)=false by decide,Bool.not_false,if_true]
  exact .mk ⟨fun _=>rfl,fun h=>absurd h c,fun h=>absurd h c,fun h=>absurd h c⟩
 have e0:yo s me=(⟨s,me,0,false,0,[],[],⟨[]⟩⟩,0):=if_pos c
 rw [e0]
 simp only [decide_true,Bool.not_true,Bool.false_eq_true,if_false]
 have R2: ∀t:az,t.e≠0→iN b=none→ ∀(X:List aa×az→Option Bool) (Y:List aa×az→Option (ae×Int)),aO (bd (b6 t) fun ng=>bd (if !decide (ng.2.e=0) then some true else X ng:Option Bool) fun w=>if w then some ((⟨(⟨0,0⟩:ai),0,0,false,0,([]:List UInt8),([]:List aa),(⟨([]:List aa)⟩:au)⟩:ae),(3:Int)) else Y ng) (kZ s me b):=by
  intro t ht hn X Y
  rw [GQ ht,aq]
  simp only [ht,decide_false,Bool.not_false,if_true,aq]
  exact .mk (kZ.Ka c hn)
 rw [pc hb hl,aq]
 cases Bc:fC b with
 |none=>
  have hn:iN b=none:=by unfold iN;rw [Bc]
  simp only
  rw [mg (eh b),aq]
  simp only
  rw [mg (eh b),aq]
  simp only
  rw [mY (eh b),aq]
  exact R2 _ (eh b) hn _ _
 |some p1=>
  obtain ⟨v,r1⟩:=p1
  obtain ⟨_,_,sW⟩:=fj hb Bc
  have l1:=iZ Bc
  simp only
  rw [pc sW (by omega),aq]
  cases oh:fC r1 with
  |none=>
   have hn:iN b=none:=by unfold iN;rw [Bc];simp only;rw [oh]
   simp only
   rw [mg (eh r1),aq]
   simp only
   rw [mY (eh r1),aq]
   exact R2 _ (eh r1) hn _ _
  |some p2=>
   obtain ⟨h,r2⟩:=p2
   obtain ⟨_,_,A9⟩:=fj sW oh
   have l2:=iZ oh
   simp only
   rw [pc A9 (by omega),aq]
   cases Mf:fC r2 with
   |none=>
    have hn:iN b=none:=by unfold iN;rw [Bc];simp only;rw [oh];simp only;rw [Mf]
    simp only
    rw [mY (eh r2),aq]
    exact R2 _ (eh r2) hn _ _
   |some p3=>
    obtain ⟨w,r3⟩:=p3
    obtain ⟨_,_,Sl⟩:=fj A9 Mf
    have l3:=iZ Mf
    simp only
    rcases Di Sl (by omega) with ⟨x,r4,g1,g2⟩|⟨g1,s',t,he,g2⟩
    rotate_left
    ·have hn:iN b=none:=by unfold iN;rw [Bc];simp only;rw [oh];simp only;rw [Mf];simp only;rw [g1]
     rw [g2,aq]
     exact R2 _ he hn _ _
    obtain ⟨_,_,hr4⟩:=A0 Sl g1
    have l4:=IL g1
    rw [g2,aq]
    simp only
    obtain ⟨⟨p,t⟩,e5,h5⟩:=IV hr4 (by omega)
    rw [e5,aq]
    cases Zf:vQ r4 with
    |none=>
     have hn:iN b=none:=by unfold iN;rw [Bc];simp only;rw [oh];simp only;rw [Mf];simp only;rw [g1];simp only;rw [Zf]
     rw [Zf] at h5
     simp only at h5
     simp only [h5,decide_false,Bool.not_false,if_true,aq]
     exact .mk (kZ.Ka c hn)
    |some p5=>
     obtain ⟨p',r5⟩:=p5
     rw [Zf] at h5
     simp only at h5
     injection h5 with h5 h6
     subst h5;subst h6
     have EL:=LU hr4 Zf
     have hA:iN b=if r5=[] then some (v,h,w,x,p) else none:=by unfold iN;rw [Bc];simp only;rw [oh];simp only;rw [Mf];simp only;rw [g1];simp only;rw [Zf]
     simp only [decide_true,Bool.not_true,Bool.false_eq_true,if_false]
     have hf:dG (decide (h=1))=some (if h=1 then 1 else 0):=by unfold dG;by_cases c1:h=1<;>simp [c1]
     rw [hf,aq]
     by_cases c1:h=0∨h=1
     rotate_left
     ·rw [if_pos (by rw [Bool.not_eq_true',decide_eq_false_iff_not];intro hh;split at hh<;>omega),aq,if_pos rfl]
      by_cases c2:r5=[]
      ·rw [if_pos c2] at hA
       exact .mk (kZ.PU c hA (fun h=>absurd h.1 c1) (fun _=>rfl))
      ·rw [if_neg c2] at hA
       exact .mk (kZ.Ka c hA)
     rw [if_neg (by rw [Bool.not_eq_true',decide_eq_false_iff_not];intro hh;apply hh;split<;>omega)]
     by_cases c2:r5=[]
     rotate_left
     ·rw [if_neg c2] at hA
      have:0<r5.length:=List.length_pos_iff.2 c2
      rw [if_pos (by omega),aq,if_pos rfl]
      exact .mk (kZ.Ka c hA)
     rw [if_pos c2] at hA
     rw [if_neg (by rw [c2];simp)]
     obtain ⟨ok,e6,h6⟩:=PA (VS s me (v,h,w,x,p)) (by simp only [VS];omega)
     have e7:cq (⟨s,me,v,decide (h=1),w,x,p,⟨[]⟩⟩:ae)=some ok:=e6
     rw [e7,aq,aq]
     have HH:ok=true↔Wr s me (v,h,w,x,p):=by rw [h6];exact ⟨fun h=>⟨c1,h⟩,fun h=>h.2⟩
     cases ok with
     |true=>
      simp only [Bool.not_true,Bool.false_eq_true,if_false]
      exact .mk (kZ.PU c hA (fun _=>rfl) (fun hk=>absurd (HH.1 rfl) hk))
     |false=>
      simp only [Bool.not_false,if_true]
      exact .mk (kZ.PU c hA (fun hk=>by have:=HH.2 hk;cases this) (fun _=>rfl))
end Dn.S
