import Derived.Test.YtjblhgpbkfmkoaaDnPAcc3
/-
  Acceptors that are loaded. Conditions: none.
-/
open Go Dn
set_option linter.unusedVariables false
set_option linter.unusedSimpArgs false
namespace Dn.S
theorem nI {b:List Int} (hb:iM b) (hl:b.length<2^40):bl ⟨b,0⟩=some (match cu b with|some (n,r)=>(n,⟨r,0⟩)|none=>(0,⟨[],tG b⟩)):=by
 unfold bl
 simp only [if_true]
 rw [zv hb hl,aA,aA]
 cases cu b with
 |none=>rfl
 |some p=>rfl
theorem kC {t:au} (he:t.e≠0):bl t=some (0,t):=by
 unfold bl
 rw [if_neg he,aA]
theorem AO {b:List Int} (hb:iM b) (hl:b.length<2^40):(∃s r,jX b 6000=some (s,r)∧bJ ⟨b,0⟩=some (s,⟨r,0⟩))∨(jX b 6000=none∧ ∃s t,t.e≠0∧bJ ⟨b,0⟩=some (s,t)):=by
 unfold bJ
 simp only [if_true]
 have e:dW b 6000=some (Mr b 6000):=yt (most:=6000) hb hl (by decide)
 rw [e,aA,aA]
 rcases uF b 6000 with ⟨s,r,h1,h2⟩|⟨h1,e,he,h2⟩
 ·exact .inl ⟨s,r,h1,by rw [h2]⟩
 ·exact .inr ⟨h1,[],⟨[],e⟩,he,by rw [h2]⟩
theorem lv {t:au} (he:t.e≠0):bJ t=some ([],t):=by
 unfold bJ
 rw [if_neg he,aA]
theorem DV {t:au} (he:t.e≠0):bP t=some ([],t):=by
 unfold bP
 rw [kC he]
 simp only [aA,show¬((0:Int)<0) by decide,if_false,show decide ((100:Int)<0)=false by decide,Bool.false_eq_true,he,decide_false,Bool.not_false,if_true]
def zA:ab:=⟨0,0,[]⟩
def DW (y:Int):ab:=⟨y,0,[]⟩
theorem Mf {rA:Int×au} {N:Nat} (hN:rA.1=(N:Int)) (Q6:N≤100) {b:List Int} {e:Int} (he:e≠0): ∀(d k:Nat) (arr:List ab),k+d=N→arr.length=N→ ∃pv,pv.length=N∧Loop (bn rA) (arr,(k:Int),b,e)=some (pv,b,e):=by
 intro d
 induction d with
 |zero=>
  intro k arr hk ha
  refine ⟨arr,ha,fA ?_⟩
  unfold bn
  simp only
  rw [List.length_replicate,hN,if_neg (by omega)]
 |succ d ih=>
  intro k arr hk ha
  obtain ⟨pv,hx,h⟩:=ih (k+1) (arr.set k ⟨0,(arr[k]'(by omega)).View,(arr[k]'(by omega)).Value⟩) (by omega) (by rw [List.length_set];exact ha)
  refine ⟨pv,hx,dw ?_ h⟩
  unfold bn
  simp only
  rw [List.length_replicate,hN,if_pos (by omega),kC he,aA,cG (by omega),wrap64 (by omega) (by omega),Int.toNat_natCast]
  rfl
theorem Xb {rA:Int×au} {N:Nat} (hN:rA.1=(N:Int)) (Q6:N≤100): ∀(d:Nat) (pre:List Int) (b:List Int),iM b→b.length<2^40→pre.length+d=N→
 (∃l r,dm d b=some (l,r)∧Loop (bn rA) (pre.map DW++List.replicate d zA,(pre.length:Int),b,0)=some ((pre++l).map DW,r,0))∨
 (dm d b=none∧ ∃arr r e,e≠0∧arr.length=N∧Loop (bn rA) (pre.map DW++List.replicate d zA,(pre.length:Int),b,0)=some (arr,r,e)):=by
 intro d
 induction d with
 |zero=>
  intro pre b hb hl hk
  refine .inl ⟨[],b,rfl,fA ?_⟩
  unfold bn
  simp only
  rw [List.length_replicate,hN,if_neg (by omega)]
  simp
 |succ d ih=>
  intro pre b hb hl hk
  have hlen:(pre.map DW++List.replicate (d+1) zA).length=N:=by simp;omega
  have fP:(pre.map DW++List.replicate (d+1) zA)[pre.length]'(by omega)=zA:=by
   rw [List.getElem_append_right (by simp)];simp
  have EM: ∀v,(pre.map DW++List.replicate (d+1) zA).set pre.length v=pre.map DW++v::List.replicate d zA:=by
   intro v
   rw [List.set_append_right _ _ (by simp)]
   simp [List.replicate_succ]
  have uO: ∀n r e,bl ⟨b,0⟩=some (n,⟨r,e⟩)→bn rA (pre.map DW++List.replicate (d+1) zA,(pre.length:Int),b,0)=some (.inl ((pre++[n]).map DW++List.replicate d zA,((pre.length+1:Nat):Int),r,e)):=by
   intro n r e ht
   unfold bn
   simp only
   rw [List.length_replicate,hN,if_pos (by omega),ht,aA,cG (by omega),fP,wrap64 (by omega) (by omega),Int.toNat_natCast,EM,List.map_append,List.append_assoc]
   rfl
  have iN:=nI hb hl
  simp only [dm]
  cases ht:cu b with
  |none=>
   rw [ht] at iN
   obtain ⟨pv,hx,h⟩:=Mf hN Q6 (b:=[]) (cV b) d (pre.length+1) ((pre++[0]).map DW++List.replicate d zA) (by omega) (by simp;omega)
   exact .inr ⟨rfl,pv,[],tG b,cV b,hx,dw (uO _ _ _ iN) h⟩
  |some p=>
   obtain ⟨n,r⟩:=p
   rw [ht] at iN
   obtain ⟨_,_,hr⟩:=cj hb ht
   have T8:=dK ht
   simp only
   have e2:((pre.length+1:Nat):Int)=((pre++[n]).length:Int):=by simp
   rcases ih (pre++[n]) r hr (by omega) (by simp;omega) with ⟨l,r',h1,h2⟩|⟨h1,arr,r',e,he,hx,h2⟩
   ·refine .inl ⟨n::l,r',by rw [h1],dw (uO _ _ _ iN) ?_⟩
    rw [e2,h2,List.append_assoc];rfl
   ·refine .inr ⟨by rw [h1],arr,r',e,he,hx,dw (uO _ _ _ iN) ?_⟩
    rw [e2,h2]
theorem N6 {w3:List ab×List Int×Int} {cL:Int×au} {cZ:List UInt8×au} (hl:w3.1.length<2^40): ∀(R L:List ab),(L++R).length=w3.1.length→Loop (cC w3 cL cZ) (L++R,(L.length:Int))=some (L++R.map fun y=>⟨y.By,cL.1,cZ.1⟩):=by
 intro R
 induction R with
 |nil=>
  intro L h
  refine fA ?_
  unfold cC
  simp only [List.append_nil,List.map_nil] at *
  rw [if_neg (by omega)]
 |cons c R ih=>
  intro L h
  have h2:L.length<(L++c::R).length:=by simp
  have fP: ∀(d:ab) (hh:L.length<(L++d::R).length),(L++d::R)[L.length]'hh=d:=by
   intro d hh
   rw [List.getElem_append_right (Nat.le_refl _)];simp
  have EM: ∀d v:ab,(L++d::R).set L.length v=L++v::R:=by
   intro d v
   rw [List.set_append_right _ _ (Nat.le_refl _)];simp
  have Xc:=ih (L++[⟨c.By,cL.1,cZ.1⟩]) (by simp at *;omega)
  refine dw (s':=(L++[⟨c.By,cL.1,cZ.1⟩]++R,((L++[⟨c.By,cL.1,cZ.1⟩]:List ab).length:Int))) ?_ ?_
  ·unfold cC
   simp only
   rw [if_pos (by omega),cG h2,fP,Int.toNat_natCast,EM,cG (by simp),fP,EM,wrap64 (by omega) (by omega)]
   simp
  ·rw [Xc];simp
theorem FV {b:List Int} (hb:iM b) (hl:b.length<2^40):bE (bP ⟨b,0⟩) fun r=>match mn b with|some (p,r')=>r=(p,⟨r',0⟩)|none=>r.2.e≠0:=by
 unfold bP mn
 rw [nI hb hl,aA]
 cases ht:cu b with
 |none=>
  simp only [show¬((0:Int)<0) by decide,if_false,show decide ((100:Int)<0)=false by decide,aA,Bool.false_eq_true,cV b,decide_false,Bool.not_false,if_true]
  exact .mk (cV b)
 |some p=>
  obtain ⟨n,r⟩:=p
  obtain ⟨_,hn,hr⟩:=cj hb ht
  have T8:=dK ht
  simp only
  rw [or_some,aA]
  by_cases c:n<0∨100<n
  ·rw [decide_eq_true c,if_pos rfl,aA,if_pos c]
   simp only [show decide ((3:Int)=0)=false by decide,Bool.not_false,if_true,aA]
   exact .mk (show (3:Int)≠0 by decide)
  ·rw [decide_eq_false c,if_neg (by simp),aA,if_neg c]
   simp only [decide_true,Bool.not_true,Bool.false_eq_true,if_false,aA]
   by_cases c0:n=0
   ·rw [if_pos c0,decide_eq_true c0,if_pos rfl]
    exact .mk rfl
   ·rw [if_neg c0,decide_eq_false c0,if_neg (by simp),if_pos ⟨by omega,trivial,by omega⟩]
    have hN:n=(n.toNat:Int):=by omega
    have h:=Xb (rA:=(n,(⟨r,0⟩:au))) hN (by omega) n.toNat [] r hr (by omega) (by simp)
    simp only [List.map_nil,List.nil_append,List.length_nil,Int.natCast_zero] at h
    have cW:List.replicate (Int.toNat n) (⟨0,0,([]:List UInt8)⟩:ab)=List.replicate n.toNat zA:=rfl
    rw [cW]
    rcases h with ⟨l,r1,h1,h2⟩|⟨h1,arr,r1,e,he,hx,h2⟩
    ·rw [h2,aA,h1]
     obtain ⟨_,RA,_,pz,Xd⟩:=ml _ hr h1
     have hm:(l.map DW).length<2^40:=by rw [List.length_map];omega
     simp only
     rw [nI pz (by omega),aA]
     cases kQ:cu r1 with
     |none=>
      simp only
      rw [lv (by exact cV r1),aA]
      have:=N6 (w3:=(l.map DW,r1,0)) (cL:=((0:Int),(⟨[],tG r1⟩:au))) (cZ:=(([]:List UInt8),(⟨[],tG r1⟩:au))) hm (l.map DW) [] rfl
      simp only [List.nil_append,List.length_nil,Int.natCast_zero] at this
      rw [this,aA]
      exact .mk (cV r1)
     |some p2=>
      obtain ⟨v,r2⟩:=p2
      obtain ⟨_,_,yD⟩:=cj pz kQ
      have Xe:=dK kQ
      simp only
      rcases AO yD (by omega) with ⟨x,r3,g1,g2⟩|⟨g1,s,t,he,g2⟩
      ·rw [g2,aA,g1]
       have:=N6 (w3:=(l.map DW,r1,0)) (cL:=(v,(⟨r2,0⟩:au))) (cZ:=(x,(⟨r3,0⟩:au))) hm (l.map DW) [] rfl
       simp only [List.nil_append,List.length_nil,Int.natCast_zero] at this
       rw [this,aA]
       refine .mk ?_
       simp only [List.map_map,DS]
       rfl
      ·rw [g2,aA,g1]
       have:=N6 (w3:=(l.map DW,r1,0)) (cL:=(v,(⟨r2,0⟩:au))) (cZ:=(s,t)) hm (l.map DW) [] rfl
       simp only [List.nil_append,List.length_nil,Int.natCast_zero] at this
       rw [this,aA]
       exact .mk he
    ·rw [h2,aA,h1]
     simp only
     rw [kC (by exact he),aA]
     simp only
     rw [lv (by exact he),aA]
     have vT:arr.length<2^40:=by omega
     have:=N6 (w3:=(arr,r1,e)) (cL:=((0:Int),(⟨r1,e⟩:au))) (cZ:=(([]:List UInt8),(⟨r1,e⟩:au))) vT arr [] rfl
     simp only [List.nil_append,List.length_nil,Int.natCast_zero] at this
     rw [this,aA]
     exact .mk he
theorem IB {N:Nat} (Q6:N≤1000): ∀(d:Nat) (out:List Int) (b:List Int),iM b→b.length<2^40→out.length+d=N→
 Loop (gM (N:Int)) (b,out,(out.length:Int))=some (match dm d b with|some (l,r)=> .inl (r,out++l)|none=> .inr ([],[],false)):=by
 intro d
 induction d with
 |zero=>
  intro out b hb hl hk
  refine fA ?_
  unfold gM
  simp only [dm]
  rw [if_neg (by omega),List.append_nil]
 |succ d ih=>
  intro out b hb hl hk
  simp only [dm]
  cases ht:cu b with
  |none=>
   refine fA ?_
   unfold gM
   simp only
   rw [if_pos (by omega),rD hb hl,aA,ht]
   simp only [cV b,decide_false,Bool.not_false,if_true]
  |some p=>
   obtain ⟨n,r⟩:=p
   obtain ⟨_,_,hr⟩:=cj hb ht
   have T8:=dK ht
   have Xc:=ih (out++[n]) r hr (by omega) (by simp;omega)
   refine dw (s':=(r,out++[n],((out++[n]).length:Int))) ?_ ?_
   ·unfold gM
    simp only
    rw [if_pos (by omega),rD hb hl,aA,ht]
    simp only [decide_true,Bool.not_true,Bool.false_eq_true,if_false]
    rw [if_pos (by rw [List.length_singleton];omega),wrap64 (by omega) (by omega)]
    simp
   ·rw [Xc]
    simp only
    cases dm d r with
    |none=>rfl
    |some q=>simp [List.append_assoc]
theorem mq {b:List Int} (hb:iM b) (hl:b.length<2^40) {N:Nat} (h:N≤1000):gO b (N:Int)=some (match dm N b with|some (l,r)=>(l,r,true)|none=>([],[],false)):=by
 unfold gO
 have:=IB h N [] b hb hl (by simp)
 simp only [List.length_nil,Int.natCast_zero,List.nil_append] at this
 rw [this,aA]
 cases dm N b with
 |none=>rfl
 |some q=>rfl
theorem yz (b:List Int):dm 1 b=match cu b with|some (n,r)=>some ([n],r)|none=>none:=by
 simp only [dm]
 cases cu b with
 |none=>rfl
 |some p=>rfl
theorem FW {l m:List Int} {v:Int} {x:List UInt8} {z:List Int} {y:Bool} {e:Int} {r1 r2:List Int} (h:l.length≤1000):Loop (iA (l,r1,y) ([v],r2,y) (x,z,e)) ([],0)=some (DS l v x):=by
 refine bE.eq (bE.count (fun k=>(DS (l.take k) v x,(k:Int))) l.length (fun _=>True) (by simp [DS]) trivial (fun k hk _=> ?_) (fun _=> ?_))
 ·unfold iA
  simp only
  have hlen:(DS (l.take k) v x).length≤1000:=by unfold DS;rw [List.length_map,List.length_take];omega
  rw [if_pos (by omega),cG hk,gn (by simp),if_pos (by rw [List.length_singleton];omega),wrap64 (by omega) (by omega)]
  refine .mk ⟨?_,trivial⟩
  unfold DS
  rw [List.take_add_one,List.getElem?_eq_getElem hk,List.map_append]
  rfl
 ·unfold iA
  simp only
  rw [if_neg (by omega),List.take_length]
  exact .mk rfl
theorem B3 {b:List Int} (hb:iM b) (hl:b.length<2^40):kY b=some (match mn b with|some (p,r)=>(p,r,true)|none=>([],[],false)):=by
 unfold kY mn
 have h1:=mq hb hl (N:=1) (by decide)
 rw [yz,show ((1:Nat):Int)=1 from rfl] at h1
 rw [h1,aA]
 cases ht:cu b with
 |none=>simp
 |some p=>
  obtain ⟨n,r⟩:=p
  obtain ⟨_,hn,hr⟩:=cj hb ht
  have T8:=dK ht
  simp only [Bool.not_true,Bool.false_eq_true,if_false,gn (show 0<([n]:List Int).length by simp),List.getElem_cons_zero]
  rw [or_some,aA]
  by_cases c:n<0∨100<n
  ·rw [decide_eq_true c,if_pos rfl,if_pos c]
  ·rw [decide_eq_false c,if_neg (by simp),if_neg c]
   by_cases c0:n=0
   ·rw [if_pos c0,if_pos c0]
   ·rw [if_neg c0,if_neg c0]
    have h2:=mq hr (by omega) (N:=n.toNat) (by omega)
    rw [show (n.toNat:Int)=n by omega] at h2
    rw [h2,aA]
    cases uZ:dm n.toNat r with
    |none=>simp
    |some q=>
     obtain ⟨l,r1⟩:=q
     obtain ⟨_,RA,_,pz,Xd⟩:=ml _ hr uZ
     have h3:=mq pz (by omega) (N:=1) (by decide)
     rw [yz,show ((1:Nat):Int)=1 from rfl] at h3
     simp only [Bool.not_true,Bool.false_eq_true,if_false]
     rw [h3,aA]
     cases kQ:cu r1 with
     |none=>simp
     |some q2=>
      obtain ⟨v,r2⟩:=q2
      obtain ⟨_,_,yD⟩:=cj pz kQ
      have Xe:=dK kQ
      simp only [Bool.not_true,Bool.false_eq_true,if_false]
      have e4:dA r2 6000=some (Mr r2 6000):=qg (most:=6000) yD (by omega) (by decide)
      rw [e4,aA]
      rcases uF r2 6000 with ⟨s,r3,g1,g2⟩|⟨g1,e,he,g2⟩
      ·rw [g1,g2]
       simp only [decide_true,Bool.not_true,Bool.false_eq_true,if_false]
       rw [FW (m:=l) (by omega),aA]
      ·rw [g1,g2]
       simp only [he,decide_false,Bool.not_false,if_true]
def oW:af:=⟨⟨0,0⟩,0,0,false,0,[],[],⟨[]⟩⟩
def qh (s:aj) (me:Int):Prop:=eu s∧0≤me∧me<BT s
def du (b:List Int):Option (Int×Int×Int×List UInt8×List ab):=match cu b with
 |none=>none
 |some (v,r1)=>match cu r1 with
  |none=>none
  |some (h,r2)=>match cu r2 with
   |none=>none
   |some (w,r3)=>match jX r3 6000 with
    |none=>none
    |some (x,r4)=>match mn r4 with
     |none=>none
     |some (p,r5)=>if r5=[] then some (v,h,w,x,p) else none
def Eb (s:aj) (me:Int) (t:Int×Int×Int×List UInt8×List ab):af:=⟨s,me,t.1,decide (t.2.1=1),t.2.2.1,t.2.2.2.1,t.2.2.2.2,⟨[]⟩⟩
def O6 (s:aj) (me:Int) (t:Int×Int×Int×List UInt8×List ab):Prop:=(t.2.1=0∨t.2.1=1)∧sd (Eb s me t)
structure eV (s:aj) (me:Int) (b:List Int) (r:af×Int):Prop where
 bad: ¬qh s me→r=(oW,1)
 form:qh s me→du b=none→r=(oW,3)
 no:qh s me→ ∀t,du b=some t→ ¬O6 s me t→r=(oW,3)
 yes:qh s me→ ∀t,du b=some t→O6 s me t→r=(Eb s me t,0)
theorem eV.uniq {s:aj} {me:Int} {b:List Int} {r r':af×Int} (h:eV s me b r) (h':eV s me b r'):r=r':=by
 by_cases c:qh s me
 ·cases ht:du b with
  |none=>rw [h.form c ht,h'.form c ht]
  |some t=>
   by_cases c2:O6 s me t
   ·rw [h.yes c t ht c2,h'.yes c t ht c2]
   ·rw [h.no c t ht c2,h'.no c t ht c2]
 ·rw [h.bad c,h'.bad c]
theorem eV.AP {s:aj} {me:Int} {b:List Int} (c:qh s me) (ht:du b=none):eV s me b (oW,3):=
 ⟨fun h=>absurd c h,fun _ _=>rfl,fun _ t h=>by (rw [ht] at h;cases h),fun _ t h=>by (rw [ht] at h;cases h)⟩
theorem eV.AQ {s:aj} {me:Int} {b:List Int} {t:Int×Int×Int×List UInt8×List ab} (c:qh s me) (ht:du b=some t) {r:af×Int} (h1:O6 s me t→r=(Eb s me t,0)) (h2: ¬O6 s me t→r=(oW,3)):eV s me b r:=
 ⟨fun h=>absurd c h,fun _ h=>by (rw [ht] at h;cases h),fun _ t' h hn=>by (rw [ht] at h;injection h with h;subst h;exact h2 hn),fun _ t' h hn=>by (rw [ht] at h;injection h with h;subst h;exact h1 hn)⟩
theorem AR {b:List Int} {p:List ab} {r:List Int} (hb:iM b) (h:mn b=some (p,r)):p.length≤100:=(yw hb h).2.1.len
theorem yA (s:aj) (me:Int) {b:List Int} (hb:iM b) (hl:b.length<2^40):bE (dI s me b) (eV s me b):=by
 unfold dI
 rw [Is,aA]
 by_cases c:qh s me
 rotate_left
 ·have e0:vN s me=(⟨⟨0,0⟩,0,0,false,0,[],[],⟨[]⟩⟩,1):=if_neg c
  rw [e0]
  simp only [show decide ((1:Int)=0)=false by decide,Bool.not_false,if_true]
  exact .mk ⟨fun _=>rfl,fun h=>absurd h c,fun h=>absurd h c,fun h=>absurd h c⟩
 have e0:vN s me=(⟨s,me,0,false,0,[],[],⟨[]⟩⟩,0):=if_pos c
 rw [e0]
 simp only [decide_true,Bool.not_true,Bool.false_eq_true,if_false]
 have N7: ∀t:au,t.e≠0→du b=none→ ∀(X:List ab×au→Option Bool) (Y:List ab×au→Option (af×Int)),bE (bd (bP t) fun sZ=>bd (if !decide (sZ.2.e=0) then some true else X sZ:Option Bool) fun w=>if w then some ((⟨(⟨0,0⟩:aj),0,0,false,0,([]:List UInt8),([]:List ab),(⟨([]:List ab)⟩:aD)⟩:af),(3:Int)) else Y sZ) (eV s me b):=by
  intro t ht hn X Y
  rw [DV ht,aA]
  simp only [ht,decide_false,Bool.not_false,if_true,aA]
  exact .mk (eV.AP c hn)
 rw [nI hb hl,aA]
 cases uZ:cu b with
 |none=>
  have hn:du b=none:=by unfold du;rw [uZ]
  simp only
  rw [kC (cV b),aA]
  simp only
  rw [kC (cV b),aA]
  simp only
  rw [lv (cV b),aA]
  exact N7 _ (cV b) hn _ _
 |some p1=>
  obtain ⟨v,r1⟩:=p1
  obtain ⟨_,_,pz⟩:=cj hb uZ
  have l1:=dK uZ
  simp only
  rw [nI pz (by omega),aA]
  cases kQ:cu r1 with
  |none=>
   have hn:du b=none:=by unfold du;rw [uZ];simp only;rw [kQ]
   simp only
   rw [kC (cV r1),aA]
   simp only
   rw [lv (cV r1),aA]
   exact N7 _ (cV r1) hn _ _
  |some p2=>
   obtain ⟨h,r2⟩:=p2
   obtain ⟨_,_,yD⟩:=cj pz kQ
   have l2:=dK kQ
   simp only
   rw [nI yD (by omega),aA]
   cases IW:cu r2 with
   |none=>
    have hn:du b=none:=by unfold du;rw [uZ];simp only;rw [kQ];simp only;rw [IW]
    simp only
    rw [lv (cV r2),aA]
    exact N7 _ (cV r2) hn _ _
   |some p3=>
    obtain ⟨w,r3⟩:=p3
    obtain ⟨_,_,Hu⟩:=cj yD IW
    have l3:=dK IW
    simp only
    rcases AO Hu (by omega) with ⟨x,r4,g1,g2⟩|⟨g1,s',t,he,g2⟩
    rotate_left
    ·have hn:du b=none:=by unfold du;rw [uZ];simp only;rw [kQ];simp only;rw [IW];simp only;rw [g1]
     rw [g2,aA]
     exact N7 _ he hn _ _
    obtain ⟨_,_,Q7⟩:=oL Hu g1
    have l4:=yv g1
    rw [g2,aA]
    simp only
    obtain ⟨⟨p,t⟩,e5,h5⟩:=FV Q7 (by omega)
    rw [e5,aA]
    cases N8:mn r4 with
    |none=>
     have hn:du b=none:=by unfold du;rw [uZ];simp only;rw [kQ];simp only;rw [IW];simp only;rw [g1];simp only;rw [N8]
     rw [N8] at h5
     simp only at h5
     simp only [h5,decide_false,Bool.not_false,if_true,aA]
     exact .mk (eV.AP c hn)
    |some p5=>
     obtain ⟨p',r5⟩:=p5
     rw [N8] at h5
     simp only at h5
     injection h5 with h5 h6
     subst h5;subst h6
     have zG:=AR Q7 N8
     have hA:du b=if r5=[] then some (v,h,w,x,p) else none:=by unfold du;rw [uZ];simp only;rw [kQ];simp only;rw [IW];simp only;rw [g1];simp only;rw [N8]
     simp only [decide_true,Bool.not_true,Bool.false_eq_true,if_false]
     have hf:dg (decide (h=1))=some (if h=1 then 1 else 0):=by unfold dg;by_cases c1:h=1<;>simp [c1]
     rw [hf,aA]
     by_cases c1:h=0∨h=1
     rotate_left
     ·rw [if_pos (by rw [Bool.not_eq_true',decide_eq_false_iff_not];intro hh;split at hh<;>omega),aA,if_pos rfl]
      by_cases c2:r5=[]
      ·rw [if_pos c2] at hA
       exact .mk (eV.AQ c hA (fun h=>absurd h.1 c1) (fun _=>rfl))
      ·rw [if_neg c2] at hA
       exact .mk (eV.AP c hA)
     rw [if_neg (by rw [Bool.not_eq_true',decide_eq_false_iff_not];intro hh;apply hh;split<;>omega)]
     by_cases c2:r5=[]
     rotate_left
     ·rw [if_neg c2] at hA
      have:0<r5.length:=List.length_pos_iff.2 c2
      rw [if_pos (by omega),aA,if_pos rfl]
      exact .mk (eV.AP c hA)
     rw [if_pos c2] at hA
     rw [if_neg (by rw [c2];simp)]
     obtain ⟨ok,e6,h6⟩:=LZ (Eb s me (v,h,w,x,p)) (by simp only [Eb];omega)
     have e7:b5 (⟨s,me,v,decide (h=1),w,x,p,⟨[]⟩⟩:af)=some ok:=e6
     rw [e7,aA,aA]
     have Hz:ok=true↔O6 s me (v,h,w,x,p):=by rw [h6];exact ⟨fun h=>⟨c1,h⟩,fun h=>h.2⟩
     cases ok with
     |true=>
      simp only [Bool.not_true,Bool.false_eq_true,if_false]
      exact .mk (eV.AQ c hA (fun _=>rfl) (fun hk=>absurd (Hz.1 rfl) hk))
     |false=>
      simp only [Bool.not_false,if_true]
      exact .mk (eV.AQ c hA (fun hk=>by have:=Hz.2 hk;cases this) (fun _=>rfl))
end Dn.S
