import Derived.Test.YtmdlghpieagfhaaGreatDnPSlot3
/-
  Slots: steps. Conditions: none.
-/
open Go Dn
set_option linter.unusedVariables false
set_option linter.unusedSimpArgs false
namespace Dn.S
theorem Vv {c:aw} {l:List al} (h:c.bF.length+l.length≤400):kD c l=some ((),⟨c.S,c.cV,c.Want,c.N,c.bF++l⟩):=by
 unfold kD
 have:Loop (iM l) (0,c.S.F,c.S.T,c.cV,c.Want,c.N,c.bF)=some (c.S.F,c.S.T,c.cV,c.Want,c.N,c.bF++l):=by
  refine bT.eq (bT.count (fun k=>((k:Int),c.S.F,c.S.T,c.cV,c.Want,c.N,c.bF++l.take k)) l.length (fun _=>True) (by simp) trivial (fun k hk _=> ?_) (fun _=> ?_))
  ·unfold iM
   simp only
   have hlen:(c.bF++l.take k).length=c.bF.length+k:=by rw [List.length_append,List.length_take];omega
   rw [if_pos (by omega),cW hk,if_pos (by omega)]
   unfold fR
   rw [if_pos ⟨rfl,rfl⟩,bl,if_pos ⟨by simp,by rw [List.length_singleton];omega⟩,bl,wrap64 (by omega) (by omega)]
   refine .mk ⟨?_,trivial⟩
   rw [List.take_add_one,List.getElem?_eq_getElem hk,List.append_assoc]
   rfl
  ·unfold iM
   simp only
   rw [if_neg (by omega),List.take_length]
   exact .mk rfl
 rw [this]
 rfl
theorem put_eq {c:aw} {i:Nat} (hi:i<c.N.length) (n:au) {l:List al} (h:c.bF.length+l.length≤400):ia c (i:Int) n l=some ((),⟨c.S,c.cV,c.Want,c.N.set i n,c.bF++l⟩):=by
 unfold ia
 rw [cW hi,Int.toNat_natCast,Vv (by exact h)]
 rfl
theorem NX (c:aw) (i:Nat) (bad b:Bool) (h:c.cV[i]? =some b):dV c (i:Int) bad=some (decide (b=bad)):=by
 obtain ⟨hi,he⟩:=List.getElem?_eq_some_iff.1 h
 unfold dV
 rw [if_pos (by omega),if_pos (by omega),cW hi,he,bl]
theorem AP {c:aw} {i j:Nat} {n:au} {m m0:al} {x:au×List al} (hb:c.cV[i]? =some false) (hn:c.N[i]? =some n) (hm:c.bF[j]? =some m) (hh:jk c.S (i:Int) n m=some x) (hp:c.bF.length+x.2.length≤400) (hl:c.N.length≤1000):
 eQ c ⟨0,(i:Int),(j:Int),m0⟩=some ⟨c.S,c.cV,c.Want,c.N.set i x.1,c.bF++x.2⟩:=by
 obtain ⟨hi,he⟩:=List.getElem?_eq_some_iff.1 hn
 obtain ⟨hj,hej⟩:=List.getElem?_eq_some_iff.1 hm
 unfold eQ
 simp only [NX c i false false hb,decide_true,Bool.not_true,Bool.false_eq_true,if_false,bl,show¬((0:Int)=3) by decide,if_true]
 rw [qx (by omega),bl,if_pos (by omega),decide_eq_true (show (j:Int)<(c.bF.length:Int) by omega)]
 simp only [bl,if_true]
 rw [cW hj,hej]
 unfold jY
 simp only
 rw [cW hi,he,hh,bl,put_eq (c:=⟨c.S,c.cV,c.Want,c.N,c.bF⟩) hi _ hp]
 rfl
theorem PE {c:aw} {i:Nat} {n:au} {w:List UInt8} {m0:al} {j:Int} {x:au×List al} (hb:c.cV[i]? =some false) (hn:c.N[i]? =some n) (hw:c.Want[i]? =some w) (hh:nX c.S (i:Int) n w=some x) (hp:c.bF.length+x.2.length≤400) (hl:c.N.length≤1000):
 eQ c ⟨2,(i:Int),j,m0⟩=some ⟨c.S,c.cV,c.Want,c.N.set i x.1,c.bF++x.2⟩:=by
 obtain ⟨hi,he⟩:=List.getElem?_eq_some_iff.1 hn
 obtain ⟨hj,hej⟩:=List.getElem?_eq_some_iff.1 hw
 unfold eQ
 simp only [NX c i false false hb,decide_true,Bool.not_true,Bool.false_eq_true,if_false,bl,show¬((2:Int)=3) by decide,show¬((2:Int)=0) by decide,show¬((2:Int)=1) by decide,if_true]
 rw [qx (by omega),bl]
 unfold mX
 simp only
 rw [cW hi,he,cW hj,hej,hh,bl,put_eq (c:=⟨c.S,c.cV,c.Want,c.N,c.bF⟩) hi _ hp]
 rfl
theorem Fu {c:aw} {i:Nat} {n:au} (hb:c.cV[i]? =some false) (hn:c.N[i]? =some n) (hd:n.L.ch=true):fF c (i:Int)=some (n.L.Value,true):=by
 obtain ⟨hi,he⟩:=List.getElem?_eq_some_iff.1 hn
 unfold fF
 rw [NX c i false false hb]
 simp only [decide_true,Bool.not_true,Bool.false_eq_true,if_false,bl]
 rw [cW hi,he,hd]
 simp only [Bool.not_true,bl,Bool.false_eq_true,if_false]
 rw [cW hi,he]
def Gh (s:af) (bad:List Bool) (want:List (List UInt8)):aw:=⟨s,bad,want,(List.range bad.length).map fun (i:Nat)=>BG s (i:Int),[]⟩
def Wy (bad:List Bool) (want:List (List UInt8)):Prop:=(∀x∈bad,x=false)∧ ∀x∈want,x.length≤6000
theorem Hq (s:af) (bad:List Bool) (want:List (List UInt8)) (hb:bad.length≤30) (hw:want.length≤30):bT (qI s bad want) fun r=>(r.2=0→cX s∧(bad.length:Int)=vl s∧want.length=bad.length∧(∀x∈want,x.length≤6000)∧r.1=Gh s bad want)∧
 (cX s→(bad.length:Int)=vl s→want.length=bad.length→Wy bad want→r.2=0):=by
 unfold qI
 rw [uF,bl]
 by_cases hs:cX s
 rotate_left
 ·simp only [hs,decide_false,Bool.not_false,if_true,bl]
  exact .mk ⟨fun h=>absurd h (by decide),fun h=>absurd h (by simp)⟩
 rw [decide_eq_true hs]
 simp only [Bool.not_true,Bool.false_eq_true,if_false,tp hs,bl]
 by_cases c1:(bad.length:Int)=3 *s.F+2 *s.T+1
 rotate_left
 ·simp only [c1,decide_false,Bool.not_false,if_true,bl]
  exact .mk ⟨fun h=>absurd h (by decide),fun _ h=>absurd h c1⟩
 by_cases c2:(want.length:Int)=(bad.length:Int)
 rotate_left
 ·have hg:(if !decide ((bad.length:Int)=3 *s.F+2 *s.T+1) then some true else some (!decide ((want.length:Int)=(bad.length:Int))):Option Bool)=some true:=by simp [c1];rw [←c1];exact c2
  rw [hg,bl,if_pos rfl]
  exact .mk ⟨fun h=>absurd h (by decide),fun _ _ h=>absurd h (by omega)⟩
 have c2':want.length=bad.length:=by omega
 have hg:(if !decide ((bad.length:Int)=3 *s.F+2 *s.T+1) then some true else some (!decide ((want.length:Int)=(bad.length:Int))):Option Bool)=some false:=by simp [c1,c2]
 rw [hg,bl,if_neg (by simp),qx (by omega),bl,qx (by omega),bl]
 have YM:=(fY s).1 hs
 refine bT.bd (P:=fun r=>(r= .inl (0,0,([]:List Bool),([]:List (List UInt8)),([]:List au),([]:List al),s.F,s.T,bad,want,(Gh s bad want).N,([]:List al))∧ ∀x∈want,x.length≤6000)∨(∃q,r= .inr q∧q.2.2.2.2.2.2=1∧ ¬Wy bad want)) ?_ ?_
 ·refine bT.loop (fun st=> ∃(k:Nat) (left:Int),k≤bad.length∧s.F-(k:Int)≤left∧left≤s.F∧((∀x∈bad,x=false)→left=s.F)∧(∀j (hj:j<want.length),j<k→want[j].length≤6000)∧st=(0,0,([]:List Bool),([]:List (List UInt8)),([]:List au),([]:List al),s.F,s.T,bad,want,(List.range k).map (fun (i:Nat)=>BG s (i:Int)),([]:List al),left,(k:Int)))
   (fun st=>bad.length-(st.2.2.2.2.2.2.2.2.2.2.2.2.2).toNat) ⟨0,s.F,Nat.zero_le _,by simp,by omega,fun _=>rfl,fun j _ hj=>by omega,rfl⟩ ?_
  rintro st ⟨k,left,hk,KX,yt,hl3,hws,rfl⟩
  unfold yL
  simp only
  by_cases du:k<bad.length
  ·have Z7:k<want.length:=by omega
   rw [if_pos (by omega),cW du]
   have adb: ∃Fv,(if bad[k] then some (IntKind.wrap .i64 (left-1)) else some left:Option Int)=some Fv∧s.F-((k+1:Nat):Int)≤Fv∧Fv≤s.F∧((∀x∈bad,x=false)→Fv=s.F):=by
    cases Uc:bad[k] with
    |true=>exact ⟨left-1,by rw [if_pos rfl,wrap64 (by omega) (by omega)],by omega,by omega,fun h=>by have:=h _ (List.getElem_mem du);rw [Uc] at this;cases this⟩
    |false=>exact ⟨left,by simp,by omega,yt,hl3⟩
   obtain ⟨Fv,e1,g1,g2,g3⟩:=adb
   rw [e1,bl,cW Z7,or_some,bl]
   by_cases c3:(6000:Int)<(want[k].length:Int)∨Fv<0
   ·rw [decide_eq_true c3,if_pos rfl]
    refine .mk (.inr ⟨_,rfl,rfl,fun h=> ?_⟩)
    have h1:=g3 h.1
    have h2:=h.2 _ (List.getElem_mem Z7)
    omega
   ·rw [decide_eq_false c3,if_neg (by simp),(PB (s:=s) (i:=(k:Int)) ⟨hs,by omega,by unfold vl;omega⟩).1,bl,if_pos (by rw [List.length_map,List.length_range,List.length_singleton];omega),wrap64 (by omega) (by omega)]
    refine .mk ⟨⟨k+1,Fv,du,g1,g2,g3,fun j hj Zk=> ?_,?_⟩,by simp only;omega⟩
    ·by_cases MJ:j=k
     ·subst MJ;omega
     ·exact hws j hj (by omega)
    ·rw [List.range_succ,List.map_append]
     rfl
  ·have:k=bad.length:=by omega
   subst this
   rw [if_neg (by omega)]
   refine .mk (.inl ⟨rfl,fun x hx=> ?_⟩)
   obtain ⟨j,hj,rfl⟩:=List.mem_iff_getElem.1 hx
   exact hws j hj (by omega)
 ·rintro r (⟨rfl,hx⟩|⟨q,rfl,hq,hno⟩)
  ·exact .mk ⟨fun _=>⟨hs,by unfold vl;omega,c2',hx,rfl⟩,fun _ _ _ _=>rfl⟩
  ·refine .mk ⟨fun h=> ?_,fun _ _ _ h=>absurd h hno⟩
   simp only at h
   rw [hq] at h
   exact absurd h (by decide)
end Dn.S
