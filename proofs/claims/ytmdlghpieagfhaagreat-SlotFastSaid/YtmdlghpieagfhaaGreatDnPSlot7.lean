import Derived.Test.YtmdlghpieagfhaaGreatDnPSlot6
/-
  Slots: the first leader's proposal goes round; SlotFast. Conditions: none.
-/
open Go Dn
set_option linter.unusedVariables false
set_option linter.unusedSimpArgs false
namespace Dn.S
structure YR (s:af) (bad:List Bool) (want:List (List UInt8)) (c:aw):Prop where
 S:c.S=s
 cV:c.cV=bad
 Want:c.Want=want
 len:c.N.length=bad.length
structure TG (bad:List Bool) (ins:List Nat):Prop where
 nodup:ins.Nodup
 CR: ∀b∈ins,bad[b]? =some false
 ZF:bad.length≤30
 len:ins.length≤30
theorem TG.lt {bad:List Bool} {ins:List Nat} (h:TG bad ins): ∀b∈ins,b<bad.length:=fun b hb=>(List.getElem?_eq_some_iff.1 (h.CR b hb)).1
def base (w:List UInt8) (ins:List Nat):List al:=Ft 0 0 w []::ins.map fun b=>II (vt w b)
structure P2 (s:af) (bad:List Bool) (want:List (List UInt8)) (w:List UInt8) (ins:List Nat) (c:aw) (j:Nat):Prop where
 b:YR s bad want c
 Fw:c.bF=base w (ins.take j)
 wO: ∀a∈ins.take j,∃n,c.N[a]? =some n∧Cq s a w n
 fresh: ∀a,a<bad.length→a∉ins.take j→ ∃n,c.N[a]? =some n∧Hr s a n
theorem AQ {L:List Nat} (h:L.Nodup) {j:Nat} (hj:j<L.length):L[j]∉L.take j:=by
 intro hm
 obtain ⟨i,hi,he⟩:=List.mem_iff_getElem.1 hm
 rw [List.getElem_take] at he
 rw [List.length_take] at hi
 exact (List.pairwise_iff_getElem.1 h) i j (by omega) hj (by omega) he
theorem AR {L:List au} {i j:Nat} {x:au} (h:i≠j):(L.set i x)[j]? =L[j]? :=List.getElem?_set_ne h
theorem KS {s:af} {bad:List Bool} {want:List (List UInt8)} {w:List UInt8} {ins:List Nat} {c:aw} {j:Nat} (hi:TG bad ins) (hw:w.length≤6000) (h:P2 s bad want w ins c j) (hj:j<ins.length) (m0:al):
 ∃c',eQ c ⟨0,(ins[j]:Int),0,m0⟩=some c'∧P2 s bad want w ins c' (j+1):=by
 have du:=hi.lt _ (List.getElem_mem hj)
 have hnt:=AQ hi.nodup hj
 have hil:=hi.len
 obtain ⟨n,hn,hf⟩:=h.fresh _ du hnt
 obtain ⟨n',e1,hv⟩:=MM hf hw
 have hp:c.bF.length=j+1:=by rw [h.Fw];unfold base;rw [List.length_cons,List.length_map,List.length_take];omega
 have e2:=AP (c:=c) (i:=ins[j]) (j:=0) (m0:=m0) (by rw [h.b.cV];exact hi.CR _ (List.getElem_mem hj)) hn (m:=Ft 0 0 w []) (by rw [h.Fw];rfl) (by rw [h.b.S];exact e1) (by simp only [List.length_singleton];omega) (by rw [h.b.len];have:=hi.ZF;omega)
 have CV:ins[j]<c.N.length:=by rw [h.b.len];exact du
 have IQ:ins.take (j+1)=ins.take j++[ins[j]]:=by rw [List.take_add_one,List.getElem?_eq_getElem hj];rfl
 refine ⟨_,e2,⟨⟨h.b.S,h.b.cV,h.b.Want,by simp only [List.length_set];exact h.b.len⟩,?_,fun a ha=> ?_,fun a ha Y2=> ?_⟩⟩
 ·simp only
  rw [h.Fw,IQ]
  unfold base
  rw [List.map_append]
  rfl
 ·simp only
  rw [IQ] at ha
  rcases List.mem_append.1 ha with ha|ha
  ·have dt:ins[j]≠a:=fun he=>hnt (he▸ha)
   rw [AR dt]
   exact h.wO a ha
  ·rw [List.mem_singleton.1 ha]
   exact ⟨n',by rw [List.getElem?_set_self CV],hv⟩
 ·simp only
  rw [IQ] at Y2
  have dt:ins[j]≠a:=fun he=>Y2 (List.mem_append.2 (.inr (by rw [←he];exact List.mem_singleton.2 rfl)))
  rw [AR dt]
  exact h.fresh a ha (fun hm=>Y2 (List.mem_append.2 (.inl hm)))
def WB (w:List UInt8) (n:au):Prop:=n.L.ch=true∧n.L.Value=w∧n.L.bA.L=[]
structure P3 (s:af) (bad:List Bool) (want:List (List UInt8)) (w:List UInt8) (ins:List Nat) (c:aw) (dn:List Nat) (bd:Nat):Prop where
 b:YR s bad want c
 Fw: ∃ext,c.bF=base w ins++ext∧ext.length≤bd
 done: ∀a∈ins,a∈dn→ ∃n,c.N[a]? =some n∧WB w n
 wO: ∀a∈ins,a∉dn→ ∃n,c.N[a]? =some n∧Cq s a w n
theorem P2.p3 {s:af} {bad:List Bool} {want:List (List UInt8)} {w:List UInt8} {ins:List Nat} {c:aw} (h:P2 s bad want w ins c ins.length):P3 s bad want w ins c [] 0:=
 ⟨h.b,⟨[],by rw [h.Fw,List.take_length,List.append_nil],by simp⟩,fun a _ ha=>(by cases ha),fun a ha _=>h.wO a (by rw [List.take_length];exact ha)⟩
structure PI (s:af) (bad:List Bool) (want:List (List UInt8)) (w:List UInt8) (ins:List Nat) (c:aw) (dn:List Nat) (a:Nat) (seen:List Nat) (bd:Nat):Prop where
 b:YR s bad want c
 Fw: ∃ext,c.bF=base w ins++ext∧ext.length≤bd
 done: ∀a'∈ins,a'∈dn→ ∃n,c.N[a']? =some n∧WB w n
 wO: ∀a'∈ins,a'∉dn→a'≠a→ ∃n,c.N[a']? =some n∧Cq s a' w n
 self: ∃n,c.N[a]? =some n∧xt s a w n seen
theorem NZ {s:af} {bad:List Bool} {want:List (List UInt8)} {w:List UInt8} {ins:List Nat} {c:aw} {dn:List Nat} {a:Nat} {seen:List Nat} {bd q:Nat} (hi:TG bad ins) (hn:(bad.length:Int)=vl s) (h:PI s bad want w ins c dn a seen bd) (ha:a∈ins) (Oo:a∉dn) (hq:q<ins.length) (hs:ins[q]∉seen) (hb:bd≤300) (m0:al):
 ∃c',eQ c ⟨0,(a:Int),((q+1:Nat):Int),m0⟩=some c'∧PI s bad want w ins c' dn a (seen++[ins[q]]) (bd+2):=by
 have hil:=hi.len
 have du:=hi.lt _ (List.getElem_mem hq)
 have hla:=hi.lt _ ha
 obtain ⟨n,en,hh⟩:=h.self
 obtain ⟨x,e1,e2,e3⟩:=KR hh (b:=ins[q]) (by rw [←hn];omega) hs
 obtain ⟨ext,ep,hl⟩:=h.Fw
 have HL:(base w ins).length=ins.length+1:=by unfold base;rw [List.length_cons,List.length_map]
 have hm:c.bF[q+1]? =some (II (vt w ins[q])):=by
  rw [ep,List.getElem?_append_left (by omega)]
  unfold base
  rw [List.getElem?_cons_succ,List.getElem?_map,List.getElem?_eq_getElem hq]
  rfl
 have M3:c.bF.length=ins.length+1+ext.length:=by rw [ep,List.length_append,HL]
 have e4:=AP (c:=c) (i:=a) (j:=q+1) (m0:=m0) (by rw [h.b.cV];exact hi.CR _ ha) en hm (by rw [h.b.S];exact e1) (by omega) (by rw [h.b.len];have:=hi.ZF;omega)
 have CV:a<c.N.length:=by rw [h.b.len];exact hla
 refine ⟨_,e4,⟨⟨h.b.S,h.b.cV,h.b.Want,by simp only [List.length_set];exact h.b.len⟩,⟨ext++x.2,by simp only;rw [ep,List.append_assoc],by rw [List.length_append];omega⟩,fun a' h1 h2=> ?_,fun a' h1 h2 h3=> ?_,⟨x.1,by simp only;rw [List.getElem?_set_self CV],e3⟩⟩⟩
 ·have dt:a≠a':=fun he=>Oo (he▸h2)
  simp only
  rw [AR dt]
  exact h.done a' h1 h2
 ·simp only
  rw [AR (fun he=>h3 he.symm)]
  exact h.wO a' h1 h2 h3
abbrev S8 (c:aw) (k:Int):=(c.S.F,c.S.T,c.cV,c.Want,c.N,c.bF,k)
abbrev S6 (c:aw):=(c.S.F,c.S.T,c.cV,c.Want,c.N,c.bF)
theorem eS (c:aw):(⟨(⟨c.S.F,c.S.T⟩:af),c.cV,c.Want,c.N,c.bF⟩:aw)=c:=rfl
def BH (YS:Bool) (ins:List Nat):List Nat:=if YS=true then ins.reverse else ins
theorem KT (t:Bool) (ins:List Nat):(BH t ins).length=ins.length:=by unfold BH;split<;>simp
theorem MO {t:Bool} {ins:List Nat} (h:ins.Nodup):(BH t ins).Nodup:=by
 unfold BH
 split
 ·exact List.pairwise_reverse.2 (h.imp fun h e=>h e.symm)
 ·exact h
def toI (ins:List Nat):List Int:=ins.map fun (b:Nat)=>(b:Int)
theorem YT {s:af} {bad:List Bool} {want:List (List UInt8)} {w:List UInt8} {ins:List Nat} {w2:List Int} (hi:TG bad ins) (hw:w.length≤6000) (PP:w2++[0]=toI ins) {c:aw} (h:P2 s bad want w ins c 0):
 bT (Loop (mZ w2) (S8 c 0)) fun r=> ∃c',r=S6 c'∧P2 s bad want w ins c' ins.length:=by
 have hil:=hi.len
 refine bT.loop (fun st=> ∃(j:Nat) (c:aw),j≤ins.length∧st=S8 c (j:Int)∧P2 s bad want w ins c j) (fun st=>ins.length-(st.2.2.2.2.2.2).toNat) ⟨0,c,Nat.zero_le _,rfl,h⟩ ?_
 rintro st ⟨j,c,hj,rfl,hc⟩
 unfold mZ S8
 simp only [eS]
 rw [PP]
 have hl:(toI ins).length=ins.length:=by unfold toI;rw [List.length_map]
 by_cases du:j<ins.length
 ·obtain ⟨c',e,PG⟩:=KS hi hw hc du (⟨0,0,0,([]:List UInt8),([]:List ab),(⟨0,0,([]:List UInt8)⟩:aa),([]:List aa),(⟨0,0,false,0,([]:List UInt8),([]:List aa)⟩:ab)⟩:al)
  rw [if_pos (by omega),cW (by omega),show (toI ins)[j]'(by omega)=(ins[j]:Int) by unfold toI;rw [List.getElem_map],e,bl,wrap64 (by omega) (by omega)]
  exact .mk ⟨⟨j+1,c',du,rfl,PG⟩,by simp only;omega⟩
 ·have:j=ins.length:=by omega
  subst this
  rw [if_neg (by omega)]
  exact .mk ⟨c,rfl,hc⟩
theorem YU {s:af} {bad:List Bool} {want:List (List UInt8)} {w:List UInt8} {ins:List Nat} {w2:List Int} {t:Bool} (hi:TG bad ins) (hn:(bad.length:Int)=vl s) (PP:w2++[0]=toI ins) {c0 c:aw} {dn:List Nat} {i b0:Nat} (hil:i<ins.length) (Oo:ins[i]∉dn) (hb:b0+2 *ins.length≤300)
 (h:PI s bad want w ins c dn ins[i] [] b0):bT (Loop (kE t w2 (S8 c0 (i:Int))) (S8 c 1)) fun r=> ∃c',r= .inl (S6 c')∧PI s bad want w ins c' dn ins[i] (BH t ins) (b0+2 *ins.length):=by
 have am4:=hi.len
 have hol:=KT t ins
 have hl:(toI ins).length=ins.length:=by unfold toI;rw [List.length_map]
 refine bT.loop (fun st=> ∃(k:Nat) (c:aw),k≤ins.length∧st=S8 c ((k+1:Nat):Int)∧PI s bad want w ins c dn ins[i] ((BH t ins).take k) (b0+2 *k)) (fun st=>ins.length+1-(st.2.2.2.2.2.2).toNat) ⟨0,c,Nat.zero_le _,rfl,by simpa using h⟩ ?_
 rintro st ⟨k,c,hk,rfl,hc⟩
 unfold kE S8
 simp only [eS]
 rw [PP]
 by_cases du:k<ins.length
 ·have hko:k<(BH t ins).length:=by omega
  have hq: ∃q,∃hq:q<ins.length,(if t then some (IntKind.wrap .i64 ((IntKind.wrap .i64 (((toI ins).length:Int)+1))-((k+1:Nat):Int))) else some ((k+1:Nat):Int):Option Int)=some ((q+1:Nat):Int)∧ins[q]=(BH t ins)[k]:=by
   cases t with
   |true=>
    refine ⟨ins.length-1-k,by omega,?_,?_⟩
    ·rw [if_pos rfl,hl,wrap64 (x:=(ins.length:Int)+1) (by omega) (by omega),wrap64 (by omega) (by omega)]
     congr 1;omega
    ·simp only [BH,if_true,List.getElem_reverse]
   |false=>
    exact ⟨k,du,by simp,by simp [BH]⟩
  obtain ⟨q,hqi,eq,eo⟩:=hq
  have OA:ins[q]∉(BH t ins).take k:=by rw [eo];exact AQ (MO hi.nodup) hko
  obtain ⟨c',e,PG⟩:=NZ hi hn hc (List.getElem_mem hil) Oo hqi OA (by omega) (⟨0,0,0,([]:List UInt8),([]:List ab),(⟨0,0,([]:List UInt8)⟩:aa),([]:List aa),(⟨0,0,false,0,([]:List UInt8),([]:List aa)⟩:ab)⟩:al)
  obtain ⟨ext,ep,_⟩:=hc.Fw
  have HL:(base w ins).length=ins.length+1:=by unfold base;rw [List.length_cons,List.length_map]
  have M3:c.bF.length=ins.length+1+ext.length:=by rw [ep,List.length_append,HL]
  have hm: ∃hh:q+1<c.bF.length,c.bF[q+1].Kind=2:=by
   refine ⟨by omega,?_⟩
   have:c.bF[q+1]? =some (II (vt w ins[q])):=by
    rw [ep,List.getElem?_append_left (by omega)]
    unfold base
    rw [List.getElem?_cons_succ,List.getElem?_map,List.getElem?_eq_getElem hqi]
    rfl
   rw [List.getElem?_eq_getElem (by omega)] at this
   injection this with this
   rw [this];rfl
  obtain ⟨hql,IU⟩:=hm
  rw [if_pos (by omega),eq,bl,if_neg (by omega),cW hql,IU]
  simp only [decide_true,Bool.not_true,bl,Bool.false_eq_true,if_false]
  rw [cW (by omega),show (toI ins)[i]'(by omega)=(ins[i]:Int) by unfold toI;rw [List.getElem_map],e,bl,wrap64 (by omega) (by omega)]
  refine .mk ⟨⟨k+1,c',du,rfl,?_⟩,by simp only;omega⟩
  rw [List.take_add_one,List.getElem?_eq_getElem hko,←eo]
  exact PG
 ·have:k=ins.length:=by omega
  subst this
  rw [if_neg (by omega)]
  refine .mk ⟨c,rfl,?_⟩
  rw [show (BH t ins).take ins.length=BH t ins by rw [←hol,List.take_length]] at hc
  exact hc
theorem YV {s:af} {bad:List Bool} {want:List (List UInt8)} {w:List UInt8} {ins:List Nat} {w2:List Int} {t:Bool} (hi:TG bad ins) (hn:(bad.length:Int)=vl s) (PP:w2++[0]=toI ins) (adi:3 *s.F+s.T+1≤(ins.length:Int)) (TD:ins.length≤11) {c:aw} (h:P3 s bad want w ins c [] 0):
 bT (Loop (iN t w2) (S8 c 0)) fun r=> ∃c',r= .inl (S6 c')∧ ∃b,P3 s bad want w ins c' ins b:=by
 have hl:(toI ins).length=ins.length:=by unfold toI;rw [List.length_map]
 refine bT.loop (fun st=> ∃(i:Nat) (c:aw),i≤ins.length∧st=S8 c (i:Int)∧P3 s bad want w ins c (ins.take i) (22 *i)) (fun st=>ins.length-(st.2.2.2.2.2.2).toNat) ⟨0,c,Nat.zero_le _,rfl,by simpa using h⟩ ?_
 rintro st ⟨i,c,hii,rfl,hc⟩
 by_cases du:i<ins.length
 ·have hnt:=AQ hi.nodup du
  obtain ⟨n,en,hv⟩:=hc.wO _ (List.getElem_mem du) hnt
  have hpi:PI s bad want w ins c (ins.take i) ins[i] [] (22 *i):=⟨hc.b,hc.Fw,hc.done,fun a' h1 h2 _=>hc.wO a' h1 h2,⟨n,en,hv.NY⟩⟩
  obtain ⟨r,er,c',rfl,PG⟩:=YU (t:=t) hi hn PP (c0:=c) du hnt (by omega) hpi
  have LY:iN t w2 (S8 c (i:Int))=some (.inl (S8 c' ((i+1:Nat):Int))):=by
   unfold iN
   rw [PP]
   rw [if_pos (by simp only [S8];omega)]
   have er':Loop (kE t w2 (S8 c (i:Int))) ((S8 c (i:Int)).1,(S8 c (i:Int)).2.1,(S8 c (i:Int)).2.2.1,(S8 c (i:Int)).2.2.2.1,(S8 c (i:Int)).2.2.2.2.1,(S8 c (i:Int)).2.2.2.2.2.1,1)=some (.inl (S6 c')):=er
   rw [er',bl]
   simp only [S6,S8]
   rw [wrap64 (by omega) (by omega)]
   rfl
  rw [LY]
  obtain ⟨n',en',hh'⟩:=PG.self
  have Cx:=hh'.end_ (by rw [KT];exact adi)
  refine .mk ⟨⟨i+1,c',du,rfl,⟨PG.b,?_,fun a h1 h2=> ?_,fun a h1 h2=> ?_⟩⟩,by simp only [S8];omega⟩
  ·obtain ⟨ext,e1,e2⟩:=PG.Fw
   exact ⟨ext,e1,by omega⟩
  ·rw [List.take_add_one,List.getElem?_eq_getElem du] at h2
   rcases List.mem_append.1 h2 with h2|h2
   ·exact PG.done a h1 h2
   ·have:a=ins[i]:=by simpa using h2
    subst this
    exact ⟨n',en',Cx⟩
  ·rw [List.take_add_one,List.getElem?_eq_getElem du] at h2
   exact PG.wO a h1 (fun h=>h2 (List.mem_append.2 (.inl h))) (fun h=>h2 (List.mem_append.2 (.inr (by simp [h]))))
 ·have:i=ins.length:=by omega
  subst this
  unfold iN
  rw [PP]
  rw [if_neg (by simp only [S8];omega)]
  refine .mk ⟨c,rfl,22 *ins.length,?_⟩
  rw [List.take_length] at hc
  exact hc
theorem YW {s:af} {a:gz} {w:List UInt8} {ins:List Nat} {w2:List Int} (hi:TG a.cV ins) (PP:w2++[0]=toI ins) (hw0:a.Want[0]? =some w) {c:aw} {b:Nat} (h:P3 s a.cV a.Want w ins c ins b):Loop (kF a w2 (S6 c)) 0=some (.inl ()):=by
 have hil:=hi.len
 have hl:(toI ins).length=ins.length:=by unfold toI;rw [List.length_map]
 refine R6 (fun k=>(k:Int)) ins.length _ (fun k hk=> ?_) ?_
 ·obtain ⟨n,en,d1,d2,d3⟩:=h.done _ (List.getElem_mem hk) (List.getElem_mem hk)
  obtain ⟨hn,he⟩:=List.getElem?_eq_some_iff.1 en
  obtain ⟨h0,hw⟩:=List.getElem?_eq_some_iff.1 hw0
  have e0:(toI ins)[k]'(by omega)=(ins[k]:Int):=by unfold toI;rw [List.getElem_map]
  unfold kF
  rw [PP,if_pos (by omega),cW (by omega),e0]
  simp only [S6,eS]
  rw [Fu (by rw [h.b.cV];exact hi.CR _ (List.getElem_mem hk)) en d1,bl]
  simp only [Bool.not_true,Bool.false_eq_true,if_false]
  rw [IE h0,hw,d2]
  simp only [decide_true,Bool.not_true,Bool.false_eq_true,if_false]
  rw [cW (by omega),e0,cW hn,he,d3]
  simp only [List.length_nil,Int.natCast_zero,decide_true,Bool.not_true,bl,Bool.false_eq_true,if_false]
  rw [wrap64 (by omega) (by omega)]
  congr 2
 ·unfold kF
  rw [PP,if_neg (by omega)]
end Dn.S
