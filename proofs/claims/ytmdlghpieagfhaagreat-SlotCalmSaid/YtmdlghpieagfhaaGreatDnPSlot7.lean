import Derived.Test.YtmdlghpieagfhaaGreatDnPSlot6
/- Slots: the first leader's proposal goes round; SlotFast. Conditions: none. -/
set_option linter.unusedVariables false
set_option linter.unusedSimpArgs false
open List renaming getElem?_eq_getElem→cV,getElem_mem→sh,getElem?_set_self→AI,mem_append→AT,mem_singleton→BY,length_append→IT,length_take→No,length_cons→OF,take_length→aau,length_map→aaJ,length_set→aaK
open Go Dn
namespace Dn.S
structure ajo (s:ae) (bad:List Bool) (want:List (List UInt8)) (c:aj):Prop where
 S:c.S=s
 bY:c.bY=bad
 Want:c.Want=want
 len:c.N.length=bad.length
structure Ins (bad:List Bool) (ins:List Nat):Prop where
 nodup:ins.Nodup
 L2: ∀b∈ins,bad[b]? =some false
 E4:bad.length<=30
 len:ins.length<=30
theorem Ins.lt {bad:List Bool}{ins:List Nat}(h:Ins bad ins): ∀b∈ins,b<bad.length:=λb hb=>(List.getElem?_eq_some_iff.1 (h.L2 b hb)).1
def base (w:List UInt8)(ins:List Nat):List ai:=mA 0 0 w []::ins.map λb=>pq (vt w b)
structure P2 (s:ae) (bad:List Bool) (want:List (List UInt8)) (w:List UInt8) (ins:List Nat) (c:aj) (j:Nat):Prop where
 b:ajo s bad want c
 lI:c.aC=base w (ins.take j)
 He: ∀a∈ins.take j,∃n,c.N[a]? =some n/\Hc s a w n
 fresh: ∀a,a<bad.length->a∉ins.take j-> ∃n,c.N[a]? =some n/\NA s a n
theorem Sa {L:List Nat}(h:L.Nodup){j:Nat}(hj:j<L.length):L[j]∉L.take j:=by intro hm;obtain ⟨i,hi,he⟩:=List.mem_iff_getElem.1 hm;rw [List.getElem_take] at he;rw [No] at hi;exact (List.pairwise_iff_getElem.1 h) i j (by omega) hj (by omega) he
theorem EV {L:List ao}{i j:Nat}{x:ao}(h:i≠j):(L.set i x)[j]? =L[j]? :=List.getElem?_set_ne h
theorem acD {s:ae}{bad:List Bool}{want:List (List UInt8)}{w:List UInt8}{ins:List Nat}{c:aj}{j:Nat}(hi:Ins bad ins)(hw:w.length<=6000)(h:P2 s bad want w ins c j)(hj:j<ins.length)(m0:ai): ∃c',eB c ⟨0,(ins[j]:Int),0,m0⟩=some c'/\P2 s bad want w ins c' (j+1):=by
 have cJ:=hi.lt _ (sh hj);have hnt:=Sa hi.nodup hj;have hil:=hi.len;obtain ⟨n,hn,hf⟩:=h.fresh _ cJ hnt;obtain ⟨n',e1,hv⟩:=UL hf hw;have hp:c.aC.length=j+1:=by rw [h.lI];unfold base;rw [OF,aaJ,No];omega
 have e2:=ES (c:=c) (i:=ins[j]) (j:=0) (m0:=m0) (by rw [h.b.bY];exact hi.L2 _ (sh hj)) hn (m:=mA 0 0 w []) (by rw [h.lI];rfl) (by rw [h.b.S];exact e1) (by simp only [List.length_singleton];omega) (by rw [h.b.len];have:=hi.E4;omega);have Fo:ins[j]<c.N.length:=by rw [h.b.len];exact cJ
 have HM:ins.take (j+1)=ins.take j++[ins[j]]:=by rw [List.take_add_one,cV hj];rfl
 refine ⟨_,e2,⟨⟨h.b.S,h.b.bY,h.b.Want,by simp only [aaK];exact h.b.len⟩,?_,λa ha=> ?_,λa ha hna=> ?_⟩⟩
 ·simp only;rw [h.lI,HM];unfold base;rw [List.map_append];rfl
 ·simp only;rw [HM] at ha;rcases AT.1 ha with ha|ha
  ·have di:ins[j]≠a:=λhe=>hnt (he▸ha);rw [EV di];exact h.He a ha
  ·rw [BY.1 ha];exact ⟨n',by rw [AI Fo],hv⟩
 ·simp only;rw [HM] at hna;have di:ins[j]≠a:=λhe=>hna (AT.2 (.inr (by rw [<-he];exact BY.2 rfl)));rw [EV di];exact h.fresh a ha (λhm=>hna (AT.2 (.inl hm)))
def agS (w:List UInt8)(n:ao):Prop:=n.L.bw=true/\n.L.Value=w/\n.L.aR.L=[]
structure P3 (s:ae) (bad:List Bool) (want:List (List UInt8)) (w:List UInt8) (ins:List Nat) (c:aj) (dn:List Nat) (bd:Nat):Prop where
 b:ajo s bad want c
 lI: ∃ext,c.aC=base w ins++ext/\ext.length<=bd
 done: ∀a∈ins,a∈dn-> ∃n,c.N[a]? =some n/\agS w n
 He: ∀a∈ins,a∉dn-> ∃n,c.N[a]? =some n/\Hc s a w n
theorem P2.p3 {s:ae}{bad:List Bool}{want:List (List UInt8)}{w:List UInt8}{ins:List Nat}{c:aj}(h:P2 s bad want w ins c ins.length):P3 s bad want w ins c [] 0:=⟨h.b,⟨[],by rw [h.lI,aau,List.append_nil],by simp⟩,λa _ ha=>(by cases ha),λa ha _=>h.He a (by rw [aau];exact ha)⟩
structure PI (s:ae) (bad:List Bool) (want:List (List UInt8)) (w:List UInt8) (ins:List Nat) (c:aj) (dn:List Nat) (a:Nat) (seen:List Nat) (bd:Nat):Prop where
 b:ajo s bad want c
 lI: ∃ext,c.aC=base w ins++ext/\ext.length<=bd
 done: ∀a'∈ins,a'∈dn-> ∃n,c.N[a']? =some n/\agS w n
 He: ∀a'∈ins,a'∉dn->a'≠a-> ∃n,c.N[a']? =some n/\Hc s a' w n
 self: ∃n,c.N[a]? =some n/\BW s a w n seen
theorem afn {s:ae}{bad:List Bool}{want:List (List UInt8)}{w:List UInt8}{ins:List Nat}{c:aj}{dn:List Nat}{a:Nat}{seen:List Nat}{bd q:Nat}(hi:Ins bad ins)(hn:(bad.length:Int)=kz s)(h:PI s bad want w ins c dn a seen bd)(ha:a∈ins)(S0:a∉dn)(hq:q<ins.length)(hs:ins[q]∉seen)(hb:bd<=300)(m0:ai): ∃c',eB c ⟨0,(a:Int),((q+1:Nat):Int),m0⟩=some c'/\PI s bad want w ins c' dn a (seen++[ins[q]]) (bd+2):=by
 have hil:=hi.len;have cJ:=hi.lt _ (sh hq);have hla:=hi.lt _ ha;obtain ⟨n,en,hh⟩:=h.self;obtain ⟨x,e1,e2,e3⟩:=R9 hh (b:=ins[q]) (by rw [<-hn];omega) hs;obtain ⟨ext,ep,hl⟩:=h.lI;have It:(base w ins).length=ins.length+1:=by unfold base;rw [OF,aaJ]
 have hm:c.aC[q+1]? =some (pq (vt w ins[q])):=by rw [ep,List.getElem?_append_left (by omega)];unfold base;rw [List.getElem?_cons_succ,List.getElem?_map,cV hq];rfl
 have Lj:c.aC.length=ins.length+1+ext.length:=by rw [ep,IT,It]
 have e4:=ES (c:=c) (i:=a) (j:=q+1) (m0:=m0) (by rw [h.b.bY];exact hi.L2 _ ha) en hm (by rw [h.b.S];exact e1) (by omega) (by rw [h.b.len];have:=hi.E4;omega);have Fo:a<c.N.length:=by rw [h.b.len];exact hla
 refine ⟨_,e4,⟨⟨h.b.S,h.b.bY,h.b.Want,by simp only [aaK];exact h.b.len⟩,⟨ext++x.2,by simp only;rw [ep,List.append_assoc],by rw [IT];omega⟩,λa' h1 h2=> ?_,λa' h1 h2 h3=> ?_,⟨x.1,by simp only;rw [AI Fo],e3⟩⟩⟩
 ·have di:a≠a':=λhe=>S0 (he▸h2);simp only;rw [EV di];exact h.done a' h1 h2
 ·simp only;rw [EV (λhe=>h3 he.symm)];exact h.He a' h1 h2 h3
abbrev S8 (c:aj)(k:Int):=(c.S.F,c.S.T,c.bY,c.Want,c.N,c.aC,k)
abbrev S6 (c:aj):=(c.S.F,c.S.T,c.bY,c.Want,c.N,c.aC)
theorem eS (c:aj):(⟨(⟨c.S.F,c.S.T⟩:ae),c.bY,c.Want,c.N,c.aC⟩:aj)=c:=rfl
end Dn.S
