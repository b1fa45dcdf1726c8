import Derived.Test.YtmdlghpieagfhaaGreatDnPSlot6
/-
  Slots: the first leader's proposal goes round; SlotFast. Conditions: none.
-/
set_option linter.unusedVariables false
set_option linter.unusedSimpArgs false
open List renaming getElem?_eq_getElem→cM,getElem_mem→sh,getElem?_set_self→AI,mem_append→AT,mem_singleton→BY,length_append→IT,length_take→No,length_cons→OF,take_length→aaf,length_map→aaT,length_set→aaU
open Go Dn
namespace Dn.S
structure aiD (s:ae) (bad:List Bool) (want:List (List UInt8)) (c:aj):Prop where
 S:c.S=s
 bY:c.bY=bad
 Want:c.Want=want
 len:c.N.length=bad.length
structure Ins (bad:List Bool) (ins:List Nat):Prop where
 nodup:ins.Nodup
 Lw: ∀b∈ins,bad[b]? =some false
 Hs:bad.length<=30
 len:ins.length<=30
theorem Ins.lt {bad:List Bool}{ins:List Nat}(h:Ins bad ins): ∀b∈ins,b<bad.length:=λb hb=>(List.getElem?_eq_some_iff.1 (h.Lw b hb)).1
def base (w:List UInt8)(ins:List Nat):List al:=sD 0 0 w []::ins.map λb=>sC (vt w b)
structure P2 (s:ae) (bad:List Bool) (want:List (List UInt8)) (w:List UInt8) (ins:List Nat) (c:aj) (j:Nat):Prop where
 b:aiD s bad want c
 r9:c.aV=base w (ins.take j)
 GJ: ∀a∈ins.take j,∃n,c.N[a]? =some n/\GH s a w n
 fresh: ∀a,a<bad.length->a∉ins.take j-> ∃n,c.N[a]? =some n/\M6 s a n
theorem RG {L:List Nat}(h:L.Nodup){j:Nat}(hj:j<L.length):L[j]∉L.take j:=by intro hm;obtain ⟨i,hi,he⟩:=List.mem_iff_getElem.1 hm;rw [List.getElem_take] at he;rw [No] at hi;exact (List.pairwise_iff_getElem.1 h) i j (by omega) hj (by omega) he
theorem Ew {L:List ar}{i j:Nat}{x:ar}(h:i≠j):(L.set i x)[j]? =L[j]? :=List.getElem?_set_ne h
theorem abW {s:ae}{bad:List Bool}{want:List (List UInt8)}{w:List UInt8}{ins:List Nat}{c:aj}{j:Nat}(hi:Ins bad ins)(hw:w.length<=6000)(h:P2 s bad want w ins c j)(hj:j<ins.length)(m0:al): ∃c',eF c ⟨0,(ins[j]:Int),0,m0⟩=some c'/\P2 s bad want w ins c' (j+1):=by
 have cT:=hi.lt _ (sh hj);have hnt:=RG hi.nodup hj;have hil:=hi.len;obtain ⟨n,hn,hf⟩:=h.fresh _ cT hnt;obtain ⟨n',e1,hv⟩:=Ua hf hw;have hp:c.aV.length=j+1:=by rw [h.r9];unfold base;rw [OF,aaT,No];omega
 have e2:=Eu (c:=c) (i:=ins[j]) (j:=0) (m0:=m0) (by rw [h.b.bY];exact hi.Lw _ (sh hj)) hn (m:=sD 0 0 w []) (by rw [h.r9];rfl) (by rw [h.b.S];exact e1) (by simp only [List.length_singleton];omega) (by rw [h.b.len];have:=hi.Hs;omega);have Hl:ins[j]<c.N.length:=by rw [h.b.len];exact cT
 have Hk:ins.take (j+1)=ins.take j++[ins[j]]:=by rw [List.take_add_one,cM hj];rfl
 refine ⟨_,e2,⟨⟨h.b.S,h.b.bY,h.b.Want,by simp only [aaU];exact h.b.len⟩,?_,λa ha=> ?_,λa ha hna=> ?_⟩⟩
 ·simp only;rw [h.r9,Hk];unfold base;rw [List.map_append];rfl
 ·simp only;rw [Hk] at ha;rcases AT.1 ha with ha|ha
  ·have db:ins[j]≠a:=λhe=>hnt (he▸ha);rw [Ew db];exact h.GJ a ha
  ·rw [BY.1 ha];exact ⟨n',by rw [AI Hl],hv⟩
 ·simp only;rw [Hk] at hna;have db:ins[j]≠a:=λhe=>hna (AT.2 (.inr (by rw [<-he];exact BY.2 rfl)));rw [Ew db];exact h.fresh a ha (λhm=>hna (AT.2 (.inl hm)))
def af6 (w:List UInt8)(n:ar):Prop:=n.L.bQ=true/\n.L.Value=w/\n.L.bn.L=[]
structure P3 (s:ae) (bad:List Bool) (want:List (List UInt8)) (w:List UInt8) (ins:List Nat) (c:aj) (dn:List Nat) (bd:Nat):Prop where
 b:aiD s bad want c
 r9: ∃ext,c.aV=base w ins++ext/\ext.length<=bd
 done: ∀a∈ins,a∈dn-> ∃n,c.N[a]? =some n/\af6 w n
 GJ: ∀a∈ins,a∉dn-> ∃n,c.N[a]? =some n/\GH s a w n
theorem P2.p3 {s:ae}{bad:List Bool}{want:List (List UInt8)}{w:List UInt8}{ins:List Nat}{c:aj}(h:P2 s bad want w ins c ins.length):P3 s bad want w ins c [] 0:=⟨h.b,⟨[],by rw [h.r9,aaf,List.append_nil],by simp⟩,λa _ ha=>(by cases ha),λa ha _=>h.GJ a (by rw [aaf];exact ha)⟩
structure PI (s:ae) (bad:List Bool) (want:List (List UInt8)) (w:List UInt8) (ins:List Nat) (c:aj) (dn:List Nat) (a:Nat) (seen:List Nat) (bd:Nat):Prop where
 b:aiD s bad want c
 r9: ∃ext,c.aV=base w ins++ext/\ext.length<=bd
 done: ∀a'∈ins,a'∈dn-> ∃n,c.N[a']? =some n/\af6 w n
 GJ: ∀a'∈ins,a'∉dn->a'≠a-> ∃n,c.N[a']? =some n/\GH s a' w n
 self: ∃n,c.N[a]? =some n/\Bs s a w n seen
theorem aeL {s:ae}{bad:List Bool}{want:List (List UInt8)}{w:List UInt8}{ins:List Nat}{c:aj}{dn:List Nat}{a:Nat}{seen:List Nat}{bd q:Nat}(hi:Ins bad ins)(hn:(bad.length:Int)=mS s)(h:PI s bad want w ins c dn a seen bd)(ha:a∈ins)(EU:a∉dn)(hq:q<ins.length)(hs:ins[q]∉seen)(hb:bd<=300)(m0:al): ∃c',eF c ⟨0,(a:Int),((q+1:Nat):Int),m0⟩=some c'/\PI s bad want w ins c' dn a (seen++[ins[q]]) (bd+2):=by
 have hil:=hi.len;have cT:=hi.lt _ (sh hq);have hla:=hi.lt _ ha;obtain ⟨n,en,hh⟩:=h.self;obtain ⟨x,e1,e2,e3⟩:=RF hh (b:=ins[q]) (by rw [<-hn];omega) hs;obtain ⟨ext,ep,hl⟩:=h.r9;have H2:(base w ins).length=ins.length+1:=by unfold base;rw [OF,aaT]
 have hm:c.aV[q+1]? =some (sC (vt w ins[q])):=by rw [ep,List.getElem?_append_left (by omega)];unfold base;rw [List.getElem?_cons_succ,List.getElem?_map,cM hq];rfl
 have Np:c.aV.length=ins.length+1+ext.length:=by rw [ep,IT,H2]
 have e4:=Eu (c:=c) (i:=a) (j:=q+1) (m0:=m0) (by rw [h.b.bY];exact hi.Lw _ ha) en hm (by rw [h.b.S];exact e1) (by omega) (by rw [h.b.len];have:=hi.Hs;omega);have Hl:a<c.N.length:=by rw [h.b.len];exact hla
 refine ⟨_,e4,⟨⟨h.b.S,h.b.bY,h.b.Want,by simp only [aaU];exact h.b.len⟩,⟨ext++x.2,by simp only;rw [ep,List.append_assoc],by rw [IT];omega⟩,λa' h1 h2=> ?_,λa' h1 h2 h3=> ?_,⟨x.1,by simp only;rw [AI Hl],e3⟩⟩⟩
 ·have db:a≠a':=λhe=>EU (he▸h2);simp only;rw [Ew db];exact h.done a' h1 h2
 ·simp only;rw [Ew (λhe=>h3 he.symm)];exact h.GJ a' h1 h2 h3
abbrev S8 (c:aj)(k:Int):=(c.S.F,c.S.T,c.bY,c.Want,c.N,c.aV,k)
abbrev S6 (c:aj):=(c.S.F,c.S.T,c.bY,c.Want,c.N,c.aV)
theorem eS (c:aj):(⟨(⟨c.S.F,c.S.T⟩:ae),c.bY,c.Want,c.N,c.aV⟩:aj)=c:=rfl
end Dn.S
