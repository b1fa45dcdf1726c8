import Derived.Test.YtmdlghpieagfhaaGreatDnPSlot6
/-
  Slots: the first leader's proposal goes round; SlotFast. Conditions: none.
-/
set_option linter.unusedVariables false
set_option linter.unusedSimpArgs false
open List renaming getElem?_eq_getElem→eJ,getElem_mem→sh,getElem?_set_self→AI,mem_append→AT,mem_singleton→BY,length_append→IN,length_take→IS,length_cons→IT,take_length→No,length_map→OF,length_set→aaa
open Go Dn
namespace Dn.S
structure afH (s:af) (bad:List Bool) (want:List (List UInt8)) (c:au):Prop where
 S:c.S=s
 cQ:c.cQ=bad
 Want:c.Want=want
 len:c.N.length=bad.length
structure Ins (bad:List Bool) (ins:List Nat):Prop where
 nodup:ins.Nodup
 ZA: ∀b∈ins,bad[b]? =some false
 Z3:bad.length<=30
 len:ins.length<=30
theorem Ins.lt {bad:List Bool}{ins:List Nat}(h:Ins bad ins): ∀b∈ins,b<bad.length:=λb hb=>(List.getElem?_eq_some_iff.1 (h.ZA b hb)).1
def base (w:List UInt8)(ins:List Nat):List al:=u9 0 0 w []::ins.map λb=>AE (vt w b)
structure P2 (s:af) (bad:List Bool) (want:List (List UInt8)) (w:List UInt8) (ins:List Nat) (c:au) (j:Nat):Prop where
 b:afH s bad want c
 AK:c.bg=base w (ins.take j)
 GL: ∀a∈ins.take j,∃n,c.N[a]? =some n/\GJ s a w n
 fresh: ∀a,a<bad.length->a∉ins.take j-> ∃n,c.N[a]? =some n/\MD s a n
theorem QE {L:List Nat}(h:L.Nodup){j:Nat}(hj:j<L.length):L[j]∉L.take j:=by intro hm;obtain ⟨i,hi,he⟩:=List.mem_iff_getElem.1 hm;rw [List.getElem_take] at he;rw [IS] at hi;exact (List.pairwise_iff_getElem.1 h) i j (by omega) hj (by omega) he
theorem EN {L:List aq}{i j:Nat}{x:aq}(h:i≠j):(L.set i x)[j]? =L[j]? :=List.getElem?_set_ne h
theorem ZB {s:af}{bad:List Bool}{want:List (List UInt8)}{w:List UInt8}{ins:List Nat}{c:au}{j:Nat}(hi:Ins bad ins)(hw:w.length<=6000)(h:P2 s bad want w ins c j)(hj:j<ins.length)(m0:al): ∃c',gu c ⟨0,(ins[j]:Int),0,m0⟩=some c'/\P2 s bad want w ins c' (j+1):=by
 have dO:=hi.lt _ (sh hj);have hnt:=QE hi.nodup hj;have hil:=hi.len;obtain ⟨n,hn,hf⟩:=h.fresh _ dO hnt;obtain ⟨n',e1,hv⟩:=SO hf hw;have hp:c.bg.length=j+1:=by rw [h.AK];unfold base;rw [IT,OF,IS];omega
 have e2:=EM (c:=c) (i:=ins[j]) (j:=0) (m0:=m0) (by rw [h.b.cQ];exact hi.ZA _ (sh hj)) hn (m:=u9 0 0 w []) (by rw [h.AK];rfl) (by rw [h.b.S];exact e1) (by simp only [List.length_singleton];omega) (by rw [h.b.len];have:=hi.Z3;omega);have Hg:ins[j]<c.N.length:=by rw [h.b.len];exact dO
 have Kh:ins.take (j+1)=ins.take j++[ins[j]]:=by rw [List.take_add_one,eJ hj];rfl
 refine ⟨_,e2,⟨⟨h.b.S,h.b.cQ,h.b.Want,by simp only [aaa];exact h.b.len⟩,?_,λa ha=> ?_,λa ha hna=> ?_⟩⟩
 ·simp only;rw [h.AK,Kh];unfold base;rw [List.map_append];rfl
 ·simp only;rw [Kh] at ha;rcases AT.1 ha with ha|ha
  ·have dS:ins[j]≠a:=λhe=>hnt (he▸ha);rw [EN dS];exact h.GL a ha
  ·rw [BY.1 ha];exact ⟨n',by rw [AI Hg],hv⟩
 ·simp only;rw [Kh] at hna;have dS:ins[j]≠a:=λhe=>hna (AT.2 (.inr (by rw [<-he];exact BY.2 rfl)));rw [EN dS];exact h.fresh a ha (λhm=>hna (AT.2 (.inl hm)))
def adi (w:List UInt8)(n:aq):Prop:=n.L.cq=true/\n.L.Value=w/\n.L.bp.L=[]
structure P3 (s:af) (bad:List Bool) (want:List (List UInt8)) (w:List UInt8) (ins:List Nat) (c:au) (dn:List Nat) (bd:Nat):Prop where
 b:afH s bad want c
 AK: ∃ext,c.bg=base w ins++ext/\ext.length<=bd
 done: ∀a∈ins,a∈dn-> ∃n,c.N[a]? =some n/\adi w n
 GL: ∀a∈ins,a∉dn-> ∃n,c.N[a]? =some n/\GJ s a w n
theorem P2.p3 {s:af}{bad:List Bool}{want:List (List UInt8)}{w:List UInt8}{ins:List Nat}{c:au}(h:P2 s bad want w ins c ins.length):P3 s bad want w ins c [] 0:=⟨h.b,⟨[],by rw [h.AK,No,List.append_nil],by simp⟩,λa _ ha=>(by cases ha),λa ha _=>h.GL a (by rw [No];exact ha)⟩
structure PI (s:af) (bad:List Bool) (want:List (List UInt8)) (w:List UInt8) (ins:List Nat) (c:au) (dn:List Nat) (a:Nat) (seen:List Nat) (bd:Nat):Prop where
 b:afH s bad want c
 AK: ∃ext,c.bg=base w ins++ext/\ext.length<=bd
 done: ∀a'∈ins,a'∈dn-> ∃n,c.N[a']? =some n/\adi w n
 GL: ∀a'∈ins,a'∉dn->a'≠a-> ∃n,c.N[a']? =some n/\GJ s a' w n
 self: ∃n,c.N[a]? =some n/\Bq s a w n seen
theorem abX {s:af}{bad:List Bool}{want:List (List UInt8)}{w:List UInt8}{ins:List Nat}{c:au}{dn:List Nat}{a:Nat}{seen:List Nat}{bd q:Nat}(hi:Ins bad ins)(hn:(bad.length:Int)=uI s)(h:PI s bad want w ins c dn a seen bd)(ha:a∈ins)(WY:a∉dn)(hq:q<ins.length)(hs:ins[q]∉seen)(hb:bd<=300)(m0:al): ∃c',gu c ⟨0,(a:Int),((q+1:Nat):Int),m0⟩=some c'/\PI s bad want w ins c' dn a (seen++[ins[q]]) (bd+2):=by
 have hil:=hi.len;have dO:=hi.lt _ (sh hq);have hla:=hi.lt _ ha;obtain ⟨n,en,hh⟩:=h.self;obtain ⟨x,e1,e2,e3⟩:=QD hh (b:=ins[q]) (by rw [<-hn];omega) hs;obtain ⟨ext,ep,hl⟩:=h.AK;have Ko:(base w ins).length=ins.length+1:=by unfold base;rw [IT,OF]
 have hm:c.bg[q+1]? =some (AE (vt w ins[q])):=by rw [ep,List.getElem?_append_left (by omega)];unfold base;rw [List.getElem?_cons_succ,List.getElem?_map,eJ hq];rfl
 have MP:c.bg.length=ins.length+1+ext.length:=by rw [ep,IN,Ko]
 have e4:=EM (c:=c) (i:=a) (j:=q+1) (m0:=m0) (by rw [h.b.cQ];exact hi.ZA _ ha) en hm (by rw [h.b.S];exact e1) (by omega) (by rw [h.b.len];have:=hi.Z3;omega);have Hg:a<c.N.length:=by rw [h.b.len];exact hla
 refine ⟨_,e4,⟨⟨h.b.S,h.b.cQ,h.b.Want,by simp only [aaa];exact h.b.len⟩,⟨ext++x.2,by simp only;rw [ep,List.append_assoc],by rw [IN];omega⟩,λa' h1 h2=> ?_,λa' h1 h2 h3=> ?_,⟨x.1,by simp only;rw [AI Hg],e3⟩⟩⟩
 ·have dS:a≠a':=λhe=>WY (he▸h2);simp only;rw [EN dS];exact h.done a' h1 h2
 ·simp only;rw [EN (λhe=>h3 he.symm)];exact h.GL a' h1 h2 h3
abbrev S8 (c:au)(k:Int):=(c.S.F,c.S.T,c.cQ,c.Want,c.N,c.bg,k)
abbrev S6 (c:au):=(c.S.F,c.S.T,c.cQ,c.Want,c.N,c.bg)
theorem eS (c:au):(⟨(⟨c.S.F,c.S.T⟩:af),c.cQ,c.Want,c.N,c.bg⟩:au)=c:=rfl
end Dn.S
