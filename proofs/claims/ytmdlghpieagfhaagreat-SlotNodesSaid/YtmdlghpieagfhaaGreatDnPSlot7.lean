import Derived.Test.YtmdlghpieagfhaaGreatDnPSlot6
/-
  Slots: the first leader's proposal goes round; SlotFast. Conditions: none.
-/
set_option linter.unusedVariables false
set_option linter.unusedSimpArgs false
open List renaming getElem?_eq_getElem→fj,getElem_mem→sh,getElem?_set_self→AI,mem_append→AT,mem_singleton→BY,length_append→IN,length_take→IS,length_cons→IT,take_length→No,length_map→OF,length_set→aav
open Go Dn
namespace Dn.S
structure amx (s:ak) (bad:List Bool) (want:List (List UInt8)) (c:aQ):Prop where
 S:c.S=s
 fW:c.fW=bad
 Want:c.Want=want
 len:c.N.length=bad.length
structure Ins (bad:List Bool) (ins:List Nat):Prop where
 nodup:ins.Nodup
 amy: ∀b∈ins,bad[b]? =some false
 few:bad.length<=30
 len:ins.length<=30
theorem Ins.lt {bad:List Bool}{ins:List Nat}(h:Ins bad ins): ∀b∈ins,b<bad.length:=λb hb=>(List.getElem?_eq_some_iff.1 (h.amy b hb)).1
def base (w:List UInt8)(ins:List Nat):List aw:=yQ 0 0 w []::ins.map λb=>GM (vt w b)
structure P2 (s:ak) (bad:List Bool) (want:List (List UInt8)) (w:List UInt8) (ins:List Nat) (c:aQ) (j:Nat):Prop where
 b:amx s bad want c
 Ve:c.cA=base w (ins.take j)
 IP: ∀a∈ins.take j,∃n,c.N[a]? =some n/\IL s a w n
 fresh: ∀a,a<bad.length->a∉ins.take j-> ∃n,c.N[a]? =some n/\Qg s a n
theorem Vf {L:List Nat}(h:L.Nodup){j:Nat}(hj:j<L.length):L[j]∉L.take j:=by intro hm;obtain ⟨i,hi,he⟩:=List.mem_iff_getElem.1 hm;rw [List.getElem_take] at he;rw [IS] at hi;exact (List.pairwise_iff_getElem.1 h) i j (by omega) hj (by omega) he
theorem GP {L:List aD}{i j:Nat}{x:aD}(h:i≠j):(L.set i x)[j]? =L[j]? :=List.getElem?_set_ne h
theorem afz {s:ak}{bad:List Bool}{want:List (List UInt8)}{w:List UInt8}{ins:List Nat}{c:aQ}{j:Nat}(hi:Ins bad ins)(hw:w.length<=6000)(h:P2 s bad want w ins c j)(hj:j<ins.length)(m0:aw): ∃c',jo c ⟨0,(ins[j]:Int),0,m0⟩=some c'/\P2 s bad want w ins c' (j+1):=by
 have eE:=hi.lt _ (sh hj);have hnt:=Vf hi.nodup hj;have hil:=hi.len;obtain ⟨n,hn,hf⟩:=h.fresh _ eE hnt;obtain ⟨n',e1,hv⟩:=Xn hf hw;have hp:c.cA.length=j+1:=by rw [h.Ve];unfold base;rw [IT,OF,IS];omega
 have e2:=GO (c:=c) (i:=ins[j]) (j:=0) (m0:=m0) (by rw [h.b.fW];exact hi.amy _ (sh hj)) hn (m:=yQ 0 0 w []) (by rw [h.Ve];rfl) (by rw [h.b.S];exact e1) (by simp only [List.length_singleton];omega) (by rw [h.b.len];have:=hi.few;omega);have Jw:ins[j]<c.N.length:=by rw [h.b.len];exact eE
 have M6:ins.take (j+1)=ins.take j++[ins[j]]:=by rw [List.take_add_one,fj hj];rfl
 refine ⟨_,e2,⟨⟨h.b.S,h.b.fW,h.b.Want,by simp only [aav];exact h.b.len⟩,?_,λa ha=> ?_,λa ha hna=> ?_⟩⟩
 ·simp only;rw [h.Ve,M6];unfold base;rw [List.map_append];rfl
 ·simp only;rw [M6] at ha;rcases AT.1 ha with ha|ha
  ·have eu:ins[j]≠a:=λhe=>hnt (he▸ha);rw [GP eu];exact h.IP a ha
  ·rw [BY.1 ha];exact ⟨n',by rw [AI Jw],hv⟩
 ·simp only;rw [M6] at hna;have eu:ins[j]≠a:=λhe=>hna (AT.2 (.inr (by rw [<-he];exact BY.2 rfl)));rw [GP eu];exact h.fresh a ha (λhm=>hna (AT.2 (.inl hm)))
def ajg (w:List UInt8)(n:aD):Prop:=n.L.bE=true/\n.L.Value=w/\n.L.aP.L=[]
structure P3 (s:ak) (bad:List Bool) (want:List (List UInt8)) (w:List UInt8) (ins:List Nat) (c:aQ) (dn:List Nat) (bd:Nat):Prop where
 b:amx s bad want c
 Ve: ∃ext,c.cA=base w ins++ext/\ext.length<=bd
 done: ∀a∈ins,a∈dn-> ∃n,c.N[a]? =some n/\ajg w n
 IP: ∀a∈ins,a∉dn-> ∃n,c.N[a]? =some n/\IL s a w n
theorem P2.p3 {s:ak}{bad:List Bool}{want:List (List UInt8)}{w:List UInt8}{ins:List Nat}{c:aQ}(h:P2 s bad want w ins c ins.length):P3 s bad want w ins c [] 0:=⟨h.b,⟨[],by rw [h.Ve,No,List.append_nil],by simp⟩,λa _ ha=>(by cases ha),λa ha _=>h.IP a (by rw [No];exact ha)⟩
structure PI (s:ak) (bad:List Bool) (want:List (List UInt8)) (w:List UInt8) (ins:List Nat) (c:aQ) (dn:List Nat) (a:Nat) (seen:List Nat) (bd:Nat):Prop where
 b:amx s bad want c
 Ve: ∃ext,c.cA=base w ins++ext/\ext.length<=bd
 done: ∀a'∈ins,a'∈dn-> ∃n,c.N[a']? =some n/\ajg w n
 IP: ∀a'∈ins,a'∉dn->a'≠a-> ∃n,c.N[a']? =some n/\IL s a' w n
 self: ∃n,c.N[a]? =some n/\CG s a w n seen
theorem ah5 {s:ak}{bad:List Bool}{want:List (List UInt8)}{w:List UInt8}{ins:List Nat}{c:aQ}{dn:List Nat}{a:Nat}{seen:List Nat}{bd q:Nat}(hi:Ins bad ins)(hn:(bad.length:Int)=tF s)(h:PI s bad want w ins c dn a seen bd)(ha:a∈ins)(had:a∉dn)(hq:q<ins.length)(hs:ins[q]∉seen)(hb:bd<=300)(m0:aw): ∃c',jo c ⟨0,(a:Int),((q+1:Nat):Int),m0⟩=some c'/\PI s bad want w ins c' dn a (seen++[ins[q]]) (bd+2):=by
 have hil:=hi.len;have eE:=hi.lt _ (sh hq);have hla:=hi.lt _ ha;obtain ⟨n,en,hh⟩:=h.self;obtain ⟨x,e1,e2,e3⟩:=Vd hh (b:=ins[q]) (by rw [<-hn];omega) hs;obtain ⟨ext,ep,hl⟩:=h.Ve;have Nf:(base w ins).length=ins.length+1:=by unfold base;rw [IT,OF]
 have hm:c.cA[q+1]? =some (GM (vt w ins[q])):=by rw [ep,List.getElem?_append_left (by omega)];unfold base;rw [List.getElem?_cons_succ,List.getElem?_map,fj hq];rfl
 have Ow:c.cA.length=ins.length+1+ext.length:=by rw [ep,IN,Nf]
 have e4:=GO (c:=c) (i:=a) (j:=q+1) (m0:=m0) (by rw [h.b.fW];exact hi.amy _ ha) en hm (by rw [h.b.S];exact e1) (by omega) (by rw [h.b.len];have:=hi.few;omega);have Jw:a<c.N.length:=by rw [h.b.len];exact hla
 refine ⟨_,e4,⟨⟨h.b.S,h.b.fW,h.b.Want,by simp only [aav];exact h.b.len⟩,⟨ext++x.2,by simp only;rw [ep,List.append_assoc],by rw [IN];omega⟩,λa' h1 h2=> ?_,λa' h1 h2 h3=> ?_,⟨x.1,by simp only;rw [AI Jw],e3⟩⟩⟩
 ·have eu:a≠a':=λhe=>had (he▸h2);simp only;rw [GP eu];exact h.done a' h1 h2
 ·simp only;rw [GP (λhe=>h3 he.symm)];exact h.IP a' h1 h2 h3
abbrev S8 (c:aQ)(k:Int):=(c.S.F,c.S.T,c.fW,c.Want,c.N,c.cA,k)
abbrev S6 (c:aQ):=(c.S.F,c.S.T,c.fW,c.Want,c.N,c.cA)
theorem eS (c:aQ):(⟨(⟨c.S.F,c.S.T⟩:ak),c.fW,c.Want,c.N,c.cA⟩:aQ)=c:=rfl
end Dn.S
