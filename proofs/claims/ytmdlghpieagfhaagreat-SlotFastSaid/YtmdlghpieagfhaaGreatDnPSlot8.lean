import Derived.Test.YtmdlghpieagfhaaGreatDnPSlot7
/-
  The live question about slots. Conditions: none.
-/
open Go Dn
set_option linter.unusedVariables false
set_option linter.unusedSimpArgs false
namespace Dn.S
theorem Fx {s:af} {bad:List Bool} {want:List (List UInt8)} {w:List UInt8} (ins:List Nat) (hs:cX s) (hn:(bad.length:Int)=vl s) (am9:bad.length≤30) (hb:bad[0]? =some false) (hw:want[0]? =some w) (m0:al):
 ∃c,eQ (Gh s bad want) ⟨2,0,0,m0⟩=some c∧P2 s bad want w ins c 0:=by
 have h0:0<bad.length:=(List.getElem?_eq_some_iff.1 hb).1
 have Q3: ∀a:Nat,a<bad.length→Hm s (a:Int):=fun a ha=>⟨hs,by omega,by omega⟩
 have hN:(Gh s bad want).N.length=bad.length:=by simp [Gh]
 have uW: ∀a:Nat,a<bad.length→(Gh s bad want).N[a]? =some (BG s (a:Int)):=fun a ha=>by
  unfold Gh
  rw [List.getElem?_map,List.getElem?_range ha]
  rfl
 have hl:=ML (Cr (Q3 0 h0)) rfl w
 have e:=PE (c:=Gh s bad want) (i:=0) (j:=0) (m0:=m0) hb (uW 0 h0) hw hl (by simp [Gh]) (by rw [hN];omega)
 refine ⟨_,e,⟨⟨rfl,rfl,rfl,by simp only [List.length_set];exact hN⟩,?_,fun a ha=>(by simp at ha),fun a ha _=> ?_⟩⟩
 ·simp [Gh,base]
 ·simp only
  by_cases h0a:0=a
  ·subst h0a
   rw [List.getElem?_set_self (by rw [hN];exact h0)]
   exact ⟨_,rfl,⟨Q3 0 h0,rfl,rfl,rfl⟩⟩
  ·rw [AR h0a,uW a ha]
   exact ⟨_,rfl,Cr (Q3 a ha)⟩
theorem MP {c:aw} {i:Nat} {n:au} (hb:c.cV[i]? =some false) (hn:c.N[i]? =some n) (hd:n.L.ch=false):fF c (i:Int)=some ([],false):=by
 obtain ⟨hi,he⟩:=List.getElem?_eq_some_iff.1 hn
 unfold fF
 rw [NX c i false false hb]
 simp only [decide_true,Bool.not_true,Bool.false_eq_true,if_false,bl]
 rw [cW hi,he,hd]
 simp only [Bool.not_false,bl,if_true]
def aS:af:=⟨1,0⟩
def aB:List Bool:=List.replicate 4 false
def aW:List (List UInt8):=[[97],[98],[99],[100]]
def aI:List Nat:=[0,1,2,3]
theorem YX:TG aB aI:=⟨by decide,by decide,by decide,by decide⟩
theorem aL1 {c:aw} (h:P2 aS aB aW [97] aI c 0):bT (Loop rM (S8 c 0)) fun r=> ∃c',r=S6 c'∧P2 aS aB aW [97] aI c' 4:=by
 refine bT.loop (fun st=> ∃(j:Nat) (c:aw),j≤4∧st=S8 c (j:Int)∧P2 aS aB aW [97] aI c j) (fun st=>4-(st.2.2.2.2.2.2).toNat) ⟨0,c,Nat.zero_le _,rfl,h⟩ ?_
 rintro st ⟨j,c,hj,rfl,hc⟩
 unfold rM S8
 simp only [eS]
 by_cases du:j<4
 ·have RR:aI[j]'(by simpa [aI] using du)=j:=by
   rcases j with _|_|_|_|j<;>first|rfl|omega
  obtain ⟨c',e,PG⟩:=KS YX (by decide) hc (show j<aI.length by simpa [aI] using du) (⟨0,0,0,([]:List UInt8),([]:List ab),(⟨0,0,([]:List UInt8)⟩:aa),([]:List aa),(⟨0,0,false,0,([]:List UInt8),([]:List aa)⟩:ab)⟩:al)
  rw [RR] at e
  rw [if_pos (by omega),e,bl,wrap64 (by omega) (by omega)]
  exact .mk ⟨⟨j+1,c',du,rfl,PG⟩,by simp only;omega⟩
 ·have:j=4:=by omega
  subst this
  rw [if_neg (by omega)]
  exact .mk ⟨c,rfl,hc⟩
theorem aL2 {c:aw} (h:PI aS aB aW [97] aI c [] 2 [] 0):bT (Loop rN (S8 c 1)) fun r=> ∃c',r=S6 c'∧PI aS aB aW [97] aI c' [] 2 aI 8:=by
 refine bT.loop (fun st=> ∃(k:Nat) (c:aw),k≤4∧st=S8 c ((k+1:Nat):Int)∧PI aS aB aW [97] aI c [] 2 (aI.take k) (2 *k)) (fun st=>5-(st.2.2.2.2.2.2).toNat) ⟨0,c,Nat.zero_le _,rfl,by simpa using h⟩ ?_
 rintro st ⟨k,c,hk,rfl,hc⟩
 unfold rN S8
 simp only [eS]
 by_cases du:k<4
 ·have hka:k<aI.length:=by simpa [aI] using du
  obtain ⟨c',e,PG⟩:=NZ YX (by decide) hc (show 2∈aI by decide) (by simp) hka (AQ YX.nodup hka) (by omega) (⟨0,0,0,([]:List UInt8),([]:List ab),(⟨0,0,([]:List UInt8)⟩:aa),([]:List aa),(⟨0,0,false,0,([]:List UInt8),([]:List aa)⟩:ab)⟩:al)
  rw [show ((2:Nat):Int)=2 from rfl] at e
  rw [if_pos (by omega),e,bl,wrap64 (by omega) (by omega)]
  refine .mk ⟨⟨k+1,c',du,rfl,?_⟩,by simp only;omega⟩
  rw [List.take_add_one,List.getElem?_eq_getElem hka]
  exact PG
 ·have:k=4:=by omega
  subst this
  rw [if_neg (by omega)]
  exact .mk ⟨c,rfl,hc⟩
theorem Vx:my=some true:=by
 unfold my
 rw [if_pos (by decide)]
 obtain ⟨r,er,h1,h2⟩:=Hq aS aB aW (by decide) (by decide)
 have hs:cX aS:=(fY aS).2 (by decide)
 have h0:=h2 hs (by decide) (by decide) ⟨by decide,by decide⟩
 obtain ⟨_,_,_,_,h5⟩:=h1 h0
 have er':qI (⟨1,0⟩:af) (List.replicate (Int.toNat 4) false) ([([97]:List UInt8),([98]:List UInt8),([99]:List UInt8),([100]:List UInt8)]:List (List UInt8))=some r:=er
 rw [er',bl,h5]
 obtain ⟨c1,e1,p1⟩:=Fx (s:=aS) (bad:=aB) (want:=aW) (w:=[97]) aI hs (by decide) (by decide) (by decide) (by decide) (⟨0,0,0,([]:List UInt8),([]:List ab),(⟨0,0,([]:List UInt8)⟩:aa),([]:List aa),(⟨0,0,false,0,([]:List UInt8),([]:List aa)⟩:ab)⟩:al)
 rw [e1,bl]
 obtain ⟨x2,e2,c2,rfl,p2⟩:=aL1 p1
 rw [e2,bl]
 have p3:=P2.p3 (ins:=aI) (show P2 aS aB aW [97] aI c2 aI.length from p2)
 obtain ⟨n,en,hv⟩:=p3.wO 2 (by decide) (by simp)
 obtain ⟨x3,e3,c3,rfl,p4⟩:=aL2 (c:=c2) ⟨p3.b,p3.Fw,p3.done,fun a h1 h2 _=>p3.wO a h1 h2,⟨n,en,hv.NY⟩⟩
 simp only [S6] at e3⊢
 rw [e3,bl]
 simp only [eS]
 obtain ⟨n2,en2,hh⟩:=p4.self
 obtain ⟨d1,d2,d3⟩:=hh.end_ (by decide)
 have l2:=Fu (c:=c3) (i:=2) (by rw [p4.b.cV];decide) en2 d1
 obtain ⟨n1,en1,Jk⟩:=p4.wO 1 (by decide) (by simp) (by decide)
 have l1:=MP (c:=c3) (i:=1) (by rw [p4.b.cV];decide) en1 (by rw [Jk.nO];unfold xG;split<;>rfl)
 rw [show ((2:Nat):Int)=2 from rfl] at l2
 rw [show ((1:Nat):Int)=1 from rfl] at l1
 rw [l2,l1,h0,d2]
 simp
end Dn.S
