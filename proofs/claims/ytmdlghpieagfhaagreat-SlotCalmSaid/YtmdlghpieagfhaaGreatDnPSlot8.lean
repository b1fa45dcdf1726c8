import Derived.Test.YtmdlghpieagfhaaGreatDnPSlot7
/- The live question about slots. Conditions: none. -/
set_option linter.unusedVariables false
set_option linter.unusedSimpArgs false
open List renaming getElem?_eq_some_iff→cV,replicate→sh
open Nat renaming zero_le→AI
open Go Dn
namespace Dn.S
theorem UN {s:ae}{bad:List Bool}{want:List (List UInt8)}{w:List UInt8}(ins:List Nat)(hs:cC s)(hn:(bad.length:Int)=kz s)(Dq:bad.length<=30)(hb:bad[0]? =some false)(hw:want[0]? =some w)(m0:ai): ∃c,eB (tC s bad want) ⟨2,0,0,m0⟩=some c/\P2 s bad want w ins c 0:=by
 have h0:0<bad.length:=(cV.1 hb).1;have Qp: ∀a:Nat,a<bad.length->v8 s (a:Int):=λa ha=>⟨hs,by omega,by omega⟩
 have hN:(tC s bad want).N.length=bad.length:=by simp [tC]
 have ug: ∀a:Nat,a<bad.length->(tC s bad want).N[a]? =some (rc s (a:Int)):=λa ha=>by unfold tC;rw [List.getElem?_map,List.getElem?_range ha];rfl
 have hl:=UK (Hd (Qp 0 h0)) rfl w;have e:=Yd (c:=tC s bad want) (i:=0) (j:=0) (m0:=m0) hb (ug 0 h0) hw hl (by simp [tC]) (by rw [hN];omega);refine ⟨_,e,⟨⟨rfl,rfl,rfl,by simp only [List.length_set];exact hN⟩,?_,λa ha=>(by simp at ha),λa ha _=> ?_⟩⟩
 ·simp [tC,base]
 ·simp only;by_cases h0a:0=a
  ·subst h0a;rw [List.getElem?_set_self (by rw [hN];exact h0)];exact ⟨_,rfl,⟨Qp 0 h0,rfl,rfl,rfl⟩⟩
  ·rw [EV h0a,ug a ha];exact ⟨_,rfl,Hd (Qp a ha)⟩
theorem KY {c:aj}{i:Nat}{n:ao}(hb:c.bY[i]? =some false)(hn:c.N[i]? =some n)(hd:n.L.bw=false):fN c (i:Int)=some ([],false):=by obtain ⟨hi,he⟩:=cV.1 hn;unfold fN;rw [R6 c i false false hb];simp only [decide_true,Bool.not_true,Bool.false_eq_true,if_false,au];rw [bB hi,he,hd];simp only [Bool.not_false,au,if_true]
def aS:ae:=⟨1,0⟩
def aB:List Bool:=sh 4 false
def aW:List (List UInt8):=[[97],[98],[99],[100]]
def aI:List Nat:=[0,1,2,3]
theorem ajp:Ins aB aI:=⟨by decide,by decide,by decide,by decide⟩
theorem aL1 {c:aj}(h:P2 aS aB aW [97] aI c 0):aK (Loop vI (S8 c 0)) λr=> ∃c',r=S6 c'/\P2 aS aB aW [97] aI c' 4:=by
 refine aK.loop (λst=> ∃(j:Nat) (c:aj),j<=4/\st=S8 c (j:Int)/\P2 aS aB aW [97] aI c j) (λst=>4-(st.2.2.2.2.2.2).toNat) ⟨0,c,AI _,rfl,h⟩ ?_;rintro st ⟨j,c,hj,rfl,hc⟩;unfold vI S8;simp only [eS];by_cases cJ:j<4
 ·have vF:aI[j]'(by simpa [aI] using cJ)=j:=by rcases j with _|_|_|_|j<;>first|rfl|omega
  obtain ⟨c',e,hc'⟩:=acD ajp (by decide) hc (show j<aI.length by simpa [aI] using cJ) (⟨0,0,0,([]:List UInt8),([]:List ab),(⟨0,0,([]:List UInt8)⟩:aa),([]:List aa),(⟨0,0,false,0,([]:List UInt8),([]:List aa)⟩:ab)⟩:ai);rw [vF] at e;rw [if_pos (by omega),e,au,wrap64 (by omega) (by omega)];exact .mk ⟨⟨j+1,c',cJ,rfl,hc'⟩,by simp only;omega⟩
 ·have:j=4:=by omega
  subst this;rw [if_neg (by omega)];exact .mk ⟨c,rfl,hc⟩
theorem aL2 {c:aj}(h:PI aS aB aW [97] aI c [] 2 [] 0):aK (Loop vJ (S8 c 1)) λr=> ∃c',r=S6 c'/\PI aS aB aW [97] aI c' [] 2 aI 8:=by
 refine aK.loop (λst=> ∃(k:Nat) (c:aj),k<=4/\st=S8 c ((k+1:Nat):Int)/\PI aS aB aW [97] aI c [] 2 (aI.take k) (2 *k)) (λst=>5-(st.2.2.2.2.2.2).toNat) ⟨0,c,AI _,rfl,by simpa using h⟩ ?_;rintro st ⟨k,c,hk,rfl,hc⟩;unfold vJ S8;simp only [eS];by_cases cJ:k<4
 ·have hka:k<aI.length:=by simpa [aI] using cJ
  obtain ⟨c',e,hc'⟩:=afn ajp (by decide) hc (show 2∈aI by decide) (by simp) hka (Sa ajp.nodup hka) (by omega) (⟨0,0,0,([]:List UInt8),([]:List ab),(⟨0,0,([]:List UInt8)⟩:aa),([]:List aa),(⟨0,0,false,0,([]:List UInt8),([]:List aa)⟩:ab)⟩:ai);rw [show ((2:Nat):Int)=2 from rfl] at e;rw [if_pos (by omega),e,au,wrap64 (by omega) (by omega)];refine .mk ⟨⟨k+1,c',cJ,rfl,?_⟩,by simp only;omega⟩;rw [List.take_add_one,List.getElem?_eq_getElem hka];exact hc'
 ·have:k=4:=by omega
  subst this;rw [if_neg (by omega)];exact .mk ⟨c,rfl,hc⟩
theorem afo:qV=some true:=by unfold qV;rw [if_pos (by decide)];obtain ⟨r,er,h1,h2⟩:=Nw aS aB aW (by decide) (by decide);have hs:cC aS:=(b7 aS).2 (by decide);have h0:=h2 hs (by decide) (by decide) ⟨by decide,by decide⟩;obtain ⟨_,_,_,_,h5⟩:=h1 h0;have er':pI (⟨1,0⟩:ae) (sh (Int.toNat 4) false) ([([97]:List UInt8),([98]:List UInt8),([99]:List UInt8),([100]:List UInt8)]:List (List UInt8))=some r:=er;rw [er',au,h5];obtain ⟨c1,e1,p1⟩:=UN (s:=aS) (bad:=aB) (want:=aW) (w:=[97]) aI hs (by decide) (by decide) (by decide) (by decide) (⟨0,0,0,([]:List UInt8),([]:List ab),(⟨0,0,([]:List UInt8)⟩:aa),([]:List aa),(⟨0,0,false,0,([]:List UInt8),([]:List aa)⟩:ab)⟩:ai);rw [e1,au];obtain ⟨x2,e2,c2,rfl,p2⟩:=aL1 p1;rw [e2,au];have p3:=P2.p3 (ins:=aI) (show P2 aS aB aW [97] aI c2 aI.length from p2);obtain ⟨n,en,hv⟩:=p3.He 2 (by decide) (by simp);obtain ⟨x3,e3,c3,rfl,p4⟩:=aL2 (c:=c2) ⟨p3.b,p3.lI,p3.done,λa h1 h2 _=>p3.He a h1 h2,⟨n,en,hv.afl⟩⟩;simp only [S6] at e3⊢;rw [e3,au];simp only [eS];obtain ⟨n2,en2,hh⟩:=p4.self;obtain ⟨d1,d2,d3⟩:=hh.end_ (by decide);have l2:=KV (c:=c3) (i:=2) (by rw [p4.b.bY];decide) en2 d1;obtain ⟨n1,en1,Ss⟩:=p4.He 1 (by decide) (by simp) (by decide);have l1:=KY (c:=c3) (i:=1) (by rw [p4.b.bY];decide) en1 (by rw [Ss.dU];unfold zL;split<;>rfl);rw [show ((2:Nat):Int)=2 from rfl] at l2;rw [show ((1:Nat):Int)=1 from rfl] at l1;rw [l2,l1,h0,d2];simp
end Dn.S
