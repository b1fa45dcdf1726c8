import Derived.Test.YtmdlghpieagfhaaGreatDnPAgree7
/- Steps, and what good ones said. Conditions: none. -/
set_option linter.unusedVariables false
set_option linter.unusedSimpArgs false
open List renaming getElem?_eq_getElem→cV
open Option.some renaming inj→sh
open Go Dn
namespace Dn.S
theorem aju {F T:Nat}{g:Gh}{s:ae}(hF:s.F=F)(hT:s.T=T){bad:List Bool}(Yx:(bad.length:Int)=kz s){want:List (List UInt8)}{c:aj}{k:Nat}(h:Inv s bad want c k)(hk:k<=400)(Dq:bad.length<=30)(hw:want.length=bad.length)(hG:qt F T bad g c){y:dv}(hy:ER y):aK (eB c y) λc'=>Inv s bad want c' (k+1)/\ ∃g',g.le g'/\qt F T bad g' c':=by
 suffices hs:aK (eB c y) λc'=> ∃g',g.le g'/\qt F T bad g' c' by obtain ⟨c1,e1,q1⟩:=Oj h hk Dq hw hy;obtain ⟨c2,e2,q2⟩:=hs;rw [e1] at e2;obtain rfl:=sh e2;exact ⟨c1,e1,q1.inv,q2⟩
 refine K0 h hk Dq hw hy ⟨g,.refl g,hG⟩ (λ_ eb=>⟨g,.refl g,hG.say (afu h.bY hG h.lI (λm hm=>(h.short m hm).s.r) hy.m.s eb)⟩) λi n x _ _ hb hi hn E5 hx=>hG.put hi ?_;have hNG:=hG.node i _ hb hn;rcases hx.2 with ⟨m,hm,e⟩|rfl|⟨w,e⟩|rfl
 ·obtain ⟨x',ex,hx⟩:=V6 hF hT Yx E5 (by omega) hG.ok hNG (h.short _ hm) (hG.lI _ hm);rw [e] at ex;obtain rfl:=sh ex;exact hx
 ·exact V5 E5 hG.ok hNG _
 ·obtain ⟨x',ex,hx⟩:=V7 E5 (by omega) hG.ok hNG w;rw [e] at ex;obtain rfl:=sh ex;exact hx
 ·exact acH E5 hG.ok hNG
theorem Se {c:aj}{i:Nat}(hi:i<c.N.length)(hb:c.N.length=c.bY.length):fN c (i:Int)=some (if c.bY[i]? =some false/\c.N[i].L.bw=true then (c.N[i].L.Value,true) else ([],false)):=by
 have TW:i<c.bY.length:=by omega
 have hn:c.N[i]? =some c.N[i]:=cV hi;cases anZ:c.bY[i] with
 |true=>
  have Lc:c.bY[i]? =some true:=by rw [cV TW,anZ]
  unfold fN;rw [R6 c i false true Lc];simp [Lc]
 |false=>
  have Lc:c.bY[i]? =some false:=by rw [cV TW,anZ]
  cases hd:c.N[i].L.bw with
  |true=>rw [KV Lc hn hd];simp [Lc]
  |false=>rw [KY Lc hn hd];simp
theorem qt.Bg {F T:Nat}{bad:List Bool}{g:Gh}{c:aj}(h:qt F T bad g c)(hb:c.bY=bad){i:Nat}(hi:i<c.N.length)(hl:c.bY[i]? =some false/\c.N[i].L.bw=true):g.L c.N[i].L.Value:=(h.node i _ (by rw [<-hb];exact hl.1) (cV hi)).done hl.2
end Dn.S
