import Derived.Test.YtmdlghpieagfhaaGreatDnPAgree9
/- Single acts of good nodes, however many. Conditions: none. -/
set_option linter.unusedVariables false
set_option linter.unusedSimpArgs false
open List renaming getElem?_eq_getElem→cV
open Option.some renaming inj→sh
open Go Dn
namespace Dn.S
structure ng (F T:Nat) (s:ae) (bad:List Bool) (want:List (List UInt8)) (g:Gh) (c:aj) (k:Nat):Prop where
 inv:Inv s bad want c k
 say:qt F T bad g c
def EZ (F T:Nat)(s:ae)(bad:List Bool)(want:List (List UInt8))(g:Gh)(c:aj)(k:Nat):Prop:= ∃g',g.le g'/\ng F T s bad want g' c k
theorem ng.put {F T:Nat}{s:ae}{bad:List Bool}{want:List (List UInt8)}{g:Gh}{c:aj}{k:Nat}(h:ng F T s bad want g c k){i:Nat}(hb:bad[i]? =some false)(hi:i<c.N.length){x:ao×List ai}(hk:lH s (i:Int) c.N[i] k x)(ha:yX F T bad g (i:Int) x):EZ F T s bad want g (kl c i x.1 x.2) (k+1):=by obtain ⟨g',h1,h2⟩:=h.say.put hi ha;exact ⟨g',h1,h.inv.put hb (cV hi) hk,h2⟩
theorem rK {s:ae}{bad:List Bool}{want:List (List UInt8)}{c:aj}{k:Nat}(h:Inv s bad want c k){i:Nat}(hb:bad[i]? =some false):i<c.N.length:=by have:=(List.getElem?_eq_some_iff.1 hb).1;have:=h.len;omega
theorem Ym {F T:Nat}{g:Gh}{s:ae}(hF:s.F=F)(hT:s.T=T){bad:List Bool}(hn:(bad.length:Int)=kz s){want:List (List UInt8)}{c:aj}{k:Nat}(h:ng F T s bad want g c k)(hk:k<=1000000){i:Nat}(hb:bad[i]? =some false){m:ai}(hm:qq m)(hmg:L8 bad g m):aK (cD c (i:Int) m) λr=>EZ F T s bad want g r.2 (k+1):=by have hi:=rK h.inv hb;have E5:=h.inv.nodes i _ (cV hi);obtain ⟨x,ex,hx⟩:=V6 hF hT hn E5 hk h.say.ok (h.say.node i _ hb (cV hi)) hm hmg;obtain ⟨x',ex',Hl⟩:=Ha E5 hk hm;rw [ex] at ex';obtain rfl:=sh ex';have:=h.put hb hi Hl hx;rw [<-h.inv.S] at ex;unfold cD;rw [bB hi,ex,au,yV hi _ h.inv.lI (by have:=Hl.out;omega),au];exact .mk this
theorem afw {F T:Nat}{g:Gh}{s:ae}{bad:List Bool}{want:List (List UInt8)}{c:aj}{k:Nat}(h:ng F T s bad want g c k){i:Nat}(hb:bad[i]? =some false)(v:Int):aK (dx c (i:Int) v) λr=>EZ F T s bad want g r.2 (k+1):=by have hi:=rK h.inv hb;have E5:=h.inv.nodes i _ (cV hi);obtain ⟨ex,Hl⟩:=yU E5 v;have hx:=V5 E5 h.say.ok (h.say.node i _ hb (cV hi)) v;have:=h.put hb hi Hl hx;rw [<-h.inv.S] at ex;unfold dx;rw [bB hi,ex,au,yV hi _ h.inv.lI (by have:=Hl.out;omega),au];exact .mk this
theorem ajv {F T:Nat}{g:Gh}{s:ae}{bad:List Bool}{want:List (List UInt8)}(hw:want.length=bad.length){c:aj}{k:Nat}(h:ng F T s bad want g c k)(hk:k<=1000000){i:Nat}(hb:bad[i]? =some false):aK (cX c (i:Int)) λr=>EZ F T s bad want g r.2 (k+1):=by
 have hi:=rK h.inv hb;have E5:=h.inv.nodes i _ (cV hi);have hiw:i<c.Want.length:=by have:=h.inv.len;rw [h.inv.Want];omega
 obtain ⟨x,ex,hx⟩:=V7 E5 hk h.say.ok (h.say.node i _ hb (cV hi)) c.Want[i];obtain ⟨x',ex',Hl⟩:=Hb E5 hk c.Want[i];rw [ex] at ex';obtain rfl:=sh ex';have:=h.put hb hi Hl hx;rw [<-h.inv.S] at ex;unfold cX;rw [bB hi,bB hiw,ex,au,yV hi _ h.inv.lI (by have:=Hl.out;omega),au];exact .mk this
theorem ng.still {F T:Nat}{s:ae}{bad:List Bool}{want:List (List UInt8)}{g:Gh}{c:aj}{k:Nat}(h:ng F T s bad want g c k):ng F T s bad want g ⟨c.S,c.bY,c.Want,c.N,[]⟩ k:=⟨⟨h.inv.S,h.inv.bY,h.inv.Want,h.inv.len,h.inv.nodes,by simp,λm hm=>(by cases hm),λm hm=>(by cases hm),λm hm=>(by cases hm),λm hm=>(by cases hm)⟩,⟨h.say.ok,h.say.node,λm hm=>(by cases hm)⟩⟩
theorem EZ.trans {F T:Nat}{s:ae}{bad:List Bool}{want:List (List UInt8)}{g:Gh} {c c':aj} {k k':Nat}(h:EZ F T s bad want g c k)(h2: ∀g',ng F T s bad want g' c k->EZ F T s bad want g' c' k'):EZ F T s bad want g c' k':=by obtain ⟨g',h1,h3⟩:=h;obtain ⟨g2,h4,h5⟩:=h2 g' h3;exact ⟨g2,h1.trans h4,h5⟩
end Dn.S
