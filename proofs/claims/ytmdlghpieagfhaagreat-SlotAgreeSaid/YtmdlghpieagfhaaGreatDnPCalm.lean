import Derived.Test.YtmdlghpieagfhaaGreatDnPAgree9
/-
  Single acts of good nodes, however many. Conditions: none.
-/
set_option linter.unusedVariables false
set_option linter.unusedSimpArgs false
open List renaming getElem?_eq_getElem→cM
open Option.some renaming inj→sh
open Go Dn
namespace Dn.S
structure sb (F T:Nat) (s:ae) (bad:List Bool) (want:List (List UInt8)) (g:Gh) (c:aj) (k:Nat):Prop where
 inv:Inv s bad want c k
 say:nB F T bad g c
def sO (F T:Nat)(s:ae)(bad:List Bool)(want:List (List UInt8))(g:Gh)(c:aj)(k:Nat):Prop:= ∃g',g.le g'/\sb F T s bad want g' c k
theorem sb.put {F T:Nat}{s:ae}{bad:List Bool}{want:List (List UInt8)}{g:Gh}{c:aj}{k:Nat}(h:sb F T s bad want g c k){i:Nat}(hb:bad[i]? =some false)(hi:i<c.N.length){x:ar×List al}(hk:mR s (i:Int) c.N[i] k x)(ha:xn F T bad g (i:Int) x):sO F T s bad want g (BJ c i x.1 x.2) (k+1):=by obtain ⟨g',h1,h2⟩:=h.say.put hi ha;exact ⟨g',h1,h.inv.put hb (cM hi) hk,h2⟩
theorem Hu {s:ae}{bad:List Bool}{want:List (List UInt8)}{c:aj}{k:Nat}(h:Inv s bad want c k){i:Nat}(hb:bad[i]? =some false):i<c.N.length:=by have:=(List.getElem?_eq_some_iff.1 hb).1;have:=h.len;omega
theorem XM {F T:Nat}{g:Gh}{s:ae}(hF:s.F=F)(hT:s.T=T){bad:List Bool}(hn:(bad.length:Int)=mS s){want:List (List UInt8)}{c:aj}{k:Nat}(h:sb F T s bad want g c k)(hk:k<=1000000){i:Nat}(hb:bad[i]? =some false){m:al}(hm:xl m)(hmg:LB bad g m):aL (cN c (i:Int) m) λr=>sO F T s bad want g r.2 (k+1):=by have hi:=Hu h.inv hb;have KL:=h.inv.nodes i _ (cM hi);obtain ⟨x,ex,hx⟩:=VA hF hT hn KL hk h.say.ok (h.say.node i _ hb (cM hi)) hm hmg;obtain ⟨x',ex',EB⟩:=AO KL hk hm;rw [ex] at ex';obtain rfl:=sh ex';have:=h.put hb hi EB hx;rw [<-h.inv.S] at ex;unfold cN;rw [bA hi,ex,au,th hi _ h.inv.r9 (by have:=EB.out;omega),au];exact .mk this
theorem aeU {F T:Nat}{g:Gh}{s:ae}{bad:List Bool}{want:List (List UInt8)}{c:aj}{k:Nat}(h:sb F T s bad want g c k){i:Nat}(hb:bad[i]? =some false)(v:Int):aL (dW c (i:Int) v) λr=>sO F T s bad want g r.2 (k+1):=by have hi:=Hu h.inv hb;have KL:=h.inv.nodes i _ (cM hi);obtain ⟨ex,EB⟩:=yA KL v;have hx:=Vz KL h.say.ok (h.say.node i _ hb (cM hi)) v;have:=h.put hb hi EB hx;rw [<-h.inv.S] at ex;unfold dW;rw [bA hi,ex,au,th hi _ h.inv.r9 (by have:=EB.out;omega),au];exact .mk this
theorem aiI {F T:Nat}{g:Gh}{s:ae}{bad:List Bool}{want:List (List UInt8)}(hw:want.length=bad.length){c:aj}{k:Nat}(h:sb F T s bad want g c k)(hk:k<=1000000){i:Nat}(hb:bad[i]? =some false):aL (dO c (i:Int)) λr=>sO F T s bad want g r.2 (k+1):=by
 have hi:=Hu h.inv hb;have KL:=h.inv.nodes i _ (cM hi);have hiw:i<c.Want.length:=by have:=h.inv.len;rw [h.inv.Want];omega
 obtain ⟨x,ex,hx⟩:=VB KL hk h.say.ok (h.say.node i _ hb (cM hi)) c.Want[i];obtain ⟨x',ex',EB⟩:=AP KL hk c.Want[i];rw [ex] at ex';obtain rfl:=sh ex';have:=h.put hb hi EB hx;rw [<-h.inv.S] at ex;unfold dO;rw [bA hi,bA hiw,ex,au,th hi _ h.inv.r9 (by have:=EB.out;omega),au];exact .mk this
theorem sb.still {F T:Nat}{s:ae}{bad:List Bool}{want:List (List UInt8)}{g:Gh}{c:aj}{k:Nat}(h:sb F T s bad want g c k):sb F T s bad want g ⟨c.S,c.bY,c.Want,c.N,[]⟩ k:=⟨⟨h.inv.S,h.inv.bY,h.inv.Want,h.inv.len,h.inv.nodes,by simp,λm hm=>(by cases hm),λm hm=>(by cases hm),λm hm=>(by cases hm),λm hm=>(by cases hm)⟩,⟨h.say.ok,h.say.node,λm hm=>(by cases hm)⟩⟩
theorem sO.trans {F T:Nat}{s:ae}{bad:List Bool}{want:List (List UInt8)}{g:Gh} {c c':aj} {k k':Nat}(h:sO F T s bad want g c k)(h2: ∀g',sb F T s bad want g' c k->sO F T s bad want g' c' k'):sO F T s bad want g c' k':=by obtain ⟨g',h1,h3⟩:=h;obtain ⟨g2,h4,h5⟩:=h2 g' h3;exact ⟨g2,h1.trans h4,h5⟩
end Dn.S
