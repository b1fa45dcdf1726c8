import Derived.Test.YtmdlghpieagfhaaGreatDnPAcc4
/- Acceptors that are loaded: as the document says;. Conditions: none. -/
set_option linter.unusedVariables false
set_option linter.unusedSimpArgs false
open Go Dn
namespace Dn.S
theorem X8 {a:af}(h:VW a):pj (Po a)=some (a.View,zn a.Has,a.At,a.Value,a.Proof):=by unfold pj Po;rw [tT h.view];simp only;rw [tT (RU _)];simp only;rw [tT h.at_];simp only;rw [Ns h.value (by decide)];simp only;have:=X6 h.proof [];rw [List.append_nil] at this;rw [this];simp
theorem kO.RX {a:af}(h:kO a):VW a:=by
 have hL:=h.jB;refine ⟨⟨by have:=hL.v0;omega,by have:=hL.v1;omega⟩,?_,?_,?_⟩
 ·cases hh:a.Has with
  |true=>have:=hL.has hh;have:=hL.v1;exact ⟨by omega,by omega⟩
  |false=>rw [(hL.Ba hh).1];exact ⟨by decide,by decide⟩
 ·cases hh:a.Has with
  |true=>exact (hL.has hh).2.2
  |false=>rw [(hL.Ba hh).2];simp
 ·rcases hL.proof with hp|⟨hp,_⟩
  ·rw [hp];exact .nil
  ·have Nj:=(b7 a.S).1 h.sz;have hlen:=hp.len;refine ⟨by omega,hp.one,λe he=> ?_,λe he=> ?_,λe he=>(hp.jA.all e he).2.2.2⟩
   ·have h1:=(hp.jA.all e he).1;have h2:=hp.xD e he;unfold kz at h2;exact ⟨by omega,by omega⟩
   ·have h1:=(hp.jA.all e he).2;exact ⟨by omega,by omega⟩
def UC (a:af):af:=⟨a.S,a.Me,a.View,a.Has,a.At,a.Value,a.Proof,⟨[]⟩⟩
theorem VZ (a:af):mkA a.S a.Me (a.View,zn a.Has,a.At,a.Value,a.Proof)=UC a:=by unfold mkA UC zn;cases a.Has<;>rfl
theorem KN {a:af}(h:F7 a):F7 (UC a):=⟨h.v0,h.v1,h.has,h.Ba,h.proof⟩
theorem X9 {a:af}(h:kO a){r:af×Int}(hr:wa a.S a.Me (Po a) r):r=(UC a,0):=by have:=hr.yes ⟨h.sz,h.me0,h.me1⟩ _ (X8 h.RX) ⟨by show zn a.Has=0\/zn a.Has=1;cases a.Has<;>simp [zn],by rw [VZ];exact KN h.jB⟩;rw [this,VZ]
theorem Pp {a:af}(h:kO a):lL a.S a.Me (Po a)=some (UC a,0):=by have hl:=acx h.RX;obtain ⟨r,e,hr⟩:=UB a.S a.Me (acw a) (by omega);rw [e,X9 h hr]
end Dn.S
