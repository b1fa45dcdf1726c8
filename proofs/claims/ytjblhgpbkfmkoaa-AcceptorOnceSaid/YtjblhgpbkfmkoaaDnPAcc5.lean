import Derived.Test.YtjblhgpbkfmkoaaDnPAcc4
/-
  Acceptors that are loaded: as the document says; AcceptorLoads. Conditions: none.
-/
open Go Dn
set_option linter.unusedVariables false
set_option linter.unusedSimpArgs false
namespace Dn.S
theorem LV {a:ae} (h:J9 a):iN (EF a)=some (a.View,qz a.Has,a.At,a.Value,a.Proof):=by
 unfold iN EF
 rw [mb h.view]
 simp only
 rw [mb (GP _)]
 simp only
 rw [mb h.at_]
 simp only
 rw [Dg h.value (by decide)]
 simp only
 have:=LS h.proof []
 rw [List.append_nil] at this
 rw [this]
 simp
theorem et.Kb {a:ae} (h:et a):J9 a:=by
 have hL:=h.dR
 refine ⟨⟨by have:=hL.v0;omega,by have:=hL.v1;omega⟩,?_,?_,?_⟩
 ·cases hh:a.Has with
  |true=>have:=hL.has hh;have:=hL.v1;exact ⟨by omega,by omega⟩
  |false=>rw [(hL.jP hh).1];exact ⟨by decide,by decide⟩
 ·cases hh:a.Has with
  |true=>exact (hL.has hh).2.2
  |false=>rw [(hL.jP hh).2];simp
 ·rcases hL.proof with hp|⟨hp,_⟩
  ·rw [hp];exact .nil
  ·have Wp:=(fh a.S).1 h.sz
   have hlen:=hp.len
   refine ⟨by omega,hp.one,fun e he=> ?_,fun e he=> ?_,fun e he=>(hp.ji.all e he).2.2.2⟩
   ·have h1:=(hp.ji.all e he).1
    have h2:=hp.Wo e he
    unfold ur at h2
    exact ⟨by omega,by omega⟩
   ·have h1:=(hp.ji.all e he).2
    exact ⟨by omega,by omega⟩
def EG (a:ae):ae:=⟨a.S,a.Me,a.View,a.Has,a.At,a.Value,a.Proof,⟨[]⟩⟩
theorem Kc (a:ae):VS a.S a.Me (a.View,qz a.Has,a.At,a.Value,a.Proof)=EG a:=by
 unfold VS EG qz
 cases a.Has<;>rfl
theorem A6 {a:ae} (h:wX a):wX (EG a):=⟨h.v0,h.v1,h.has,h.jP,h.proof⟩
theorem LW {a:ae} (h:et a) {r:ae×Int} (hr:kZ a.S a.Me (EF a) r):r=(EG a,0):=by
 have:=hr.yes ⟨h.sz,h.VO,h.Ih⟩ _ (LV h.Kb) ⟨by show qz a.Has=0∨qz a.Has=1;cases a.Has<;>simp [qz],by rw [Kc];exact A6 h.dR⟩
 rw [this,Kc]
theorem EH {a:ae} (h:et a):fE a.S a.Me (EF a)=some (EG a,0):=by
 have hl:=PS h.Kb
 obtain ⟨r,e,hr⟩:=IW a.S a.Me (PR a) (by omega)
 rw [e,LW h hr]
end Dn.S
