import Derived.Test.YtmdlghpieagfhaaGreatDnPAcc4
/-
  Acceptors that are loaded: as the document says; AcceptorLoads. Conditions: none.
-/
set_option linter.unusedVariables false
set_option linter.unusedSimpArgs false
open Go Dn
namespace Dn.S
theorem Xx {a:ah}(h:Vn a):oY (OU a)=some (a.View,yQ a.Has,a.At,a.Value,a.Proof):=by unfold oY OU;rw [tE h.view];simp only;rw [tE (Rs _)];simp only;rw [tE h.at_];simp only;rw [MZ h.value (by decide)];simp only;have:=Xv h.proof [];rw [List.append_nil] at this;rw [this];simp
theorem kV.Vp {a:ah}(h:kV a):Vn a:=by
 have hL:=h.lm;refine ⟨⟨by have:=hL.v0;omega,by have:=hL.v1;omega⟩,?_,?_,?_⟩
 ·cases hh:a.Has with
  |true=>have:=hL.has hh;have:=hL.v1;exact ⟨by omega,by omega⟩
  |false=>rw [(hL.Gy hh).1];exact ⟨by decide,by decide⟩
 ·cases hh:a.Has with
  |true=>exact (hL.has hh).2.2
  |false=>rw [(hL.Gy hh).2];simp
 ·rcases hL.proof with hp|⟨hp,_⟩
  ·rw [hp];exact .nil
  ·have Xl:=(dB a.S).1 h.sz;have hlen:=hp.len;refine ⟨by omega,hp.one,λe he=> ?_,λe he=> ?_,λe he=>(hp.ll.all e he).2.2.2⟩
   ·have h1:=(hp.ll.all e he).1;have h2:=hp.xh e he;unfold mS at h2;exact ⟨by omega,by omega⟩
   ·have h1:=(hp.ll.all e he).2;exact ⟨by omega,by omega⟩
def T3 (a:ah):ah:=⟨a.S,a.Me,a.View,a.Has,a.At,a.Value,a.Proof,⟨[]⟩⟩
theorem Vq (a:ah):mkA a.S a.Me (a.View,yQ a.Has,a.At,a.Value,a.Proof)=T3 a:=by unfold mkA T3 yQ;cases a.Has<;>rfl
theorem Kr {a:ah}(h:FB a):FB (T3 a):=⟨h.v0,h.v1,h.has,h.Gy,h.proof⟩
theorem Xy {a:ah}(h:kV a){r:ah×Int}(hr:vO a.S a.Me (OU a) r):r=(T3 a,0):=by have:=hr.yes ⟨h.sz,h.me0,h.me1⟩ _ (Xx h.Vp) ⟨by show yQ a.Has=0\/yQ a.Has=1;cases a.Has<;>simp [yQ],by rw [Vq];exact Kr h.lm⟩;rw [this,Vq]
theorem OV {a:ah}(h:kV a):lq a.S a.Me (OU a)=some (T3 a,0):=by have hl:=abM h.Vp;obtain ⟨r,e,hr⟩:=TZ a.S a.Me (abL a) (by omega);rw [e,Xy h hr]
end Dn.S
