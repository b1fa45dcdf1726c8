import Derived.Test.YtmdlghpieagfhaaGreatDnPProof
/-
  Certificates: what may be, and what binds. Conditions: none.
-/
open Go Dn
set_option linter.unusedVariables false
set_option linter.unusedSimpArgs false
namespace Dn.S
theorem KK {s:af} (h:cX s):qn s=some (2 *s.F+2 *s.T+1):=h.cases (fun s=>qn s=some (2 *s.F+2 *s.T+1)) (by decide+kernel)
def ofP (p:List aa):Int×List UInt8×Bool:=match p with|[]=>(-1,[],false)|e::_=>(e.View,e.Value,true)
theorem Fp (p:List aa):o4 p=some (ofP p):=by
 cases p with
 |nil=>rfl
 |cons e r=>
  unfold o4 ofP
  rw [if_neg (by simp;omega)]
  rfl
theorem Ti (p:List aa):Mc p=some (ofP p):=Fp p
end Dn.S
