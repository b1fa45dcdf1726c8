import Derived.Test.YtjblhgpbkfmkoaaDnPAcc5
import Derived.Test.YtjblhgpbkfmkoaaDnC
/-
  AcceptorLoads, of bytes. Conditions: none.
-/
open Go Dn
namespace Dn.S
theorem uI (a:af) (b:List Int) (h: ∀y∈b,(Lit.int .u8 y).wf=true):dB a b=some true:=
 uH a b fun y hy=>by
  have:=Nc (h y hy)
  omega
end Dn.S
