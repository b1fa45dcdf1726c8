import Derived.Test.YtmdlghpieagfhaaGreatDnPOctet
/-
  Numbers and texts as bytes: what the functions give. Conditions: none.
-/
open Go Dn
set_option linter.unusedVariables false
set_option linter.unusedSimpArgs false
namespace Dn.S
def OS:List UInt8:=(([0,1,2,2,3,3,3,3,4,4,4,4,4,4,4,4,5,5,5,5,5,5,5,5,5,5,5,5,5,5,5,5,6,6,6,6,6,6,6,6,6,6,6,6,6,6,6,6,6,6,6,6,6,6,6,6,6,6,6,6,6,6,6,6]:List UInt8)++([7,7,7,7,7,7,7,7,7,7,7,7,7,7,7,7,7,7,7,7,7,7,7,7,7,7,7,7,7,7,7,7,7,7,7,7,7,7,7,7,7,7,7,7,7,7,7,7,7,7,7,7,7,7,7,7,7,7,7,7,7,7,7,7]:List UInt8))++(([8,8,8,8,8,8,8,8,8,8,8,8,8,8,8,8,8,8,8,8,8,8,8,8,8,8,8,8,8,8,8,8,8,8,8,8,8,8,8,8,8,8,8,8,8,8,8,8,8,8,8,8,8,8,8,8,8,8,8,8,8,8,8,8]:List UInt8)++([8,8,8,8,8,8,8,8,8,8,8,8,8,8,8,8,8,8,8,8,8,8,8,8,8,8,8,8,8,8,8,8,8,8,8,8,8,8,8,8,8,8,8,8,8,8,8,8,8,8,8,8,8,8,8,8,8,8,8,8,8,8,8,8]:List UInt8))
theorem Ns: ∀y:Fin 256,((OS.getD y 0).toNat+7)/8=(if (y:Nat)=0 then 0 else 1)∧(OS.getD y 0).toNat≤8:=by decide+kernel
def Vf (y s:Int):Option Int:=if (0:Int)≤(IntKind.wrap .u8 y)∧(IntKind.wrap .u8 y)<(OS.length:Int) then some (IntKind.wrap .i64 (s+(IntKind.wrap .i64 ((OS.getD (Int.toNat (IntKind.wrap .u8 y)) 0).toNat:Int)))) else none
end Dn.S
