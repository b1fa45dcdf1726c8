import Derived.Test.YtmdlghpieagfhaaGreatDnPOctet2
/-
  Numbers and texts as bytes: the document's answer; what is taken. Conditions: none.
-/
open Go Dn
set_option linter.unusedVariables false
set_option linter.unusedSimpArgs false
namespace Dn.S
end Dn.S
