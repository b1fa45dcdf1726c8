import Derived.Test.YtmdlghpieagfhaaGreatDnPAcc4
/-
  Acceptors that are loaded: as the document says; AcceptorLoads. Conditions: none.
-/
open Go Dn
set_option linter.unusedVariables false
set_option linter.unusedSimpArgs false
namespace Dn.S
end Dn.S
