import Derived.Test.YtmdlghpieagfhaaGreatDnPLearn2
/-
  Learners: a proof heard; LearnerTurns. Conditions: none.
-/
open Go Dn
set_option linter.unusedVariables false
set_option linter.unusedSimpArgs false
namespace Dn.S
end Dn.S
