import Derived.Test.YtbkodohojpchjaaGreatDoorDnPBatch7
import Derived.Test.YtbkodohojpchjaaGreatDoorDnPBatchQ
/-
  BatchTells. Conditions: none.
-/
open Go.Lit renaming int→aQ
open Go Dn
namespace Dn.S
theorem En (a:List ab)(a1:List UInt8)(hw: ∀y∈a,((aQ .i64 y.Client).wf=true)/\((aQ .i64 y.Seq).wf=true)/\((aQ .i64 y.Kind).wf=true)/\(y.Path.length<=Go.maxLen)/\(y.Value.length<=Go.maxLen)/\((aQ .i64 y.Version).wf=true)/\((aQ .i64 y.Session).wf=true)/\((aQ .i64 y.Span).wf=true)):gK a a1=some true:=Em Te a a1 hw
end Dn.S
