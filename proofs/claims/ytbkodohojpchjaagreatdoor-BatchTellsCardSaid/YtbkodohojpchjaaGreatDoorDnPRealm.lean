import Derived.Test.YtbkodohojpchjaaGreatDoorDnPShelf10
import Derived.Test.YtbkodohojpchjaaGreatDoorDnPWatch3
/-
  Realms: sessions. Conditions: none.
-/
set_option linter.unusedVariables false
set_option linter.unusedSimpArgs false
open Go Dn
namespace Dn.S
abbrev ag1 (x:wE):Int:=x.Id
abbrev ag2 (x:vo):Int:=x.Client
structure Zy (b:Fi):Prop where
 now:0<=b.Now/\b.Now<=1000000000
 len:b.L.length<=50
 inc:El ag1 b.L
 all: ∀x∈b.L,1<=x.Id/\1<=x.Span/\x.Span<=1000/\b.Now<x.R5/\x.R5<=b.Now+x.Span
end Dn.S
