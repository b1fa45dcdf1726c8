import Derived.Test.YtmdlghpieagfhaaGreatDnD
import Derived.Test.YtmdlghpieagfhaaGreatDnYT
/-
  Numbers and texts as bytes. Conditions: none.
-/
open Go Dn
set_option linter.unusedVariables false
set_option linter.unusedSimpArgs false
namespace Dn.S
theorem w8 (x:Int):IntKind.wrap .u8 x=x%256:=by simp [IntKind.wrap,IntKind.bits,IntKind.signed]
def ac2 (n:Nat):Nat:=if n=0 then 0 else if n<256 then 1 else if n<65536 then 2 else if n<16777216 then 3 else if n<4294967296 then 4 else if n<1099511627776 then 5 else if n<281474976710656 then 6 else if n<72057594037927936 then 7 else 8
def ac3:Nat→Nat→List Int
 |0,_=>[]
 |k+1,n=>((n/256^k%256:Nat):Int)::ac3 k n
def MF (l:List Int):Prop:= ∀x∈l,0≤x∧x<256
theorem MF.cons {c:Int} {l:List Int} (h:MF (c::l)):(0≤c∧c<256)∧MF l:=⟨h c (by simp),fun x hx=>h x (by simp [hx])⟩
theorem MF.app {l m:List Int} (h:MF l) (h2:MF m):MF (l++m):=fun x hx=>by
 rcases List.mem_append.1 hx with hx|hx
 ·exact h x hx
 ·exact h2 x hx
theorem MF.drop {l:List Int} (n:Nat) (h:MF l):MF (l.drop n):=fun x hx=>h x (List.mem_of_mem_drop hx)
theorem MF.take {l:List Int} (n:Nat) (h:MF l):MF (l.take n):=fun x hx=>h x (List.mem_of_mem_take hx)
def ahL (n:Nat):List Int:=(ac2 n:Int)::ac3 (ac2 n) n
def zz (n:Int):Nat:=if n<0 then (2 *(-(n+1))+1).toNat else (2 *n).toNat
def i64 (n:Int):Prop:= -9223372036854775808≤n∧n≤9223372036854775807
def ac4 (n:Int):List Int:=ahL (zz n)
theorem MF.all {l:List Int} (h:MF l):l.all isByte=true:=by
 rw [List.all_eq_true]
 intro x hx
 have:=h x hx
 unfold isByte
 refine decide_eq_true ?_
 rw [UInt8.toNat_ofNat']
 omega
end Dn.S
