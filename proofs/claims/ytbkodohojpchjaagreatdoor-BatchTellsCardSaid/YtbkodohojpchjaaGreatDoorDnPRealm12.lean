import Derived.Test.YtbkodohojpchjaaGreatDoorDnPRealm11
/-
  Realms as bytes: there are such bytes; RealmApplies. Conditions: none.
-/
set_option linter.unusedVariables false
set_option linter.unusedSimpArgs false
open Go Dn
namespace Dn.S
theorem FR {x:Int}(h0:0<=x)(h1:x<256):isByte x=true:=by unfold isByte;refine decide_eq_true ?_;rw [UInt8.toNat_ofNat'];omega
structure SY (l:List Int) (N:Nat):Prop where
 len:l.length<=N
 all:l.all isByte=true
theorem SY.app {l m:List Int}{N M:Nat}(h:SY l N)(h2:SY m M):SY (l++m) (N+M):=⟨by rw [List.length_append];have:=h.len;have:=h2.len;omega,by rw [List.all_append,h.all,h2.all];rfl⟩
theorem SY.one {x:Int}(h0:0<=x)(h1:x<256):SY [x] 1:=⟨by simp,by rw [List.all_cons,FR h0 h1];rfl⟩
theorem SY.le {l:List Int}{N M:Nat}(h:SY l N)(hm:N<=M):SY l M:=⟨Nat.le_trans h.len hm,h.all⟩
theorem SY.str (s:List UInt8):SY (gj s) s.length:=⟨by unfold gj;rw [List.length_map];exact Nat.le_refl _,by unfold gj;rw [List.all_map,List.all_eq_true];intro b _;have:=UInt8.toNat_lt b;show isByte (b.toNat:Int)=true;exact FR (by omega) (by omega)⟩
end Dn.S
