import Derived.Test.YtjblhgpbkfmkoaaDnPTally
/-
  Tallies: adding, counting and the best, as the document says. Conditions: none.
-/
open Go Dn
set_option linter.unusedVariables false
set_option linter.unusedSimpArgs false
namespace Dn.S
def zm (v:Int) (s:List UInt8) (x:ab):Bool:=decide (x.View=v)&&decide (x.Value=s)
def NY (L:List ab) (v:Int) (s:List UInt8):Nat:=(L.filter (zm v s)).length
theorem uA {α:Type} {p:α→Bool} {L:List α} {k:Nat} (hk:k<L.length):(L.take (k+1)).filter p=(L.take k).filter p++if p L[k] then [L[k]] else []:=by
 rw [List.take_add_one,List.getElem?_eq_getElem hk,List.filter_append]
 congr 1
 simp only [Option.toList_some,List.filter_cons,List.filter_nil]
theorem p7 {α:Type} {p:α→Bool} {L:List α} {k:Nat}:((L.take k).filter p).length≤L.length:=Nat.le_trans (List.length_filter_le _ _) (by rw [List.length_take];omega)
theorem Ip (L:List ab) (v:Int) (s:List UInt8) (hl:L.length<2^32):et ⟨L⟩ v s=some (L.filter (zm v s)):=by
 unfold et
 have LX:Loop (dk ⟨L⟩ v s) (([]:List ab),0)=some (L.filter (zm v s)):=by
  refine bE.eq (bE.count (fun k=>((L.take k).filter (zm v s),(k:Int))) L.length (fun _=>True) (by simp) trivial (fun k hk _=> ?_) (fun _=> ?_))
  ·unfold dk
   simp only [show ((k:Int)<(L.length:Int)) by omega,if_true,cG hk]
   have hb:(if L[k].View=v then some (decide (L[k].Value=s)) else some false:Option Bool)=some (zm v s L[k]):=by unfold zm;split<;>simp [*]
   rw [hb]
   simp only [aA]
   rw [wrap64 (by omega) (by omega),uA hk,show ((k+1:Nat):Int)=(k:Int)+1 by omega]
   have hle:=p7 (p:=zm v s) (L:=L) (k:=k)
   cases zm v s L[k] with
   |true=>simp only [if_true];rw [if_pos (by simp only [List.length_cons,List.length_nil];omega)];exact .mk ⟨rfl,trivial⟩
   |false=>simp only [Bool.false_eq_true,if_false,aA,List.append_nil];exact .mk ⟨rfl,trivial⟩
  ·unfold dk
   simp only [show¬((L.length:Int)<(L.length:Int)) by omega,if_false,List.take_length]
   exact .mk rfl
 rw [LX];rfl
theorem count_eq (L:List ab) (v:Int) (s:List UInt8) (hl:L.length<2^32):fq ⟨L⟩ v s=some (NY L v s:Int):=by
 unfold fq
 rw [Ip L v s hl];rfl
def cQ (x:ab):List MV:=[.i .i64 x.View,.s x.Value]
def T3 (o:Option ab):Int×List UInt8×Bool:=match o with|some z=>(z.View,z.Value,true)|none=>(0,[],false)
@[simp] theorem Ry (z : ab) : T3 (some z) = (z.View, z.Value, true) := rfl
@[simp] theorem Rz : T3 none = (0, [], false) := rfl
end Dn.S
