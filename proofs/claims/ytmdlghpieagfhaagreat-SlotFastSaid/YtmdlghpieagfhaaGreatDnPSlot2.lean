import Derived.Test.YtmdlghpieagfhaaGreatDnPSlot
/-
  Nodes that hear, enter, lead, are loaded again. Conditions: none.
-/
open Go Dn
set_option linter.unusedVariables false
set_option linter.unusedSimpArgs false
namespace Dn.S
abbrev zV:aa:=⟨0,0,[]⟩
abbrev zR:ab:=⟨0,0,false,0,[],[]⟩
def II (v:aa):al:=⟨2,0,0,[],[],v,[],zR⟩
def ahN (i:Int) (p:List aa):al:=⟨3,i,0,[],[],zV,p,zR⟩
def ac8 (i:Int) (x:List UInt8):al:=⟨5,i,0,x,[],zV,[],zR⟩
def Wx (i:Int) (was:Bool) (n:au) (out:List al):List al:=if (n.L.ch&&!was)=true then out++[ac8 i n.L.Value] else out
theorem Tp {A:Type} (d was:Bool) (out:List al) (ho:out.length≤10) (i:Int) (x:List UInt8) (N:A):
 (bd (if d then some (!was) else some false:Option Bool) fun w7=>bd (if w7 then if (out.length+([(⟨5,i,0,x,[],zV,[],zR⟩:al)]:List al).length) *192≤2^46 then some (out++[(⟨5,i,0,x,[],zV,[],zR⟩:al)]) else none else some out:Option (List al)) fun w8=>some (N,w8))=
  some (N,if (d&&!was)=true then out++[ac8 i x] else out):=by
 cases d<;>cases was<;>simp only [bl,if_true,if_false,Bool.false_eq_true,Bool.not_true,Bool.not_false,Bool.and_true,Bool.and_false,Bool.true_and]
 rw [if_pos (by rw [List.length_singleton];omega)]
 rfl
theorem MI (l:ar) (t:List aa) (n:Int):(kO l t n).S=l.S:=by unfold kO;split<;>rfl
theorem KP (l:ar) (a:aa):(ft l a).S=l.S:=by
 unfold ft;split
 ·rfl
 ·rw [MI]
theorem NW (a:ao) (v:aa):(nN a v).1.S=a.S∧(nN a v).1.Me=a.Me:=by
 unfold nN;split
 ·exact ⟨rfl,rfl⟩
 ·split<;>exact ⟨rfl,rfl⟩
structure ada (m:al):Prop where
 proof:m.Proof.length≤30
 z1:m.fE.length≤30
 ac7: ∀r∈m.fE,r.Proof.length≤100
 r:m.R.Proof.length≤100
structure ahO (s:af) (i:Int) (n:au) (m:al) (k:Nat) (x:au×List al):Prop where
 prog:jk s i n m=some x
 ref:Pd (K3 s) i (plN n) (plM m)=some (plN x.1,x.2.map plM)
 inv:wN s i x.1 (k+1)
 out:x.2.length≤10
 small: ∀y∈x.2,ac6 y
end Dn.S
