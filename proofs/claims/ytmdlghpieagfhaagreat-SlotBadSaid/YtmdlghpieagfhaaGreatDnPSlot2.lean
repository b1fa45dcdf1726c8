import Derived.Test.YtmdlghpieagfhaaGreatDnPSlot
/-
  Nodes that hear, enter, lead, are loaded again. Conditions: none.
-/
set_option linter.unusedVariables false
set_option linter.unusedSimpArgs false
open List renaming length_singleton→eJ
open Go Dn
namespace Dn.S
abbrev zV:aa:=⟨0,0,[]⟩
abbrev zR:ab:=⟨0,0,false,0,[],[]⟩
def AE (v:aa):al:=⟨2,0,0,[],[],v,[],zR⟩
def SH (i:Int)(p:List aa):al:=⟨3,i,0,[],[],zV,p,zR⟩
def K6 (r:ab):al:=⟨4,0,0,[],[],zV,[],r⟩
def Qx (i:Int)(x:List UInt8):al:=⟨5,i,0,x,[],zV,[],zR⟩
theorem afE {r:ab}(h:r.Proof.length<2^32):Vw (K6 r):=⟨by simp [K6],by simp [K6],by simp [K6],h⟩
def uO (i:Int)(V6:Bool)(n:aq)(out:List al):List al:=if (n.L.cq&&!V6)=true then out++[Qx i n.L.Value] else out
theorem za {A:Type}(d V6:Bool)(out:List al)(ho:out.length<=10)(i:Int)(x:List UInt8)(N:A): (bd (if d then some (!V6) else some false:Option Bool) λw7=>bd (if w7 then if (out.length+([(⟨5,i,0,x,[],zV,[],zR⟩:al)]:List al).length) *192<=2^46 then some (out++[(⟨5,i,0,x,[],zV,[],zR⟩:al)]) else none else some out:Option (List al)) λw8=>some (N,w8))= some (N,if (d&&!V6)=true then out++[Qx i x] else out):=by cases d<;>cases V6<;>simp only [ap,if_true,if_false,Bool.false_eq_true,Bool.not_true,Bool.not_false,Bool.and_true,Bool.and_false,Bool.true_and];rw [if_pos (by rw [eJ];omega)];rfl
theorem C9 (l:ar)(t:List aa)(n:Int):(je l t n).S=l.S:=by unfold je;split<;>rfl
theorem GH (l:ar)(a:aa):(ft l a).S=l.S:=by
 unfold ft;split
 ·rfl
 ·rw [C9]
theorem abQ (l:ar)(b:Int)(v:List UInt8):(EK l b v).S=l.S:=by
 unfold EK;split
 ·rfl
 ·rw [C9]
theorem Oe (l:ar)(b:Int)(p:List aa):(ln l b p).S=l.S:=by
 unfold ln;split
 ·cases p with
  |nil=>rfl
  |cons x r=>
   dsimp only;split
   ·rfl
   ·rw [C9]
 ·rfl
theorem Kc (a:ae)(v:Int)(x:List UInt8)(ok:Bool):(cN a v x ok).1.S=a.S/\(cN a v x ok).1.Me=a.Me:=by unfold cN;split<;>exact ⟨rfl,rfl⟩
theorem Hn (a:ae)(v:aa):(iD a v).1.S=a.S/\(iD a v).1.Me=a.Me:=by
 unfold iD;split
 ·exact ⟨rfl,rfl⟩
 ·split<;>exact ⟨rfl,rfl⟩
theorem Qy (a:ae)(v:Int):(j9 a v).1.S=a.S/\(j9 a v).1.Me=a.Me:=by unfold j9;split<;>exact ⟨rfl,rfl⟩
structure AF (m:al):Prop where
 proof:m.Proof.length<=30
 kZ:m.dP.length<=30
 Qw: ∀r∈m.dP,r.Proof.length<=100
 r:m.R.Proof.length<=100
structure aor (s:af) (i:Int) (n:aq) (m:al) (k:Nat) (x:aq×List al):Prop where
 prog:dZ s i n m=some x
 ref:UY (xI s) i (TW n) (plM m)=some (TW x.1,x.2.map plM)
 inv:jq s i x.1 (k+1)
 out:x.2.length<=10
 small: ∀y∈x.2,Vw y
theorem Zw {i:Int}{V6:Bool}{n:aq}{out:List al}(h:out.length<=5):(uO i V6 n out).length<=10:=by
 unfold uO;split
 ·rw [List.length_append,eJ];omega
 ·omega
end Dn.S
