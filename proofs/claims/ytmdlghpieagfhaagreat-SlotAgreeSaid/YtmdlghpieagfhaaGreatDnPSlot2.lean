import Derived.Test.YtmdlghpieagfhaaGreatDnPSlot
/-
  Nodes that hear, enter, lead, are loaded again. Conditions: none.
-/
set_option linter.unusedVariables false
set_option linter.unusedSimpArgs false
open List renaming length_singleton→cM
open Go Dn
namespace Dn.S
abbrev zV:aa:=⟨0,0,[]⟩
abbrev zR:ab:=⟨0,0,false,0,[],[]⟩
def sC (v:aa):al:=⟨2,0,0,[],[],v,[],zR⟩
def Es (i:Int)(p:List aa):al:=⟨3,i,0,[],[],zV,p,zR⟩
def Lz (r:ab):al:=⟨4,0,0,[],[],zV,[],r⟩
def He (i:Int)(x:List UInt8):al:=⟨5,i,0,x,[],zV,[],zR⟩
def nA (i:Int)(Et:Bool)(n:ar)(out:List al):List al:=if (n.L.bQ&&!Et)=true then out++[He i n.L.Value] else out
theorem n7 {A:Type}(d Et:Bool)(out:List al)(ho:out.length<=10)(i:Int)(x:List UInt8)(N:A): (bd (if d then some (!Et) else some false:Option Bool) λw7=>bd (if w7 then if (out.length+([(⟨5,i,0,x,[],zV,[],zR⟩:al)]:List al).length) *192<=2^46 then some (out++[(⟨5,i,0,x,[],zV,[],zR⟩:al)]) else none else some out:Option (List al)) λw8=>some (N,w8))= some (N,if (d&&!Et)=true then out++[He i x] else out):=by cases d<;>cases Et<;>simp only [au,if_true,if_false,Bool.false_eq_true,Bool.not_true,Bool.not_false,Bool.and_true,Bool.and_false,Bool.true_and];rw [if_pos (by rw [cM];omega)];rfl
theorem CY (l:aq)(t:List aa)(n:Int):(eu l t n).S=l.S:=by unfold eu;split<;>rfl
theorem GD (l:aq)(a:aa):(da l a).S=l.S:=by
 unfold da;split
 ·rfl
 ·rw [CY]
theorem aeE (l:aq)(b:Int)(v:List UInt8):(AM l b v).S=l.S:=by
 unfold AM;split
 ·rfl
 ·rw [CY]
theorem OZ (l:aq)(b:Int)(p:List aa):(jb l b p).S=l.S:=by
 unfold jb;split
 ·cases p with
  |nil=>rfl
  |cons x r=>
   dsimp only;split
   ·rfl
   ·rw [CY]
 ·rfl
theorem Kx (a:ah)(v:Int)(x:List UInt8)(ok:Bool):(b8 a v x ok).1.S=a.S/\(b8 a v x ok).1.Me=a.Me:=by unfold b8;split<;>exact ⟨rfl,rfl⟩
theorem Ht (a:ah)(v:aa):(fm a v).1.S=a.S/\(fm a v).1.Me=a.Me:=by
 unfold fm;split
 ·exact ⟨rfl,rfl⟩
 ·split<;>exact ⟨rfl,rfl⟩
theorem Rz (a:ah)(v:Int):(lM a v).1.S=a.S/\(lM a v).1.Me=a.Me:=by unfold lM;split<;>exact ⟨rfl,rfl⟩
structure xl (m:al):Prop where
 proof:m.Proof.length<=30
 kQ:m.fN.length<=30
 Kw: ∀r∈m.fN,r.Proof.length<=100
 r:m.R.Proof.length<=100
structure arO (s:ae) (i:Int) (n:ar) (m:al) (k:Nat) (x:ar×List al):Prop where
 prog:ch s i n m=some x
 ref:WU (plS s) i (plN n) (plM m)=some (plN x.1,x.2.map plM)
 inv:gE s i x.1 (k+1)
 out:x.2.length<=10
 small: ∀y∈x.2,abP y
theorem abS {i:Int}{Et:Bool}{n:ar}{out:List al}(h:out.length<=5):(nA i Et n out).length<=10:=by
 unfold nA;split
 ·rw [List.length_append,cM];omega
 ·omega
end Dn.S
