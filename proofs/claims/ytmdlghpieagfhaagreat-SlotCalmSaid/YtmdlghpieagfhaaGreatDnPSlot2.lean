import Derived.Test.YtmdlghpieagfhaaGreatDnPSlot
/- Nodes that hear, enter, lead, are loaded again. Conditions: none. -/
set_option linter.unusedVariables false
set_option linter.unusedSimpArgs false
open List renaming length_singleton→cV
open Go Dn
namespace Dn.S
abbrev zV:aa:=⟨0,0,[]⟩
abbrev zR:ab:=⟨0,0,false,0,[],[]⟩
def pq (v:aa):ai:=⟨2,0,0,[],[],v,[],zR⟩
def yT (i:Int)(p:List aa):ai:=⟨3,i,0,[],[],zV,p,zR⟩
def EP (r:ab):ai:=⟨4,0,0,[],[],zV,[],r⟩
def Bf (i:Int)(x:List UInt8):ai:=⟨5,i,0,x,[],zV,[],zR⟩
def lG (i:Int)(EQ:Bool)(n:ao)(out:List ai):List ai:=if (n.L.bw&&!EQ)=true then out++[Bf i n.L.Value] else out
theorem jY {A:Type}(d EQ:Bool)(out:List ai)(ho:out.length<=10)(i:Int)(x:List UInt8)(N:A): (bd (if d then some (!EQ) else some false:Option Bool) λw7=>bd (if w7 then if (out.length+([(⟨5,i,0,x,[],zV,[],zR⟩:ai)]:List ai).length) *192<=2^46 then some (out++[(⟨5,i,0,x,[],zV,[],zR⟩:ai)]) else none else some out:Option (List ai)) λw8=>some (N,w8))= some (N,if (d&&!EQ)=true then out++[Bf i x] else out):=by cases d<;>cases EQ<;>simp only [au,if_true,if_false,Bool.false_eq_true,Bool.not_true,Bool.not_false,Bool.and_true,Bool.and_false,Bool.true_and];rw [if_pos (by rw [cV];omega)];rfl
theorem Dp (l:ar)(t:List aa)(n:Int):(dS l t n).S=l.S:=by unfold dS;split<;>rfl
theorem G7 (l:ar)(a:aa):(b8 l a).S=l.S:=by
 unfold b8;split
 ·rfl
 ·rw [Dp]
theorem afh (l:ar)(b:Int)(v:List UInt8):(uR l b v).S=l.S:=by
 unfold uR;split
 ·rfl
 ·rw [Dp]
theorem Pv (l:ar)(b:Int)(p:List aa):(fa l b p).S=l.S:=by
 unfold fa;split
 ·cases p with
  |nil=>rfl
  |cons x r=>
   dsimp only;split
   ·rfl
   ·rw [Dp]
 ·rfl
theorem KT (a:af)(v:Int)(x:List UInt8)(ok:Bool):(bU a v x ok).1.S=a.S/\(bU a v x ok).1.Me=a.Me:=by unfold bU;split<;>exact ⟨rfl,rfl⟩
theorem HV (a:af)(v:aa):(dp a v).1.S=a.S/\(dp a v).1.Me=a.Me:=by
 unfold dp;split
 ·exact ⟨rfl,rfl⟩
 ·split<;>exact ⟨rfl,rfl⟩
theorem R4 (a:af)(v:Int):(iL a v).1.S=a.S/\(iL a v).1.Me=a.Me:=by unfold iL;split<;>exact ⟨rfl,rfl⟩
structure qq (m:ai):Prop where
 proof:m.Proof.length<=30
 gJ:m.fC.length<=30
 G6: ∀r∈m.fC,r.Proof.length<=100
 r:m.R.Proof.length<=100
structure asx (s:ae) (i:Int) (n:ao) (m:ai) (k:Nat) (x:ao×List ai):Prop where
 prog:bq s i n m=some x
 ref:XE (plS s) i (plN n) (plM m)=some (plN x.1,x.2.map plM)
 inv:dP s i x.1 (k+1)
 out:x.2.length<=10
 small: ∀y∈x.2,acA y
theorem acB {i:Int}{EQ:Bool}{n:ao}{out:List ai}(h:out.length<=5):(lG i EQ n out).length<=10:=by
 unfold lG;split
 ·rw [List.length_append,cV];omega
 ·omega
end Dn.S
