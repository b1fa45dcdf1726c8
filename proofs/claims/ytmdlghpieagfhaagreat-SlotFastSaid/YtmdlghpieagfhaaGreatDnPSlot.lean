import Derived.Test.YtmdlghpieagfhaaGreatDnPAcc7
import Derived.Test.YtmdlghpieagfhaaGreatDnPLearn4
/-
  Nodes: what they come to, as the document says. Conditions: none.
-/
open Go Dn
set_option linter.unusedVariables false
set_option linter.unusedSimpArgs false
namespace Dn.S
def plN (n:au):ol:=⟨Vq n.A,plL n.L,n.iX,n.mE⟩
def plM (m:al):eg:=⟨m.Kind,m.gh,m.View,m.Value,m.fE,m.oW,m.Proof,m.R⟩
structure ac6 (m:al):Prop where
 z1:m.fE.length<2^32
 ac7: ∀r∈m.fE,r.Proof.length<2^32
 proof:m.Proof.length<2^32
 r:m.R.Proof.length<2^32
abbrev rk (r:ab):Int:=r.By
structure wN (s:af) (i:Int) (n:au) (k:Nat):Prop where
 acc:uG n.A
 YO:n.A.S=s
 Ww:n.A.Me=i
 nO:uH n.L
 To:n.L.S=s
 inc:qh rk n.iX
 small: ∀r∈n.iX,r.Proof.length≤100
 len:n.iX.length≤k
theorem wN.sz {s:af} {i:Int} {n:au} {k:Nat} (h:wN s i n k):cX s:=by have:=h.acc.sz;rw [h.YO] at this;exact this
theorem wN.mono {s:af} {i:Int} {n:au} {k k':Nat} (h:wN s i n k) (hk:k≤k'):wN s i n k':=⟨h.acc,h.YO,h.Ww,h.nO,h.To,h.inc,h.small,by have:=h.len;omega⟩
theorem uG.ZF {a:ao} (h:uG a):a.cP.L.length<2^31:=
 qi h.sz (s:=a.S) (last:=a.View) ⟨fun e he=>⟨(h.all e he).1,by have:=(h.all e he).2;omega⟩,h.Cn⟩
theorem uH.ZF {l:ar} (h:uH l):l.aZ.L.length<2^31∧l.bA.L.length<2^31∧l.Told.L.length<2^31:=
 ⟨qi h.sz h.acc,qi h.sz h.Wv,qi h.sz h.told⟩
def NV (s:af) (v:Int):Int:=Int.tmod (imax v 0) (vl s)
theorem Hp {s:af} (h:cX s) (v:Int):iZ s v=some (NV s v):=by
 unfold iZ NV vl
 have YM:=(fY s).1 h
 rw [tp h,bl,if_pos (by rw [Bool.not_eq_true',decide_eq_false_iff_not];omega)]
end Dn.S
