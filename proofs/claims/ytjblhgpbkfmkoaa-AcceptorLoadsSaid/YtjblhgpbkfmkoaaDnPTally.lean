import Derived.Test.YtjblhgpbkfmkoaaDnYT
import Derived.Test.YtjblhgpbkfmkoaaDnC
/-
  Tallies: the functions on typed values are what the document says. Conditions: none.
-/
open Go Dn
set_option linter.unusedVariables false
set_option linter.unusedSimpArgs false
namespace Dn.S
abbrev vk (e:ab):Int:=e.By
def yc (a:ab):Prop:=0≤a.By∧0≤a.View∧a.View≤100000∧a.Value.length≤6000
instance (a:ab):Decidable (yc a):=by unfold yc;infer_instance
theorem ux (a:ab):qz a=some (decide (yc a)):=by
 unfold qz yc
 by_cases h1:0≤a.By<;>by_cases h2:0≤a.View<;>by_cases h3:a.View≤100000<;>simp [h1,h2,h3]
 all_goals omega
theorem DG (a:ab):ko a=some (decide (yc a)):=ux a
structure uy (L:List ab):Prop where
 all: ∀e∈L,yc e
 inc:yb vk L
theorem Io {α:Type} {key:α→Int} {L:List α} (h: ∀j (hj:j+1<L.length),key L[j]<key L[j+1]):yb key L:=by
 unfold yb
 rw [List.pairwise_iff_getElem]
 intro i j hi hj Xn
 induction j with
 |zero=>omega
 |succ j ih=>
  have h1:=h j hj
  by_cases W5:i=j
  ·subst W5;exact h1
  ·exact Int.lt_trans (ih (by omega) (by omega)) h1
def QZ (L:List ab) (k:Nat):Prop:= ∃hk:k<L.length,yc L[k]∧(0<k→(L[k-1]'(by omega)).By<L[k].By)
theorem gU {L:List ab}:(∀k,k<L.length→QZ L k)↔uy L:=by
 constructor
 ·intro h
  refine ⟨fun e he=> ?_,Io fun j hj=> ?_⟩
  ·obtain ⟨k,hk,rfl⟩:=List.mem_iff_getElem.1 he
   exact (h k hk).2.1
  ·have:=(h (j+1) hj).2.2 (by omega)
   simpa using this
 ·intro h k hk
  exact ⟨hk,h.all _ (List.getElem_mem hk),fun h0=>h.inc.lt hk (by omega)⟩
theorem DH (L:List ab) (hl:L.length<2^60):bE (kp ⟨L⟩) fun b=>b=true↔uy L:=by
 unfold kp
 refine bE.bd (p0 L.length (QZ L) false (fun k hk _=> ?_) ?_) ?_
 ·unfold lZ
  simp only [show ((k:Int)<(L.length:Int)) by omega,if_true,cG hk,ux,aA]
  rw [wrap64 (x:=(k:Int)+1) (by omega) (by omega),show (k:Int)+1=((k+1:Nat):Int) by omega]
  by_cases hm:yc L[k]
  ·simp only [hm,decide_true,Bool.not_true,Bool.false_eq_true,if_false]
   by_cases g5:k=0
   ·subst g5
    simp only [show¬((0:Int)<((0:Nat):Int)) by omega,if_false,aA,Bool.false_eq_true]
    exact ⟨fun _=>trivial,fun h=>absurd ⟨hk,hm,by omega⟩ h⟩
   ·have Kw:k-1<L.length:=by omega
    rw [wrap64 (x:=(k:Int)-1) (by omega) (by omega),show ((k:Int)-1)=((k-1:Nat):Int) by omega]
    simp only [show ((0:Int)<(k:Int)) by omega,if_true,cG Kw,cG hk,aA]
    by_cases g6:L[k].By≤L[k-1].By
    ·simp only [g6,decide_true,if_true];exact ⟨fun ⟨_,_,h⟩=>by have:=h (by omega);omega,fun _=>trivial⟩
    ·simp only [g6,decide_false,Bool.false_eq_true,if_false];exact ⟨fun _=>trivial,fun h=>absurd ⟨hk,hm,fun _=>by omega⟩ h⟩
  ·simp only [hm,decide_false,Bool.not_false,if_true,aA]
   exact ⟨fun ⟨_,h,_⟩=>absurd h hm,fun _=>trivial⟩
 ·unfold lZ
  simp only [show¬((L.length:Int)<(L.length:Int)) by omega,if_false]
 ·rintro r (⟨rfl,h⟩|⟨rfl,k,hk,h⟩)
  ·exact .mk ⟨fun _=>gU.1 h,fun _=>rfl⟩
  ·exact .mk ⟨fun h=>(by cases h),fun hr=>absurd (gU.2 hr k hk) h⟩
theorem zl (L:List ab) (hl:L.length<2^60):bE (fp ⟨L⟩) fun b=>b=true↔uy L:=by
 unfold fp
 refine bE.bd (p0 L.length (QZ L) false (fun k hk _=> ?_) ?_) ?_
 ·unfold eI
  simp only [show ((k:Int)<(L.length:Int)) by omega,if_true,cG hk,DG,aA]
  rw [wrap64 (x:=(k:Int)+1) (by omega) (by omega),show (k:Int)+1=((k+1:Nat):Int) by omega]
  by_cases hm:yc L[k]
  ·simp only [hm,decide_true,Bool.not_true,Bool.false_eq_true,if_false]
   by_cases g5:k=0
   ·subst g5
    simp only [show¬((0:Int)<((0:Nat):Int)) by omega,if_false,aA,Bool.false_eq_true]
    exact ⟨fun _=>trivial,fun h=>absurd ⟨hk,hm,by omega⟩ h⟩
   ·have Kw:k-1<L.length:=by omega
    rw [wrap64 (x:=(k:Int)-1) (by omega) (by omega),show ((k:Int)-1)=((k-1:Nat):Int) by omega]
    simp only [show ((0:Int)<(k:Int)) by omega,if_true,cG Kw,cG hk,aA]
    by_cases g6:L[k].By≤L[k-1].By
    ·simp only [g6,decide_true,if_true];exact ⟨fun ⟨_,_,h⟩=>by have:=h (by omega);omega,fun _=>trivial⟩
    ·simp only [g6,decide_false,Bool.false_eq_true,if_false];exact ⟨fun _=>trivial,fun h=>absurd ⟨hk,hm,fun _=>by omega⟩ h⟩
  ·simp only [hm,decide_false,Bool.not_false,if_true,aA]
   exact ⟨fun ⟨_,h,_⟩=>absurd h hm,fun _=>trivial⟩
 ·unfold eI
  simp only [show¬((L.length:Int)<(L.length:Int)) by omega,if_false]
 ·rintro r (⟨rfl,h⟩|⟨rfl,k,hk,h⟩)
  ·exact .mk ⟨fun _=>gU.1 h,fun _=>rfl⟩
  ·exact .mk ⟨fun h=>(by cases h),fun hr=>absurd (gU.2 hr k hk) h⟩
theorem Q0 (x y:ab):((decide (x.By=y.By))&&((decide (x.View=y.View))&&(decide (x.Value=y.Value))))=decide (x=y):=by
 cases x;cases y
 rw [Bool.eq_iff_iff]
 simp
theorem yd (a b:List ab) (hl:a.length<2^60):nj a b=some (decide (a=b)):=by
 unfold nj
 by_cases h:a.length=b.length
 ·simp only [show ((a.length:Int)=(b.length:Int)) by omega,decide_true,Bool.not_true,Bool.false_eq_true,if_false]
  have LX:Loop (kV a b) 0=some (if a=b then .inl () else .inr false):=by
   refine Im h (fun k ha hb=> ?_) ?_
   ·unfold kV
    simp only [show ((k:Int)<(a.length:Int)) by omega,if_true,cG ha,cG hb,Q0]
    rw [wrap64 (by omega) (by omega),show (k:Int)+1=((k+1:Nat):Int) by omega]
    by_cases he:a[k]=b[k]<;>simp [he]
   ·unfold kV
    simp only [show¬((a.length:Int)<(a.length:Int)) by omega,if_false]
  rw [LX]
  by_cases he:a=b<;>simp [he]
 ·simp only [show¬((a.length:Int)=(b.length:Int)) by omega,decide_false,Bool.not_false,if_true]
  rw [decide_eq_false]
  intro he;exact h (by rw [he])
end Dn.S
