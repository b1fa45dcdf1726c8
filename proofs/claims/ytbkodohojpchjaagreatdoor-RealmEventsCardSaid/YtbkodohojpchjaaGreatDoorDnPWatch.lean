import Derived.Test.YtbkodohojpchjaaGreatDoorDnPPath4
import Derived.Test.YtbkodohojpchjaaGreatDoorDnD
/-
  Watches: the functions on typed values. Conditions: none.
-/
open Go Dn
set_option linter.unusedVariables false
set_option linter.unusedSimpArgs false
namespace Dn.S
theorem zp {α:Type} {p:α→Bool} {L:List α} {k:Nat} (hk:k<L.length):(L.take (k+1)).filter p=(L.take k).filter p++if p L[k] then [L[k]] else []:=by
 rw [List.take_add_one,List.getElem?_eq_getElem hk,List.filter_append]
 congr 1
 simp only [Option.toList_some,List.filter_cons,List.filter_nil]
theorem DX {α:Type} {p:α→Bool} {L:List α} {k:Nat}:((L.take k).filter p).length≤L.length:=Nat.le_trans (List.length_filter_le _ _) (by rw [List.length_take];omega)
theorem OS {α β:Type} {f:α→β} {L:List α} {k:Nat} (hk:k<L.length):(L.take (k+1)).map f=(L.take k).map f++[f L[k]]:=by
 rw [List.take_add_one,List.getElem?_eq_getElem hk,List.map_append];rfl
theorem An (x y:ak):((decide (x.Path=y.Path))&&((decide (x.Client=y.Client))&&(decide (x.Kids=y.Kids))))=decide (x=y):=by
 cases x;cases y;rw [Bool.eq_iff_iff];simp
theorem OT (a b:List ak) (hl:a.length<2^60):dN a b=some (decide (a=b)):=by
 unfold dN
 by_cases h:a.length=b.length
 ·simp only [show ((a.length:Int)=(b.length:Int)) by omega,decide_true,Bool.not_true,Bool.false_eq_true,if_false]
  have iw:Loop (dq a b) 0=some (if a=b then .inl () else .inr false):=by
   refine Ai h (fun k ha hb=> ?_) ?_
   ·unfold dq
    simp only [show ((k:Int)<(a.length:Int)) by omega,if_true,cg ha,cg hb,An]
    rw [wrap64 (by omega) (by omega),show (k:Int)+1=((k+1:Nat):Int) by omega]
    by_cases he:a[k]=b[k]<;>simp [he]
   ·unfold dq
    simp only [show¬((a.length:Int)<(a.length:Int)) by omega,if_false]
  rw [iw]
  by_cases he:a=b<;>simp [he]
 ·simp only [show¬((a.length:Int)=(b.length:Int)) by omega,decide_false,Bool.not_false,if_true]
  rw [decide_eq_false]
  intro he;exact h (by rw [he])
theorem Sr (a b:bB) (hl:a.L.length<2^60):pX a b=some (decide (a.L=b.L)):=by
 unfold pX
 rw [OT _ _ hl];rfl
def LB (p:List UInt8):List UInt8×Int:=if bJ p then (if p=[47] then ([],6) else (rq (aM p).dropLast,0)) else ([],13)
def nF (c:aA) (w:ak):Bool:=
 (decide (1≤c.Kind)&&decide (c.Kind≤3)&&bJ c.Path)&&(if w.Kids then decide ((LB c.Path).2=0)&&(!decide (c.Kind=2))&&decide ((LB c.Path).1=w.Path) else decide (c.Path=w.Path))
theorem JG (k:Int) (b:Bool):(if k<1 then some true else if (3:Int)<k then some true else some (!b))=some (!(decide (1≤k)&&decide (k≤3)&&b)):=by
 by_cases h1:k<1
 ·rw [if_pos h1,decide_eq_false (show¬1≤k by omega)];rfl
 ·rw [if_neg h1,decide_eq_true (show 1≤k by omega)]
  by_cases h2:(3:Int)<k
  ·rw [if_pos h2,decide_eq_false (show¬k≤3 by omega)];rfl
  ·rw [if_neg h2,decide_eq_true (show k≤3 by omega)];rfl
theorem DY (c:aA) (w:ak):ju c w=some (nF c w):=by
 unfold ju nF
 rw [sZ,aR,JG,aR,Ge,aR]
 show _=some ((decide (1≤c.Kind)&&decide (c.Kind≤3)&&bJ c.Path)&&(if w.Kids then decide ((LB c.Path).2=0)&&(!decide (c.Kind=2))&&decide ((LB c.Path).1=w.Path) else decide (c.Path=w.Path)))
 cases hg:(decide (1≤c.Kind)&&decide (c.Kind≤3)&&bJ c.Path) with
 |false=>rfl
 |true=>
  rw [if_neg (by decide)]
  cases hk:w.Kids with
  |false=>rfl
  |true=>
   rw [if_neg (by decide)]
   show bd (if (LB c.Path).2=0 then if (!decide (c.Kind=2))=true then some (decide ((LB c.Path).1=w.Path)) else some false else some false) _=_
   by_cases h1:(LB c.Path).2=0<;>by_cases h2:c.Kind=2<;>simp [h1,h2]
def uF (c:aA) (L:List ak):List bn:=(L.filter (nF c)).map fun w=>⟨w,c⟩
def ru (c:aA) (L:List ak):List ak:=L.filter fun w=>!nF c w
theorem OU (c:aA) (L:List ak):(uF c L).length+(ru c L).length=L.length:=by
 unfold uF ru
 rw [List.length_map]
 induction L with
 |nil=>rfl
 |cons x r ih=>cases h:nF c x<;>simp [h]<;>omega
theorem Ss (c:aA): ∀(L:List ak) (out:List bn),out.length+L.length≤2^20→yO (fun u s=>kI u c s) out L=some (ru c L,out++uF c L):=by
 intro L
 induction L with
 |nil=>intro out _;simp [yO,ru,uF]
 |cons x r ih=>
  intro out hl
  simp only [List.length_cons] at hl
  unfold yO
  have e1:kI x c out=some (nF c x,if nF c x then out++[⟨x,c⟩] else out):=by
   unfold kI
   rw [DY,aR]
   cases nF c x with
   |false=>rfl
   |true=>rw [if_pos rfl,if_pos (by simp only [List.length_cons,List.length_nil];omega),aR];rfl
  rw [e1,aR]
  dsimp only
  rw [ih _ (by split<;>simp<;>omega),aR]
  cases h:nF c x<;>simp [ru,uF,h]
def xt (st:List ak×List bn) (c:aA):List ak×List bn:=(ru c st.1,st.2++uF c st.1)
def jU (L:List ak) (l:List aA):List ak×List bn:=l.foldl xt (L,[])
theorem Su (l:List aA): ∀st:List ak×List bn,(l.foldl xt st).1.length+(l.foldl xt st).2.length=st.1.length+st.2.length:=by
 induction l with
 |nil=>intro st;rfl
 |cons c l ih=>
  intro st
  rw [List.foldl_cons,ih]
  have:=OU c st.1
  simp only [xt,List.length_append]
  omega
theorem Gi (L:List ak) (l:List aA):(jU L l).1.length+(jU L l).2.length=L.length:=by
 have:=Su l (L,[]);simpa [jU] using this
theorem yd {α β:Type} {f:β→α→β} {b:β} {L:List α} {k:Nat} (hk:k<L.length):(L.take (k+1)).foldl f b=f ((L.take k).foldl f b) L[k]:=by
 rw [List.take_add_one,List.getElem?_eq_getElem hk,List.foldl_append];rfl
theorem Vk (t:bB) (l:List aA) (h1:t.L.length≤1000) (h2:l.length≤1000):pU t l=some (⟨(jU t.L l).1⟩,(jU t.L l).2):=by
 unfold pU
 have e0:iP 32 t.L=some t.L:=by unfold iP;rw [if_pos (by omega)]
 have iw:Loop (mJ l) (t.L,([]:List bn),0)=some (jU t.L l):=by
  refine bV.eq (bV.count (fun k=>((jU t.L (l.take k)).1,(jU t.L (l.take k)).2,(k:Int))) l.length (fun _=>True) rfl trivial (fun k hk _=> ?_) (fun _=> ?_))
  ·unfold mJ
   dsimp only
   have hlen:=Gi t.L (l.take k)
   rw [if_pos (by omega),cg hk,Ss _ _ _ (by omega),aR,wrap64 (by omega) (by omega)]
   refine .mk ⟨?_,trivial⟩
   have:jU t.L (l.take (k+1))=xt (jU t.L (l.take k)) l[k]:=yd hk
   rw [this]
   rfl
  ·unfold mJ
   dsimp only
   rw [if_neg (by omega)]
   exact .mk (by rw [List.take_length])
 rw [e0,aR,iw,aR]
end Dn.S
