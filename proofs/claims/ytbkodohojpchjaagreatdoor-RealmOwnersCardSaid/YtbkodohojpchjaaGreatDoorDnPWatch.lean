import Derived.Test.YtbkodohojpchjaaGreatDoorDnPPath4
import Derived.Test.YtbkodohojpchjaaGreatDoorDnD
/-
  Watches: the functions on typed values. Conditions: none.
-/
open Go Dn
set_option linter.unusedVariables false
set_option linter.unusedSimpArgs false
namespace Dn.S
theorem z7 {α:Type} {p:α→Bool} {L:List α} {k:Nat} (hk:k<L.length):(L.take (k+1)).filter p=(L.take k).filter p++if p L[k] then [L[k]] else []:=by
 rw [List.take_add_one,List.getElem?_eq_getElem hk,List.filter_append]
 congr 1
 simp only [Option.toList_some,List.filter_cons,List.filter_nil]
theorem EV {α:Type} {p:α→Bool} {L:List α} {k:Nat}:((L.take k).filter p).length≤L.length:=Nat.le_trans (List.length_filter_le _ _) (by rw [List.length_take];omega)
theorem P5 {α β:Type} {f:α→β} {L:List α} {k:Nat} (hk:k<L.length):(L.take (k+1)).map f=(L.take k).map f++[f L[k]]:=by
 rw [List.take_add_one,List.getElem?_eq_getElem hk,List.map_append];rfl
theorem Hh (x y:ak):((decide (x.Path=y.Path))&&((decide (x.Client=y.Client))&&(decide (x.Kids=y.Kids))))=decide (x=y):=by
 cases x;cases y;rw [Bool.eq_iff_iff];simp
theorem P6 (a b:List ak) (hl:a.length<2^60):dV a b=some (decide (a=b)):=by
 unfold dV
 by_cases h:a.length=b.length
 ·simp only [show ((a.length:Int)=(b.length:Int)) by omega,decide_true,Bool.not_true,Bool.false_eq_true,if_false]
  have fZ:Loop (dw a b) 0=some (if a=b then .inl () else .inr false):=by
   refine AW h (fun k ha hb=> ?_) ?_
   ·unfold dw
    simp only [show ((k:Int)<(a.length:Int)) by omega,if_true,cg ha,cg hb,Hh]
    rw [wrap64 (by omega) (by omega),show (k:Int)+1=((k+1:Nat):Int) by omega]
    by_cases he:a[k]=b[k]<;>simp [he]
   ·unfold dw
    simp only [show¬((a.length:Int)<(a.length:Int)) by omega,if_false]
  rw [fZ]
  by_cases he:a=b<;>simp [he]
 ·simp only [show¬((a.length:Int)=(b.length:Int)) by omega,decide_false,Bool.not_false,if_true]
  rw [decide_eq_false]
  intro he;exact h (by rw [he])
theorem Tw (a b:bo) (hl:a.L.length<2^60):qD a b=some (decide (a.L=b.L)):=by
 unfold qD
 rw [P6 _ _ hl];rfl
def MM (p:List UInt8):List UInt8×Int:=if bw p then (if p=[47] then ([],6) else (sd (aP p).dropLast,0)) else ([],13)
def q8 (c:aC) (w:ak):Bool:=
 (decide (1≤c.Kind)&&decide (c.Kind≤3)&&bw c.Path)&&(if w.Kids then decide ((MM c.Path).2=0)&&(!decide (c.Kind=2))&&decide ((MM c.Path).1=w.Path) else decide (c.Path=w.Path))
theorem KN (k:Int) (b:Bool):(if k<1 then some true else if (3:Int)<k then some true else some (!b))=some (!(decide (1≤k)&&decide (k≤3)&&b)):=by
 by_cases h1:k<1
 ·rw [if_pos h1,decide_eq_false (show¬1≤k by omega)];rfl
 ·rw [if_neg h1,decide_eq_true (show 1≤k by omega)]
  by_cases h2:(3:Int)<k
  ·rw [if_pos h2,decide_eq_false (show¬k≤3 by omega)];rfl
  ·rw [if_neg h2,decide_eq_true (show k≤3 by omega)];rfl
theorem MN (c:aC) (w:ak):lI c w=some (q8 c w):=by
 unfold lI q8
 rw [o7,aM,KN,aM,AY,aM]
 show _=some ((decide (1≤c.Kind)&&decide (c.Kind≤3)&&bw c.Path)&&(if w.Kids then decide ((MM c.Path).2=0)&&(!decide (c.Kind=2))&&decide ((MM c.Path).1=w.Path) else decide (c.Path=w.Path)))
 cases hg:(decide (1≤c.Kind)&&decide (c.Kind≤3)&&bw c.Path) with
 |false=>rfl
 |true=>
  rw [if_neg (by decide)]
  cases hk:w.Kids with
  |false=>rfl
  |true=>
   rw [if_neg (by decide)]
   show bd (if (MM c.Path).2=0 then if (!decide (c.Kind=2))=true then some (decide ((MM c.Path).1=w.Path)) else some false else some false) _=_
   by_cases h1:(MM c.Path).2=0<;>by_cases h2:c.Kind=2<;>simp [h1,h2]
def wT (c:aC) (L:List ak):List bA:=(L.filter (q8 c)).map fun w=>⟨w,c⟩
def tJ (c:aC) (L:List ak):List ak:=L.filter fun w=>!q8 c w
theorem P7 (c:aC) (L:List ak):(wT c L).length+(tJ c L).length=L.length:=by
 unfold wT tJ
 rw [List.length_map]
 induction L with
 |nil=>rfl
 |cons x r ih=>cases h:q8 c x<;>simp [h]<;>omega
theorem Tx (c:aC): ∀(L:List ak) (out:List bA),out.length+L.length≤2^20→zC (fun u s=>kX u c s) out L=some (tJ c L,out++wT c L):=by
 intro L
 induction L with
 |nil=>intro out _;simp [zC,tJ,wT]
 |cons x r ih=>
  intro out hl
  simp only [List.length_cons] at hl
  unfold zC
  have e1:kX x c out=some (q8 c x,if q8 c x then out++[⟨x,c⟩] else out):=by
   unfold kX
   rw [MN,aM]
   cases q8 c x with
   |false=>rfl
   |true=>rw [if_pos rfl,if_pos (by simp only [List.length_cons,List.length_nil];omega),aM];rfl
  rw [e1,aM]
  dsimp only
  rw [ih _ (by split<;>simp<;>omega),aM]
  cases h:q8 c x<;>simp [tJ,wT,h]
def yn (st:List ak×List bA) (c:aC):List ak×List bA:=(tJ c st.1,st.2++wT c st.1)
def lT (L:List ak) (l:List aC):List ak×List bA:=l.foldl yn (L,[])
theorem Ty (l:List aC): ∀st:List ak×List bA,(l.foldl yn st).1.length+(l.foldl yn st).2.length=st.1.length+st.2.length:=by
 induction l with
 |nil=>intro st;rfl
 |cons c l ih=>
  intro st
  rw [List.foldl_cons,ih]
  have:=P7 c st.1
  simp only [yn,List.length_append]
  omega
theorem P8 (L:List ak) (l:List aC):(lT L l).1.length+(lT L l).2.length=L.length:=by
 have:=Ty l (L,[]);simpa [lT] using this
theorem yX {α β:Type} {f:β→α→β} {b:β} {L:List α} {k:Nat} (hk:k<L.length):(L.take (k+1)).foldl f b=f ((L.take k).foldl f b) L[k]:=by
 rw [List.take_add_one,List.getElem?_eq_getElem hk,List.foldl_append];rfl
theorem Wo (t:bo) (l:List aC) (h1:t.L.length≤1000) (h2:l.length≤1000):qA t l=some (⟨(lT t.L l).1⟩,(lT t.L l).2):=by
 unfold qA
 have e0:jo 32 t.L=some t.L:=by unfold jo;rw [if_pos (by omega)]
 have fZ:Loop (nd l) (t.L,([]:List bA),0)=some (lT t.L l):=by
  refine bK.eq (bK.count (fun k=>((lT t.L (l.take k)).1,(lT t.L (l.take k)).2,(k:Int))) l.length (fun _=>True) rfl trivial (fun k hk _=> ?_) (fun _=> ?_))
  ·unfold nd
   dsimp only
   have hlen:=P8 t.L (l.take k)
   rw [if_pos (by omega),cg hk,Tx _ _ _ (by omega),aM,wrap64 (by omega) (by omega)]
   refine .mk ⟨?_,trivial⟩
   have:lT t.L (l.take (k+1))=yn (lT t.L (l.take k)) l[k]:=yX hk
   rw [this]
   rfl
  ·unfold nd
   dsimp only
   rw [if_neg (by omega)]
   exact .mk (by rw [List.take_length])
 rw [e0,aM,fZ,aM]
end Dn.S
