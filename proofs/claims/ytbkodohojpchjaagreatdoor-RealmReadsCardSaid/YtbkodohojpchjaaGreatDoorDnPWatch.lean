import Derived.Test.YtbkodohojpchjaaGreatDoorDnPPath4
import Derived.Test.YtbkodohojpchjaaGreatDoorDnD
/-
  Watches: the functions on typed values. Conditions: none.
-/
open Go Dn
set_option linter.unusedVariables false
set_option linter.unusedSimpArgs false
namespace Dn.S
theorem Bt {α:Type} {p:α→Bool} {L:List α} {k:Nat} (hk:k<L.length):(L.take (k+1)).filter p=(L.take k).filter p++if p L[k] then [L[k]] else []:=by
 rw [List.take_add_one,List.getElem?_eq_getElem hk,List.filter_append]
 congr 1
 simp only [Option.toList_some,List.filter_cons,List.filter_nil]
theorem GI {α:Type} {p:α→Bool} {L:List α} {k:Nat}:((L.take k).filter p).length≤L.length:=Nat.le_trans (List.length_filter_le _ _) (by rw [List.length_take];omega)
theorem uD {α β:Type} {f:α→β} {L:List α} {k:Nat} (hk:k<L.length):(L.take (k+1)).map f=(L.take k).map f++[f L[k]]:=by
 rw [List.take_add_one,List.getElem?_eq_getElem hk,List.map_append];rfl
theorem Bu {α β:Type} {f:α→β} {L:List α} {k:Nat}:((L.take k).map f).length≤L.length:=by rw [List.length_map,List.length_take];omega
theorem V8 {α β:Type} (L:List α) (f:α→β) {body:List β×Int→Option ((List β×Int)⊕List β)} (h: ∀k (hk:k<L.length),body ((L.take k).map f,(k:Int))=some (.inl ((L.take k).map f++[f L[k]],((k+1:Nat):Int))))
 (he:body (L.map f,(L.length:Int))=some (.inr (L.map f))):Loop body ([],0)=some (L.map f):=by
 refine bq.eq (bq.count (fun k=>((L.take k).map f,(k:Int))) L.length (fun _=>True) (by simp) trivial (fun k hk _=> ?_) (fun _=> ?_))
 ·refine .of (h k hk) ⟨by rw [uD hk],trivial⟩
 ·rw [List.take_length];exact .of he rfl
def GJ (w:al):bJ:=⟨w.Path,w.Client,w.Kids⟩
theorem Zd {a b:al}:GJ a=GJ b↔a=b:=by
 constructor
 ·intro h;cases a;cases b;simp only [GJ,bJ.mk.injEq] at h;obtain ⟨rfl,rfl,rfl⟩:=h;rfl
 ·rintro rfl;rfl
theorem Je (x y:al):((decide (x.Path=y.Path))&&((decide (x.Client=y.Client))&&(decide (x.Kids=y.Kids))))=decide (x=y):=by
 cases x;cases y;rw [Bool.eq_iff_iff];simp
theorem KE (x y:bJ):((decide (x.Path=y.Path))&&((decide (x.Client=y.Client))&&(decide (x.Kids=y.Kids))))=decide (x=y):=by
 cases x;cases y;rw [Bool.eq_iff_iff];simp
theorem Sr (a b:List al) (hl:a.length<2^60):eA a b=some (decide (a=b)):=by
 unfold eA
 by_cases h:a.length=b.length
 ·simp only [show ((a.length:Int)=(b.length:Int)) by omega,decide_true,Bool.not_true,Bool.false_eq_true,if_false]
  have fT:Loop (dO a b) 0=some (if a=b then .inl () else .inr false):=by
   refine Cn h (fun k ha hb=> ?_) ?_
   ·unfold dO
    simp only [show ((k:Int)<(a.length:Int)) by omega,if_true,bx ha,bx hb,Je]
    rw [wrap64 (by omega) (by omega),show (k:Int)+1=((k+1:Nat):Int) by omega]
    by_cases he:a[k]=b[k]<;>simp [he]
   ·unfold dO
    simp only [show¬((a.length:Int)<(a.length:Int)) by omega,if_false]
  rw [fT]
  by_cases he:a=b<;>simp [he]
 ·simp only [show¬((a.length:Int)=(b.length:Int)) by omega,decide_false,Bool.not_false,if_true]
  rw [decide_eq_false]
  intro he;exact h (by rw [he])
theorem V9 (a b:bB) (hl:a.L.length<2^60):rm a b=some (decide (a.L=b.L)):=by
 unfold rm
 rw [Sr _ _ hl];rfl
def O2 (p:List UInt8):List UInt8×Int:=if bk p then (if p=[47] then ([],6) else (pI (aL p).dropLast,0)) else ([],13)
def oJ (c:aF) (w:al):Bool:=
 (decide (1≤c.Kind)&&decide (c.Kind≤3)&&bk c.Path)&&(if w.Kids then decide ((O2 c.Path).2=0)&&(!decide (c.Kind=2))&&decide ((O2 c.Path).1=w.Path) else decide (c.Path=w.Path))
theorem MI (k:Int) (b:Bool):(if k<1 then some true else if (3:Int)<k then some true else some (!b))=some (!(decide (1≤k)&&decide (k≤3)&&b)):=by
 by_cases h1:k<1
 ·rw [if_pos h1,decide_eq_false (show¬1≤k by omega)];rfl
 ·rw [if_neg h1,decide_eq_true (show 1≤k by omega)]
  by_cases h2:(3:Int)<k
  ·rw [if_pos h2,decide_eq_false (show¬k≤3 by omega)];rfl
  ·rw [if_neg h2,decide_eq_true (show k≤3 by omega)];rfl
theorem O3 (c:aF) (w:al):mi c w=some (oJ c w):=by
 unfold mi oJ
 rw [uC,aC,MI,aC,Ja,aC]
 show _=some ((decide (1≤c.Kind)&&decide (c.Kind≤3)&&bk c.Path)&&(if w.Kids then decide ((O2 c.Path).2=0)&&(!decide (c.Kind=2))&&decide ((O2 c.Path).1=w.Path) else decide (c.Path=w.Path)))
 cases hg:(decide (1≤c.Kind)&&decide (c.Kind≤3)&&bk c.Path) with
 |false=>rfl
 |true=>
  rw [if_neg (by decide)]
  cases hk:w.Kids with
  |false=>rfl
  |true=>
   rw [if_neg (by decide)]
   show bd (if (O2 c.Path).2=0 then if (!decide (c.Kind=2))=true then some (decide ((O2 c.Path).1=w.Path)) else some false else some false) _=_
   by_cases h1:(O2 c.Path).2=0<;>by_cases h2:c.Kind=2<;>simp [h1,h2]
def wo (c:aF) (L:List al):List bc:=(L.filter (oJ c)).map fun w=>⟨w,c⟩
def s7 (c:aF) (L:List al):List al:=L.filter fun w=>!oJ c w
theorem Ss (c:aF) (L:List al):(wo c L).length+(s7 c L).length=L.length:=by
 unfold wo s7
 rw [List.length_map]
 induction L with
 |nil=>rfl
 |cons x r ih=>cases h:oJ c x<;>simp [h]<;>omega
theorem Wa (c:aF): ∀(L:List al) (out:List bc),out.length+L.length≤2^20→AL (fun u s=>lB u c s) out L=some (s7 c L,out++wo c L):=by
 intro L
 induction L with
 |nil=>intro out _;simp [AL,s7,wo]
 |cons x r ih=>
  intro out hl
  simp only [List.length_cons] at hl
  unfold AL
  have e1:lB x c out=some (oJ c x,if oJ c x then out++[⟨x,c⟩] else out):=by
   unfold lB
   rw [O3,aC]
   cases oJ c x with
   |false=>rfl
   |true=>rw [if_pos rfl,if_pos (by simp only [List.length_cons,List.length_nil];omega),aC];rfl
  rw [e1,aC]
  dsimp only
  rw [ih _ (by split<;>simp<;>omega),aC]
  cases h:oJ c x<;>simp [s7,wo,h]
def zu (st:List al×List bc) (c:aF):List al×List bc:=(s7 c st.1,st.2++wo c st.1)
def kC (L:List al) (l:List aF):List al×List bc:=l.foldl zu (L,[])
theorem Wb (l:List aF): ∀st:List al×List bc,(l.foldl zu st).1.length+(l.foldl zu st).2.length=st.1.length+st.2.length:=by
 induction l with
 |nil=>intro st;rfl
 |cons c l ih=>
  intro st
  rw [List.foldl_cons,ih]
  have:=Ss c st.1
  simp only [zu,List.length_append]
  omega
theorem Jf (L:List al) (l:List aF):(kC L l).1.length+(kC L l).2.length=L.length:=by
 have:=Wb l (L,[]);simpa [kC] using this
theorem z8 {α β:Type} {f:β→α→β} {b:β} {L:List α} {k:Nat} (hk:k<L.length):(L.take (k+1)).foldl f b=f ((L.take k).foldl f b) L[k]:=by
 rw [List.take_add_one,List.getElem?_eq_getElem hk,List.foldl_append];rfl
theorem Ze (t:bB) (l:List aF) (h1:t.L.length≤1000) (h2:l.length≤1000):rj t l=some (⟨(kC t.L l).1⟩,(kC t.L l).2):=by
 unfold rj
 have e0:jB 32 t.L=some t.L:=by unfold jB;rw [if_pos (by omega)]
 have fT:Loop (nC l) (t.L,([]:List bc),0)=some (kC t.L l):=by
  refine bq.eq (bq.count (fun k=>((kC t.L (l.take k)).1,(kC t.L (l.take k)).2,(k:Int))) l.length (fun _=>True) rfl trivial (fun k hk _=> ?_) (fun _=> ?_))
  ·unfold nC
   dsimp only
   have hlen:=Jf t.L (l.take k)
   rw [if_pos (by omega),bx hk,Wa _ _ _ (by omega),aC,wrap64 (by omega) (by omega)]
   refine .mk ⟨?_,trivial⟩
   have:kC t.L (l.take (k+1))=zu (kC t.L (l.take k)) l[k]:=z8 hk
   rw [this]
   rfl
  ·unfold nC
   dsimp only
   rw [if_neg (by omega)]
   exact .mk (by rw [List.take_length])
 rw [e0,aC,fT,aC]
end Dn.S
