import Derived.Test.YtbkodohojpchjaaGreatDoorDnPPath4
import Derived.Test.YtbkodohojpchjaaGreatDoorDnD
/-
  Watches: the functions on typed values. Conditions: none.
-/
open Go Dn
set_option linter.unusedVariables false
set_option linter.unusedSimpArgs false
namespace Dn.S
theorem BF {α:Type} {p:α→Bool} {L:List α} {k:Nat} (hk:k<L.length):(L.take (k+1)).filter p=(L.take k).filter p++if p L[k] then [L[k]] else []:=by
 rw [List.take_add_one,List.getElem?_eq_getElem hk,List.filter_append]
 congr 1
 simp only [Option.toList_some,List.filter_cons,List.filter_nil]
theorem GI {α:Type} {p:α→Bool} {L:List α} {k:Nat}:((L.take k).filter p).length≤L.length:=Nat.le_trans (List.length_filter_le _ _) (by rw [List.length_take];omega)
theorem uO {α β:Type} {f:α→β} {L:List α} {k:Nat} (hk:k<L.length):(L.take (k+1)).map f=(L.take k).map f++[f L[k]]:=by
 rw [List.take_add_one,List.getElem?_eq_getElem hk,List.map_append];rfl
theorem BG {α β:Type} {f:α→β} {L:List α} {k:Nat}:((L.take k).map f).length≤L.length:=by rw [List.length_map,List.length_take];omega
theorem WA {α β:Type} (L:List α) (f:α→β) {body:List β×Int→Option ((List β×Int)⊕List β)} (h: ∀k (hk:k<L.length),body ((L.take k).map f,(k:Int))=some (.inl ((L.take k).map f++[f L[k]],((k+1:Nat):Int))))
 (he:body (L.map f,(L.length:Int))=some (.inr (L.map f))):Loop body ([],0)=some (L.map f):=by
 refine bu.eq (bu.count (fun k=>((L.take k).map f,(k:Int))) L.length (fun _=>True) (by simp) trivial (fun k hk _=> ?_) (fun _=> ?_))
 ·refine .of (h k hk) ⟨by rw [uO hk],trivial⟩
 ·rw [List.take_length];exact .of he rfl
def GJ (w:al):bI:=⟨w.Path,w.Client,w.Kids⟩
theorem ZP {a b:al}:GJ a=GJ b↔a=b:=by
 constructor
 ·intro h;cases a;cases b;simp only [GJ,bI.mk.injEq] at h;obtain ⟨rfl,rfl,rfl⟩:=h;rfl
 ·rintro rfl;rfl
theorem Jn (x y:al):((decide (x.Path=y.Path))&&((decide (x.Client=y.Client))&&(decide (x.Kids=y.Kids))))=decide (x=y):=by
 cases x;cases y;rw [Bool.eq_iff_iff];simp
theorem KS (x y:bI):((decide (x.Path=y.Path))&&((decide (x.Client=y.Client))&&(decide (x.Kids=y.Kids))))=decide (x=y):=by
 cases x;cases y;rw [Bool.eq_iff_iff];simp
theorem SM (a b:List al) (hl:a.length<2^60):eJ a b=some (decide (a=b)):=by
 unfold eJ
 by_cases h:a.length=b.length
 ·simp only [show ((a.length:Int)=(b.length:Int)) by omega,decide_true,Bool.not_true,Bool.false_eq_true,if_false]
  have fW:Loop (dV a b) 0=some (if a=b then .inl () else .inr false):=by
   refine yO h (fun k ha hb=> ?_) ?_
   ·unfold dV
    simp only [show ((k:Int)<(a.length:Int)) by omega,if_true,bt ha,bt hb,Jn]
    rw [wrap64 (by omega) (by omega),show (k:Int)+1=((k+1:Nat):Int) by omega]
    by_cases he:a[k]=b[k]<;>simp [he]
   ·unfold dV
    simp only [show¬((a.length:Int)<(a.length:Int)) by omega,if_false]
  rw [fW]
  by_cases he:a=b<;>simp [he]
 ·simp only [show¬((a.length:Int)=(b.length:Int)) by omega,decide_false,Bool.not_false,if_true]
  rw [decide_eq_false]
  intro he;exact h (by rw [he])
theorem WB (a b:bC) (hl:a.L.length<2^60):rE a b=some (decide (a.L=b.L)):=by
 unfold rE
 rw [SM _ _ hl];rfl
def Pp (p:List UInt8):List UInt8×Int:=if bm p then (if p=[47] then ([],6) else (pP (aK p).dropLast,0)) else ([],13)
def oL (c:aE) (w:al):Bool:=
 (decide (1≤c.Kind)&&decide (c.Kind≤3)&&bm c.Path)&&(if w.Kids then decide ((Pp c.Path).2=0)&&(!decide (c.Kind=2))&&decide ((Pp c.Path).1=w.Path) else decide (c.Path=w.Path))
theorem M2 (k:Int) (b:Bool):(if k<1 then some true else if (3:Int)<k then some true else some (!b))=some (!(decide (1≤k)&&decide (k≤3)&&b)):=by
 by_cases h1:k<1
 ·rw [if_pos h1,decide_eq_false (show¬1≤k by omega)];rfl
 ·rw [if_neg h1,decide_eq_true (show 1≤k by omega)]
  by_cases h2:(3:Int)<k
  ·rw [if_pos h2,decide_eq_false (show¬k≤3 by omega)];rfl
  ·rw [if_neg h2,decide_eq_true (show k≤3 by omega)];rfl
theorem Pq (c:aE) (w:al):mi c w=some (oL c w):=by
 unfold mi oL
 rw [uN,aA,M2,aA,Jj,aA]
 show _=some ((decide (1≤c.Kind)&&decide (c.Kind≤3)&&bm c.Path)&&(if w.Kids then decide ((Pp c.Path).2=0)&&(!decide (c.Kind=2))&&decide ((Pp c.Path).1=w.Path) else decide (c.Path=w.Path)))
 cases hg:(decide (1≤c.Kind)&&decide (c.Kind≤3)&&bm c.Path) with
 |false=>rfl
 |true=>
  rw [if_neg (by decide)]
  cases hk:w.Kids with
  |false=>rfl
  |true=>
   rw [if_neg (by decide)]
   show bd (if (Pp c.Path).2=0 then if (!decide (c.Kind=2))=true then some (decide ((Pp c.Path).1=w.Path)) else some false else some false) _=_
   by_cases h1:(Pp c.Path).2=0<;>by_cases h2:c.Kind=2<;>simp [h1,h2]
def wK (c:aE) (L:List al):List ba:=(L.filter (oL c)).map fun w=>⟨w,c⟩
def th (c:aE) (L:List al):List al:=L.filter fun w=>!oL c w
theorem SN (c:aE) (L:List al):(wK c L).length+(th c L).length=L.length:=by
 unfold wK th
 rw [List.length_map]
 induction L with
 |nil=>rfl
 |cons x r ih=>cases h:oL c x<;>simp [h]<;>omega
theorem WC (c:aE): ∀(L:List al) (out:List ba),out.length+L.length≤2^20→A6 (fun u s=>lz u c s) out L=some (th c L,out++wK c L):=by
 intro L
 induction L with
 |nil=>intro out _;simp [A6,th,wK]
 |cons x r ih=>
  intro out hl
  simp only [List.length_cons] at hl
  unfold A6
  have e1:lz x c out=some (oL c x,if oL c x then out++[⟨x,c⟩] else out):=by
   unfold lz
   rw [Pq,aA]
   cases oL c x with
   |false=>rfl
   |true=>rw [if_pos rfl,if_pos (by simp only [List.length_cons,List.length_nil];omega),aA];rfl
  rw [e1,aA]
  dsimp only
  rw [ih _ (by split<;>simp<;>omega),aA]
  cases h:oL c x<;>simp [th,wK,h]
def zJ (st:List al×List ba) (c:aE):List al×List ba:=(th c st.1,st.2++wK c st.1)
def kD (L:List al) (l:List aE):List al×List ba:=l.foldl zJ (L,[])
theorem WD (l:List aE): ∀st:List al×List ba,(l.foldl zJ st).1.length+(l.foldl zJ st).2.length=st.1.length+st.2.length:=by
 induction l with
 |nil=>intro st;rfl
 |cons c l ih=>
  intro st
  rw [List.foldl_cons,ih]
  have:=SN c st.1
  simp only [zJ,List.length_append]
  omega
theorem Jo (L:List al) (l:List aE):(kD L l).1.length+(kD L l).2.length=L.length:=by
 have:=WD l (L,[]);simpa [kD] using this
theorem Ar {α β:Type} {f:β→α→β} {b:β} {L:List α} {k:Nat} (hk:k<L.length):(L.take (k+1)).foldl f b=f ((L.take k).foldl f b) L[k]:=by
 rw [List.take_add_one,List.getElem?_eq_getElem hk,List.foldl_append];rfl
theorem ZQ (t:bC) (l:List aE) (h1:t.L.length≤1000) (h2:l.length≤1000):rB t l=some (⟨(kD t.L l).1⟩,(kD t.L l).2):=by
 unfold rB
 have e0:jE 32 t.L=some t.L:=by unfold jE;rw [if_pos (by omega)]
 have fW:Loop (nC l) (t.L,([]:List ba),0)=some (kD t.L l):=by
  refine bu.eq (bu.count (fun k=>((kD t.L (l.take k)).1,(kD t.L (l.take k)).2,(k:Int))) l.length (fun _=>True) rfl trivial (fun k hk _=> ?_) (fun _=> ?_))
  ·unfold nC
   dsimp only
   have hlen:=Jo t.L (l.take k)
   rw [if_pos (by omega),bt hk,WC _ _ _ (by omega),aA,wrap64 (by omega) (by omega)]
   refine .mk ⟨?_,trivial⟩
   have:kD t.L (l.take (k+1))=zJ (kD t.L (l.take k)) l[k]:=Ar hk
   rw [this]
   rfl
  ·unfold nC
   dsimp only
   rw [if_neg (by omega)]
   exact .mk (by rw [List.take_length])
 rw [e0,aA,fW,aA]
end Dn.S
