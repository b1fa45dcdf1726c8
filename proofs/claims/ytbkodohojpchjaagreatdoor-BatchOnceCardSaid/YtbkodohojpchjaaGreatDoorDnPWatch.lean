import Derived.Test.YtbkodohojpchjaaGreatDoorDnPPath4
import Derived.Test.YtbkodohojpchjaaGreatDoorDnD
/- Watches: the functions on typed values. Conditions: none. -/
set_option linter.unusedVariables false
set_option linter.unusedSimpArgs false
open List renaming getElem?_eq_getElem→bN,take_add_one→sh,length_cons→AI
open Go Dn
namespace Dn.S
theorem DT {α:Type}{p:α->Bool}{L:List α}{k:Nat}(hk:k<L.length):(L.take (k+1)).filter p=(L.take k).filter p++if p L[k] then [L[k]] else []:=by rw [sh,bN hk,List.filter_append];congr 1;simp only [Option.toList_some,List.filter_cons,List.filter_nil]
theorem JW {α:Type}{p:α->Bool}{L:List α}{k:Nat}:((L.take k).filter p).length<=L.length:=Nat.le_trans (List.length_filter_le _ _) (by rw [List.length_take];omega)
theorem WT {α β:Type}{f:α->β}{L:List α}{k:Nat}(hk:k<L.length):(L.take (k+1)).map f=(L.take k).map f++[f L[k]]:=by rw [sh,bN hk,List.map_append];rfl
theorem ML (x y:ar):((decide (x.Path=y.Path))&&((decide (x.Client=y.Client))&&(decide (x.Kids=y.Kids))))=decide (x=y):=by cases x;cases y;rw [Bool.eq_iff_iff];simp
theorem WU (a b:List ar)(hl:a.length<2^60):eO a b=some (decide (a=b)):=by
 unfold eO;by_cases h:a.length=b.length
 ·simp only [show ((a.length:Int)=(b.length:Int)) by omega,decide_true,Bool.not_true,Bool.false_eq_true,if_false];have ke:Loop (dX a b) 0=some (if a=b then .inl () else .inr false):=by
   refine ER h (λk ha hb=> ?_) ?_
   ·unfold dX;simp only [show ((k:Int)<(a.length:Int)) by omega,if_true,b7 ha,b7 hb,ML];rw [wrap64 (by omega) (by omega),show (k:Int)+1=((k+1:Nat):Int) by omega];by_cases he:a[k]=b[k]<;>simp [he]
   ·unfold dX;simp only [show¬((a.length:Int)<(a.length:Int)) by omega,if_false]
  rw [ke];by_cases he:a=b<;>simp [he]
 ·simp only [show¬((a.length:Int)=(b.length:Int)) by omega,decide_false,Bool.not_false,if_true];rw [decide_eq_false];intro he;exact h (by rw [he])
theorem aa8 (a b:bI)(hl:a.L.length<2^60):tl a b=some (decide (a.L=b.L)):=by unfold tl;rw [WU _ _ hl];rfl
def SZ (p:List UInt8):List UInt8×Int:=if bX p then (if p=[47] then ([],6) else (vh (aT p).dropLast,0)) else ([],13)
def qk (c:aD)(w:ar):Bool:=(decide (1<=c.Kind)&&decide (c.Kind<=3)&&bX c.Path)&&(if w.Kids then decide ((SZ c.Path).2=0)&&(!decide (c.Kind=2))&&decide ((SZ c.Path).1=w.Path) else decide (c.Path=w.Path))
theorem QJ (k:Int)(b:Bool):(if k<1 then some true else if (3:Int)<k then some true else some (!b))=some (!(decide (1<=k)&&decide (k<=3)&&b)):=by
 by_cases h1:k<1
 ·rw [if_pos h1,decide_eq_false (show¬1<=k by omega)];rfl
 ·rw [if_neg h1,decide_eq_true (show 1<=k by omega)];by_cases h2:(3:Int)<k
  ·rw [if_pos h2,decide_eq_false (show¬k<=3 by omega)];rfl
  ·rw [if_neg h2,decide_eq_true (show k<=3 by omega)];rfl
theorem S0 (c:aD)(w:ar):nt c w=some (qk c w):=by
 unfold nt qk;rw [wW,az,QJ,az,MG,az];show _=some ((decide (1<=c.Kind)&&decide (c.Kind<=3)&&bX c.Path)&&(if w.Kids then decide ((SZ c.Path).2=0)&&(!decide (c.Kind=2))&&decide ((SZ c.Path).1=w.Path) else decide (c.Path=w.Path)));cases hg:(decide (1<=c.Kind)&&decide (c.Kind<=3)&&bX c.Path) with
 |false=>rfl
 |true=>
  rw [if_neg (by decide)];cases hk:w.Kids with
  |false=>rfl
  |true=>rw [if_neg (by decide)];show bd (if (SZ c.Path).2=0 then if (!decide (c.Kind=2))=true then some (decide ((SZ c.Path).1=w.Path)) else some false else some false) _=_;by_cases h1:(SZ c.Path).2=0<;>by_cases h2:c.Kind=2<;>simp [h1,h2]
def yP (c:aD)(L:List ar):List a7:=(L.filter (qk c)).map λw=>⟨w,c⟩
def vj (c:aD)(L:List ar):List ar:=L.filter λw=>!qk c w
theorem WV (c:aD)(L:List ar):(yP c L).length+(vj c L).length=L.length:=by
 unfold yP vj;rw [List.length_map];induction L with
 |nil=>rfl
 |cons x r ih=>cases h:qk c x<;>simp [h]<;>omega
theorem aa9 (c:aD): ∀(L:List ar) (out:List a7),out.length+L.length<=2^20->Dh (λu s=>mF u c s) out L=some (vj c L,out++yP c L):=by
 intro L;induction L with
 |nil=>intro out _;simp [Dh,vj,yP]
 |cons x r ih=>
  intro out hl;simp only [AI] at hl;unfold Dh;have e1:mF x c out=some (qk c x,if qk c x then out++[⟨x,c⟩] else out):=by
   unfold mF;rw [S0,az];cases qk c x with
   |false=>rfl
   |true=>rw [if_pos rfl,if_pos (by simp only [AI,List.length_nil];omega),az];rfl
  rw [e1,az];dsimp only;rw [ih _ (by split<;>simp<;>omega),az];cases h:qk c x<;>simp [vj,yP,h]
def BQ (st:List ar×List a7)(c:aD):List ar×List a7:=(vj c st.1,st.2++yP c st.1)
def lL (L:List ar)(l:List aD):List ar×List a7:=l.foldl BQ (L,[])
theorem aba (l:List aD): ∀st:List ar×List a7,(l.foldl BQ st).1.length+(l.foldl BQ st).2.length=st.1.length+st.2.length:=by
 induction l with
 |nil=>intro st;rfl
 |cons c l ih=>intro st;rw [List.foldl_cons,ih];have:=WV c st.1;simp only [BQ,List.length_append];omega
theorem MM (L:List ar)(l:List aD):(lL L l).1.length+(lL L l).2.length=L.length:=by have:=aba l (L,[]);simpa [lL] using this
theorem Cv {α β:Type}{f:β->α->β}{b:β}{L:List α}{k:Nat}(hk:k<L.length):(L.take (k+1)).foldl f b=f ((L.take k).foldl f b) L[k]:=by rw [sh,bN hk,List.foldl_append];rfl
theorem aez (t:bI)(l:List aD)(h1:t.L.length<=1000)(h2:l.length<=1000):th t l=some (⟨(lL t.L l).1⟩,(lL t.L l).2):=by
 unfold th;have e0:kC 32 t.L=some t.L:=by unfold kC;rw [if_pos (by omega)]
 have ke:Loop (pa l) (t.L,([]:List a7),0)=some (lL t.L l):=by
  refine bG.eq (bG.count (λk=>((lL t.L (l.take k)).1,(lL t.L (l.take k)).2,(k:Int))) l.length (λ_=>True) rfl trivial (λk hk _=> ?_) (λ_=> ?_))
  ·unfold pa;dsimp only;have hlen:=MM t.L (l.take k);rw [if_pos (by omega),b7 hk,aa9 _ _ _ (by omega),az,wrap64 (by omega) (by omega)];refine .mk ⟨?_,trivial⟩;have:lL t.L (l.take (k+1))=BQ (lL t.L (l.take k)) l[k]:=Cv hk;rw [this];rfl
  ·unfold pa;dsimp only;rw [if_neg (by omega)];exact .mk (by rw [List.take_length])
 rw [e0,az,ke,az]
end Dn.S
