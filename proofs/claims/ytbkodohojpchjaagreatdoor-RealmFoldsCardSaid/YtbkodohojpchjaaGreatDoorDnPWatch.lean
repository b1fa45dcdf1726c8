import Derived.Test.YtbkodohojpchjaaGreatDoorDnPPath4
import Derived.Test.YtbkodohojpchjaaGreatDoorDnD
/-
  Watches: the functions on typed values. Conditions: none.
-/
set_option linter.unusedVariables false
set_option linter.unusedSimpArgs false
open List renaming length_map→c9,take_length→sh,getElem?_eq_getElem→AI,length_cons→AS,length_nil→AT,length_append→By,take_add_one→BY,length_take→IT,getElem_map→No,map_append→OF
open Bool renaming eq_iff_iff→IN,false_eq_true→IS,not_false→aaq,not_true→aar
open Go Dn
namespace Dn.S
theorem kN {α:Type}{p:α->Bool}{L:List α}{k:Nat}(hk:k<L.length):(L.take (k+1)).filter p=(L.take k).filter p++if p L[k] then [L[k]] else []:=by rw [BY,AI hk,List.filter_append];congr 1;simp only [Option.toList_some,List.filter_cons,List.filter_nil]
theorem oe {α:Type}{p:α->Bool}{L:List α}{k:Nat}:((L.take k).filter p).length<=L.length:=Nat.le_trans (List.length_filter_le _ _) (by rw [IT];omega)
theorem ta {α β:Type}{f:α->β}{L:List α}{k:Nat}(hk:k<L.length):(L.take (k+1)).map f=(L.take k).map f++[f L[k]]:=by rw [BY,AI hk,OF];rfl
theorem uu {α β:Type}{f:α->β}{L:List α}{k:Nat}:((L.take k).map f).length<=L.length:=by rw [c9,IT];omega
theorem EH {α β:Type}(L:List α)(f:α->β){body:List β×Int->Option ((List β×Int)⊕List β)}(h: ∀k (hk:k<L.length),body ((L.take k).map f,(k:Int))=some (.inl ((L.take k).map f++[f L[k]],((k+1:Nat):Int))))(he:body (L.map f,(L.length:Int))=some (.inr (L.map f))):Loop body ([],0)=some (L.map f):=by
 refine aO.eq (aO.count (λk=>((L.take k).map f,(k:Int))) L.length (λ_=>True) (by simp) trivial (λk hk _=> ?_) (λ_=> ?_))
 ·refine .of (h k hk) ⟨by rw [ta hk],trivial⟩
 ·rw [sh];exact .of he rfl
theorem Rq {α:Type}(L:List α)(p:α->Bool){body:List α×Int->Option ((List α×Int)⊕List α)}(h: ∀k (hk:k<L.length),body ((L.take k).filter p,(k:Int))=some (.inl ((L.take k).filter p++(if p L[k] then [L[k]] else []),((k+1:Nat):Int))))(he:body (L.filter p,(L.length:Int))=some (.inr (L.filter p))):Loop body ([],0)=some (L.filter p):=by
 refine aO.eq (aO.count (λk=>((L.take k).filter p,(k:Int))) L.length (λ_=>True) (by simp) trivial (λk hk _=> ?_) (λ_=> ?_))
 ·refine .of (h k hk) ⟨by rw [kN hk],trivial⟩
 ·rw [sh];exact .of he rfl
def sb (w:aq):aF:=⟨w.Path,w.Client,w.Kids⟩
def HJ (c:aG):bq:=⟨c.Kind,c.Path⟩
def Pa (e:bk):bH:=⟨sb e.W,HJ e.C⟩
theorem ae5 {a b:aq}:sb a=sb b↔a=b:=by
 constructor
 ·intro h;cases a;cases b;simp only [sb,aF.mk.injEq] at h;obtain ⟨rfl,rfl,rfl⟩:=h;rfl
 ·rintro rfl;rfl
theorem ML (x y:aq):((decide (x.Path=y.Path))&&((decide (x.Client=y.Client))&&(decide (x.Kids=y.Kids))))=decide (x=y):=by cases x;cases y;rw [IN];simp
theorem ON (x y:aF):((decide (x.Path=y.Path))&&((decide (x.Client=y.Client))&&(decide (x.Kids=y.Kids))))=decide (x=y):=by cases x;cases y;rw [IN];simp
theorem OO (x y:bH):((decide (x.W.Path=y.W.Path))&&((decide (x.W.Client=y.W.Client))&&((decide (x.W.Kids=y.W.Kids))&&((decide (x.C.Kind=y.C.Kind))&&(decide (x.C.Path=y.C.Path))))))=decide (x=y):=by obtain ⟨⟨a,b,c⟩,⟨d,e⟩⟩:=x;obtain ⟨⟨a',b',c'⟩,⟨d',e'⟩⟩:=y;rw [IN];simp [and_assoc]
theorem XA (a b:List aq)(hl:a.length<2^60):fw a b=some (decide (a=b)):=by
 unfold fw;by_cases h:a.length=b.length
 ·simp only [show ((a.length:Int)=(b.length:Int)) by omega,decide_true,aar,IS,if_false];have cw:Loop (eN a b) 0=some (if a=b then .inl () else .inr false):=by
   refine xh h (λk ha hb=> ?_) ?_
   ·unfold eN;simp only [show ((k:Int)<(a.length:Int)) by omega,if_true,ba ha,ba hb,ML];rw [wrap64 (by omega) (by omega),show (k:Int)+1=((k+1:Nat):Int) by omega];by_cases he:a[k]=b[k]<;>simp [he]
   ·unfold eN;simp only [show¬((a.length:Int)<(a.length:Int)) by omega,if_false]
  rw [cw];by_cases he:a=b<;>simp [he]
 ·simp only [show¬((a.length:Int)=(b.length:Int)) by omega,decide_false,aaq,if_true];rw [decide_eq_false];intro he;exact h (by rw [he])
theorem abD (a b:ca)(hl:a.L.length<2^60):tD a b=some (decide (a.L=b.L)):=by unfold tD;rw [XA _ _ hl];rfl
theorem OP (a b:List bH)(hl:a.length<2^60):tR a b=some (decide (a=b)):=by
 unfold tR;by_cases h:a.length=b.length
 ·simp only [show ((a.length:Int)=(b.length:Int)) by omega,decide_true,aar,IS,if_false];have cw:Loop (pi a b) 0=some (if a=b then .inl () else .inr false):=by
   refine xh h (λk ha hb=> ?_) ?_
   ·unfold pi;simp only [show ((k:Int)<(a.length:Int)) by omega,if_true,ba ha,ba hb,OO];rw [wrap64 (by omega) (by omega),show (k:Int)+1=((k+1:Nat):Int) by omega];by_cases he:a[k]=b[k]<;>simp [he]
   ·unfold pi;simp only [show¬((a.length:Int)<(a.length:Int)) by omega,if_false]
  rw [cw];by_cases he:a=b<;>simp [he]
 ·simp only [show¬((a.length:Int)=(b.length:Int)) by omega,decide_false,aaq,if_true];rw [decide_eq_false];intro he;exact h (by rw [he])
def Km (p:List UInt8):List UInt8×Int:=if bA p then (if p=[47] then ([],6) else (lM (aH p).dropLast,0)) else ([],13)
def jh (c:aG)(w:aq):Bool:=(decide (1<=c.Kind)&&decide (c.Kind<=3)&&bA c.Path)&&(if w.Kids then decide ((Km c.Path).2=0)&&(!decide (c.Kind=2))&&decide ((Km c.Path).1=w.Path) else decide (c.Path=w.Path))
theorem GD (k:Int)(b:Bool):(if k<1 then some true else if (3:Int)<k then some true else some (!b))=some (!(decide (1<=k)&&decide (k<=3)&&b)):=by
 by_cases h1:k<1
 ·rw [if_pos h1,decide_eq_false (show¬1<=k by omega)];rfl
 ·rw [if_neg h1,decide_eq_true (show 1<=k by omega)];by_cases h2:(3:Int)<k
  ·rw [if_pos h2,decide_eq_false (show¬k<=3 by omega)];rfl
  ·rw [if_neg h2,decide_eq_true (show k<=3 by omega)];rfl
theorem TU (c:aG)(w:aq):nr c w=some (jh c w):=by
 unfold nr jh;rw [xi,av,GD,av,MJ,av];show _=some ((decide (1<=c.Kind)&&decide (c.Kind<=3)&&bA c.Path)&&(if w.Kids then decide ((Km c.Path).2=0)&&(!decide (c.Kind=2))&&decide ((Km c.Path).1=w.Path) else decide (c.Path=w.Path)));cases hg:(decide (1<=c.Kind)&&decide (c.Kind<=3)&&bA c.Path) with
 |false=>rfl
 |true=>
  rw [if_neg (by decide)];cases hk:w.Kids with
  |false=>rfl
  |true=>rw [if_neg (by decide)];show bd (if (Km c.Path).2=0 then if (!decide (c.Kind=2))=true then some (decide ((Km c.Path).1=w.Path)) else some false else some false) _=_;by_cases h1:(Km c.Path).2=0<;>by_cases h2:c.Kind=2<;>simp [h1,h2]
theorem Ll (c:aG)(w:aq):rq (HJ c) (sb w)=some (jh c w):=by
 unfold rq jh;have e1:jZ (HJ c).Path=some (bA c.Path):=rM c.Path;have e2:lZ (HJ c).Path=some (Km c.Path):=yL c.Path;rw [e1,av,e2,av];show bd (if c.Kind<1 then some true else if (3:Int)<c.Kind then some true else some (!bA c.Path)) _=_;rw [GD,av];cases hg:(decide (1<=c.Kind)&&decide (c.Kind<=3)&&bA c.Path) with
 |false=>rfl
 |true=>
  rw [if_neg (by decide)];show (if (!w.Kids)=true then some (decide (c.Path=w.Path)) else bd (if (!decide (c.Kind=2))=true then if (Km c.Path).2=0 then some (decide ((Km c.Path).1=w.Path)) else some false else some false) λw2=>some w2)=_;cases hk:w.Kids with
  |false=>rfl
  |true=>rw [if_neg (by decide)];by_cases h1:(Km c.Path).2=0<;>by_cases h2:c.Kind=2<;>simp [h1,h2]
def pL (c:aG)(L:List aq):List bk:=(L.filter (jh c)).map λw=>⟨w,c⟩
def nE (c:aG)(L:List aq):List aq:=L.filter λw=>!jh c w
theorem XB (c:aG)(L:List aq):(pL c L).length+(nE c L).length=L.length:=by
 unfold pL nE;rw [c9];induction L with
 |nil=>rfl
 |cons x r ih=>cases h:jh c x<;>simp [h]<;>omega
theorem abE (c:aG): ∀(L:List aq)(out:List bk),out.length+L.length<=2^20->Dw (λu s=>mJ u c s) out L=some (nE c L,out++pL c L):=by
 intro L;induction L with
 |nil=>intro out _;simp [Dw,nE,pL]
 |cons x r ih=>
  intro out hl;simp only [AS] at hl;unfold Dw;have e1:mJ x c out=some (jh c x,if jh c x then out++[⟨x,c⟩] else out):=by
   unfold mJ;rw [TU,av];cases jh c x with
   |false=>rfl
   |true=>rw [if_pos rfl,if_pos (by simp only [AS,AT];omega),av];rfl
  rw [e1,av];dsimp only;rw [ih _ (by split<;>simp<;>omega),av];cases h:jh c x<;>simp [nE,pL,h]
def AM (st:List aq×List bk)(c:aG):List aq×List bk:=(nE c st.1,st.2++pL c st.1)
def gY (L:List aq)(l:List aG):List aq×List bk:=l.foldl AM (L,[])
theorem abF (l:List aG): ∀st:List aq×List bk,(l.foldl AM st).1.length+(l.foldl AM st).2.length=st.1.length+st.2.length:=by
 induction l with
 |nil=>intro st;rfl
 |cons c l ih=>intro st;rw [List.foldl_cons,ih];have:=XB c st.1;simp only [AM,By];omega
theorem FJ (L:List aq)(l:List aG):(gY L l).1.length+(gY L l).2.length=L.length:=by have:=abF l (L,[]);simpa [gY] using this
theorem qB {α β:Type}{f:β->α->β}{b:β}{L:List α}{k:Nat}(hk:k<L.length):(L.take (k+1)).foldl f b=f ((L.take k).foldl f b) L[k]:=by rw [BY,AI hk,List.foldl_append];rfl
theorem ae6 (t:ca)(l:List aG)(h1:t.L.length<=1000)(h2:l.length<=1000):tA t l=some (⟨(gY t.L l).1⟩,(gY t.L l).2):=by
 unfold tA;have e0:kC 32 t.L=some t.L:=by unfold kC;rw [if_pos (by omega)]
 have cw:Loop (pa l) (t.L,([]:List bk),0)=some (gY t.L l):=by
  refine aO.eq (aO.count (λk=>((gY t.L (l.take k)).1,(gY t.L (l.take k)).2,(k:Int))) l.length (λ_=>True) rfl trivial (λk hk _=> ?_) (λ_=> ?_))
  ·unfold pa;dsimp only;have hlen:=FJ t.L (l.take k);rw [if_pos (by omega),ba hk,abE _ _ _ (by omega),av,wrap64 (by omega) (by omega)];refine .mk ⟨?_,trivial⟩;have:gY t.L (l.take (k+1))=AM (gY t.L (l.take k)) l[k]:=qB hk;rw [this];rfl
  ·unfold pa;dsimp only;rw [if_neg (by omega)];exact .mk (by rw [sh])
 rw [e0,av,cw,av]
theorem abG (l:List aG)(L:List aq)(out:List bk){i:Nat}(hi:i<l.length)(h1:out.length+L.length<=2^20): Loop (tM (l.map HJ) (L.map sb,out.map Pa,(i:Int))) (out.map Pa,([]:List aF),0)=some ((out++pL l[i] L).map Pa,(nE l[i] L).map sb):=by
 refine aO.eq (aO.count (λk=>((out++pL l[i] (L.take k)).map Pa,(nE l[i] (L.take k)).map sb,(k:Int))) L.length (λ_=>True) (by simp [pL,nE]) trivial (λk hk _=> ?_) (λ_=> ?_))
 ·unfold tM;dsimp only;have A3:((L.take k).filter (jh l[i])).length<=L.length:=oe;have sE:((L.take k).filter λw=>!jh l[i] w).length<=L.length:=oe;have hka:k<(L.map sb).length:=by rw [c9];exact hk
  have hia:i<(l.map HJ).length:=by rw [c9];exact hi
  have e1:(L.map sb)[k]=sb L[k]:=No _;have e2:(l.map HJ)[i]=HJ l[i]:=No _;rw [if_pos (by rw [c9];omega),ba hia,ba hka,e1,e2,Ll,av,wrap64 (by omega) (by omega)];have yP:pL l[i] (L.take (k+1))=pL l[i] (L.take k)++(if jh l[i] L[k] then [⟨L[k],l[i]⟩] else []):=by unfold pL;rw [kN hk,OF];cases jh l[i] L[k]<;>rfl
  have Nd:nE l[i] (L.take (k+1))=nE l[i] (L.take k)++(if jh l[i] L[k] then [] else [L[k]]):=by unfold nE;rw [kN hk];cases jh l[i] L[k]<;>rfl
  rw [yP,Nd];cases ht:jh l[i] L[k] with
  |true=>rw [if_pos rfl,ba hka,ba hia,e1,e2,if_pos (by simp only [c9,By,pL,AS,AT];omega),av];refine .mk ⟨?_,trivial⟩;simp [Pa]
  |false=>rw [if_neg (by decide),ba hka,e1,if_pos (by simp only [c9,By,nE,AS,AT];omega),av];refine .mk ⟨?_,trivial⟩;simp
 ·unfold tM;dsimp only;rw [if_neg (by rw [c9];omega)];exact .mk (by rw [sh])
theorem TV (L:List aq)(l:List aG)(h1:L.length<=1000)(h2:l.length<=1000):tO ⟨L.map sb⟩ (l.map HJ)=some (⟨(gY L l).1.map sb⟩,(gY L l).2.map Pa):=by
 unfold tO;dsimp only;rw [if_pos (by simp only [AT,c9];omega),List.nil_append];have cw:Loop (tN (l.map HJ)) (L.map sb,([]:List bH),0)=some ((gY L l).1.map sb,(gY L l).2.map Pa):=by
  refine aO.eq (aO.count (λk=>((gY L (l.take k)).1.map sb,(gY L (l.take k)).2.map Pa,(k:Int))) l.length (λ_=>True) rfl trivial (λk hk _=> ?_) (λ_=> ?_))
  ·unfold tN;dsimp only;have hlen:=FJ L (l.take k);rw [if_pos (by rw [c9];omega),abG l _ _ hk (by omega),av,wrap64 (by omega) (by omega)];refine .mk ⟨?_,trivial⟩;have:gY L (l.take (k+1))=AM (gY L (l.take k)) l[k]:=qB hk;rw [this];rfl
  ·unfold tN;dsimp only;rw [if_neg (by rw [c9];omega)];exact .mk (by rw [sh])
 rw [cw,av]
end Dn.S
