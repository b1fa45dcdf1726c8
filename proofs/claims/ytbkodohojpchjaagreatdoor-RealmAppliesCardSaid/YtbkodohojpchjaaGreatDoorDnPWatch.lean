import Derived.Test.YtbkodohojpchjaaGreatDoorDnPPath4
import Derived.Test.YtbkodohojpchjaaGreatDoorDnD
/-
  Watches: the functions on typed values. Conditions: none.
-/
set_option linter.unusedVariables false
set_option linter.unusedSimpArgs false
open List renaming length_map→c8,take_length→sh,getElem?_eq_getElem→AI,length_cons→AS,length_nil→AT,length_append→By,take_add_one→BY,length_take→IT,getElem_map→No,map_append→OF
open Bool renaming eq_iff_iff→IN,false_eq_true→IS,not_false→aaa,not_true→aaf
open Go Dn
namespace Dn.S
theorem kE {α:Type}{p:α->Bool}{L:List α}{k:Nat}(hk:k<L.length):(L.take (k+1)).filter p=(L.take k).filter p++if p L[k] then [L[k]] else []:=by rw [BY,AI hk,List.filter_append];congr 1;simp only [Option.toList_some,List.filter_cons,List.filter_nil]
theorem oh {α:Type}{p:α->Bool}{L:List α}{k:Nat}:((L.take k).filter p).length<=L.length:=Nat.le_trans (List.length_filter_le _ _) (by rw [IT];omega)
theorem ta {α β:Type}{f:α->β}{L:List α}{k:Nat}(hk:k<L.length):(L.take (k+1)).map f=(L.take k).map f++[f L[k]]:=by rw [BY,AI hk,OF];rfl
theorem xy {α β:Type}{f:α->β}{L:List α}{k:Nat}:((L.take k).map f).length<=L.length:=by rw [c8,IT];omega
theorem Kj {α β:Type}(L:List α)(f:α->β){body:List β×Int->Option ((List β×Int)⊕List β)}(h: ∀k (hk:k<L.length),body ((L.take k).map f,(k:Int))=some (.inl ((L.take k).map f++[f L[k]],((k+1:Nat):Int))))(he:body (L.map f,(L.length:Int))=some (.inr (L.map f))):Loop body ([],0)=some (L.map f):=by
 refine aM.eq (aM.count (λk=>((L.take k).map f,(k:Int))) L.length (λ_=>True) (by simp) trivial (λk hk _=> ?_) (λ_=> ?_))
 ·refine .of (h k hk) ⟨by rw [ta hk],trivial⟩
 ·rw [sh];exact .of he rfl
theorem Rx {α:Type}(L:List α)(p:α->Bool){body:List α×Int->Option ((List α×Int)⊕List α)}(h: ∀k (hk:k<L.length),body ((L.take k).filter p,(k:Int))=some (.inl ((L.take k).filter p++(if p L[k] then [L[k]] else []),((k+1:Nat):Int))))(he:body (L.filter p,(L.length:Int))=some (.inr (L.filter p))):Loop body ([],0)=some (L.filter p):=by
 refine aM.eq (aM.count (λk=>((L.take k).filter p,(k:Int))) L.length (λ_=>True) (by simp) trivial (λk hk _=> ?_) (λ_=> ?_))
 ·refine .of (h k hk) ⟨by rw [kE hk],trivial⟩
 ·rw [sh];exact .of he rfl
def ol (w:aq):aL:=⟨w.Path,w.Client,w.Kids⟩
def HE (c:aF):bq:=⟨c.Kind,c.Path⟩
def VS (e:bI):bO:=⟨ol e.W,HE e.C⟩
theorem afg {a b:aq}:ol a=ol b↔a=b:=by
 constructor
 ·intro h;cases a;cases b;simp only [ol,aL.mk.injEq] at h;obtain ⟨rfl,rfl,rfl⟩:=h;rfl
 ·rintro rfl;rfl
theorem MY (x y:aq):((decide (x.Path=y.Path))&&((decide (x.Client=y.Client))&&(decide (x.Kids=y.Kids))))=decide (x=y):=by cases x;cases y;rw [IN];simp
theorem OQ (x y:aL):((decide (x.Path=y.Path))&&((decide (x.Client=y.Client))&&(decide (x.Kids=y.Kids))))=decide (x=y):=by cases x;cases y;rw [IN];simp
theorem OR (x y:bO):((decide (x.W.Path=y.W.Path))&&((decide (x.W.Client=y.W.Client))&&((decide (x.W.Kids=y.W.Kids))&&((decide (x.C.Kind=y.C.Kind))&&(decide (x.C.Path=y.C.Path))))))=decide (x=y):=by obtain ⟨⟨a,b,c⟩,⟨d,e⟩⟩:=x;obtain ⟨⟨a',b',c'⟩,⟨d',e'⟩⟩:=y;rw [IN];simp [and_assoc]
theorem XU (a b:List aq)(hl:a.length<2^60):fp a b=some (decide (a=b)):=by
 unfold fp;by_cases h:a.length=b.length
 ·simp only [show ((a.length:Int)=(b.length:Int)) by omega,decide_true,aaf,IS,if_false];have cV:Loop (eO a b) 0=some (if a=b then .inl () else .inr false):=by
   refine xr h (λk ha hb=> ?_) ?_
   ·unfold eO;simp only [show ((k:Int)<(a.length:Int)) by omega,if_true,aP ha,aP hb,MY];rw [wrap64 (by omega) (by omega),show (k:Int)+1=((k+1:Nat):Int) by omega];by_cases he:a[k]=b[k]<;>simp [he]
   ·unfold eO;simp only [show¬((a.length:Int)<(a.length:Int)) by omega,if_false]
  rw [cV];by_cases he:a=b<;>simp [he]
 ·simp only [show¬((a.length:Int)=(b.length:Int)) by omega,decide_false,aaa,if_true];rw [decide_eq_false];intro he;exact h (by rw [he])
theorem abX (a b:cf)(hl:a.L.length<2^60):tD a b=some (decide (a.L=b.L)):=by unfold tD;rw [XU _ _ hl];rfl
theorem OS (a b:List bO)(hl:a.length<2^60):tS a b=some (decide (a=b)):=by
 unfold tS;by_cases h:a.length=b.length
 ·simp only [show ((a.length:Int)=(b.length:Int)) by omega,decide_true,aaf,IS,if_false];have cV:Loop (pk a b) 0=some (if a=b then .inl () else .inr false):=by
   refine xr h (λk ha hb=> ?_) ?_
   ·unfold pk;simp only [show ((k:Int)<(a.length:Int)) by omega,if_true,aP ha,aP hb,OR];rw [wrap64 (by omega) (by omega),show (k:Int)+1=((k+1:Nat):Int) by omega];by_cases he:a[k]=b[k]<;>simp [he]
   ·unfold pk;simp only [show¬((a.length:Int)<(a.length:Int)) by omega,if_false]
  rw [cV];by_cases he:a=b<;>simp [he]
 ·simp only [show¬((a.length:Int)=(b.length:Int)) by omega,decide_false,aaa,if_true];rw [decide_eq_false];intro he;exact h (by rw [he])
def Kk (p:List UInt8):List UInt8×Int:=if bn p then (if p=[47] then ([],6) else (lK (aE p).dropLast,0)) else ([],13)
def jg (c:aF)(w:aq):Bool:=(decide (1<=c.Kind)&&decide (c.Kind<=3)&&bn c.Path)&&(if w.Kids then decide ((Kk c.Path).2=0)&&(!decide (c.Kind=2))&&decide ((Kk c.Path).1=w.Path) else decide (c.Path=w.Path))
theorem GF (k:Int)(b:Bool):(if k<1 then some true else if (3:Int)<k then some true else some (!b))=some (!(decide (1<=k)&&decide (k<=3)&&b)):=by
 by_cases h1:k<1
 ·rw [if_pos h1,decide_eq_false (show¬1<=k by omega)];rfl
 ·rw [if_neg h1,decide_eq_true (show 1<=k by omega)];by_cases h2:(3:Int)<k
  ·rw [if_pos h2,decide_eq_false (show¬k<=3 by omega)];rfl
  ·rw [if_neg h2,decide_eq_true (show k<=3 by omega)];rfl
theorem Ue (c:aF)(w:aq):nw c w=some (jg c w):=by
 unfold nw jg;rw [xt,al,GF,al,MU,al];show _=some ((decide (1<=c.Kind)&&decide (c.Kind<=3)&&bn c.Path)&&(if w.Kids then decide ((Kk c.Path).2=0)&&(!decide (c.Kind=2))&&decide ((Kk c.Path).1=w.Path) else decide (c.Path=w.Path)));cases hg:(decide (1<=c.Kind)&&decide (c.Kind<=3)&&bn c.Path) with
 |false=>rfl
 |true=>
  rw [if_neg (by decide)];cases hk:w.Kids with
  |false=>rfl
  |true=>rw [if_neg (by decide)];show bd (if (Kk c.Path).2=0 then if (!decide (c.Kind=2))=true then some (decide ((Kk c.Path).1=w.Path)) else some false else some false) _=_;by_cases h1:(Kk c.Path).2=0<;>by_cases h2:c.Kind=2<;>simp [h1,h2]
theorem Lq (c:aF)(w:aq):rl (HE c) (ol w)=some (jg c w):=by
 unfold rl jg;have e1:gM (HE c).Path=some (bn c.Path):=mC c.Path;have e2:jH (HE c).Path=some (Kk c.Path):=sR c.Path;rw [e1,al,e2,al];show bd (if c.Kind<1 then some true else if (3:Int)<c.Kind then some true else some (!bn c.Path)) _=_;rw [GF,al];cases hg:(decide (1<=c.Kind)&&decide (c.Kind<=3)&&bn c.Path) with
 |false=>rfl
 |true=>
  rw [if_neg (by decide)];show (if (!w.Kids)=true then some (decide (c.Path=w.Path)) else bd (if (!decide (c.Kind=2))=true then if (Kk c.Path).2=0 then some (decide ((Kk c.Path).1=w.Path)) else some false else some false) λw2=>some w2)=_;cases hk:w.Kids with
  |false=>rfl
  |true=>rw [if_neg (by decide)];by_cases h1:(Kk c.Path).2=0<;>by_cases h2:c.Kind=2<;>simp [h1,h2]
def pN (c:aF)(L:List aq):List bI:=(L.filter (jg c)).map λw=>⟨w,c⟩
def nJ (c:aF)(L:List aq):List aq:=L.filter λw=>!jg c w
theorem XV (c:aF)(L:List aq):(pN c L).length+(nJ c L).length=L.length:=by
 unfold pN nJ;rw [c8];induction L with
 |nil=>rfl
 |cons x r ih=>cases h:jg c x<;>simp [h]<;>omega
theorem abY (c:aF): ∀(L:List aq)(out:List bI),out.length+L.length<=2^20->DP (λu s=>mM u c s) out L=some (nJ c L,out++pN c L):=by
 intro L;induction L with
 |nil=>intro out _;simp [DP,nJ,pN]
 |cons x r ih=>
  intro out hl;simp only [AS] at hl;unfold DP;have e1:mM x c out=some (jg c x,if jg c x then out++[⟨x,c⟩] else out):=by
   unfold mM;rw [Ue,al];cases jg c x with
   |false=>rfl
   |true=>rw [if_pos rfl,if_pos (by simp only [AS,AT];omega),al];rfl
  rw [e1,al];dsimp only;rw [ih _ (by split<;>simp<;>omega),al];cases h:jg c x<;>simp [nJ,pN,h]
def A6 (st:List aq×List bI)(c:aF):List aq×List bI:=(nJ c st.1,st.2++pN c st.1)
def gY (L:List aq)(l:List aF):List aq×List bI:=l.foldl A6 (L,[])
theorem abZ (l:List aF): ∀st:List aq×List bI,(l.foldl A6 st).1.length+(l.foldl A6 st).2.length=st.1.length+st.2.length:=by
 induction l with
 |nil=>intro st;rfl
 |cons c l ih=>intro st;rw [List.foldl_cons,ih];have:=XV c st.1;simp only [A6,By];omega
theorem FO (L:List aq)(l:List aF):(gY L l).1.length+(gY L l).2.length=L.length:=by have:=abZ l (L,[]);simpa [gY] using this
theorem y8 {α β:Type}{f:β->α->β}{b:β}{L:List α}{k:Nat}(hk:k<L.length):(L.take (k+1)).foldl f b=f ((L.take k).foldl f b) L[k]:=by rw [BY,AI hk,List.foldl_append];rfl
theorem afh (t:cf)(l:List aF)(h1:t.L.length<=1000)(h2:l.length<=1000):tA t l=some (⟨(gY t.L l).1⟩,(gY t.L l).2):=by
 unfold tA;have e0:kp 32 t.L=some t.L:=by unfold kp;rw [if_pos (by omega)]
 have cV:Loop (pe l) (t.L,([]:List bI),0)=some (gY t.L l):=by
  refine aM.eq (aM.count (λk=>((gY t.L (l.take k)).1,(gY t.L (l.take k)).2,(k:Int))) l.length (λ_=>True) rfl trivial (λk hk _=> ?_) (λ_=> ?_))
  ·unfold pe;dsimp only;have hlen:=FO t.L (l.take k);rw [if_pos (by omega),aP hk,abY _ _ _ (by omega),al,wrap64 (by omega) (by omega)];refine .mk ⟨?_,trivial⟩;have:gY t.L (l.take (k+1))=A6 (gY t.L (l.take k)) l[k]:=y8 hk;rw [this];rfl
  ·unfold pe;dsimp only;rw [if_neg (by omega)];exact .mk (by rw [sh])
 rw [e0,al,cV,al]
theorem ab0 (l:List aF)(L:List aq)(out:List bI){i:Nat}(hi:i<l.length)(h1:out.length+L.length<=2^20): Loop (tN (l.map HE) (L.map ol,out.map VS,(i:Int))) (out.map VS,([]:List aL),0)=some ((out++pN l[i] L).map VS,(nJ l[i] L).map ol):=by
 refine aM.eq (aM.count (λk=>((out++pN l[i] (L.take k)).map VS,(nJ l[i] (L.take k)).map ol,(k:Int))) L.length (λ_=>True) (by simp [pN,nJ]) trivial (λk hk _=> ?_) (λ_=> ?_))
 ·unfold tN;dsimp only;have Bh:((L.take k).filter (jg l[i])).length<=L.length:=oh;have sr:((L.take k).filter λw=>!jg l[i] w).length<=L.length:=oh;have hka:k<(L.map ol).length:=by rw [c8];exact hk
  have hia:i<(l.map HE).length:=by rw [c8];exact hi
  have e1:(L.map ol)[k]=ol L[k]:=No _;have e2:(l.map HE)[i]=HE l[i]:=No _;rw [if_pos (by rw [c8];omega),aP hia,aP hka,e1,e2,Lq,al,wrap64 (by omega) (by omega)];have za:pN l[i] (L.take (k+1))=pN l[i] (L.take k)++(if jg l[i] L[k] then [⟨L[k],l[i]⟩] else []):=by unfold pN;rw [kE hk,OF];cases jg l[i] L[k]<;>rfl
  have Nq:nJ l[i] (L.take (k+1))=nJ l[i] (L.take k)++(if jg l[i] L[k] then [] else [L[k]]):=by unfold nJ;rw [kE hk];cases jg l[i] L[k]<;>rfl
  rw [za,Nq];cases ht:jg l[i] L[k] with
  |true=>rw [if_pos rfl,aP hka,aP hia,e1,e2,if_pos (by simp only [c8,By,pN,AS,AT];omega),al];refine .mk ⟨?_,trivial⟩;simp [VS]
  |false=>rw [if_neg (by decide),aP hka,e1,if_pos (by simp only [c8,By,nJ,AS,AT];omega),al];refine .mk ⟨?_,trivial⟩;simp
 ·unfold tN;dsimp only;rw [if_neg (by rw [c8];omega)];exact .mk (by rw [sh])
theorem Uf (L:List aq)(l:List aF)(h1:L.length<=1000)(h2:l.length<=1000):tP ⟨L.map ol⟩ (l.map HE)=some (⟨(gY L l).1.map ol⟩,(gY L l).2.map VS):=by
 unfold tP;dsimp only;rw [if_pos (by simp only [AT,c8];omega),List.nil_append];have cV:Loop (tO (l.map HE)) (L.map ol,([]:List bO),0)=some ((gY L l).1.map ol,(gY L l).2.map VS):=by
  refine aM.eq (aM.count (λk=>((gY L (l.take k)).1.map ol,(gY L (l.take k)).2.map VS,(k:Int))) l.length (λ_=>True) rfl trivial (λk hk _=> ?_) (λ_=> ?_))
  ·unfold tO;dsimp only;have hlen:=FO L (l.take k);rw [if_pos (by rw [c8];omega),ab0 l _ _ hk (by omega),al,wrap64 (by omega) (by omega)];refine .mk ⟨?_,trivial⟩;have:gY L (l.take (k+1))=A6 (gY L (l.take k)) l[k]:=y8 hk;rw [this];rfl
  ·unfold tO;dsimp only;rw [if_neg (by rw [c8];omega)];exact .mk (by rw [sh])
 rw [cV,al]
end Dn.S
