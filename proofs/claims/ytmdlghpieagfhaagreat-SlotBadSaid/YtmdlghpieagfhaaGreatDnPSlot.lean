import Derived.Test.YtmdlghpieagfhaaGreatDnPAcc7
import Derived.Test.YtmdlghpieagfhaaGreatDnPLearn4
/-
  Nodes: what they come to, as the document says. Conditions: none.
-/
set_option linter.unusedVariables false
set_option linter.unusedSimpArgs false
open List renaming length_take→eJ,length_singleton→sh,mem_iff_getElem→AT,drop_append_of_le_length→BY,mem_singleton→IN,length_append→IS,length_drop→IT,take_length→No,pairwise_append→OF,getElem_mem→aai,mem_append→aas
open Bool renaming false_eq_true→AI,not_false→aaa,not_eq_true'→aah,not_true→aaD
open Go Dn
namespace Dn.S
def TW (n:aq):km:=⟨u5 n.A,plL n.L,n.df,n.jy⟩
def plM (m:al):eo:=⟨m.Kind,m.eQ,m.View,m.Value,m.dP,m.cf,m.Proof,m.R⟩
structure Vw (m:al):Prop where
 kZ:m.dP.length<2^32
 Qw: ∀r∈m.dP,r.Proof.length<2^32
 proof:m.Proof.length<2^32
 r:m.R.Proof.length<2^32
abbrev rk (r:ab):Int:=r.By
structure jq (s:af) (i:Int) (n:aq) (k:Nat):Prop where
 acc:iK n.A
 EL:n.A.S=s
 vV:n.A.Me=i
 jf:pe n.L
 wG:n.L.S=s
 inc:pc rk n.df
 small: ∀r∈n.df,r.Proof.length<=100
 len:n.df.length<=k
theorem jq.sz {s:af}{i:Int}{n:aq}{k:Nat}(h:jq s i n k):cr s:=by have:=h.acc.sz;rw [h.EL] at this;exact this
theorem jq.mono {s:af}{i:Int}{n:aq} {k k':Nat}(h:jq s i n k)(hk:k<=k'):jq s i n k':=⟨h.acc,h.EL,h.vV,h.jf,h.wG,h.inc,h.small,by have:=h.len;omega⟩
theorem iK.Z3 {a:ae}(h:iK a):a.bV.L.length<2^31:=tk h.sz (s:=a.S) (last:=a.View) ⟨λe he=>⟨(h.all e he).1,by have:=(h.all e he).2;omega⟩,h.uJ⟩
theorem pe.Z3 {l:ar}(h:pe l):l.bj.L.length<2^31/\l.bp.L.length<2^31/\l.Told.L.length<2^31:=⟨tk h.sz h.acc,tk h.sz h.V5,tk h.sz h.told⟩
def pF (s:af)(v:Int):Int:=Int.tmod (imax v 0) (uI s)
theorem nP {s:af}(h:cr s)(v:Int):kP s v=some (pF s v):=by unfold kP pF uI;have Vl:=(ei s).1 h;rw [uH h,ap,if_pos (by rw [aah,decide_eq_false_iff_not];omega)]
theorem Oc {s:af}(h:cr s)(v:Int):yg (xI s) v=some (pF s v):=by unfold yg pF uI;have Vl:=(ei s).1 h;rw [Bn h,ap,if_pos (by rw [aah,decide_eq_false_iff_not];omega)]
theorem afB {L:List ab}(h:pc rk L)(a:ab)(hn:mG rk L (rk a)=false):pc rk (JK rk L a):=by
 obtain ⟨h1,h2⟩:=h.lb (rk a);unfold JK pc;rw [OF,OF];have ht: ∀x∈L.take (gK rk L (rk a)),rk x<rk a:=by intro x hx;obtain ⟨k,hk,rfl⟩:=AT.1 hx;rw [eJ] at hk;rw [List.getElem_take];exact h1 k (by omega) (by omega)
 have hd: ∀x∈L.drop (gK rk L (rk a)),rk a<rk x:=by
  intro x hx;obtain ⟨k,hk,rfl⟩:=AT.1 hx;rw [IT] at hk;rw [List.getElem_drop];have g:=h2 (gK rk L (rk a)+k) (by omega) (by omega);have dS:rk L[gK rk L (rk a)+k]≠rk a:=by intro he;have:mG rk L (rk a)=true:=uF.2 ⟨_,aai _,he⟩;rw [hn] at this;cases this
  omega
 refine ⟨⟨h.sublist (List.take_sublist _ _),List.pairwise_singleton _ _,λx hx y hy=> ?_⟩,h.sublist (List.drop_sublist _ _),λx hx y hy=> ?_⟩
 ·simp only [IN] at hy;subst hy;exact ht x hx
 ·have hy:=hd y hy;rcases aas.1 hx with hx|hx
  ·have:=ht x hx;omega
  ·simp only [IN] at hx;subst hx;exact hy
theorem afC {L:List ab}{a x:ab}(h:x∈JK rk L a):x=a\/x∈L:=by
 unfold JK at h;simp only [aas,IN] at h;rcases h with (h|h)|h
 ·exact .inr (List.mem_of_mem_take h)
 ·exact .inl h
 ·exact .inr (List.mem_of_mem_drop h)
theorem afD (L:List ab)(a:ab):(JK rk L a).length=L.length+1:=by have:=wE (key:=rk) L (rk a);unfold JK;simp only [IS,eJ,IT,List.length_cons,List.length_nil];omega
def Od (n:aq)(r:ab)(ok:Bool):List ab:=if ok=true/\mG rk n.df r.By=false then JK rk n.df r else n.df
theorem Zv {L:List ab}{s:Int}(hs:pc rk L)(hl:L.length<2^60):cD L s fQ=some ((gK rk L s:Int),mG rk L s):=by have:cD L s fQ=bsearch L s fQ:=rfl;rw [this];exact JJ hs hl λa=>by unfold fQ;rw [JO];rfl
theorem abO {n:aq}{r:ab}(hs:pc rk n.df)(hl:n.df.length<=1000): Loop (Ba (TW n) r) (([]:List ab),false,0)=some (if mG rk n.df r.By=true then .inr n.df else .inl (if gK rk n.df r.By<n.df.length then JK rk n.df r else n.df,decide (gK rk n.df r.By<n.df.length))):=by
 obtain ⟨h1,h2⟩:=hs.lb r.By;have hle:=wE (key:=rk) n.df r.By;have eG:(TW n).df=n.df:=rfl;refine aL.eq (aL.count (λk=>(if k<=gK rk n.df r.By then n.df.take k else n.df.take (gK rk n.df r.By)++[r]++(n.df.take k).drop (gK rk n.df r.By),decide (gK rk n.df r.By<k),(k:Int))) n.df.length (λk=> ∀j (hj:j<n.df.length),j<k->n.df[j].By≠r.By) (by simp) (λj _ hj=>by omega) (λk hk hp=> ?_) (λhp=> ?_))
 ·unfold Ba;rw [eG];simp only;rw [if_pos (by omega),bh hk];by_cases he:n.df[k].By=r.By
  ·rw [if_pos he];have:mG rk n.df r.By=true:=uF.2 ⟨_,aai hk,he⟩;rw [if_pos this];exact .mk rfl
  ·rw [if_neg he];have hP: ∀j (hj:j<n.df.length),j<k+1->n.df[j].By≠r.By:=λj hj VY=>by
    by_cases JT:j=k
    ·subst JT;exact he
    ·exact hp j hj (by omega)
   rw [wrap64 (by omega) (by omega)];have Kh:n.df.take (k+1)=n.df.take k++[n.df[k]]:=by rw [List.take_add_one,List.getElem?_eq_getElem hk];rfl
   by_cases c1:k<gK rk n.df r.By
   ·have dO:=h1 k hk c1;rw [decide_eq_false (show¬gK rk n.df r.By<k by omega),if_pos (show k<=gK rk n.df r.By by omega)];simp only [aaa,if_true,bh hk,ap];rw [decide_eq_false (show¬r.By<n.df[k].By by simp only [rk] at dO;omega)];simp only [AI,if_false,ap];rw [if_pos (by rw [sh,eJ];omega)];refine .mk ⟨?_,hP⟩;rw [if_pos (by omega),Kh,decide_eq_false (by omega)];rfl
   ·by_cases c2:k=gK rk n.df r.By
    ·have OU:=h2 k hk (by omega);rw [decide_eq_false (show¬gK rk n.df r.By<k by omega),if_pos (show k<=gK rk n.df r.By by omega)];simp only [aaa,if_true,bh hk,ap];rw [decide_eq_true (show r.By<n.df[k].By by simp only [rk] at OU;omega)];simp only [if_true,ap];rw [if_pos (by rw [sh,eJ];omega),ap];simp only;rw [if_pos (by rw [IS,sh,sh,eJ];omega)];refine .mk ⟨?_,hP⟩;rw [if_neg (by omega),Kh,decide_eq_true (by omega),<-c2,BY (by rw [eJ];omega),List.drop_of_length_le (by rw [eJ];omega)];rfl
    ·rw [decide_eq_true (show gK rk n.df r.By<k by omega),if_neg (show¬k<=gK rk n.df r.By by omega)];simp only [aaD,AI,if_false,ap];rw [bh hk,if_pos (by simp only [IS,sh,eJ,IT];omega)];refine .mk ⟨?_,hP⟩;rw [if_neg (by omega),Kh,decide_eq_true (by omega),BY (by rw [eJ];omega),List.append_assoc (n.df.take (gK rk n.df r.By)++[r])];rfl
 ·unfold Ba;rw [eG];simp only;rw [if_neg (by omega)];have:mG rk n.df r.By=false:=by rw [Bool.eq_false_iff];intro hh;obtain ⟨e,he,h3⟩:=uF.1 hh;obtain ⟨j,hj,rfl⟩:=AT.1 he;exact hp j hj hj h3
  refine .mk ?_;show Sum.inl (_,_)=_;rw [this,if_neg (show¬(false=true) by simp)];by_cases c:gK rk n.df r.By<n.df.length
  ·rw [if_neg (show¬n.df.length<=gK rk n.df r.By by omega),decide_eq_true c,if_pos c,No];rfl
  ·rw [if_pos (show n.df.length<=gK rk n.df r.By by omega),decide_eq_false c,if_neg c,No]
theorem get_eq {s:af}{i:Int}{n:aq}{k:Nat}(h:jq s i n k)(hk:k<=500){r:ab}(hr:r.Proof.length<=100): ∃ok,om n s i r=some ((),⟨n.A,n.L,Od n r ok,n.jy⟩)/\NE (xI s) i (TW n) r=some (Od n r ok):=by
 have hs:=h.sz;have hl:=h.len;obtain ⟨b,eb,eb2,_⟩:=JR s r (by omega);have hle:=wE (key:=rk) n.df r.By;refine ⟨decide (n.A.View=r.jo)&&decide (pF s r.jo=i)&&b,?_,?_⟩
 ·unfold om Od;rw [Zv h.inc (by omega),ap,nP hs];simp only [ap,eb];have hg:(if !(mG rk n.df r.By) then if n.A.View=r.jo then if pF s r.jo=i then some b else some false else some false else some false:Option Bool)=some (decide ((decide (n.A.View=r.jo)&&decide (pF s r.jo=i)&&b)=true/\mG rk n.df r.By=false)):=by cases mG rk n.df r.By<;>by_cases c1:n.A.View=r.jo<;>by_cases c2:pF s r.jo=i<;>cases b<;>simp [c1,c2]
  rw [hg,ap];by_cases c:(decide (n.A.View=r.jo)&&decide (pF s r.jo=i)&&b)=true/\mG rk n.df r.By=false
  ·rw [decide_eq_true c,if_pos rfl,if_pos c,nL (by omega),ap,JL (key:=rk) (by omega)];rfl
  ·rw [decide_eq_false c,if_neg (by simp),if_neg c];rfl
 ·unfold NE Od;have eV:(TW n).A.View=n.A.View:=rfl;have eG:(TW n).df=n.df:=rfl;rw [eV,eG,Oc hs,abO h.inc (by omega)];simp only [ap,eb2];have hg:(if !decide (n.A.View=r.jo) then some true else if !decide (pF s r.jo=i) then some true else some (!b):Option Bool)=some (!(decide (n.A.View=r.jo)&&decide (pF s r.jo=i)&&b)):=by by_cases c1:n.A.View=r.jo<;>by_cases c2:pF s r.jo=i<;>cases b<;>simp [c1,c2]
  rw [hg,ap];cases hb:(decide (n.A.View=r.jo)&&decide (pF s r.jo=i)&&b) with
  |false=>simp
  |true=>
   simp only [aaD,AI,if_false,true_and];cases hh:mG rk n.df r.By with
   |true=>simp
   |false=>
    simp only [AI,if_false,ap,if_true];by_cases c:gK rk n.df r.By<n.df.length
    ·rw [decide_eq_true c,if_pos c];simp
    ·rw [decide_eq_false c,if_neg c];simp only [aaa,if_true];rw [if_pos (by rw [sh];omega)];simp only [ap];unfold JK;rw [show gK rk n.df (rk r)=n.df.length by simp only [rk] at *;omega,No,List.drop_length,List.append_nil]
theorem abP {s:af}{i:Int}{n:aq}{k:Nat}(h:jq s i n k){r:ab}(hr:r.Proof.length<=100)(ok:Bool):jq s i ⟨n.A,n.L,Od n r ok,n.jy⟩ (k+1):=by
 have hl:=h.len;unfold Od;split
 ·rename_i hc;refine ⟨h.acc,h.EL,h.vV,h.jf,h.wG,afB h.inc r hc.2,λx hx=> ?_,by rw [afD];omega⟩;rcases afC hx with rfl|hx
  ·exact hr
  ·exact h.small x hx
 ·exact ⟨h.acc,h.EL,h.vV,h.jf,h.wG,h.inc,h.small,by simp only;omega⟩
end Dn.S
