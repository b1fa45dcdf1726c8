import Derived.Test.YtmdlghpieagfhaaGreatDnPTally
/-
  Tallies: adding, counting and the best, as the document says. Conditions: none.
-/
set_option linter.unusedVariables false
set_option linter.unusedSimpArgs false
open Bool renaming false_eq_true→fj,eq_false_iff→IS,not_false→No,not_true→aaK,and_false→aaN,false_and→aaR
open List renaming getElem?_eq_getElem→sh,length_cons→AI,length_nil→AT,length_take→BY,take_add_one→IN,mem_singleton→IT,take_length→OF,append_nil→aay,mem_append→aaH,length_append→aaI,getElem?_eq_some_iff→aaJ,drop_eq_nil_of_le→aaL,take_of_length_le→aaM
open Nat renaming le_refl→aav,zero_le→aaP
open Int renaming toNat_natCast→aaO,le_refl→aaQ
open Go Dn
namespace Dn.S
def Mw (L:List aa)(a:aa)(k:Nat):List aa:=if k<=gX vk L a.By then L.take k else L.take (gX vk L a.By)++[a]++(L.take k).drop (gX vk L a.By+if mF vk L a.By then 1 else 0)
theorem UN {L:List aa}{a:aa}{k:Nat}(hk:k<=L.length):(Mw L a k).length<=k+1:=by
 unfold Mw;have:=xF (key:=vk) L a.By;split
 ·rw [BY];omega
 ·simp only [aaI,BY,List.length_drop,AI,AT];omega
theorem CC {L:List aa}{a:aa}(hs:pg vk L)(hl:L.length<2^32):oS ⟨L⟩ a=some (⟨(ek L a).1⟩,(ek L a).2):=by
 unfold oS ek;rw [uC];by_cases hm:rc a;rotate_left
 ·simp [hm]
 simp only [ar,hm,decide_true,aaK,fj,if_false];obtain ⟨h1,h2⟩:=hs.lb a.By;have hle:=xF (key:=vk) L a.By;have yH:bD (Loop (yh ⟨L⟩ a) (([]:List aa),([]:List aa),false,0)) λr=>(C1 L a=true/\r= .inr (L,false))\/(C1 L a=false/\r= .inl ([],Mw L a L.length,decide (gX vk L a.By<L.length))):=by
  refine bD.count (λk=>(([]:List aa),Mw L a k,decide (gX vk L a.By<k),(k:Int))) L.length (λk=>C1 L a=true->k<=gX vk L a.By) (by simp [Mw]) (λ_=>aaP _) (λk hk hp=> ?_) (λhp=> ?_)
  ·unfold yh;simp only [show ((k:Int)<(L.length:Int)) by omega,if_true,bP hk];have hml:=UN (L:=L) (a:=a) (k:=k) (by omega);rcases Nat.lt_trichotomy k (gX vk L a.By) with eE|ju|hgt
   ·have hb:=h1 k hk eE;have eu: ¬L[k].By=a.By:=by simp only [vk] at hb;omega
    have hng: ¬a.By<=L[k].By:=by simp only [vk] at hb;omega
    simp only [eu,if_false,ar,fj,show decide (gX vk L a.By<k)=false from decide_eq_false (by omega),No,if_true,hng,decide_false];rw [if_pos (by simp only [AI,AT];omega),ar,wrap64 (by omega) (by omega)];refine .mk ⟨?_,λ_=>by omega⟩;rw [show decide (gX vk L a.By<k+1)=false from decide_eq_false (by omega),show ((k+1:Nat):Int)=(k:Int)+1 by omega];unfold Mw;rw [if_pos (by omega),if_pos (by omega),IN,sh hk];rfl
   ·subst ju;have hb:=h2 _ hk (aav _);have SI:a.By<=L[gX vk L a.By].By:=hb;by_cases he:L[gX vk L a.By].By=a.By
    ·have hh:mF vk L a.By=true:=(hs.has a.By).2 ⟨hk,he⟩;by_cases hv:a.View<=L[gX vk L a.By].View
     ·have ho:C1 L a=true:=(zT hs).2 ⟨hk,he,hv⟩;simp only [he,if_true,hv,decide_true,ar];exact .mk (.inl ⟨ho,rfl⟩)
     ·have ho:C1 L a=false:=by rw [IS];intro ho;obtain ⟨_,_,h3⟩:=(zT hs).1 ho;exact hv h3
      simp only [he,if_true,hv,decide_false,ar,fj,if_false,show decide (gX vk L a.By<gX vk L a.By)=false from decide_eq_false (by omega),No,aaQ,decide_true,aaK];rw [if_pos (by simp only [AI,AT];omega),ar,wrap64 (by omega) (by omega)];refine .mk ⟨?_,λh=>by rw [ho] at h;cases h⟩;rw [show decide (gX vk L a.By<gX vk L a.By+1)=true from decide_eq_true (by omega),show ((gX vk L a.By+1:Nat):Int)=(gX vk L a.By:Int)+1 by omega];unfold Mw;rw [if_pos (aav _),if_neg (by omega),hh];simp only [if_true];rw [aaL (by rw [BY];omega),aay]
    ·have hh:mF vk L a.By=false:=by rw [IS];intro hh;obtain ⟨_,g⟩:=(hs.has a.By).1 hh;exact he g
     have ho:C1 L a=false:=by rw [IS];intro ho;obtain ⟨_,g,_⟩:=(zT hs).1 ho;exact he g
     simp only [he,if_false,ar,fj,show decide (gX vk L a.By<gX vk L a.By)=false from decide_eq_false (by omega),No,if_true,SI,decide_true,decide_false];rw [if_pos (by simp only [AI,AT];omega)];simp only [ar];rw [if_pos (by simp only [aaI,AI,AT];omega),ar,wrap64 (by omega) (by omega)];refine .mk ⟨?_,λh=>by rw [ho] at h;cases h⟩;rw [show decide (gX vk L a.By<gX vk L a.By+1)=true from decide_eq_true (by omega),show ((gX vk L a.By+1:Nat):Int)=(gX vk L a.By:Int)+1 by omega];unfold Mw;rw [if_pos (aav _),if_neg (by omega),hh];simp only [fj,if_false,Nat.add_zero];rw [IN,sh hk,List.drop_append];have:(L.take (gX vk L a.By)).length=gX vk L a.By:=by rw [BY];omega
     rw [aaL (by omega),this,Nat.sub_self];simp
   ·have ho:C1 L a=false:=by rw [IS];intro ho;have:=hp ho;omega
    have hb:=hs.lt hk hgt;have hlb:=h2 (gX vk L a.By) (by omega) (aav _);have eu: ¬L[k].By=a.By:=by simp only [vk] at hb hlb;omega
    simp only [eu,if_false,ar,fj,show decide (gX vk L a.By<k)=true from decide_eq_true hgt,aaK,No,if_true,decide_false];rw [if_pos (by simp only [AI,AT];omega),ar,wrap64 (by omega) (by omega)];refine .mk ⟨?_,λh=>by rw [ho] at h;cases h⟩;rw [show decide (gX vk L a.By<k+1)=true from decide_eq_true (by omega),show ((k+1:Nat):Int)=(k:Int)+1 by omega];unfold Mw;rw [if_neg (show¬k<=gX vk L a.By by omega),if_neg (show¬k+1<=gX vk L a.By by omega),IN,sh hk,List.drop_append_of_le_length]
    ·simp
    ·rw [BY];split<;>omega
  ·unfold yh;simp only [show¬((L.length:Int)<(L.length:Int)) by omega,if_false];by_cases ho:C1 L a=true
   ·obtain ⟨g1,g2,_⟩:=(zT hs).1 ho;have:=hp ho;omega
   ·exact .mk (.inr ⟨by simpa using ho,rfl⟩)
 obtain ⟨r,e,hr⟩:=yH;rw [e];rcases hr with ⟨ho,rfl⟩|⟨ho,rfl⟩
 ·simp only [ar,ho,Bool.true_eq_false,and_false,if_false]
 ·simp only [ar,ho,and_self,if_true];have hml:=UN (L:=L) (a:=a) (k:=L.length) (aav _);by_cases eE:gX vk L a.By<L.length
  ·simp only [eE,decide_true,aaK,fj,if_false,ar];unfold Mw s7;rw [if_neg (by omega),OF]
  ·have hq:gX vk L a.By=L.length:=by omega
   have hh:mF vk L a.By=false:=by rw [IS];intro hh;obtain ⟨g,_⟩:=(hs.has a.By).1 hh;omega
   simp only [eE,decide_false,No,if_true];rw [if_pos (by simp only [AI,AT];omega)];simp only [ar];unfold Mw s7;rw [hh,hq,if_pos (aav _)];simp
def ub (v:Int)(s:List UInt8)(x:aa):Bool:=decide (x.View=v)&&decide (x.Value=s)
def AB (L:List aa)(v:Int)(s:List UInt8):Nat:=(L.filter (ub v s)).length
theorem nH {α:Type}{p:α->Bool}{L:List α}{k:Nat}(hk:k<L.length):(L.take (k+1)).filter p=(L.take k).filter p++if p L[k] then [L[k]] else []:=by rw [IN,sh hk,List.filter_append];congr 1;simp only [Option.toList_some,List.filter_cons,List.filter_nil]
theorem ni {α:Type}{p:α->Bool}{L:List α}{k:Nat}:((L.take k).filter p).length<=L.length:=Nat.le_trans (List.length_filter_le _ _) (by rw [BY];omega)
theorem PU (L:List aa)(v:Int)(s:List UInt8)(hl:L.length<2^32):nv ⟨L⟩ v s=some (L.filter (ub v s)):=by
 unfold nv;have yH:Loop (mS ⟨L⟩ v s) (([]:List aa),0)=some (L.filter (ub v s)):=by
  refine bD.eq (bD.count (λk=>((L.take k).filter (ub v s),(k:Int))) L.length (λ_=>True) (by simp) trivial (λk hk _=> ?_) (λ_=> ?_))
  ·unfold mS;simp only [show ((k:Int)<(L.length:Int)) by omega,if_true,bP hk];have hb:(if L[k].View=v then some (decide (L[k].Value=s)) else some false:Option Bool)=some (ub v s L[k]):=by unfold ub;split<;>simp [*]
   rw [hb];simp only [ar];rw [wrap64 (by omega) (by omega),nH hk,show ((k+1:Nat):Int)=(k:Int)+1 by omega];have hle:=ni (p:=ub v s) (L:=L) (k:=k);cases ub v s L[k] with
   |true=>simp only [if_true];rw [if_pos (by simp only [AI,AT];omega)];exact .mk ⟨rfl,trivial⟩
   |false=>simp only [fj,if_false,ar,aay];exact .mk ⟨rfl,trivial⟩
  ·unfold mS;simp only [show¬((L.length:Int)<(L.length:Int)) by omega,if_false,OF];exact .mk rfl
 rw [yH];rfl
theorem count_eq (L:List aa)(v:Int)(s:List UInt8)(hl:L.length<2^32):sJ ⟨L⟩ v s=some (AB L v s:Int):=by unfold sJ;rw [PU L v s hl];rfl
theorem GD (L:List aa)(v:Int)(s:List UInt8)(hl:L.length<2^32):rF ⟨L⟩ v s=some (L.filter (ub v s)):=by
 unfold rF;have yH:Loop (qy ⟨L⟩ v s) (([]:List aa),0)=some (L.filter (ub v s)):=by
  refine bD.eq (bD.count (λk=>((L.take k).filter (ub v s),(k:Int))) L.length (λ_=>True) (by simp) trivial (λk hk _=> ?_) (λ_=> ?_))
  ·unfold qy;simp only [show ((k:Int)<(L.length:Int)) by omega,if_true,bP hk];have hb:(if L[k].View=v then some (decide (L[k].Value=s)) else some false:Option Bool)=some (ub v s L[k]):=by unfold ub;split<;>simp [*]
   rw [hb];simp only [ar];rw [wrap64 (by omega) (by omega),nH hk,show ((k+1:Nat):Int)=(k:Int)+1 by omega];have hle:=ni (p:=ub v s) (L:=L) (k:=k);cases ub v s L[k] with
   |true=>simp only [if_true];rw [if_pos (by simp only [AI,AT];omega)];exact .mk ⟨rfl,trivial⟩
   |false=>simp only [fj,if_false,ar,aay];exact .mk ⟨rfl,trivial⟩
  ·unfold qy;simp only [show¬((L.length:Int)<(L.length:Int)) by omega,if_false,OF];exact .mk rfl
 rw [yH];rfl
theorem UO (L:List aa)(v:Int)(s:List UInt8)(hl:L.length<2^32):yi ⟨L⟩ v s=some (AB L v s:Int):=by unfold yi;rw [GD L v s hl];rfl
def nQ (L:List aa)(bY:Int)(y:aa):Bool:=decide (1<=bY)&&decide (bY<=(AB L y.View y.Value:Int))
def j8 (L:List aa)(bY:Int)(o:Option aa)(y:aa):Option aa:=if nQ L bY y&&(match o with|none=>true|some z=>decide (z.View<y.View)) then some y else o
def kH (L:List aa)(bY:Int):Option aa:=L.foldl (j8 L bY) none
theorem oY {α β:Type}{f:β->α->β}{b:β}{L:List α}{k:Nat}(hk:k<L.length):(L.take (k+1)).foldl f b=f ((L.take k).foldl f b) L[k]:=by rw [IN,sh hk,List.foldl_append];rfl
def gz (x:aa):List MV:=[.i .i64 x.View,.s x.Value]
theorem ahK (v w:Int)(s t:List UInt8):ft [.i .i64 v,.s s] [.i .i64 w,.s t]=(decide (v=w)&&decide (s=t)):=by simp [ft,GX]
theorem ae1 (L:List aa)(hl:L.length<2^32):bD (Loop (tS ⟨L⟩) (([]:List MV),0)) λes=> ∀v s,oc es [.i .i64 v,.s s]=(AB L v s:Int):=by
 refine bD.loop (λst=> ∃k:Nat,k<=L.length/\st.2=(k:Int)/\ ∀v s,oc st.1 [.i .i64 v,.s s]=(((L.take k).filter (ub v s)).length:Int)) (λst=>((L.length:Int)-st.2).toNat) ⟨0,aaP _,rfl,λv s=>by simp [oc]⟩ ?_;rintro ⟨es,i⟩ ⟨k,hk,rfl,hm⟩;simp only at hm;unfold tS;by_cases eE:k<L.length
 ·have hle:=zS es (gz L[k]);simp only [show ((k:Int)<(L.length:Int)) by omega,if_true,bP eE];have hc:(0:Int)<=((df es ([.i .i64 L[k].View,.s L[k].Value]:List MV):Nat):Int)/\Int.toNat ((df es ([.i .i64 L[k].View,.s L[k].Value]:List MV):Nat):Int)<(nU es ([.i .i64 L[k].View,.s L[k].Value]:List MV) (.i .i64 0)).length:=by
   refine ⟨by omega,?_⟩;unfold nU;unfold gz at hle;rw [fc,aaO];by_cases h:df es [.i .i64 L[k].View,.s L[k].Value]=es.length
   ·simp only [h,decide_true,cond_true,aaI,AI,AT];omega
   ·simp only [h,decide_false,cond_false];omega
  rw [if_pos hc];simp only [aaO];refine .mk ⟨⟨k+1,by omega,?_,λv s=> ?_⟩,?_⟩
  ·simp only;rw [wrap64 (by omega) (by omega)];omega
  ·simp only;have ae2:=hm L[k].View L[k].Value;have aDJ:=ni (p:=ub L[k].View L[k].Value) (L:=L) (k:=k);rw [ae2,wrap64 (by omega) (by omega)];show oc (C0 es _ (.i .i64 0) _) _=_;rw [nH eE,UL];by_cases he:L[k].View=v/\L[k].Value=s
   ·obtain ⟨rfl,rfl⟩:=he;rw [Og (by simp [ft,GX])];simp [ub,asI]
   ·have hf:(decide (L[k].View=v)&&decide (L[k].Value=s))=false:=by rw [<-Bool.decide_and];exact decide_eq_false he
    rw [Mu (by rw [ahK];exact hf),<-UL,hm];simp only [ub,hf,fj,if_false,aay]
  ·simp only;rw [wrap64 (by omega) (by omega)];omega
 ·simp only [show¬((k:Int)<(L.length:Int)) by omega,if_false];refine .mk λv s=> ?_;rw [hm,aaM (by omega)];rfl
def ae3 (o:Option aa):Int×List UInt8×Bool:=match o with|some z=>(z.View,z.Value,true)|none=>(0,[],false)
@[simp] theorem HL (z : aa) : ae3 (some z) = (z.View, z.Value, true) := rfl
@[simp] theorem ane : ae3 none = (0, [], false) := rfl
theorem GF {L:List aa}(bY:Int)(hv: ∀e∈L,0<=e.View)(hl:L.length<2^32):li ⟨L⟩ bY=some (ae3 (kH L bY)):=by
 unfold li;obtain ⟨es,e1,hes⟩:=ae1 L hl;rw [e1];simp only [ar];have yH:Loop (qu ⟨L⟩ bY es) ((-1),([]:List UInt8),false,0)=some (match kH L bY with|some z=>(z.View,z.Value,true)|none=>(-1,[],false)):=by
  refine bD.eq (bD.count (λk=>match (L.take k).foldl (j8 L bY) none with|some z=>(z.View,z.Value,true,(k:Int))|none=>(-1,[],false,(k:Int))) L.length (λ_=>True) (by simp) trivial (λk hk _=> ?_) (λ_=> ?_))
  ·have hvk:=hv _ (List.getElem_mem hk);rw [oY hk];unfold qu;have ai8: ∀b:Bool,(if (1:Int)<=bY then if bY<=(AB L L[k].View L[k].Value:Int) then some b else some false else some false:Option Bool)=some (nQ L bY L[k]&&b):=by intro b;unfold nQ;by_cases g1:(1:Int)<=bY<;>by_cases g2:bY<=(AB L L[k].View L[k].Value:Int)<;>simp [g1,g2]
   cases hz:(L.take k).foldl (j8 L bY) none with
   |none=>simp only [show ((k:Int)<(L.length:Int)) by omega,if_true,bP hk,hes,ai8,ar];rw [wrap64 (by omega) (by omega)];unfold j8;simp only [show decide ((-1:Int)<L[k].View)=true from decide_eq_true (by omega),Bool.and_true];cases nQ L bY L[k]<;>simp only [fj,if_true,if_false,ar]<;>exact .mk ⟨by simp,trivial⟩
   |some z=>simp only [show ((k:Int)<(L.length:Int)) by omega,if_true,bP hk,hes,ai8,ar];rw [wrap64 (by omega) (by omega)];unfold j8;cases nQ L bY L[k]&&decide (z.View<L[k].View)<;>simp only [fj,if_true,if_false,ar]<;>exact .mk ⟨by simp,trivial⟩
  ·rw [OF];unfold qu;show bD _ _;unfold kH;cases List.foldl (j8 L bY) none L<;>simp only [show¬((L.length:Int)<(L.length:Int)) by omega,if_false]<;>exact .mk rfl
 rw [yH];cases kH L bY<;>simp
def atB (L:List aa)(o:Option aa)(w:Int):Prop:=match o with|none=>w= -1|some z=> ∃j:Nat,w=(j:Int)/\L[j]? =some z
theorem Mx (L:List aa)(bY:Int)(hl:L.length<2^32):yj ⟨L⟩ bY=some (ae3 (kH L bY)):=by
 unfold yj;have yH:bD (Loop (u5 ⟨L⟩ bY) ((-1),0)) λw=>match kH L bY with|none=>w<0|some z=> ∃j:Nat,w=(j:Int)/\L[j]? =some z:=by
  by_cases hn:1<=bY
  ·refine bD.loop (λst=> ∃k:Nat,k<=L.length/\st.2=(k:Int)/\atB L ((L.take k).foldl (j8 L bY) none) st.1) (λst=>((L.length:Int)-st.2).toNat) (show∃k:Nat,k<=L.length/\((-1:Int),(0:Int)).2=(k:Int)/\atB L ((L.take k).foldl (j8 L bY) none) ((-1:Int),(0:Int)).1 from ⟨0,aaP _,rfl,by simp [atB]⟩) ?_;rintro ⟨w,i⟩ ⟨k,hk,rfl,hm⟩;simp only at hm;unfold u5;by_cases eE:k<L.length
   ·simp only [show ((k:Int)<(L.length:Int)) by omega,if_true,hn,decide_true,ar,bP eE,UO L _ _ hl];have tw:=oY (f:=j8 L bY) (b:=none) eE;have hw:IntKind.wrap .i64 ((k:Int)+1)=((k+1:Nat):Int):=by rw [wrap64 (by omega) (by omega)];omega
    cases hz:(L.take k).foldl (j8 L bY) none with
    |none=>
     rw [hz] at hm tw;have hm:w= -1:=hm;subst hm;simp only [show ((-1:Int)<0) by decide,if_true,hw];by_cases hg:bY<=(AB L L[k].View L[k].Value:Int)
     ·simp only [hg,if_true,ar];refine .mk ⟨⟨k+1,by omega,rfl,?_⟩,by simp only;omega⟩;rw [tw];simp only [j8,nQ,hn,hg,decide_true,Bool.and_self,if_true];exact ⟨k,rfl,sh eE⟩
     ·simp only [hg,if_false,ar,fj];refine .mk ⟨⟨k+1,by omega,rfl,?_⟩,by simp only;omega⟩;rw [tw];simp only [j8,nQ,hn,hg,decide_false,aaN,aaR,fj,if_false];rfl
    |some z=>
     rw [hz] at hm tw;obtain ⟨j,rfl,hj⟩:=hm;obtain ⟨M5,Vh⟩:=aaJ.1 hj;simp only [show¬((j:Int)<0) by omega,if_false,hw,bP M5,Vh];by_cases hg:bY<=(AB L L[k].View L[k].Value:Int)
     ·simp only [hg,if_true,ar];by_cases hvw:z.View<L[k].View
      ·simp only [hvw,decide_true,if_true,ar];refine .mk ⟨⟨k+1,by omega,rfl,?_⟩,by simp only;omega⟩;rw [tw];simp only [j8,nQ,hn,hg,hvw,decide_true,Bool.and_self,if_true];exact ⟨k,rfl,sh eE⟩
      ·simp only [hvw,decide_false,if_false,ar,fj];refine .mk ⟨⟨k+1,by omega,rfl,?_⟩,by simp only;omega⟩;rw [tw];simp only [j8,hvw,decide_false,aaN,fj,if_false];exact ⟨j,rfl,hj⟩
     ·simp only [hg,if_false,ar,fj];refine .mk ⟨⟨k+1,by omega,rfl,?_⟩,by simp only;omega⟩;rw [tw];simp only [j8,nQ,hn,hg,decide_false,aaN,aaR,fj,if_false];exact ⟨j,rfl,hj⟩
   ·simp only [show¬((k:Int)<(L.length:Int)) by omega,if_false,ar,fj];rw [aaM (by omega)] at hm;refine .mk ?_;show match kH L bY with|none=>w<0|some z=>_
    unfold kH;split
    ·rename_i hz;rw [hz] at hm;have hm:w= -1:=hm;omega
    ·rename_i z hz;rw [hz] at hm;exact hm
  ·have hb:kH L bY=none:=by
    have: ∀l:List aa,l.foldl (j8 L bY) none=none:=by
     intro l;induction l with
     |nil=>rfl
     |cons x l ih=>simp only [List.foldl_cons];rw [show j8 L bY none x=none by simp [j8,nQ,hn]];exact ih
    exact this L
   rw [hb];refine ⟨-1,?_,by show (-1:Int)<0;decide⟩;refine lg (n:=1) ?_;simp only [iter,u5];by_cases h0:(0:Int)<(L.length:Int)<;>simp [h0,hn]
 obtain ⟨w,e,hw⟩:=yH;rw [e];simp only [ar];cases hz:kH L bY with
 |none=>rw [hz] at hw;simp only at hw;simp [hw]
 |some z=>rw [hz] at hw;obtain ⟨j,rfl,hj⟩:=hw;obtain ⟨M5,Vh⟩:=aaJ.1 hj;simp only [show¬((j:Int)<0) by omega,if_false,bP M5,Vh,HL]
theorem Er (L:List aa)(bY:Int):match kH L bY with|none=> ∀y∈L,nQ L bY y=false|some z=>z∈L/\nQ L bY z=true/\ ∀y∈L,nQ L bY y=true->y.View<=z.View:=by
 have: ∀l:List aa,(∀x∈l,x∈L)->match l.foldl (j8 L bY) none with|none=> ∀y∈l,nQ L bY y=false|some z=>z∈L/\nQ L bY z=true/\ ∀y∈l,nQ L bY y=true->y.View<=z.View:=by
  intro l;generalize hn:l.length=n;induction n generalizing l with
  |zero=>intro h;have:=List.eq_nil_of_length_eq_zero hn;subst this;intro y hy;simp at hy
  |succ n ih=>
   intro h;obtain ⟨l0,y0,rfl⟩: ∃l0 y0,l=l0++[y0]:=⟨l.dropLast,l.getLast (by intro e;subst e;simp at hn),(List.dropLast_concat_getLast _).symm⟩
   have ih:=ih l0 (by simp at hn;omega) (λx hx=>h x (by simp [hx]));rw [List.foldl_append];simp only [List.foldl_cons,List.foldl_nil];cases hz:l0.foldl (j8 L bY) none with
   |none=>
    rw [hz] at ih;simp only at ih;cases hg:nQ L bY y0 with
    |true=>
     rw [show j8 L bY none y0=some y0 by simp [j8,hg]];refine ⟨h y0 (by simp),hg,λy hy hgy=> ?_⟩;rcases aaH.1 hy with hy|hy
     ·rw [ih y hy] at hgy;cases hgy
     ·rw [IT.1 hy];exact aaQ _
    |false=>
     rw [show j8 L bY none y0=none by simp [j8,hg]];intro y hy;rcases aaH.1 hy with hy|hy
     ·exact ih y hy
     ·rw [IT.1 hy];exact hg
   |some z=>
    rw [hz] at ih;obtain ⟨i1,i2,i3⟩:=ih;cases hg:nQ L bY y0&&decide (z.View<y0.View) with
    |true=>
     rw [show j8 L bY (some z) y0=some y0 by simp only [j8,hg,if_true]];simp only [Bool.and_eq_true,decide_eq_true_eq] at hg;refine ⟨h y0 (by simp),hg.1,λy hy hgy=> ?_⟩;rcases aaH.1 hy with hy|hy
     ·have:=i3 y hy hgy;omega
     ·rw [IT.1 hy];exact aaQ _
    |false=>
     rw [show j8 L bY (some z) y0=some z by simp only [j8,hg,fj,if_false]];refine ⟨i1,i2,λy hy hgy=> ?_⟩;rcases aaH.1 hy with hy|hy
     ·exact i3 y hy hgy
     ·have he:=IT.1 hy;subst he;rw [hgy,Bool.true_and] at hg;have:=of_decide_eq_false hg;omega
 exact this L λx hx=>hx
end Dn.S
