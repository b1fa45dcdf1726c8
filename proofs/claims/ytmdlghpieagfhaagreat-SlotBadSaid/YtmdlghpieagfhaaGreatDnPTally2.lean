import Derived.Test.YtmdlghpieagfhaaGreatDnPTally
/-
  Tallies: adding, counting and the best, as the document says. Conditions: none.
-/
set_option linter.unusedVariables false
set_option linter.unusedSimpArgs false
open Bool renaming false_eq_true→eJ,eq_false_iff→IS,not_false→No,not_true→aaL,and_false→aaS,false_and→aa1
open List renaming getElem?_eq_getElem→sh,length_cons→AI,length_nil→AT,length_take→BY,take_add_one→IN,mem_singleton→IT,take_length→OF,append_nil→aah,mem_append→aai,length_append→aas,getElem?_eq_some_iff→aaD,drop_eq_nil_of_le→aaN,take_of_length_le→aaR
open Nat renaming le_refl→aaa,zero_le→aaX
open Int renaming toNat_natCast→aaT,le_refl→aaZ
open Go Dn
namespace Dn.S
def JP (L:List aa)(a:aa)(k:Nat):List aa:=if k<=gK vk L a.By then L.take k else L.take (gK vk L a.By)++[a]++(L.take k).drop (gK vk L a.By+if mG vk L a.By then 1 else 0)
theorem Qa {L:List aa}{a:aa}{k:Nat}(hk:k<=L.length):(JP L a k).length<=k+1:=by
 unfold JP;have:=wE (key:=vk) L a.By;split
 ·rw [BY];omega
 ·simp only [aas,BY,List.length_drop,AI,AT];omega
theorem Vj {L:List aa}{a:aa}(hs:pc vk L)(hl:L.length<2^32):A9 ⟨L⟩ a=some (⟨(ia L a).1⟩,(ia L a).2):=by
 unfold A9 ia;rw [xA];by_cases hm:sF a;rotate_left
 ·simp [hm]
 simp only [ap,hm,decide_true,aaL,eJ,if_false];obtain ⟨h1,h2⟩:=hs.lb a.By;have hle:=wE (key:=vk) L a.By;have xy:aL (Loop (A8 ⟨L⟩ a) (([]:List aa),([]:List aa),false,0)) λr=>(BF L a=true/\r= .inr (L,false))\/(BF L a=false/\r= .inl ([],JP L a L.length,decide (gK vk L a.By<L.length))):=by
  refine aL.count (λk=>(([]:List aa),JP L a k,decide (gK vk L a.By<k),(k:Int))) L.length (λk=>BF L a=true->k<=gK vk L a.By) (by simp [JP]) (λ_=>aaX _) (λk hk hp=> ?_) (λhp=> ?_)
  ·unfold A8;simp only [show ((k:Int)<(L.length:Int)) by omega,if_true,bh hk];have hml:=Qa (L:=L) (a:=a) (k:=k) (by omega);rcases Nat.lt_trichotomy k (gK vk L a.By) with dO|jC|VT
   ·have hb:=h1 k hk dO;have dS: ¬L[k].By=a.By:=by simp only [vk] at hb;omega
    have hng: ¬a.By<=L[k].By:=by simp only [vk] at hb;omega
    simp only [dS,if_false,ap,eJ,show decide (gK vk L a.By<k)=false from decide_eq_false (by omega),No,if_true,hng,decide_false];rw [if_pos (by simp only [AI,AT];omega),ap,wrap64 (by omega) (by omega)];refine .mk ⟨?_,λ_=>by omega⟩;rw [show decide (gK vk L a.By<k+1)=false from decide_eq_false (by omega),show ((k+1:Nat):Int)=(k:Int)+1 by omega];unfold JP;rw [if_pos (by omega),if_pos (by omega),IN,sh hk];rfl
   ·subst jC;have hb:=h2 _ hk (aaa _);have OU:a.By<=L[gK vk L a.By].By:=hb;by_cases he:L[gK vk L a.By].By=a.By
    ·have hh:mG vk L a.By=true:=(hs.has a.By).2 ⟨hk,he⟩;by_cases hv:a.View<=L[gK vk L a.By].View
     ·have ho:BF L a=true:=(yG hs).2 ⟨hk,he,hv⟩;simp only [he,if_true,hv,decide_true,ap];exact .mk (.inl ⟨ho,rfl⟩)
     ·have ho:BF L a=false:=by rw [IS];intro ho;obtain ⟨_,_,h3⟩:=(yG hs).1 ho;exact hv h3
      simp only [he,if_true,hv,decide_false,ap,eJ,if_false,show decide (gK vk L a.By<gK vk L a.By)=false from decide_eq_false (by omega),No,aaZ,decide_true,aaL];rw [if_pos (by simp only [AI,AT];omega),ap,wrap64 (by omega) (by omega)];refine .mk ⟨?_,λh=>by rw [ho] at h;cases h⟩;rw [show decide (gK vk L a.By<gK vk L a.By+1)=true from decide_eq_true (by omega),show ((gK vk L a.By+1:Nat):Int)=(gK vk L a.By:Int)+1 by omega];unfold JP;rw [if_pos (aaa _),if_neg (by omega),hh];simp only [if_true];rw [aaN (by rw [BY];omega),aah]
    ·have hh:mG vk L a.By=false:=by rw [IS];intro hh;obtain ⟨_,g⟩:=(hs.has a.By).1 hh;exact he g
     have ho:BF L a=false:=by rw [IS];intro ho;obtain ⟨_,g,_⟩:=(yG hs).1 ho;exact he g
     simp only [he,if_false,ap,eJ,show decide (gK vk L a.By<gK vk L a.By)=false from decide_eq_false (by omega),No,if_true,OU,decide_true,decide_false];rw [if_pos (by simp only [AI,AT];omega)];simp only [ap];rw [if_pos (by simp only [aas,AI,AT];omega),ap,wrap64 (by omega) (by omega)];refine .mk ⟨?_,λh=>by rw [ho] at h;cases h⟩;rw [show decide (gK vk L a.By<gK vk L a.By+1)=true from decide_eq_true (by omega),show ((gK vk L a.By+1:Nat):Int)=(gK vk L a.By:Int)+1 by omega];unfold JP;rw [if_pos (aaa _),if_neg (by omega),hh];simp only [eJ,if_false,Nat.add_zero];rw [IN,sh hk,List.drop_append];have:(L.take (gK vk L a.By)).length=gK vk L a.By:=by rw [BY];omega
     rw [aaN (by omega),this,Nat.sub_self];simp
   ·have ho:BF L a=false:=by rw [IS];intro ho;have:=hp ho;omega
    have hb:=hs.lt hk VT;have hlb:=h2 (gK vk L a.By) (by omega) (aaa _);have dS: ¬L[k].By=a.By:=by simp only [vk] at hb hlb;omega
    simp only [dS,if_false,ap,eJ,show decide (gK vk L a.By<k)=true from decide_eq_true VT,aaL,No,if_true,decide_false];rw [if_pos (by simp only [AI,AT];omega),ap,wrap64 (by omega) (by omega)];refine .mk ⟨?_,λh=>by rw [ho] at h;cases h⟩;rw [show decide (gK vk L a.By<k+1)=true from decide_eq_true (by omega),show ((k+1:Nat):Int)=(k:Int)+1 by omega];unfold JP;rw [if_neg (show¬k<=gK vk L a.By by omega),if_neg (show¬k+1<=gK vk L a.By by omega),IN,sh hk,List.drop_append_of_le_length]
    ·simp
    ·rw [BY];split<;>omega
  ·unfold A8;simp only [show¬((L.length:Int)<(L.length:Int)) by omega,if_false];by_cases ho:BF L a=true
   ·obtain ⟨g1,g2,_⟩:=(yG hs).1 ho;have:=hp ho;omega
   ·exact .mk (.inr ⟨by simpa using ho,rfl⟩)
 obtain ⟨r,e,hr⟩:=xy;rw [e];rcases hr with ⟨ho,rfl⟩|⟨ho,rfl⟩
 ·simp only [ap,ho,Bool.true_eq_false,and_false,if_false]
 ·simp only [ap,ho,and_self,if_true];have hml:=Qa (L:=L) (a:=a) (k:=L.length) (aaa _);by_cases dO:gK vk L a.By<L.length
  ·simp only [dO,decide_true,aaL,eJ,if_false,ap];unfold JP sq;rw [if_neg (by omega),OF]
  ·have hq:gK vk L a.By=L.length:=by omega
   have hh:mG vk L a.By=false:=by rw [IS];intro hh;obtain ⟨g,_⟩:=(hs.has a.By).1 hh;omega
   simp only [dO,decide_false,No,if_true];rw [if_pos (by simp only [AI,AT];omega)];simp only [ap];unfold JP sq;rw [hh,hq,if_pos (aaa _)];simp
def th (v:Int)(s:List UInt8)(x:aa):Bool:=decide (x.View=v)&&decide (x.Value=s)
def zr (L:List aa)(v:Int)(s:List UInt8):Nat:=(L.filter (th v s)).length
theorem nM {α:Type}{p:α->Bool}{L:List α}{k:Nat}(hk:k<L.length):(L.take (k+1)).filter p=(L.take k).filter p++if p L[k] then [L[k]] else []:=by rw [IN,sh hk,List.filter_append];congr 1;simp only [Option.toList_some,List.filter_cons,List.filter_nil]
theorem nm {α:Type}{p:α->Bool}{L:List α}{k:Nat}:((L.take k).filter p).length<=L.length:=Nat.le_trans (List.length_filter_le _ _) (by rw [BY];omega)
theorem Mg (L:List aa)(v:Int)(s:List UInt8)(hl:L.length<2^32):ny ⟨L⟩ v s=some (L.filter (th v s)):=by
 unfold ny;have xy:Loop (mU ⟨L⟩ v s) (([]:List aa),0)=some (L.filter (th v s)):=by
  refine aL.eq (aL.count (λk=>((L.take k).filter (th v s),(k:Int))) L.length (λ_=>True) (by simp) trivial (λk hk _=> ?_) (λ_=> ?_))
  ·unfold mU;simp only [show ((k:Int)<(L.length:Int)) by omega,if_true,bh hk];have hb:(if L[k].View=v then some (decide (L[k].Value=s)) else some false:Option Bool)=some (th v s L[k]):=by unfold th;split<;>simp [*]
   rw [hb];simp only [ap];rw [wrap64 (by omega) (by omega),nM hk,show ((k+1:Nat):Int)=(k:Int)+1 by omega];have hle:=nm (p:=th v s) (L:=L) (k:=k);cases th v s L[k] with
   |true=>simp only [if_true];rw [if_pos (by simp only [AI,AT];omega)];exact .mk ⟨rfl,trivial⟩
   |false=>simp only [eJ,if_false,ap,aah];exact .mk ⟨rfl,trivial⟩
  ·unfold mU;simp only [show¬((L.length:Int)<(L.length:Int)) by omega,if_false,OF];exact .mk rfl
 rw [xy];rfl
theorem count_eq (L:List aa)(v:Int)(s:List UInt8)(hl:L.length<2^32):rY ⟨L⟩ v s=some (zr L v s:Int):=by unfold rY;rw [Mg L v s hl];rfl
theorem ED (L:List aa)(v:Int)(s:List UInt8)(hl:L.length<2^32):yi ⟨L⟩ v s=some (L.filter (th v s)):=by
 unfold yi;have xy:Loop (s6 ⟨L⟩ v s) (([]:List aa),0)=some (L.filter (th v s)):=by
  refine aL.eq (aL.count (λk=>((L.take k).filter (th v s),(k:Int))) L.length (λ_=>True) (by simp) trivial (λk hk _=> ?_) (λ_=> ?_))
  ·unfold s6;simp only [show ((k:Int)<(L.length:Int)) by omega,if_true,bh hk];have hb:(if L[k].View=v then some (decide (L[k].Value=s)) else some false:Option Bool)=some (th v s L[k]):=by unfold th;split<;>simp [*]
   rw [hb];simp only [ap];rw [wrap64 (by omega) (by omega),nM hk,show ((k+1:Nat):Int)=(k:Int)+1 by omega];have hle:=nm (p:=th v s) (L:=L) (k:=k);cases th v s L[k] with
   |true=>simp only [if_true];rw [if_pos (by simp only [AI,AT];omega)];exact .mk ⟨rfl,trivial⟩
   |false=>simp only [eJ,if_false,ap,aah];exact .mk ⟨rfl,trivial⟩
  ·unfold s6;simp only [show¬((L.length:Int)<(L.length:Int)) by omega,if_false,OF];exact .mk rfl
 rw [xy];rfl
theorem Qb (L:List aa)(v:Int)(s:List UInt8)(hl:L.length<2^32):Fh ⟨L⟩ v s=some (zr L v s:Int):=by unfold Fh;rw [ED L v s hl];rfl
def nU (L:List aa)(b9:Int)(y:aa):Bool:=decide (1<=b9)&&decide (b9<=(zr L y.View y.Value:Int))
def kf (L:List aa)(b9:Int)(o:Option aa)(y:aa):Option aa:=if nU L b9 y&&(match o with|none=>true|some z=>decide (z.View<y.View)) then some y else o
def lJ (L:List aa)(b9:Int):Option aa:=L.foldl (kf L b9) none
theorem oV {α β:Type}{f:β->α->β}{b:β}{L:List α}{k:Nat}(hk:k<L.length):(L.take (k+1)).foldl f b=f ((L.take k).foldl f b) L[k]:=by rw [IN,sh hk,List.foldl_append];rfl
def gn (x:aa):List MV:=[.i .i64 x.View,.s x.Value]
theorem abB (v w:Int)(s t:List UInt8):eO [.i .i64 v,.s s] [.i .i64 w,.s t]=(decide (v=w)&&decide (s=t)):=by simp [eO,EU]
theorem Y3 (L:List aa)(hl:L.length<2^32):aL (Loop (s5 ⟨L⟩) (([]:List MV),0)) λes=> ∀v s,n8 es [.i .i64 v,.s s]=(zr L v s:Int):=by
 refine aL.loop (λst=> ∃k:Nat,k<=L.length/\st.2=(k:Int)/\ ∀v s,n8 st.1 [.i .i64 v,.s s]=(((L.take k).filter (th v s)).length:Int)) (λst=>((L.length:Int)-st.2).toNat) ⟨0,aaX _,rfl,λv s=>by simp [n8]⟩ ?_;rintro ⟨es,i⟩ ⟨k,hk,rfl,hm⟩;simp only at hm;unfold s5;by_cases dO:k<L.length
 ·have hle:=yF es (gn L[k]);simp only [show ((k:Int)<(L.length:Int)) by omega,if_true,bh dO];have hc:(0:Int)<=((cI es ([.i .i64 L[k].View,.s L[k].Value]:List MV):Nat):Int)/\Int.toNat ((cI es ([.i .i64 L[k].View,.s L[k].Value]:List MV):Nat):Int)<(nY es ([.i .i64 L[k].View,.s L[k].Value]:List MV) (.i .i64 0)).length:=by
   refine ⟨by omega,?_⟩;unfold nY;unfold gn at hle;rw [eH,aaT];by_cases h:cI es [.i .i64 L[k].View,.s L[k].Value]=es.length
   ·simp only [h,decide_true,cond_true,aas,AI,AT];omega
   ·simp only [h,decide_false,cond_false];omega
  rw [if_pos hc];simp only [aaT];refine .mk ⟨⟨k+1,by omega,?_,λv s=> ?_⟩,?_⟩
  ·simp only;rw [wrap64 (by omega) (by omega)];omega
  ·simp only;have Y4:=hm L[k].View L[k].Value;have atX:=nm (p:=th L[k].View L[k].Value) (L:=L) (k:=k);rw [Y4,wrap64 (by omega) (by omega)];show n8 (BE es _ (.i .i64 0) _) _=_;rw [nM dO,P7];by_cases he:L[k].View=v/\L[k].Value=s
   ·obtain ⟨rfl,rfl⟩:=he;rw [K1 (by simp [eO,EU])];simp [th,asI]
   ·have hf:(decide (L[k].View=v)&&decide (L[k].Value=s))=false:=by rw [<-Bool.decide_and];exact decide_eq_false he
    rw [JN (by rw [abB];exact hf),<-P7,hm];simp only [th,hf,eJ,if_false,aah]
  ·simp only;rw [wrap64 (by omega) (by omega)];omega
 ·simp only [show¬((k:Int)<(L.length:Int)) by omega,if_false];refine .mk λv s=> ?_;rw [hm,aaR (by omega)];rfl
def Y5 (o:Option aa):Int×List UInt8×Bool:=match o with|some z=>(z.View,z.Value,true)|none=>(0,[],false)
@[simp] theorem FG (z : aa) : Y5 (some z) = (z.View, z.Value, true) := rfl
@[simp] theorem agd : Y5 none = (0, [], false) := rfl
theorem EE {L:List aa}(b9:Int)(hv: ∀e∈L,0<=e.View)(hl:L.length<2^32):lc ⟨L⟩ b9=some (Y5 (lJ L b9)):=by
 unfold lc;obtain ⟨es,e1,VN⟩:=Y3 L hl;rw [e1];simp only [ap];have xy:Loop (p0 ⟨L⟩ b9 es) ((-1),([]:List UInt8),false,0)=some (match lJ L b9 with|some z=>(z.View,z.Value,true)|none=>(-1,[],false)):=by
  refine aL.eq (aL.count (λk=>match (L.take k).foldl (kf L b9) none with|some z=>(z.View,z.Value,true,(k:Int))|none=>(-1,[],false,(k:Int))) L.length (λ_=>True) (by simp) trivial (λk hk _=> ?_) (λ_=> ?_))
  ·have hvk:=hv _ (List.getElem_mem hk);rw [oV hk];unfold p0;have TQ: ∀b:Bool,(if (1:Int)<=b9 then if b9<=(zr L L[k].View L[k].Value:Int) then some b else some false else some false:Option Bool)=some (nU L b9 L[k]&&b):=by intro b;unfold nU;by_cases g1:(1:Int)<=b9<;>by_cases g2:b9<=(zr L L[k].View L[k].Value:Int)<;>simp [g1,g2]
   cases hz:(L.take k).foldl (kf L b9) none with
   |none=>simp only [show ((k:Int)<(L.length:Int)) by omega,if_true,bh hk,VN,TQ,ap];rw [wrap64 (by omega) (by omega)];unfold kf;simp only [show decide ((-1:Int)<L[k].View)=true from decide_eq_true (by omega),Bool.and_true];cases nU L b9 L[k]<;>simp only [eJ,if_true,if_false,ap]<;>exact .mk ⟨by simp,trivial⟩
   |some z=>simp only [show ((k:Int)<(L.length:Int)) by omega,if_true,bh hk,VN,TQ,ap];rw [wrap64 (by omega) (by omega)];unfold kf;cases nU L b9 L[k]&&decide (z.View<L[k].View)<;>simp only [eJ,if_true,if_false,ap]<;>exact .mk ⟨by simp,trivial⟩
  ·rw [OF];unfold p0;show aL _ _;unfold lJ;cases List.foldl (kf L b9) none L<;>simp only [show¬((L.length:Int)<(L.length:Int)) by omega,if_false]<;>exact .mk rfl
 rw [xy];cases lJ L b9<;>simp
def atB (L:List aa)(o:Option aa)(w:Int):Prop:=match o with|none=>w= -1|some z=> ∃j:Nat,w=(j:Int)/\L[j]? =some z
theorem Si (L:List aa)(b9:Int)(hl:L.length<2^32):DN ⟨L⟩ b9=some (Y5 (lJ L b9)):=by
 unfold DN;have xy:aL (Loop (yj ⟨L⟩ b9) ((-1),0)) λw=>match lJ L b9 with|none=>w<0|some z=> ∃j:Nat,w=(j:Int)/\L[j]? =some z:=by
  by_cases hn:1<=b9
  ·refine aL.loop (λst=> ∃k:Nat,k<=L.length/\st.2=(k:Int)/\atB L ((L.take k).foldl (kf L b9) none) st.1) (λst=>((L.length:Int)-st.2).toNat) (show∃k:Nat,k<=L.length/\((-1:Int),(0:Int)).2=(k:Int)/\atB L ((L.take k).foldl (kf L b9) none) ((-1:Int),(0:Int)).1 from ⟨0,aaX _,rfl,by simp [atB]⟩) ?_;rintro ⟨w,i⟩ ⟨k,hk,rfl,hm⟩;simp only at hm;unfold yj;by_cases dO:k<L.length
   ·simp only [show ((k:Int)<(L.length:Int)) by omega,if_true,hn,decide_true,ap,bh dO,Qb L _ _ hl];have nR:=oV (f:=kf L b9) (b:=none) dO;have hw:IntKind.wrap .i64 ((k:Int)+1)=((k+1:Nat):Int):=by rw [wrap64 (by omega) (by omega)];omega
    cases hz:(L.take k).foldl (kf L b9) none with
    |none=>
     rw [hz] at hm nR;have hm:w= -1:=hm;subst hm;simp only [show ((-1:Int)<0) by decide,if_true,hw];by_cases hg:b9<=(zr L L[k].View L[k].Value:Int)
     ·simp only [hg,if_true,ap];refine .mk ⟨⟨k+1,by omega,rfl,?_⟩,by simp only;omega⟩;rw [nR];simp only [kf,nU,hn,hg,decide_true,Bool.and_self,if_true];exact ⟨k,rfl,sh dO⟩
     ·simp only [hg,if_false,ap,eJ];refine .mk ⟨⟨k+1,by omega,rfl,?_⟩,by simp only;omega⟩;rw [nR];simp only [kf,nU,hn,hg,decide_false,aaS,aa1,eJ,if_false];rfl
    |some z=>
     rw [hz] at hm nR;obtain ⟨j,rfl,hj⟩:=hm;obtain ⟨EP,QL⟩:=aaD.1 hj;simp only [show¬((j:Int)<0) by omega,if_false,hw,bh EP,QL];by_cases hg:b9<=(zr L L[k].View L[k].Value:Int)
     ·simp only [hg,if_true,ap];by_cases hvw:z.View<L[k].View
      ·simp only [hvw,decide_true,if_true,ap];refine .mk ⟨⟨k+1,by omega,rfl,?_⟩,by simp only;omega⟩;rw [nR];simp only [kf,nU,hn,hg,hvw,decide_true,Bool.and_self,if_true];exact ⟨k,rfl,sh dO⟩
      ·simp only [hvw,decide_false,if_false,ap,eJ];refine .mk ⟨⟨k+1,by omega,rfl,?_⟩,by simp only;omega⟩;rw [nR];simp only [kf,hvw,decide_false,aaS,eJ,if_false];exact ⟨j,rfl,hj⟩
     ·simp only [hg,if_false,ap,eJ];refine .mk ⟨⟨k+1,by omega,rfl,?_⟩,by simp only;omega⟩;rw [nR];simp only [kf,nU,hn,hg,decide_false,aaS,aa1,eJ,if_false];exact ⟨j,rfl,hj⟩
   ·simp only [show¬((k:Int)<(L.length:Int)) by omega,if_false,ap,eJ];rw [aaR (by omega)] at hm;refine .mk ?_;show match lJ L b9 with|none=>w<0|some z=>_
    unfold lJ;split
    ·rename_i hz;rw [hz] at hm;have hm:w= -1:=hm;omega
    ·rename_i z hz;rw [hz] at hm;exact hm
  ·have hb:lJ L b9=none:=by
    have: ∀l:List aa,l.foldl (kf L b9) none=none:=by
     intro l;induction l with
     |nil=>rfl
     |cons x l ih=>simp only [List.foldl_cons];rw [show kf L b9 none x=none by simp [kf,nU,hn]];exact ih
    exact this L
   rw [hb];refine ⟨-1,?_,by show (-1:Int)<0;decide⟩;refine kY (n:=1) ?_;simp only [iter,yj];by_cases h0:(0:Int)<(L.length:Int)<;>simp [h0,hn]
 obtain ⟨w,e,hw⟩:=xy;rw [e];simp only [ap];cases hz:lJ L b9 with
 |none=>rw [hz] at hw;simp only at hw;simp [hw]
 |some z=>rw [hz] at hw;obtain ⟨j,rfl,hj⟩:=hw;obtain ⟨EP,QL⟩:=aaD.1 hj;simp only [show¬((j:Int)<0) by omega,if_false,bh EP,QL,FG]
theorem C2 (L:List aa)(b9:Int):match lJ L b9 with|none=> ∀y∈L,nU L b9 y=false|some z=>z∈L/\nU L b9 z=true/\ ∀y∈L,nU L b9 y=true->y.View<=z.View:=by
 have: ∀l:List aa,(∀x∈l,x∈L)->match l.foldl (kf L b9) none with|none=> ∀y∈l,nU L b9 y=false|some z=>z∈L/\nU L b9 z=true/\ ∀y∈l,nU L b9 y=true->y.View<=z.View:=by
  intro l;generalize hn:l.length=n;induction n generalizing l with
  |zero=>intro h;have:=List.eq_nil_of_length_eq_zero hn;subst this;intro y hy;simp at hy
  |succ n ih=>
   intro h;obtain ⟨l0,y0,rfl⟩: ∃l0 y0,l=l0++[y0]:=⟨l.dropLast,l.getLast (by intro e;subst e;simp at hn),(List.dropLast_concat_getLast _).symm⟩
   have ih:=ih l0 (by simp at hn;omega) (λx hx=>h x (by simp [hx]));rw [List.foldl_append];simp only [List.foldl_cons,List.foldl_nil];cases hz:l0.foldl (kf L b9) none with
   |none=>
    rw [hz] at ih;simp only at ih;cases hg:nU L b9 y0 with
    |true=>
     rw [show kf L b9 none y0=some y0 by simp [kf,hg]];refine ⟨h y0 (by simp),hg,λy hy hgy=> ?_⟩;rcases aai.1 hy with hy|hy
     ·rw [ih y hy] at hgy;cases hgy
     ·rw [IT.1 hy];exact aaZ _
    |false=>
     rw [show kf L b9 none y0=none by simp [kf,hg]];intro y hy;rcases aai.1 hy with hy|hy
     ·exact ih y hy
     ·rw [IT.1 hy];exact hg
   |some z=>
    rw [hz] at ih;obtain ⟨i1,i2,i3⟩:=ih;cases hg:nU L b9 y0&&decide (z.View<y0.View) with
    |true=>
     rw [show kf L b9 (some z) y0=some y0 by simp only [kf,hg,if_true]];simp only [Bool.and_eq_true,decide_eq_true_eq] at hg;refine ⟨h y0 (by simp),hg.1,λy hy hgy=> ?_⟩;rcases aai.1 hy with hy|hy
     ·have:=i3 y hy hgy;omega
     ·rw [IT.1 hy];exact aaZ _
    |false=>
     rw [show kf L b9 (some z) y0=some z by simp only [kf,hg,eJ,if_false]];refine ⟨i1,i2,λy hy hgy=> ?_⟩;rcases aai.1 hy with hy|hy
     ·exact i3 y hy hgy
     ·have he:=IT.1 hy;subst he;rw [hgy,Bool.true_and] at hg;have:=of_decide_eq_false hg;omega
 exact this L λx hx=>hx
end Dn.S
