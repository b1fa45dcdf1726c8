import Derived.Test.YtjblhgpbkfmkoaaDnPTally
/-
  Tallies: adding, counting and the best, as the document says. Conditions: none.
-/
open Go Dn
set_option linter.unusedVariables false
set_option linter.unusedSimpArgs false
namespace Dn.S
def AK (L:List aa) (a:aa) (k:Nat):List aa:=if k≤eN vk L a.By then L.take k else L.take (eN vk L a.By)++[a]++(L.take k).drop (eN vk L a.By+if mN vk L a.By then 1 else 0)
theorem Gy {L:List aa} {a:aa} {k:Nat} (hk:k≤L.length):(AK L a k).length≤k+1:=by
 unfold AK
 have:=wR (key:=vk) L a.By
 split
 ·rw [List.length_take];omega
 ·simp only [List.length_append,List.length_take,List.length_drop,List.length_cons,List.length_nil];omega
theorem LC {L:List aa} {a:aa} (hs:o8 vk L) (hl:L.length<2^32):Eg ⟨L⟩ a=some (⟨(iz L a).1⟩,(iz L a).2):=by
 unfold Eg iz
 rw [o9]
 by_cases hm:qE a
 rotate_left
 ·simp [hm]
 simp only [aq,hm,decide_true,Bool.not_true,Bool.false_eq_true,if_false]
 obtain ⟨h1,h2⟩:=hs.lb a.By
 have hle:=wR (key:=vk) L a.By
 have rz:aO (Loop (si ⟨L⟩ a) (([]:List aa),([]:List aa),false,0)) fun r=>(vH L a=true∧r= .inr (L,false))∨(vH L a=false∧r= .inl ([],AK L a L.length,decide (eN vk L a.By<L.length))):=by
  refine aO.count (fun k=>(([]:List aa),AK L a k,decide (eN vk L a.By<k),(k:Int))) L.length (fun k=>vH L a=true→k≤eN vk L a.By) (by simp [AK]) (fun _=>Nat.zero_le _) (fun k hk hp=> ?_) (fun hp=> ?_)
  ·unfold si
   simp only [show ((k:Int)<(L.length:Int)) by omega,if_true,bO hk]
   have TD:=Gy (L:=L) (a:=a) (k:=k) (by omega)
   rcases Nat.lt_trichotomy k (eN vk L a.By) with cA|dJ|Fz
   ·have hb:=h1 k hk cA
    have cm: ¬L[k].By=a.By:=by simp only [vk] at hb;omega
    have hng: ¬a.By≤L[k].By:=by simp only [vk] at hb;omega
    simp only [cm,if_false,aq,Bool.false_eq_true,show decide (eN vk L a.By<k)=false from decide_eq_false (by omega),Bool.not_false,if_true,hng,decide_false]
    rw [if_pos (by simp only [List.length_cons,List.length_nil];omega),aq,wrap64 (by omega) (by omega)]
    refine .mk ⟨?_,fun _=>by omega⟩
    rw [show decide (eN vk L a.By<k+1)=false from decide_eq_false (by omega),show ((k+1:Nat):Int)=(k:Int)+1 by omega]
    unfold AK
    rw [if_pos (by omega),if_pos (by omega),List.take_add_one,List.getElem?_eq_getElem hk];rfl
   ·subst dJ
    have hb:=h2 _ hk (Nat.le_refl _)
    have Hy:a.By≤L[eN vk L a.By].By:=hb
    by_cases he:L[eN vk L a.By].By=a.By
    ·have hh:mN vk L a.By=true:=(hs.has a.By).2 ⟨hk,he⟩
     by_cases hv:a.View≤L[eN vk L a.By].View
     ·have ho:vH L a=true:=(qg hs).2 ⟨hk,he,hv⟩
      simp only [he,if_true,hv,decide_true,aq]
      exact .mk (.inl ⟨ho,rfl⟩)
     ·have ho:vH L a=false:=by
       rw [Bool.eq_false_iff];intro ho
       obtain ⟨_,_,h3⟩:=(qg hs).1 ho
       exact hv h3
      simp only [he,if_true,hv,decide_false,aq,Bool.false_eq_true,if_false,show decide (eN vk L a.By<eN vk L a.By)=false from decide_eq_false (by omega),Bool.not_false,Int.le_refl,decide_true,Bool.not_true]
      rw [if_pos (by simp only [List.length_cons,List.length_nil];omega),aq,wrap64 (by omega) (by omega)]
      refine .mk ⟨?_,fun h=>by rw [ho] at h;cases h⟩
      rw [show decide (eN vk L a.By<eN vk L a.By+1)=true from decide_eq_true (by omega),show ((eN vk L a.By+1:Nat):Int)=(eN vk L a.By:Int)+1 by omega]
      unfold AK
      rw [if_pos (Nat.le_refl _),if_neg (by omega),hh]
      simp only [if_true]
      rw [List.drop_eq_nil_of_le (by rw [List.length_take];omega),List.append_nil]
    ·have hh:mN vk L a.By=false:=by
      rw [Bool.eq_false_iff];intro hh
      obtain ⟨_,g⟩:=(hs.has a.By).1 hh
      exact he g
     have ho:vH L a=false:=by
      rw [Bool.eq_false_iff];intro ho
      obtain ⟨_,g,_⟩:=(qg hs).1 ho
      exact he g
     simp only [he,if_false,aq,Bool.false_eq_true,show decide (eN vk L a.By<eN vk L a.By)=false from decide_eq_false (by omega),Bool.not_false,if_true,Hy,decide_true,decide_false]
     rw [if_pos (by simp only [List.length_cons,List.length_nil];omega)]
     simp only [aq]
     rw [if_pos (by simp only [List.length_append,List.length_cons,List.length_nil];omega),aq,wrap64 (by omega) (by omega)]
     refine .mk ⟨?_,fun h=>by rw [ho] at h;cases h⟩
     rw [show decide (eN vk L a.By<eN vk L a.By+1)=true from decide_eq_true (by omega),show ((eN vk L a.By+1:Nat):Int)=(eN vk L a.By:Int)+1 by omega]
     unfold AK
     rw [if_pos (Nat.le_refl _),if_neg (by omega),hh]
     simp only [Bool.false_eq_true,if_false,Nat.add_zero]
     rw [List.take_add_one,List.getElem?_eq_getElem hk,List.drop_append]
     have:(L.take (eN vk L a.By)).length=eN vk L a.By:=by rw [List.length_take];omega
     rw [List.drop_eq_nil_of_le (by omega),this,Nat.sub_self]
     simp
   ·have ho:vH L a=false:=by
     rw [Bool.eq_false_iff];intro ho
     have:=hp ho;omega
    have hb:=hs.lt hk Fz
    have hlb:=h2 (eN vk L a.By) (by omega) (Nat.le_refl _)
    have cm: ¬L[k].By=a.By:=by simp only [vk] at hb hlb;omega
    simp only [cm,if_false,aq,Bool.false_eq_true,show decide (eN vk L a.By<k)=true from decide_eq_true Fz,Bool.not_true,Bool.not_false,if_true,decide_false]
    rw [if_pos (by simp only [List.length_cons,List.length_nil];omega),aq,wrap64 (by omega) (by omega)]
    refine .mk ⟨?_,fun h=>by rw [ho] at h;cases h⟩
    rw [show decide (eN vk L a.By<k+1)=true from decide_eq_true (by omega),show ((k+1:Nat):Int)=(k:Int)+1 by omega]
    unfold AK
    rw [if_neg (show¬k≤eN vk L a.By by omega),if_neg (show¬k+1≤eN vk L a.By by omega),List.take_add_one,List.getElem?_eq_getElem hk,List.drop_append_of_le_length]
    ·simp
    ·rw [List.length_take];split<;>omega
  ·unfold si
   simp only [show¬((L.length:Int)<(L.length:Int)) by omega,if_false]
   by_cases ho:vH L a=true
   ·obtain ⟨g1,g2,_⟩:=(qg hs).1 ho
    have:=hp ho
    omega
   ·exact .mk (.inr ⟨by simpa using ho,rfl⟩)
 obtain ⟨r,e,hr⟩:=rz
 rw [e]
 rcases hr with ⟨ho,rfl⟩|⟨ho,rfl⟩
 ·simp only [aq,ho,Bool.true_eq_false,and_false,if_false]
 ·simp only [aq,ho,and_self,if_true]
  have TD:=Gy (L:=L) (a:=a) (k:=L.length) (Nat.le_refl _)
  by_cases cA:eN vk L a.By<L.length
  ·simp only [cA,decide_true,Bool.not_true,Bool.false_eq_true,if_false,aq]
   unfold AK BW
   rw [if_neg (by omega),List.take_length]
  ·have hq:eN vk L a.By=L.length:=by omega
   have hh:mN vk L a.By=false:=by
    rw [Bool.eq_false_iff];intro hh
    obtain ⟨g,_⟩:=(hs.has a.By).1 hh
    omega
   simp only [cA,decide_false,Bool.not_false,if_true]
   rw [if_pos (by simp only [List.length_cons,List.length_nil];omega)]
   simp only [aq]
   unfold AK BW
   rw [hh,hq,if_pos (Nat.le_refl _)]
   simp
def mO (v:Int) (s:List UInt8) (x:aa):Bool:=decide (x.View=v)&&decide (x.Value=s)
def ud (L:List aa) (v:Int) (s:List UInt8):Nat:=(L.filter (mO v s)).length
theorem gZ {α:Type} {p:α→Bool} {L:List α} {k:Nat} (hk:k<L.length):(L.take (k+1)).filter p=(L.take k).filter p++if p L[k] then [L[k]] else []:=by
 rw [List.take_add_one,List.getElem?_eq_getElem hk,List.filter_append]
 congr 1
 simp only [Option.toList_some,List.filter_cons,List.filter_nil]
theorem gq {α:Type} {p:α→Bool} {L:List α} {k:Nat}:((L.take k).filter p).length≤L.length:=Nat.le_trans (List.length_filter_le _ _) (by rw [List.length_take];omega)
theorem C9 (L:List aa) (v:Int) (s:List UInt8) (hl:L.length<2^32):ec ⟨L⟩ v s=some (L.filter (mO v s)):=by
 unfold ec
 have rz:Loop (dN ⟨L⟩ v s) (([]:List aa),0)=some (L.filter (mO v s)):=by
  refine aO.eq (aO.count (fun k=>((L.take k).filter (mO v s),(k:Int))) L.length (fun _=>True) (by simp) trivial (fun k hk _=> ?_) (fun _=> ?_))
  ·unfold dN
   simp only [show ((k:Int)<(L.length:Int)) by omega,if_true,bO hk]
   have hb:(if L[k].View=v then some (decide (L[k].Value=s)) else some false:Option Bool)=some (mO v s L[k]):=by unfold mO;split<;>simp [*]
   rw [hb]
   simp only [aq]
   rw [wrap64 (by omega) (by omega),gZ hk,show ((k+1:Nat):Int)=(k:Int)+1 by omega]
   have hle:=gq (p:=mO v s) (L:=L) (k:=k)
   cases mO v s L[k] with
   |true=>simp only [if_true];rw [if_pos (by simp only [List.length_cons,List.length_nil];omega)];exact .mk ⟨rfl,trivial⟩
   |false=>simp only [Bool.false_eq_true,if_false,aq,List.append_nil];exact .mk ⟨rfl,trivial⟩
  ·unfold dN
   simp only [show¬((L.length:Int)<(L.length:Int)) by omega,if_false,List.take_length]
   exact .mk rfl
 rw [rz];rfl
theorem count_eq (L:List aa) (v:Int) (s:List UInt8) (hl:L.length<2^32):gh ⟨L⟩ v s=some (ud L v s:Int):=by
 unfold gh
 rw [C9 L v s hl];rfl
theorem vI (L:List aa) (v:Int) (s:List UInt8) (hl:L.length<2^32):pR ⟨L⟩ v s=some (L.filter (mO v s)):=by
 unfold pR
 have rz:Loop (lM ⟨L⟩ v s) (([]:List aa),0)=some (L.filter (mO v s)):=by
  refine aO.eq (aO.count (fun k=>((L.take k).filter (mO v s),(k:Int))) L.length (fun _=>True) (by simp) trivial (fun k hk _=> ?_) (fun _=> ?_))
  ·unfold lM
   simp only [show ((k:Int)<(L.length:Int)) by omega,if_true,bO hk]
   have hb:(if L[k].View=v then some (decide (L[k].Value=s)) else some false:Option Bool)=some (mO v s L[k]):=by unfold mO;split<;>simp [*]
   rw [hb]
   simp only [aq]
   rw [wrap64 (by omega) (by omega),gZ hk,show ((k+1:Nat):Int)=(k:Int)+1 by omega]
   have hle:=gq (p:=mO v s) (L:=L) (k:=k)
   cases mO v s L[k] with
   |true=>simp only [if_true];rw [if_pos (by simp only [List.length_cons,List.length_nil];omega)];exact .mk ⟨rfl,trivial⟩
   |false=>simp only [Bool.false_eq_true,if_false,aq,List.append_nil];exact .mk ⟨rfl,trivial⟩
  ·unfold lM
   simp only [show¬((L.length:Int)<(L.length:Int)) by omega,if_false,List.take_length]
   exact .mk rfl
 rw [rz];rfl
theorem Gz (L:List aa) (v:Int) (s:List UInt8) (hl:L.length<2^32):wB ⟨L⟩ v s=some (ud L v s:Int):=by
 unfold wB
 rw [vI L v s hl];rfl
def jh (L:List aa) (cz:Int) (y:aa):Bool:=decide (1≤cz)&&decide (cz≤(ud L y.View y.Value:Int))
def ez (L:List aa) (cz:Int) (o:Option aa) (y:aa):Option aa:=
 if jh L cz y&&(match o with|none=>true|some z=>decide (z.View<y.View)) then some y else o
def kX (L:List aa) (cz:Int):Option aa:=L.foldl (ez L cz) none
theorem iT {α β:Type} {f:β→α→β} {b:β} {L:List α} {k:Nat} (hk:k<L.length):(L.take (k+1)).foldl f b=f ((L.take k).foldl f b) L[k]:=by
 rw [List.take_add_one,List.getElem?_eq_getElem hk,List.foldl_append];rfl
def db (x:aa):List MV:=[.i .i64 x.View,.s x.Value]
theorem RP (v w:Int) (s t:List UInt8):cH [.i .i64 v,.s s] [.i .i64 w,.s t]=(decide (v=w)&&decide (s=t)):=by simp [cH,vZ]
theorem Pw (L:List aa) (hl:L.length<2^32):aO (Loop (lL ⟨L⟩) (([]:List MV),0)) fun es=> ∀v s,hU es [.i .i64 v,.s s]=(ud L v s:Int):=by
 refine aO.loop (fun st=> ∃k:Nat,k≤L.length∧st.2=(k:Int)∧ ∀v s,hU st.1 [.i .i64 v,.s s]=(((L.take k).filter (mO v s)).length:Int)) (fun st=>((L.length:Int)-st.2).toNat) ⟨0,Nat.zero_le _,rfl,fun v s=>by simp [hU]⟩ ?_
 rintro ⟨es,i⟩ ⟨k,hk,rfl,hm⟩
 simp only at hm
 unfold lL
 by_cases cA:k<L.length
 ·have hle:=qf es (db L[k])
  simp only [show ((k:Int)<(L.length:Int)) by omega,if_true,bO cA]
  have hc:(0:Int)≤((bE es ([.i .i64 L[k].View,.s L[k].Value]:List MV):Nat):Int)∧Int.toNat ((bE es ([.i .i64 L[k].View,.s L[k].Value]:List MV):Nat):Int)<(gz es ([.i .i64 L[k].View,.s L[k].Value]:List MV) (.i .i64 0)).length:=by
   refine ⟨by omega,?_⟩
   unfold gz
   unfold db at hle
   rw [cw,Int.toNat_natCast]
   by_cases h:bE es [.i .i64 L[k].View,.s L[k].Value]=es.length
   ·simp only [h,decide_true,cond_true,List.length_append,List.length_cons,List.length_nil];omega
   ·simp only [h,decide_false,cond_false];omega
  rw [if_pos hc]
  simp only [Int.toNat_natCast]
  refine .mk ⟨⟨k+1,by omega,?_,fun v s=> ?_⟩,?_⟩
  ·simp only;rw [wrap64 (by omega) (by omega)];omega
  ·simp only
   have VM:=hm L[k].View L[k].Value
   have ajy:=gq (p:=mO L[k].View L[k].Value) (L:=L) (k:=k)
   rw [VM,wrap64 (by omega) (by omega)]
   show hU (sM es _ (.i .i64 0) _) _=_
   rw [gZ cA,Gt]
   by_cases he:L[k].View=v∧L[k].Value=s
   ·obtain ⟨rfl,rfl⟩:=he
    rw [BU (by simp [cH,vZ])]
    simp [mO,Zh]
   ·have hf:(decide (L[k].View=v)&&decide (L[k].Value=s))=false:=by rw [←Bool.decide_and];exact decide_eq_false he
    rw [AJ (by rw [RP];exact hf),←Gt,hm]
    simp only [mO,hf,Bool.false_eq_true,if_false,List.append_nil]
  ·simp only;rw [wrap64 (by omega) (by omega)];omega
 ·simp only [show¬((k:Int)<(L.length:Int)) by omega,if_false]
  refine .mk fun v s=> ?_
  rw [hm,List.take_of_length_le (by omega)];rfl
def RQ (o:Option aa):Int×List UInt8×Bool:=match o with|some z=>(z.View,z.Value,true)|none=>(0,[],false)
@[simp] theorem wU (z : aa) : RQ (some z) = (z.View, z.Value, true) := rfl
@[simp] theorem Wn : RQ none = (0, [], false) := rfl
theorem Et {L:List aa} (cz:Int) (hv: ∀e∈L,0≤e.View) (hl:L.length<2^32):mC ⟨L⟩ cz=some (RQ (kX L cz)):=by
 unfold mC
 obtain ⟨es,e1,L7⟩:=Pw L hl
 rw [e1]
 simp only [aq]
 have rz:Loop (jG ⟨L⟩ cz es) ((-1),([]:List UInt8),false,0)=some (match kX L cz with|some z=>(z.View,z.Value,true)|none=>(-1,[],false)):=by
  refine aO.eq (aO.count (fun k=>match (L.take k).foldl (ez L cz) none with|some z=>(z.View,z.Value,true,(k:Int))|none=>(-1,[],false,(k:Int))) L.length (fun _=>True) (by simp) trivial (fun k hk _=> ?_) (fun _=> ?_))
  ·have hvk:=hv _ (List.getElem_mem hk)
   rw [iT hk]
   unfold jG
   have S1: ∀b:Bool,(if (1:Int)≤cz then if cz≤(ud L L[k].View L[k].Value:Int) then some b else some false else some false:Option Bool)=some (jh L cz L[k]&&b):=by
    intro b;unfold jh
    by_cases g1:(1:Int)≤cz<;>by_cases g2:cz≤(ud L L[k].View L[k].Value:Int)<;>simp [g1,g2]
   cases hz:(L.take k).foldl (ez L cz) none with
   |none=>
    simp only [show ((k:Int)<(L.length:Int)) by omega,if_true,bO hk,L7,S1,aq]
    rw [wrap64 (by omega) (by omega)]
    unfold ez
    simp only [show decide ((-1:Int)<L[k].View)=true from decide_eq_true (by omega),Bool.and_true]
    cases jh L cz L[k]<;>simp only [Bool.false_eq_true,if_true,if_false,aq]<;>exact .mk ⟨by simp,trivial⟩
   |some z=>
    simp only [show ((k:Int)<(L.length:Int)) by omega,if_true,bO hk,L7,S1,aq]
    rw [wrap64 (by omega) (by omega)]
    unfold ez
    cases jh L cz L[k]&&decide (z.View<L[k].View)<;>simp only [Bool.false_eq_true,if_true,if_false,aq]<;>exact .mk ⟨by simp,trivial⟩
  ·rw [List.take_length]
   unfold jG
   show aO _ _
   unfold kX
   cases List.foldl (ez L cz) none L<;>simp only [show¬((L.length:Int)<(L.length:Int)) by omega,if_false]<;>exact .mk rfl
 rw [rz]
 cases kX L cz<;>simp
def atB (L:List aa) (o:Option aa) (w:Int):Prop:=match o with|none=>w= -1|some z=> ∃j:Nat,w=(j:Int)∧L[j]? =some z
theorem IB (L:List aa) (cz:Int) (hl:L.length<2^32):zR ⟨L⟩ cz=some (RQ (kX L cz)):=by
 unfold zR
 have rz:aO (Loop (pS ⟨L⟩ cz) ((-1),0)) fun w=>match kX L cz with|none=>w<0|some z=> ∃j:Nat,w=(j:Int)∧L[j]? =some z:=by
  by_cases hn:1≤cz
  ·refine aO.loop (fun st=> ∃k:Nat,k≤L.length∧st.2=(k:Int)∧atB L ((L.take k).foldl (ez L cz) none) st.1) (fun st=>((L.length:Int)-st.2).toNat) (show∃k:Nat,k≤L.length∧((-1:Int),(0:Int)).2=(k:Int)∧atB L ((L.take k).foldl (ez L cz) none) ((-1:Int),(0:Int)).1 from ⟨0,Nat.zero_le _,rfl,by simp [atB]⟩) ?_
   rintro ⟨w,i⟩ ⟨k,hk,rfl,hm⟩
   simp only at hm
   unfold pS
   by_cases cA:k<L.length
   ·simp only [show ((k:Int)<(L.length:Int)) by omega,if_true,hn,decide_true,aq,bO cA,Gz L _ _ hl]
    have lq:=iT (f:=ez L cz) (b:=none) cA
    have hw:IntKind.wrap .i64 ((k:Int)+1)=((k+1:Nat):Int):=by rw [wrap64 (by omega) (by omega)];omega
    cases hz:(L.take k).foldl (ez L cz) none with
    |none=>
     rw [hz] at hm lq
     have hm:w= -1:=hm
     subst hm
     simp only [show ((-1:Int)<0) by decide,if_true,hw]
     by_cases hg:cz≤(ud L L[k].View L[k].Value:Int)
     ·simp only [hg,if_true,aq]
      refine .mk ⟨⟨k+1,by omega,rfl,?_⟩,by simp only;omega⟩
      rw [lq]
      simp only [ez,jh,hn,hg,decide_true,Bool.and_self,if_true]
      exact ⟨k,rfl,List.getElem?_eq_getElem cA⟩
     ·simp only [hg,if_false,aq,Bool.false_eq_true]
      refine .mk ⟨⟨k+1,by omega,rfl,?_⟩,by simp only;omega⟩
      rw [lq]
      simp only [ez,jh,hn,hg,decide_false,Bool.and_false,Bool.false_and,Bool.false_eq_true,if_false]
      rfl
    |some z=>
     rw [hz] at hm lq
     obtain ⟨j,rfl,hj⟩:=hm
     obtain ⟨Bb,GV⟩:=List.getElem?_eq_some_iff.1 hj
     simp only [show¬((j:Int)<0) by omega,if_false,hw,bO Bb,GV]
     by_cases hg:cz≤(ud L L[k].View L[k].Value:Int)
     ·simp only [hg,if_true,aq]
      by_cases Z6:z.View<L[k].View
      ·simp only [Z6,decide_true,if_true,aq]
       refine .mk ⟨⟨k+1,by omega,rfl,?_⟩,by simp only;omega⟩
       rw [lq]
       simp only [ez,jh,hn,hg,Z6,decide_true,Bool.and_self,if_true]
       exact ⟨k,rfl,List.getElem?_eq_getElem cA⟩
      ·simp only [Z6,decide_false,if_false,aq,Bool.false_eq_true]
       refine .mk ⟨⟨k+1,by omega,rfl,?_⟩,by simp only;omega⟩
       rw [lq]
       simp only [ez,Z6,decide_false,Bool.and_false,Bool.false_eq_true,if_false]
       exact ⟨j,rfl,hj⟩
     ·simp only [hg,if_false,aq,Bool.false_eq_true]
      refine .mk ⟨⟨k+1,by omega,rfl,?_⟩,by simp only;omega⟩
      rw [lq]
      simp only [ez,jh,hn,hg,decide_false,Bool.and_false,Bool.false_and,Bool.false_eq_true,if_false]
      exact ⟨j,rfl,hj⟩
   ·simp only [show¬((k:Int)<(L.length:Int)) by omega,if_false,aq,Bool.false_eq_true]
    rw [List.take_of_length_le (by omega)] at hm
    refine .mk ?_
    show match kX L cz with|none=>w<0|some z=>_
    unfold kX
    split
    ·rename_i hz;rw [hz] at hm;have hm:w= -1:=hm;omega
    ·rename_i z hz;rw [hz] at hm;exact hm
  ·have hb:kX L cz=none:=by
    have: ∀l:List aa,l.foldl (ez L cz) none=none:=by
     intro l
     induction l with
     |nil=>rfl
     |cons x l ih=>simp only [List.foldl_cons];rw [show ez L cz none x=none by simp [ez,jh,hn]];exact ih
    exact this L
   rw [hb]
   refine ⟨-1,?_,by show (-1:Int)<0;decide⟩
   refine ea (n:=1) ?_
   simp only [iter,pS]
   by_cases h0:(0:Int)<(L.length:Int)<;>simp [h0,hn]
 obtain ⟨w,e,hw⟩:=rz
 rw [e]
 simp only [aq]
 cases hz:kX L cz with
 |none=>rw [hz] at hw;simp only at hw;simp [hw]
 |some z=>
  rw [hz] at hw
  obtain ⟨j,rfl,hj⟩:=hw
  obtain ⟨Bb,GV⟩:=List.getElem?_eq_some_iff.1 hj
  simp only [show¬((j:Int)<0) by omega,if_false,bO Bb,GV,wU]
theorem IC (L:List aa) (cz:Int):match kX L cz with|none=> ∀y∈L,jh L cz y=false|some z=>z∈L∧jh L cz z=true∧ ∀y∈L,jh L cz y=true→y.View≤z.View:=by
 have: ∀l:List aa,(∀x∈l,x∈L)→match l.foldl (ez L cz) none with|none=> ∀y∈l,jh L cz y=false|some z=>z∈L∧jh L cz z=true∧ ∀y∈l,jh L cz y=true→y.View≤z.View:=by
  intro l
  generalize hn:l.length=n
  induction n generalizing l with
  |zero=>intro h;have:=List.eq_nil_of_length_eq_zero hn;subst this;intro y hy;simp at hy
  |succ n ih=>
   intro h
   obtain ⟨l0,y0,rfl⟩: ∃l0 y0,l=l0++[y0]:=⟨l.dropLast,l.getLast (by intro e;subst e;simp at hn),(List.dropLast_concat_getLast _).symm⟩
   have ih:=ih l0 (by simp at hn;omega) (fun x hx=>h x (by simp [hx]))
   rw [List.foldl_append]
   simp only [List.foldl_cons,List.foldl_nil]
   cases hz:l0.foldl (ez L cz) none with
   |none=>
    rw [hz] at ih
    simp only at ih
    cases hg:jh L cz y0 with
    |true=>
     rw [show ez L cz none y0=some y0 by simp [ez,hg]]
     refine ⟨h y0 (by simp),hg,fun y hy VN=> ?_⟩
     rcases List.mem_append.1 hy with hy|hy
     ·rw [ih y hy] at VN;cases VN
     ·rw [List.mem_singleton.1 hy];exact Int.le_refl _
    |false=>
     rw [show ez L cz none y0=none by simp [ez,hg]]
     intro y hy
     rcases List.mem_append.1 hy with hy|hy
     ·exact ih y hy
     ·rw [List.mem_singleton.1 hy];exact hg
   |some z=>
    rw [hz] at ih
    obtain ⟨i1,i2,i3⟩:=ih
    cases hg:jh L cz y0&&decide (z.View<y0.View) with
    |true=>
     rw [show ez L cz (some z) y0=some y0 by simp only [ez,hg,if_true]]
     simp only [Bool.and_eq_true,decide_eq_true_eq] at hg
     refine ⟨h y0 (by simp),hg.1,fun y hy VN=> ?_⟩
     rcases List.mem_append.1 hy with hy|hy
     ·have:=i3 y hy VN;omega
     ·rw [List.mem_singleton.1 hy];exact Int.le_refl _
    |false=>
     rw [show ez L cz (some z) y0=some z by simp only [ez,hg,Bool.false_eq_true,if_false]]
     refine ⟨i1,i2,fun y hy VN=> ?_⟩
     rcases List.mem_append.1 hy with hy|hy
     ·exact i3 y hy VN
     ·have he:=List.mem_singleton.1 hy
      subst he
      rw [VN,Bool.true_and] at hg
      have:=of_decide_eq_false hg
      omega
 exact this L fun x hx=>hx
end Dn.S
