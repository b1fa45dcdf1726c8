import Derived.Test.YtmdlghpieagfhaaGreatDnPTally
/-
  Tallies: adding, counting and the best, as the document says. Conditions: none.
-/
open Go Dn
set_option linter.unusedVariables false
set_option linter.unusedSimpArgs false
namespace Dn.S
def Fo (L:List aa) (a:aa) (k:Nat):List aa:=if k≤iQ vk L a.By then L.take k else L.take (iQ vk L a.By)++[a]++(L.take k).drop (iQ vk L a.By+if qg vk L a.By then 1 else 0)
theorem KH {L:List aa} {a:aa} {k:Nat} (hk:k≤L.length):(Fo L a k).length≤k+1:=by
 unfold Fo
 have:=za (key:=vk) L a.By
 split
 ·rw [List.length_take];omega
 ·simp only [List.length_append,List.length_take,List.length_drop,List.length_cons,List.length_nil];omega
theorem Pt {L:List aa} {a:aa} (hs:qh vk L) (hl:L.length<2^32):xl ⟨L⟩ a=some (⟨(iS L a).1⟩,(iS L a).2):=by
 unfold xl iS
 rw [BC]
 by_cases hm:tm a
 rotate_left
 ·simp [hm]
 simp only [bl,hm,decide_true,Bool.not_true,Bool.false_eq_true,if_false]
 obtain ⟨h1,h2⟩:=hs.lb a.By
 have hle:=za (key:=vk) L a.By
 have wJ:bT (Loop (xk ⟨L⟩ a) (([]:List aa),([]:List aa),false,0)) fun r=>(xF L a=true∧r= .inr (L,false))∨(xF L a=false∧r= .inl ([],Fo L a L.length,decide (iQ vk L a.By<L.length))):=by
  refine bT.count (fun k=>(([]:List aa),Fo L a k,decide (iQ vk L a.By<k),(k:Int))) L.length (fun k=>xF L a=true→k≤iQ vk L a.By) (by simp [Fo]) (fun _=>Nat.zero_le _) (fun k hk hp=> ?_) (fun hp=> ?_)
  ·unfold xk
   simp only [show ((k:Int)<(L.length:Int)) by omega,if_true,cW hk]
   have W7:=KH (L:=L) (a:=a) (k:=k) (by omega)
   rcases Nat.lt_trichotomy k (iQ vk L a.By) with du|gu|PS
   ·have hb:=h1 k hk du
    have dt: ¬L[k].By=a.By:=by simp only [vk] at hb;omega
    have hng: ¬a.By≤L[k].By:=by simp only [vk] at hb;omega
    simp only [dt,if_false,bl,Bool.false_eq_true,show decide (iQ vk L a.By<k)=false from decide_eq_false (by omega),Bool.not_false,if_true,hng,decide_false]
    rw [if_pos (by simp only [List.length_cons,List.length_nil];omega),bl,wrap64 (by omega) (by omega)]
    refine .mk ⟨?_,fun _=>by omega⟩
    rw [show decide (iQ vk L a.By<k+1)=false from decide_eq_false (by omega),show ((k+1:Nat):Int)=(k:Int)+1 by omega]
    unfold Fo
    rw [if_pos (by omega),if_pos (by omega),List.take_add_one,List.getElem?_eq_getElem hk];rfl
   ·subst gu
    have hb:=h2 _ hk (Nat.le_refl _)
    have Oq:a.By≤L[iQ vk L a.By].By:=hb
    by_cases he:L[iQ vk L a.By].By=a.By
    ·have hh:qg vk L a.By=true:=(hs.has a.By).2 ⟨hk,he⟩
     by_cases hv:a.View≤L[iQ vk L a.By].View
     ·have ho:xF L a=true:=(uE hs).2 ⟨hk,he,hv⟩
      simp only [he,if_true,hv,decide_true,bl]
      exact .mk (.inl ⟨ho,rfl⟩)
     ·have ho:xF L a=false:=by
       rw [Bool.eq_false_iff];intro ho
       obtain ⟨_,_,h3⟩:=(uE hs).1 ho
       exact hv h3
      simp only [he,if_true,hv,decide_false,bl,Bool.false_eq_true,if_false,show decide (iQ vk L a.By<iQ vk L a.By)=false from decide_eq_false (by omega),Bool.not_false,Int.le_refl,decide_true,Bool.not_true]
      rw [if_pos (by simp only [List.length_cons,List.length_nil];omega),bl,wrap64 (by omega) (by omega)]
      refine .mk ⟨?_,fun h=>by rw [ho] at h;cases h⟩
      rw [show decide (iQ vk L a.By<iQ vk L a.By+1)=true from decide_eq_true (by omega),show ((iQ vk L a.By+1:Nat):Int)=(iQ vk L a.By:Int)+1 by omega]
      unfold Fo
      rw [if_pos (Nat.le_refl _),if_neg (by omega),hh]
      simp only [if_true]
      rw [List.drop_eq_nil_of_le (by rw [List.length_take];omega),List.append_nil]
    ·have hh:qg vk L a.By=false:=by
      rw [Bool.eq_false_iff];intro hh
      obtain ⟨_,g⟩:=(hs.has a.By).1 hh
      exact he g
     have ho:xF L a=false:=by
      rw [Bool.eq_false_iff];intro ho
      obtain ⟨_,g,_⟩:=(uE hs).1 ho
      exact he g
     simp only [he,if_false,bl,Bool.false_eq_true,show decide (iQ vk L a.By<iQ vk L a.By)=false from decide_eq_false (by omega),Bool.not_false,if_true,Oq,decide_true,decide_false]
     rw [if_pos (by simp only [List.length_cons,List.length_nil];omega)]
     simp only [bl]
     rw [if_pos (by simp only [List.length_append,List.length_cons,List.length_nil];omega),bl,wrap64 (by omega) (by omega)]
     refine .mk ⟨?_,fun h=>by rw [ho] at h;cases h⟩
     rw [show decide (iQ vk L a.By<iQ vk L a.By+1)=true from decide_eq_true (by omega),show ((iQ vk L a.By+1:Nat):Int)=(iQ vk L a.By:Int)+1 by omega]
     unfold Fo
     rw [if_pos (Nat.le_refl _),if_neg (by omega),hh]
     simp only [Bool.false_eq_true,if_false,Nat.add_zero]
     rw [List.take_add_one,List.getElem?_eq_getElem hk,List.drop_append]
     have:(L.take (iQ vk L a.By)).length=iQ vk L a.By:=by rw [List.length_take];omega
     rw [List.drop_eq_nil_of_le (by omega),this,Nat.sub_self]
     simp
   ·have ho:xF L a=false:=by
     rw [Bool.eq_false_iff];intro ho
     have:=hp ho;omega
    have hb:=hs.lt hk PS
    have hlb:=h2 (iQ vk L a.By) (by omega) (Nat.le_refl _)
    have dt: ¬L[k].By=a.By:=by simp only [vk] at hb hlb;omega
    simp only [dt,if_false,bl,Bool.false_eq_true,show decide (iQ vk L a.By<k)=true from decide_eq_true PS,Bool.not_true,Bool.not_false,if_true,decide_false]
    rw [if_pos (by simp only [List.length_cons,List.length_nil];omega),bl,wrap64 (by omega) (by omega)]
    refine .mk ⟨?_,fun h=>by rw [ho] at h;cases h⟩
    rw [show decide (iQ vk L a.By<k+1)=true from decide_eq_true (by omega),show ((k+1:Nat):Int)=(k:Int)+1 by omega]
    unfold Fo
    rw [if_neg (show¬k≤iQ vk L a.By by omega),if_neg (show¬k+1≤iQ vk L a.By by omega),List.take_add_one,List.getElem?_eq_getElem hk,List.drop_append_of_le_length]
    ·simp
    ·rw [List.length_take];split<;>omega
  ·unfold xk
   simp only [show¬((L.length:Int)<(L.length:Int)) by omega,if_false]
   by_cases ho:xF L a=true
   ·obtain ⟨g1,g2,_⟩:=(uE hs).1 ho
    have:=hp ho
    omega
   ·exact .mk (.inr ⟨by simpa using ho,rfl⟩)
 obtain ⟨r,e,hr⟩:=wJ
 rw [e]
 rcases hr with ⟨ho,rfl⟩|⟨ho,rfl⟩
 ·simp only [bl,ho,Bool.true_eq_false,and_false,if_false]
 ·simp only [bl,ho,and_self,if_true]
  have W7:=KH (L:=L) (a:=a) (k:=L.length) (Nat.le_refl _)
  by_cases du:iQ vk L a.By<L.length
  ·simp only [du,decide_true,Bool.not_true,Bool.false_eq_true,if_false,bl]
   unfold Fo pg
   rw [if_neg (by omega),List.take_length]
  ·have hq:iQ vk L a.By=L.length:=by omega
   have hh:qg vk L a.By=false:=by
    rw [Bool.eq_false_iff];intro hh
    obtain ⟨g,_⟩:=(hs.has a.By).1 hh
    omega
   simp only [du,decide_false,Bool.not_false,if_true]
   rw [if_pos (by simp only [List.length_cons,List.length_nil];omega)]
   simp only [bl]
   unfold Fo pg
   rw [hh,hq,if_pos (Nat.le_refl _)]
   simp
def rl (v:Int) (s:List UInt8) (x:aa):Bool:=decide (x.View=v)&&decide (x.Value=s)
def AL (L:List aa) (v:Int) (s:List UInt8):Nat:=(L.filter (rl v s)).length
theorem n9 {α:Type} {p:α→Bool} {L:List α} {k:Nat} (hk:k<L.length):(L.take (k+1)).filter p=(L.take k).filter p++if p L[k] then [L[k]] else []:=by
 rw [List.take_add_one,List.getElem?_eq_getElem hk,List.filter_append]
 congr 1
 simp only [Option.toList_some,List.filter_cons,List.filter_nil]
theorem nD {α:Type} {p:α→Bool} {L:List α} {k:Nat}:((L.take k).filter p).length≤L.length:=Nat.le_trans (List.length_filter_le _ _) (by rw [List.length_take];omega)
theorem Pu (L:List aa) (v:Int) (s:List UInt8) (hl:L.length<2^32):kW ⟨L⟩ v s=some (L.filter (rl v s)):=by
 unfold kW
 have wJ:Loop (kA ⟨L⟩ v s) (([]:List aa),0)=some (L.filter (rl v s)):=by
  refine bT.eq (bT.count (fun k=>((L.take k).filter (rl v s),(k:Int))) L.length (fun _=>True) (by simp) trivial (fun k hk _=> ?_) (fun _=> ?_))
  ·unfold kA
   simp only [show ((k:Int)<(L.length:Int)) by omega,if_true,cW hk]
   have hb:(if L[k].View=v then some (decide (L[k].Value=s)) else some false:Option Bool)=some (rl v s L[k]):=by unfold rl;split<;>simp [*]
   rw [hb]
   simp only [bl]
   rw [wrap64 (by omega) (by omega),n9 hk,show ((k+1:Nat):Int)=(k:Int)+1 by omega]
   have hle:=nD (p:=rl v s) (L:=L) (k:=k)
   cases rl v s L[k] with
   |true=>simp only [if_true];rw [if_pos (by simp only [List.length_cons,List.length_nil];omega)];exact .mk ⟨rfl,trivial⟩
   |false=>simp only [Bool.false_eq_true,if_false,bl,List.append_nil];exact .mk ⟨rfl,trivial⟩
  ·unfold kA
   simp only [show¬((L.length:Int)<(L.length:Int)) by omega,if_false,List.take_length]
   exact .mk rfl
 rw [wJ];rfl
theorem AM (L:List aa) (v:Int) (s:List UInt8) (hl:L.length<2^32):ue ⟨L⟩ v s=some (L.filter (rl v s)):=by
 unfold ue
 have wJ:Loop (pX ⟨L⟩ v s) (([]:List aa),0)=some (L.filter (rl v s)):=by
  refine bT.eq (bT.count (fun k=>((L.take k).filter (rl v s),(k:Int))) L.length (fun _=>True) (by simp) trivial (fun k hk _=> ?_) (fun _=> ?_))
  ·unfold pX
   simp only [show ((k:Int)<(L.length:Int)) by omega,if_true,cW hk]
   have hb:(if L[k].View=v then some (decide (L[k].Value=s)) else some false:Option Bool)=some (rl v s L[k]):=by unfold rl;split<;>simp [*]
   rw [hb]
   simp only [bl]
   rw [wrap64 (by omega) (by omega),n9 hk,show ((k+1:Nat):Int)=(k:Int)+1 by omega]
   have hle:=nD (p:=rl v s) (L:=L) (k:=k)
   cases rl v s L[k] with
   |true=>simp only [if_true];rw [if_pos (by simp only [List.length_cons,List.length_nil];omega)];exact .mk ⟨rfl,trivial⟩
   |false=>simp only [Bool.false_eq_true,if_false,bl,List.append_nil];exact .mk ⟨rfl,trivial⟩
  ·unfold pX
   simp only [show¬((L.length:Int)<(L.length:Int)) by omega,if_false,List.take_length]
   exact .mk rfl
 rw [wJ];rfl
theorem KI (L:List aa) (v:Int) (s:List UInt8) (hl:L.length<2^32):Bg ⟨L⟩ v s=some (AL L v s:Int):=by
 unfold Bg
 rw [AM L v s hl];rfl
def lq (L:List aa) (bM:Int) (y:aa):Bool:=decide (1≤bM)&&decide (bM≤(AL L y.View y.Value:Int))
def iq (L:List aa) (bM:Int) (o:Option aa) (y:aa):Option aa:=
 if lq L bM y&&(match o with|none=>true|some z=>decide (z.View<y.View)) then some y else o
def kN (L:List aa) (bM:Int):Option aa:=L.foldl (iq L bM) none
theorem uU {α β:Type} {f:β→α→β} {b:β} {L:List α} {k:Nat} (hk:k<L.length):(L.take (k+1)).foldl f b=f ((L.take k).foldl f b) L[k]:=by
 rw [List.take_add_one,List.getElem?_eq_getElem hk,List.foldl_append];rfl
def eO (x:aa):List MV:=[.i .i64 x.View,.s x.Value]
theorem Vp (v w:Int) (s t:List UInt8):dK [.i .i64 v,.s s] [.i .i64 w,.s t]=(decide (v=w)&&decide (s=t)):=by simp [dK,AW]
theorem Tf (L:List aa) (hl:L.length<2^32):bT (Loop (pW ⟨L⟩) (([]:List MV),0)) fun es=> ∀v s,lE es [.i .i64 v,.s s]=(AL L v s:Int):=by
 refine bT.loop (fun st=> ∃k:Nat,k≤L.length∧st.2=(k:Int)∧ ∀v s,lE st.1 [.i .i64 v,.s s]=(((L.take k).filter (rl v s)).length:Int)) (fun st=>((L.length:Int)-st.2).toNat) ⟨0,Nat.zero_le _,rfl,fun v s=>by simp [lE]⟩ ?_
 rintro ⟨es,i⟩ ⟨k,hk,rfl,hm⟩
 simp only at hm
 unfold pW
 by_cases du:k<L.length
 ·have hle:=uD es (eO L[k])
  simp only [show ((k:Int)<(L.length:Int)) by omega,if_true,cW du]
  have hc:(0:Int)≤((b8 es ([.i .i64 L[k].View,.s L[k].Value]:List MV):Nat):Int)∧Int.toNat ((b8 es ([.i .i64 L[k].View,.s L[k].Value]:List MV):Nat):Int)<(lv es ([.i .i64 L[k].View,.s L[k].Value]:List MV) (.i .i64 0)).length:=by
   refine ⟨by omega,?_⟩
   unfold lv
   unfold eO at hle
   rw [dD,Int.toNat_natCast]
   by_cases h:b8 es [.i .i64 L[k].View,.s L[k].Value]=es.length
   ·simp only [h,decide_true,cond_true,List.length_append,List.length_cons,List.length_nil];omega
   ·simp only [h,decide_false,cond_false];omega
  rw [if_pos hc]
  simp only [Int.toNat_natCast]
  refine .mk ⟨⟨k+1,by omega,?_,fun v s=> ?_⟩,?_⟩
  ·simp only;rw [wrap64 (by omega) (by omega)];omega
  ·simp only
   have YJ:=hm L[k].View L[k].Value
   have amV:=nD (p:=rl L[k].View L[k].Value) (L:=L) (k:=k)
   rw [YJ,wrap64 (by omega) (by omega)]
   show lE (xE es _ (.i .i64 0) _) _=_
   rw [n9 du,KF]
   by_cases he:L[k].View=v∧L[k].Value=s
   ·obtain ⟨rfl,rfl⟩:=he
    rw [Gf (by simp [dK,AW])]
    simp [rl,asI]
   ·have hf:(decide (L[k].View=v)&&decide (L[k].Value=s))=false:=by rw [←Bool.decide_and];exact decide_eq_false he
    rw [Fm (by rw [Vp];exact hf),←KF,hm]
    simp only [rl,hf,Bool.false_eq_true,if_false,List.append_nil]
  ·simp only;rw [wrap64 (by omega) (by omega)];omega
 ·simp only [show¬((k:Int)<(L.length:Int)) by omega,if_false]
  refine .mk fun v s=> ?_
  rw [hm,List.take_of_length_le (by omega)];rfl
def Tg (o:Option aa):Int×List UInt8×Bool:=match o with|some z=>(z.View,z.Value,true)|none=>(0,[],false)
@[simp] theorem BD (z : aa) : Tg (some z) = (z.View, z.Value, true) := rfl
@[simp] theorem ZE : Tg none = (0, [], false) := rfl
theorem AN {L:List aa} (bM:Int) (hv: ∀e∈L,0≤e.View) (hl:L.length<2^32):ji ⟨L⟩ bM=some (Tg (kN L bM)):=by
 unfold ji
 obtain ⟨es,e1,PL⟩:=Tf L hl
 rw [e1]
 simp only [bl]
 have wJ:Loop (mV ⟨L⟩ bM es) ((-1),([]:List UInt8),false,0)=some (match kN L bM with|some z=>(z.View,z.Value,true)|none=>(-1,[],false)):=by
  refine bT.eq (bT.count (fun k=>match (L.take k).foldl (iq L bM) none with|some z=>(z.View,z.Value,true,(k:Int))|none=>(-1,[],false,(k:Int))) L.length (fun _=>True) (by simp) trivial (fun k hk _=> ?_) (fun _=> ?_))
  ·have hvk:=hv _ (List.getElem_mem hk)
   rw [uU hk]
   unfold mV
   have Ws: ∀b:Bool,(if (1:Int)≤bM then if bM≤(AL L L[k].View L[k].Value:Int) then some b else some false else some false:Option Bool)=some (lq L bM L[k]&&b):=by
    intro b;unfold lq
    by_cases g1:(1:Int)≤bM<;>by_cases g2:bM≤(AL L L[k].View L[k].Value:Int)<;>simp [g1,g2]
   cases hz:(L.take k).foldl (iq L bM) none with
   |none=>
    simp only [show ((k:Int)<(L.length:Int)) by omega,if_true,cW hk,PL,Ws,bl]
    rw [wrap64 (by omega) (by omega)]
    unfold iq
    simp only [show decide ((-1:Int)<L[k].View)=true from decide_eq_true (by omega),Bool.and_true]
    cases lq L bM L[k]<;>simp only [Bool.false_eq_true,if_true,if_false,bl]<;>exact .mk ⟨by simp,trivial⟩
   |some z=>
    simp only [show ((k:Int)<(L.length:Int)) by omega,if_true,cW hk,PL,Ws,bl]
    rw [wrap64 (by omega) (by omega)]
    unfold iq
    cases lq L bM L[k]&&decide (z.View<L[k].View)<;>simp only [Bool.false_eq_true,if_true,if_false,bl]<;>exact .mk ⟨by simp,trivial⟩
  ·rw [List.take_length]
   unfold mV
   show bT _ _
   unfold kN
   cases List.foldl (iq L bM) none L<;>simp only [show¬((L.length:Int)<(L.length:Int)) by omega,if_false]<;>exact .mk rfl
 rw [wJ]
 cases kN L bM<;>simp
def atB (L:List aa) (o:Option aa) (w:Int):Prop:=match o with|none=>w= -1|some z=> ∃j:Nat,w=(j:Int)∧L[j]? =some z
theorem MB (L:List aa) (bM:Int) (hl:L.length<2^32):z6 ⟨L⟩ bM=some (Tg (kN L bM)):=by
 unfold z6
 have wJ:bT (Loop (uf ⟨L⟩ bM) ((-1),0)) fun w=>match kN L bM with|none=>w<0|some z=> ∃j:Nat,w=(j:Int)∧L[j]? =some z:=by
  by_cases hn:1≤bM
  ·refine bT.loop (fun st=> ∃k:Nat,k≤L.length∧st.2=(k:Int)∧atB L ((L.take k).foldl (iq L bM) none) st.1) (fun st=>((L.length:Int)-st.2).toNat) (show∃k:Nat,k≤L.length∧((-1:Int),(0:Int)).2=(k:Int)∧atB L ((L.take k).foldl (iq L bM) none) ((-1:Int),(0:Int)).1 from ⟨0,Nat.zero_le _,rfl,by simp [atB]⟩) ?_
   rintro ⟨w,i⟩ ⟨k,hk,rfl,hm⟩
   simp only at hm
   unfold uf
   by_cases du:k<L.length
   ·simp only [show ((k:Int)<(L.length:Int)) by omega,if_true,hn,decide_true,bl,cW du,KI L _ _ hl]
    have uJ:=uU (f:=iq L bM) (b:=none) du
    have hw:IntKind.wrap .i64 ((k:Int)+1)=((k+1:Nat):Int):=by rw [wrap64 (by omega) (by omega)];omega
    cases hz:(L.take k).foldl (iq L bM) none with
    |none=>
     rw [hz] at hm uJ
     have hm:w= -1:=hm
     subst hm
     simp only [show ((-1:Int)<0) by decide,if_true,hw]
     by_cases hg:bM≤(AL L L[k].View L[k].Value:Int)
     ·simp only [hg,if_true,bl]
      refine .mk ⟨⟨k+1,by omega,rfl,?_⟩,by simp only;omega⟩
      rw [uJ]
      simp only [iq,lq,hn,hg,decide_true,Bool.and_self,if_true]
      exact ⟨k,rfl,List.getElem?_eq_getElem du⟩
     ·simp only [hg,if_false,bl,Bool.false_eq_true]
      refine .mk ⟨⟨k+1,by omega,rfl,?_⟩,by simp only;omega⟩
      rw [uJ]
      simp only [iq,lq,hn,hg,decide_false,Bool.and_false,Bool.false_and,Bool.false_eq_true,if_false]
      rfl
    |some z=>
     rw [hz] at hm uJ
     obtain ⟨j,rfl,hj⟩:=hm
     obtain ⟨Fz,KV⟩:=List.getElem?_eq_some_iff.1 hj
     simp only [show¬((j:Int)<0) by omega,if_false,hw,cW Fz,KV]
     by_cases hg:bM≤(AL L L[k].View L[k].Value:Int)
     ·simp only [hg,if_true,bl]
      by_cases hvw:z.View<L[k].View
      ·simp only [hvw,decide_true,if_true,bl]
       refine .mk ⟨⟨k+1,by omega,rfl,?_⟩,by simp only;omega⟩
       rw [uJ]
       simp only [iq,lq,hn,hg,hvw,decide_true,Bool.and_self,if_true]
       exact ⟨k,rfl,List.getElem?_eq_getElem du⟩
      ·simp only [hvw,decide_false,if_false,bl,Bool.false_eq_true]
       refine .mk ⟨⟨k+1,by omega,rfl,?_⟩,by simp only;omega⟩
       rw [uJ]
       simp only [iq,hvw,decide_false,Bool.and_false,Bool.false_eq_true,if_false]
       exact ⟨j,rfl,hj⟩
     ·simp only [hg,if_false,bl,Bool.false_eq_true]
      refine .mk ⟨⟨k+1,by omega,rfl,?_⟩,by simp only;omega⟩
      rw [uJ]
      simp only [iq,lq,hn,hg,decide_false,Bool.and_false,Bool.false_and,Bool.false_eq_true,if_false]
      exact ⟨j,rfl,hj⟩
   ·simp only [show¬((k:Int)<(L.length:Int)) by omega,if_false,bl,Bool.false_eq_true]
    rw [List.take_of_length_le (by omega)] at hm
    refine .mk ?_
    show match kN L bM with|none=>w<0|some z=>_
    unfold kN
    split
    ·rename_i hz;rw [hz] at hm;have hm:w= -1:=hm;omega
    ·rename_i z hz;rw [hz] at hm;exact hm
  ·have hb:kN L bM=none:=by
    have: ∀l:List aa,l.foldl (iq L bM) none=none:=by
     intro l
     induction l with
     |nil=>rfl
     |cons x l ih=>simp only [List.foldl_cons];rw [show iq L bM none x=none by simp [iq,lq,hn]];exact ih
    exact this L
   rw [hb]
   refine ⟨-1,?_,by show (-1:Int)<0;decide⟩
   refine mQ (n:=1) ?_
   simp only [iter,uf]
   by_cases h0:(0:Int)<(L.length:Int)<;>simp [h0,hn]
 obtain ⟨w,e,hw⟩:=wJ
 rw [e]
 simp only [bl]
 cases hz:kN L bM with
 |none=>rw [hz] at hw;simp only at hw;simp [hw]
 |some z=>
  rw [hz] at hw
  obtain ⟨j,rfl,hj⟩:=hw
  obtain ⟨Fz,KV⟩:=List.getElem?_eq_some_iff.1 hj
  simp only [show¬((j:Int)<0) by omega,if_false,cW Fz,KV,BD]
theorem zb (L:List aa) (bM:Int):match kN L bM with|none=> ∀y∈L,lq L bM y=false|some z=>z∈L∧lq L bM z=true∧ ∀y∈L,lq L bM y=true→y.View≤z.View:=by
 have: ∀l:List aa,(∀x∈l,x∈L)→match l.foldl (iq L bM) none with|none=> ∀y∈l,lq L bM y=false|some z=>z∈L∧lq L bM z=true∧ ∀y∈l,lq L bM y=true→y.View≤z.View:=by
  intro l
  generalize hn:l.length=n
  induction n generalizing l with
  |zero=>intro h;have:=List.eq_nil_of_length_eq_zero hn;subst this;intro y hy;simp at hy
  |succ n ih=>
   intro h
   obtain ⟨l0,y0,rfl⟩: ∃l0 y0,l=l0++[y0]:=⟨l.dropLast,l.getLast (by intro e;subst e;simp at hn),(List.dropLast_concat_getLast _).symm⟩
   have ih:=ih l0 (by simp at hn;omega) (fun x hx=>h x (by simp [hx]))
   rw [List.foldl_append]
   simp only [List.foldl_cons,List.foldl_nil]
   cases hz:l0.foldl (iq L bM) none with
   |none=>
    rw [hz] at ih
    simp only at ih
    cases hg:lq L bM y0 with
    |true=>
     rw [show iq L bM none y0=some y0 by simp [iq,hg]]
     refine ⟨h y0 (by simp),hg,fun y hy YK=> ?_⟩
     rcases List.mem_append.1 hy with hy|hy
     ·rw [ih y hy] at YK;cases YK
     ·rw [List.mem_singleton.1 hy];exact Int.le_refl _
    |false=>
     rw [show iq L bM none y0=none by simp [iq,hg]]
     intro y hy
     rcases List.mem_append.1 hy with hy|hy
     ·exact ih y hy
     ·rw [List.mem_singleton.1 hy];exact hg
   |some z=>
    rw [hz] at ih
    obtain ⟨i1,i2,i3⟩:=ih
    cases hg:lq L bM y0&&decide (z.View<y0.View) with
    |true=>
     rw [show iq L bM (some z) y0=some y0 by simp only [iq,hg,if_true]]
     simp only [Bool.and_eq_true,decide_eq_true_eq] at hg
     refine ⟨h y0 (by simp),hg.1,fun y hy YK=> ?_⟩
     rcases List.mem_append.1 hy with hy|hy
     ·have:=i3 y hy YK;omega
     ·rw [List.mem_singleton.1 hy];exact Int.le_refl _
    |false=>
     rw [show iq L bM (some z) y0=some z by simp only [iq,hg,Bool.false_eq_true,if_false]]
     refine ⟨i1,i2,fun y hy YK=> ?_⟩
     rcases List.mem_append.1 hy with hy|hy
     ·exact i3 y hy YK
     ·have he:=List.mem_singleton.1 hy
      subst he
      rw [YK,Bool.true_and] at hg
      have:=of_decide_eq_false hg
      omega
 exact this L fun x hx=>hx
end Dn.S
