import Derived.Test.YtmdlghpieagfhaaGreatDnPTally
/- Tallies: adding, counting and the best, as the document says. Conditions: none. -/
set_option linter.unusedVariables false
set_option linter.unusedSimpArgs false
open Bool renaming false_eq_true→cV
open List renaming mem_singleton→sh,mem_append→AI,getElem?_eq_getElem→AT,take_add_one→BY,length_cons→No,take_length→OF,length_nil→aau,append_nil→aaJ
open Int renaming toNat_natCast→IT,le_refl→aaK
open Go Dn
namespace Dn.S
def ve (v:Int)(s:List UInt8)(x:aa):Bool:=decide (x.View=v)&&decide (x.Value=s)
def wJ (L:List aa)(v:Int)(s:List UInt8):Nat:=(L.filter (ve v s)).length
theorem xC {α:Type}{p:α->Bool}{L:List α}{k:Nat}(hk:k<L.length):(L.take (k+1)).filter p=(L.take k).filter p++if p L[k] then [L[k]] else []:=by rw [BY,AT hk,List.filter_append];congr 1;simp only [Option.toList_some,List.filter_cons,List.filter_nil]
theorem uM {α:Type}{p:α->Bool}{L:List α}{k:Nat}:((L.take k).filter p).length<=L.length:=Nat.le_trans (List.length_filter_le _ _) (by rw [List.length_take];omega)
theorem Nh (L:List aa)(v:Int)(s:List UInt8)(hl:L.length<2^32):np ⟨L⟩ v s=some (L.filter (ve v s)):=by
 unfold np;have Ky:Loop (mO ⟨L⟩ v s) (([]:List aa),0)=some (L.filter (ve v s)):=by
  refine aK.eq (aK.count (λk=>((L.take k).filter (ve v s),(k:Int))) L.length (λ_=>True) (by simp) trivial (λk hk _=> ?_) (λ_=> ?_))
  ·unfold mO;simp only [show ((k:Int)<(L.length:Int)) by omega,if_true,bB hk];have hb:(if L[k].View=v then some (decide (L[k].Value=s)) else some false:Option Bool)=some (ve v s L[k]):=by unfold ve;split<;>simp [*]
   rw [hb];simp only [au];rw [wrap64 (by omega) (by omega),xC hk,show ((k+1:Nat):Int)=(k:Int)+1 by omega];have hle:=uM (p:=ve v s) (L:=L) (k:=k);cases ve v s L[k] with
   |true=>simp only [if_true];rw [if_pos (by simp only [No,aau];omega)];exact .mk ⟨rfl,trivial⟩
   |false=>simp only [cV,if_false,au,aaJ];exact .mk ⟨rfl,trivial⟩
  ·unfold mO;simp only [show¬((L.length:Int)<(L.length:Int)) by omega,if_false,OF];exact .mk rfl
 rw [Ky];rfl
theorem count_eq (L:List aa)(v:Int)(s:List UInt8)(hl:L.length<2^32):r7 ⟨L⟩ v s=some (wJ L v s:Int):=by unfold r7;rw [Nh L v s hl];rfl
def qI (L:List aa)(b6:Int)(y:aa):Bool:=decide (1<=b6)&&decide (b6<=(wJ L y.View y.Value:Int))
def sZ (L:List aa)(b6:Int)(o:Option aa)(y:aa):Option aa:=if qI L b6 y&&(match o with|none=>true|some z=>decide (z.View<y.View)) then some y else o
def ol (L:List aa)(b6:Int):Option aa:=L.foldl (sZ L b6) none
theorem zm {α β:Type}{f:β->α->β}{b:β}{L:List α}{k:Nat}(hk:k<L.length):(L.take (k+1)).foldl f b=f ((L.take k).foldl f b) L[k]:=by rw [BY,AT hk,List.foldl_append];rfl
def gy (x:aa):List MV:=[.i .i64 x.View,.s x.Value]
theorem ae3 (v w:Int)(s t:List UInt8):eV [.i .i64 v,.s s] [.i .i64 w,.s t]=(decide (v=w)&&decide (s=t)):=by simp [eV,E9]
theorem ab9 (L:List aa)(hl:L.length<2^32):aK (Loop (te ⟨L⟩) (([]:List MV),0)) λes=> ∀v s,nU es [.i .i64 v,.s s]=(wJ L v s:Int):=by
 refine aK.loop (λst=> ∃k:Nat,k<=L.length/\st.2=(k:Int)/\ ∀v s,nU st.1 [.i .i64 v,.s s]=(((L.take k).filter (ve v s)).length:Int)) (λst=>((L.length:Int)-st.2).toNat) ⟨0,Nat.zero_le _,rfl,λv s=>by simp [nU]⟩ ?_;rintro ⟨es,i⟩ ⟨k,hk,rfl,hm⟩;simp only at hm;unfold te;by_cases cJ:k<L.length
 ·have hle:=yN es (gy L[k]);simp only [show ((k:Int)<(L.length:Int)) by omega,if_true,bB cJ];have hc:(0:Int)<=((cE es ([.i .i64 L[k].View,.s L[k].Value]:List MV):Nat):Int)/\Int.toNat ((cE es ([.i .i64 L[k].View,.s L[k].Value]:List MV):Nat):Int)<(nL es ([.i .i64 L[k].View,.s L[k].Value]:List MV) (.i .i64 0)).length:=by
   refine ⟨by omega,?_⟩;unfold nL;unfold gy at hle;rw [eO,IT];by_cases h:cE es [.i .i64 L[k].View,.s L[k].Value]=es.length
   ·simp only [h,decide_true,cond_true,List.length_append,No,aau];omega
   ·simp only [h,decide_false,cond_false];omega
  rw [if_pos hc];simp only [IT];refine .mk ⟨⟨k+1,by omega,?_,λv s=> ?_⟩,?_⟩
  ·simp only;rw [wrap64 (by omega) (by omega)];omega
  ·simp only;have XU:=hm L[k].View L[k].Value;have ayM:=uM (p:=ve L[k].View L[k].Value) (L:=L) (k:=k);rw [XU,wrap64 (by omega) (by omega)];show nU (Cb es _ (.i .i64 0) _) _=_;rw [xC cJ,RM];by_cases he:L[k].View=v/\L[k].Value=s
   ·obtain ⟨rfl,rfl⟩:=he;rw [LZ (by simp [eV,E9])];simp [ve,asI]
   ·have hf:(decide (L[k].View=v)&&decide (L[k].Value=s))=false:=by rw [<-Bool.decide_and];exact decide_eq_false he
    rw [KB (by rw [ae3];exact hf),<-RM,hm];simp only [ve,hf,cV,if_false,aaJ]
  ·simp only;rw [wrap64 (by omega) (by omega)];omega
 ·simp only [show¬((k:Int)<(L.length:Int)) by omega,if_false];refine .mk λv s=> ?_;rw [hm,List.take_of_length_le (by omega)];rfl
def ae4 (o:Option aa):Int×List UInt8×Bool:=match o with|some z=>(z.View,z.Value,true)|none=>(0,[],false)
@[simp] theorem XV (z : aa) : ae4 (some z) = (z.View, z.Value, true) := rfl
@[simp] theorem akr : ae4 none = (0, [], false) := rfl
theorem EJ {L:List aa}(b6:Int)(hv: ∀e∈L,0<=e.View)(hl:L.length<2^32):lj ⟨L⟩ b6=some (ae4 (ol L b6)):=by
 unfold lj;obtain ⟨es,e1,U3⟩:=ab9 L hl;rw [e1];simp only [au];have Ky:Loop (pO ⟨L⟩ b6 es) ((-1),([]:List UInt8),false,0)=some (match ol L b6 with|some z=>(z.View,z.Value,true)|none=>(-1,[],false)):=by
  refine aK.eq (aK.count (λk=>match (L.take k).foldl (sZ L b6) none with|some z=>(z.View,z.Value,true,(k:Int))|none=>(-1,[],false,(k:Int))) L.length (λ_=>True) (by simp) trivial (λk hk _=> ?_) (λ_=> ?_))
  ·have hvk:=hv _ (List.getElem_mem hk);rw [zm hk];unfold pO;have Ni: ∀b:Bool,(if (1:Int)<=b6 then if b6<=(wJ L L[k].View L[k].Value:Int) then some b else some false else some false:Option Bool)=some (qI L b6 L[k]&&b):=by intro b;unfold qI;by_cases g1:(1:Int)<=b6<;>by_cases g2:b6<=(wJ L L[k].View L[k].Value:Int)<;>simp [g1,g2]
   cases hz:(L.take k).foldl (sZ L b6) none with
   |none=>simp only [show ((k:Int)<(L.length:Int)) by omega,if_true,bB hk,U3,Ni,au];rw [wrap64 (by omega) (by omega)];unfold sZ;simp only [show decide ((-1:Int)<L[k].View)=true from decide_eq_true (by omega),Bool.and_true];cases qI L b6 L[k]<;>simp only [cV,if_true,if_false,au]<;>exact .mk ⟨by simp,trivial⟩
   |some z=>simp only [show ((k:Int)<(L.length:Int)) by omega,if_true,bB hk,U3,Ni,au];rw [wrap64 (by omega) (by omega)];unfold sZ;cases qI L b6 L[k]&&decide (z.View<L[k].View)<;>simp only [cV,if_true,if_false,au]<;>exact .mk ⟨by simp,trivial⟩
  ·rw [OF];unfold pO;show aK _ _;unfold ol;cases List.foldl (sZ L b6) none L<;>simp only [show¬((L.length:Int)<(L.length:Int)) by omega,if_false]<;>exact .mk rfl
 rw [Ky];cases ol L b6<;>simp
theorem yO (L:List aa)(b6:Int):match ol L b6 with|none=> ∀y∈L,qI L b6 y=false|some z=>z∈L/\qI L b6 z=true/\ ∀y∈L,qI L b6 y=true->y.View<=z.View:=by
 have: ∀l:List aa,(∀x∈l,x∈L)->match l.foldl (sZ L b6) none with|none=> ∀y∈l,qI L b6 y=false|some z=>z∈L/\qI L b6 z=true/\ ∀y∈l,qI L b6 y=true->y.View<=z.View:=by
  intro l;generalize hn:l.length=n;induction n generalizing l with
  |zero=>intro h;have:=List.eq_nil_of_length_eq_zero hn;subst this;intro y hy;simp at hy
  |succ n ih=>
   intro h;obtain ⟨l0,y0,rfl⟩: ∃l0 y0,l=l0++[y0]:=⟨l.dropLast,l.getLast (by intro e;subst e;simp at hn),(List.dropLast_concat_getLast _).symm⟩
   have ih:=ih l0 (by simp at hn;omega) (λx hx=>h x (by simp [hx]));rw [List.foldl_append];simp only [List.foldl_cons,List.foldl_nil];cases hz:l0.foldl (sZ L b6) none with
   |none=>
    rw [hz] at ih;simp only at ih;cases hg:qI L b6 y0 with
    |true=>
     rw [show sZ L b6 none y0=some y0 by simp [sZ,hg]];refine ⟨h y0 (by simp),hg,λy hy hgy=> ?_⟩;rcases AI.1 hy with hy|hy
     ·rw [ih y hy] at hgy;cases hgy
     ·rw [sh.1 hy];exact aaK _
    |false=>
     rw [show sZ L b6 none y0=none by simp [sZ,hg]];intro y hy;rcases AI.1 hy with hy|hy
     ·exact ih y hy
     ·rw [sh.1 hy];exact hg
   |some z=>
    rw [hz] at ih;obtain ⟨i1,i2,i3⟩:=ih;cases hg:qI L b6 y0&&decide (z.View<y0.View) with
    |true=>
     rw [show sZ L b6 (some z) y0=some y0 by simp only [sZ,hg,if_true]];simp only [Bool.and_eq_true,decide_eq_true_eq] at hg;refine ⟨h y0 (by simp),hg.1,λy hy hgy=> ?_⟩;rcases AI.1 hy with hy|hy
     ·have:=i3 y hy hgy;omega
     ·rw [sh.1 hy];exact aaK _
    |false=>
     rw [show sZ L b6 (some z) y0=some z by simp only [sZ,hg,cV,if_false]];refine ⟨i1,i2,λy hy hgy=> ?_⟩;rcases AI.1 hy with hy|hy
     ·exact i3 y hy hgy
     ·have he:=sh.1 hy;subst he;rw [hgy,Bool.true_and] at hg;have:=of_decide_eq_false hg;omega
 exact this L λx hx=>hx
end Dn.S
