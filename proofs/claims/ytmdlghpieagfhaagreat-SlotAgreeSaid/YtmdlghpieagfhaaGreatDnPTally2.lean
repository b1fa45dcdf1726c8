import Derived.Test.YtmdlghpieagfhaaGreatDnPTally
/-
  Tallies: adding, counting and the best, as the document says. Conditions: none.
-/
set_option linter.unusedVariables false
set_option linter.unusedSimpArgs false
open Bool renaming false_eq_true→cM
open List renaming mem_singleton→sh,mem_append→AI,getElem?_eq_getElem→AT,take_add_one→BY,length_cons→No,take_length→OF,length_nil→aaf,append_nil→aaT
open Int renaming toNat_natCast→IT,le_refl→aaU
open Go Dn
namespace Dn.S
def xf (v:Int)(s:List UInt8)(x:aa):Bool:=decide (x.View=v)&&decide (x.Value=s)
def AG (L:List aa)(v:Int)(s:List UInt8):Nat:=(L.filter (xf v s)).length
theorem xg {α:Type}{p:α->Bool}{L:List α}{k:Nat}(hk:k<L.length):(L.take (k+1)).filter p=(L.take k).filter p++if p L[k] then [L[k]] else []:=by rw [BY,AT hk,List.filter_append];congr 1;simp only [Option.toList_some,List.filter_cons,List.filter_nil]
theorem uC {α:Type}{p:α->Bool}{L:List α}{k:Nat}:((L.take k).filter p).length<=L.length:=Nat.le_trans (List.length_filter_le _ _) (by rw [List.length_take];omega)
theorem MQ (L:List aa)(v:Int)(s:List UInt8)(hl:L.length<2^32):nd ⟨L⟩ v s=some (L.filter (xf v s)):=by
 unfold nd;have Ke:Loop (mA ⟨L⟩ v s) (([]:List aa),0)=some (L.filter (xf v s)):=by
  refine aL.eq (aL.count (λk=>((L.take k).filter (xf v s),(k:Int))) L.length (λ_=>True) (by simp) trivial (λk hk _=> ?_) (λ_=> ?_))
  ·unfold mA;simp only [show ((k:Int)<(L.length:Int)) by omega,if_true,bA hk];have hb:(if L[k].View=v then some (decide (L[k].Value=s)) else some false:Option Bool)=some (xf v s L[k]):=by unfold xf;split<;>simp [*]
   rw [hb];simp only [au];rw [wrap64 (by omega) (by omega),xg hk,show ((k+1:Nat):Int)=(k:Int)+1 by omega];have hle:=uC (p:=xf v s) (L:=L) (k:=k);cases xf v s L[k] with
   |true=>simp only [if_true];rw [if_pos (by simp only [No,aaf];omega)];exact .mk ⟨rfl,trivial⟩
   |false=>simp only [cM,if_false,au,aaT];exact .mk ⟨rfl,trivial⟩
  ·unfold mA;simp only [show¬((L.length:Int)<(L.length:Int)) by omega,if_false,OF];exact .mk rfl
 rw [Ke];rfl
theorem count_eq (L:List aa)(v:Int)(s:List UInt8)(hl:L.length<2^32):rP ⟨L⟩ v s=some (AG L v s:Int):=by unfold rP;rw [MQ L v s hl];rfl
def r8 (L:List aa)(cg:Int)(y:aa):Bool:=decide (1<=cg)&&decide (cg<=(AG L y.View y.Value:Int))
def sN (L:List aa)(cg:Int)(o:Option aa)(y:aa):Option aa:=if r8 L cg y&&(match o with|none=>true|some z=>decide (z.View<y.View)) then some y else o
def p0 (L:List aa)(cg:Int):Option aa:=L.foldl (sN L cg) none
theorem yP {α β:Type}{f:β->α->β}{b:β}{L:List α}{k:Nat}(hk:k<L.length):(L.take (k+1)).foldl f b=f ((L.take k).foldl f b) L[k]:=by rw [BY,AT hk,List.foldl_append];rfl
def gp (x:aa):List MV:=[.i .i64 x.View,.s x.Value]
theorem aep (v w:Int)(s t:List UInt8):eO [.i .i64 v,.s s] [.i .i64 w,.s t]=(decide (v=w)&&decide (s=t)):=by simp [eO,EI]
theorem abq (L:List aa)(hl:L.length<2^32):aL (Loop (s5 ⟨L⟩) (([]:List MV),0)) λes=> ∀v s,nN es [.i .i64 v,.s s]=(AG L v s:Int):=by
 refine aL.loop (λst=> ∃k:Nat,k<=L.length/\st.2=(k:Int)/\ ∀v s,nN st.1 [.i .i64 v,.s s]=(((L.take k).filter (xf v s)).length:Int)) (λst=>((L.length:Int)-st.2).toNat) ⟨0,Nat.zero_le _,rfl,λv s=>by simp [nN]⟩ ?_;rintro ⟨es,i⟩ ⟨k,hk,rfl,hm⟩;simp only at hm;unfold s5;by_cases cT:k<L.length
 ·have hle:=yx es (gp L[k]);simp only [show ((k:Int)<(L.length:Int)) by omega,if_true,bA cT];have hc:(0:Int)<=((cy es ([.i .i64 L[k].View,.s L[k].Value]:List MV):Nat):Int)/\Int.toNat ((cy es ([.i .i64 L[k].View,.s L[k].Value]:List MV):Nat):Int)<(nE es ([.i .i64 L[k].View,.s L[k].Value]:List MV) (.i .i64 0)).length:=by
   refine ⟨by omega,?_⟩;unfold nE;unfold gp at hle;rw [eD,IT];by_cases h:cy es [.i .i64 L[k].View,.s L[k].Value]=es.length
   ·simp only [h,decide_true,cond_true,List.length_append,No,aaf];omega
   ·simp only [h,decide_false,cond_false];omega
  rw [if_pos hc];simp only [IT];refine .mk ⟨⟨k+1,by omega,?_,λv s=> ?_⟩,?_⟩
  ·simp only;rw [wrap64 (by omega) (by omega)];omega
  ·simp only;have aeq:=hm L[k].View L[k].Value;have axO:=uC (p:=xf L[k].View L[k].Value) (L:=L) (k:=k);rw [aeq,wrap64 (by omega) (by omega)];show nN (BG es _ (.i .i64 0) _) _=_;rw [xg cT,Rf];by_cases he:L[k].View=v/\L[k].Value=s
   ·obtain ⟨rfl,rfl⟩:=he;rw [Lt (by simp [eO,EI])];simp [xf,asI]
   ·have hf:(decide (L[k].View=v)&&decide (L[k].Value=s))=false:=by rw [<-Bool.decide_and];exact decide_eq_false he
    rw [Kh (by rw [aep];exact hf),<-Rf,hm];simp only [xf,hf,cM,if_false,aaT]
  ·simp only;rw [wrap64 (by omega) (by omega)];omega
 ·simp only [show¬((k:Int)<(L.length:Int)) by omega,if_false];refine .mk λv s=> ?_;rw [hm,List.take_of_length_le (by omega)];rfl
def aer (o:Option aa):Int×List UInt8×Bool:=match o with|some z=>(z.View,z.Value,true)|none=>(0,[],false)
@[simp] theorem Xj (z : aa) : aer (some z) = (z.View, z.Value, true) := rfl
@[simp] theorem ajB : aer none = (0, [], false) := rfl
theorem Ek {L:List aa}(cg:Int)(hv: ∀e∈L,0<=e.View)(hl:L.length<2^32):kR ⟨L⟩ cg=some (aer (p0 L cg)):=by
 unfold kR;obtain ⟨es,e1,Ut⟩:=abq L hl;rw [e1];simp only [au];have Ke:Loop (pC ⟨L⟩ cg es) ((-1),([]:List UInt8),false,0)=some (match p0 L cg with|some z=>(z.View,z.Value,true)|none=>(-1,[],false)):=by
  refine aL.eq (aL.count (λk=>match (L.take k).foldl (sN L cg) none with|some z=>(z.View,z.Value,true,(k:Int))|none=>(-1,[],false,(k:Int))) L.length (λ_=>True) (by simp) trivial (λk hk _=> ?_) (λ_=> ?_))
  ·have hvk:=hv _ (List.getElem_mem hk);rw [yP hk];unfold pC;have Gw: ∀b:Bool,(if (1:Int)<=cg then if cg<=(AG L L[k].View L[k].Value:Int) then some b else some false else some false:Option Bool)=some (r8 L cg L[k]&&b):=by intro b;unfold r8;by_cases g1:(1:Int)<=cg<;>by_cases g2:cg<=(AG L L[k].View L[k].Value:Int)<;>simp [g1,g2]
   cases hz:(L.take k).foldl (sN L cg) none with
   |none=>simp only [show ((k:Int)<(L.length:Int)) by omega,if_true,bA hk,Ut,Gw,au];rw [wrap64 (by omega) (by omega)];unfold sN;simp only [show decide ((-1:Int)<L[k].View)=true from decide_eq_true (by omega),Bool.and_true];cases r8 L cg L[k]<;>simp only [cM,if_true,if_false,au]<;>exact .mk ⟨by simp,trivial⟩
   |some z=>simp only [show ((k:Int)<(L.length:Int)) by omega,if_true,bA hk,Ut,Gw,au];rw [wrap64 (by omega) (by omega)];unfold sN;cases r8 L cg L[k]&&decide (z.View<L[k].View)<;>simp only [cM,if_true,if_false,au]<;>exact .mk ⟨by simp,trivial⟩
  ·rw [OF];unfold pC;show aL _ _;unfold p0;cases List.foldl (sN L cg) none L<;>simp only [show¬((L.length:Int)<(L.length:Int)) by omega,if_false]<;>exact .mk rfl
 rw [Ke];cases p0 L cg<;>simp
theorem CO (L:List aa)(cg:Int):match p0 L cg with|none=> ∀y∈L,r8 L cg y=false|some z=>z∈L/\r8 L cg z=true/\ ∀y∈L,r8 L cg y=true->y.View<=z.View:=by
 have: ∀l:List aa,(∀x∈l,x∈L)->match l.foldl (sN L cg) none with|none=> ∀y∈l,r8 L cg y=false|some z=>z∈L/\r8 L cg z=true/\ ∀y∈l,r8 L cg y=true->y.View<=z.View:=by
  intro l;generalize hn:l.length=n;induction n generalizing l with
  |zero=>intro h;have:=List.eq_nil_of_length_eq_zero hn;subst this;intro y hy;simp at hy
  |succ n ih=>
   intro h;obtain ⟨l0,y0,rfl⟩: ∃l0 y0,l=l0++[y0]:=⟨l.dropLast,l.getLast (by intro e;subst e;simp at hn),(List.dropLast_concat_getLast _).symm⟩
   have ih:=ih l0 (by simp at hn;omega) (λx hx=>h x (by simp [hx]));rw [List.foldl_append];simp only [List.foldl_cons,List.foldl_nil];cases hz:l0.foldl (sN L cg) none with
   |none=>
    rw [hz] at ih;simp only at ih;cases hg:r8 L cg y0 with
    |true=>
     rw [show sN L cg none y0=some y0 by simp [sN,hg]];refine ⟨h y0 (by simp),hg,λy hy hgy=> ?_⟩;rcases AI.1 hy with hy|hy
     ·rw [ih y hy] at hgy;cases hgy
     ·rw [sh.1 hy];exact aaU _
    |false=>
     rw [show sN L cg none y0=none by simp [sN,hg]];intro y hy;rcases AI.1 hy with hy|hy
     ·exact ih y hy
     ·rw [sh.1 hy];exact hg
   |some z=>
    rw [hz] at ih;obtain ⟨i1,i2,i3⟩:=ih;cases hg:r8 L cg y0&&decide (z.View<y0.View) with
    |true=>
     rw [show sN L cg (some z) y0=some y0 by simp only [sN,hg,if_true]];simp only [Bool.and_eq_true,decide_eq_true_eq] at hg;refine ⟨h y0 (by simp),hg.1,λy hy hgy=> ?_⟩;rcases AI.1 hy with hy|hy
     ·have:=i3 y hy hgy;omega
     ·rw [sh.1 hy];exact aaU _
    |false=>
     rw [show sN L cg (some z) y0=some z by simp only [sN,hg,cM,if_false]];refine ⟨i1,i2,λy hy hgy=> ?_⟩;rcases AI.1 hy with hy|hy
     ·exact i3 y hy hgy
     ·have he:=sh.1 hy;subst he;rw [hgy,Bool.true_and] at hg;have:=of_decide_eq_false hg;omega
 exact this L λx hx=>hx
end Dn.S
