import Derived.Test.YtmdlghpieagfhaaGreatDnPSlot
/-
  Nodes that hear, enter, lead, are loaded again. Conditions: none.
-/
set_option linter.unusedVariables false
set_option linter.unusedSimpArgs false
open Bool renaming false_eq_true→fj,not_false→AT,and_false→BY,not_true→IN,and_true→IS,true_and→IT
open List renaming length_singleton→sh,mem_singleton→AI
open Go Dn
namespace Dn.S
abbrev zV:aa:=⟨0,0,[]⟩
abbrev zR:ae:=⟨0,0,false,0,[],[]⟩
def GM (v:aa):aw:=⟨2,0,0,[],[],v,[],zR⟩
def aaz (i:Int)(p:List aa):aw:=⟨3,i,0,[],[],zV,p,zR⟩
def afu (r:ae):aw:=⟨4,0,0,[],[],zV,[],r⟩
def R6 (i:Int)(x:List UInt8):aw:=⟨5,i,0,x,[],zV,[],zR⟩
theorem amq (v:aa):M0 (GM v):=⟨by simp [GM],by simp [GM],by simp [GM],by simp [GM]⟩
theorem amr {i:Int}{p:List aa}(h:p.length<2^32):M0 (aaz i p):=⟨by simp [aaz],by simp [aaz],h,by simp [aaz]⟩
theorem ams {r:ae}(h:r.Proof.length<2^32):M0 (afu r):=⟨by simp [afu],by simp [afu],by simp [afu],h⟩
theorem amt (i:Int)(x:List UInt8):M0 (R6 i x):=⟨by simp [R6],by simp [R6],by simp [R6],by simp [R6]⟩
def vK (i:Int)(Vo:Bool)(n:aD)(out:List aw):List aw:=if (n.L.bE&&!Vo)=true then out++[R6 i n.L.Value] else out
theorem Am {A:Type}(d Vo:Bool)(out:List aw)(ho:out.length<=10)(i:Int)(x:List UInt8)(N:A): (bd (if d then some (!Vo) else some false:Option Bool) λw7=>bd (if w7 then if (out.length+([(⟨5,i,0,x,[],zV,[],zR⟩:aw)]:List aw).length) *192<=2^46 then some (out++[(⟨5,i,0,x,[],zV,[],zR⟩:aw)]) else none else some out:Option (List aw)) λw8=>some (N,w8))= some (N,if (d&&!Vo)=true then out++[R6 i x] else out):=by cases d<;>cases Vo<;>simp only [ar,if_true,if_false,fj,IN,AT,IS,BY,IT];rw [if_pos (by rw [sh];omega)];rfl
theorem GN {A:Type}(d Vo:Bool)(out:List bF)(ho:out.length<=10)(i:Int)(x:List UInt8)(N:A): (bd (if d then some (!Vo) else some false:Option Bool) λw7=>bd (if w7 then if (out.length+([(⟨5,i,0,x,[],zV,[],zR⟩:bF)]:List bF).length) *192<=2^46 then some (out++[(⟨5,i,0,x,[],zV,[],zR⟩:bF)]) else none else some out:Option (List bF)) λw8=>some (N,w8))= some (N,if (d&&!Vo)=true then out++[z6 (R6 i x)] else out):=by cases d<;>cases Vo<;>simp only [ar,if_true,if_false,fj,IN,AT,IS,BY,IT];rw [if_pos (by rw [sh];omega)];rfl
theorem nL (i:Int)(Vo:Bool)(n:aD)(out:List aw):(if (n.L.bE&&!Vo)=true then out.map z6++[z6 (R6 i n.L.Value)] else out.map z6)=(vK i Vo n out).map z6:=by
 unfold vK;split
 ·rw [List.map_append];rfl
 ·rfl
theorem EB (l:aq)(t:List aa)(n:Int):(ic l t n).S=l.S:=by unfold ic;split<;>rfl
theorem IK (l:aq)(a:aa):(fb l a).S=l.S:=by
 unfold fb;split
 ·rfl
 ·rw [EB]
theorem ah1 (l:aq)(b:Int)(v:List UInt8):(DF l b v).S=l.S:=by
 unfold DF;split
 ·rfl
 ·rw [EB]
theorem R7 (l:aq)(b:Int)(p:List aa):(jZ l b p).S=l.S:=by
 unfold jZ;split
 ·cases p with
  |nil=>rfl
  |cons x r=>
   dsimp only;split
   ·rfl
   ·rw [EB]
 ·rfl
theorem M2 (a:aj)(v:Int)(x:List UInt8)(ok:Bool):(eR a v x ok).1.S=a.S/\(eR a v x ok).1.Me=a.Me:=by unfold eR;split<;>exact ⟨rfl,rfl⟩
theorem JK (a:aj)(v:aa):(kU a v).1.S=a.S/\(kU a v).1.Me=a.Me:=by
 unfold kU;split
 ·exact ⟨rfl,rfl⟩
 ·split<;>exact ⟨rfl,rfl⟩
theorem Vc (a:aj)(v:Int):(n9 a v).1.S=a.S/\(n9 a v).1.Me=a.Me:=by unfold n9;split<;>exact ⟨rfl,rfl⟩
structure ajb (m:aw):Prop where
 proof:m.Proof.length<=30
 jE:m.dX.length<=30
 afr: ∀r∈m.dX,r.Proof.length<=100
 r:m.R.Proof.length<=100
structure amu (s:ak) (i:Int) (n:aD) (m:aw) (k:Nat) (x:aD×List aw):Prop where
 prog:eI s i n m=some x
 ref:kA (vF s) i (yO n) (z6 m)=some (yO x.1,x.2.map z6)
 inv:kV s i x.1 (k+1)
 out:x.2.length<=10
 small: ∀y∈x.2,M0 y
theorem EC {i:Int}{Vo:Bool}{n:aD}{out:List aw}(h: ∀y∈out,M0 y): ∀y∈vK i Vo n out,M0 y:=by
 unfold vK;split
 ·intro y hy;rcases List.mem_append.1 hy with hy|hy
  ·exact h y hy
  ·rw [AI.1 hy];exact amt _ _
 ·exact h
theorem vL {i:Int}{Vo:Bool}{n:aD}{out:List aw}(h:out.length<=5):(vK i Vo n out).length<=10:=by
 unfold vK;split
 ·rw [List.length_append,sh];omega
 ·omega
theorem afv {s:ak}{i:Int}{n:aD}{k:Nat}(h:kV s i n k)(hk:k<=500){m:aw}(hm:ajb m): ∃x,amu s i n m k x:=by
 have hs:=h.sz;have e1:(z6 m).Kind=m.Kind:=rfl;have e2:(z6 m).View=m.View:=rfl;have e3:(z6 m).dU=m.dU:=rfl;have e4:(z6 m).Value=m.Value:=rfl;have e5:(z6 m).dX=m.dX:=rfl;have e6:(z6 m).fM=m.fM:=rfl;have e7:(z6 m).Proof=m.Proof:=rfl;have e8:(z6 m).R=m.R:=rfl;have f1:(yO n).A=sr n.A:=rfl;have f2:(yO n).L=Ez n.L:=rfl;have f3:(Ez n.L).bE=n.L.bE:=rfl;obtain ⟨q1,q2,q3⟩:=h.iv.few;by_cases k1:m.Kind=1
 ·by_cases c:m.dU=nR s m.View
  ·obtain ⟨ok,p1,p2,p3⟩:=WW n.A m.View m.Value m.dX (λr hr=>by have:=hm.afr r hr;omega) (by have:=hm.jE;omega);refine ⟨(⟨(eR n.A m.View m.Value ok).1,n.L,n.cy,n.fh⟩,vK i n.L.bE ⟨(eR n.A m.View m.Value ok).1,n.L,n.cy,n.fh⟩ (if (eR n.A m.View m.Value ok).2.2 then [GM (eR n.A m.View m.Value ok).2.1] else [])),⟨?_,?_,⟨?_,?_,?_,h.iv,h.xH,h.inc,h.small,by have:=h.len;simp only;omega⟩,vL (by split<;>simp),EC ?_⟩⟩
   ·unfold eI;rw [if_pos k1,nK hs,ar,if_neg (by simp [c]),p1];cases hh:(eR n.A m.View m.Value ok).2.2 with
    |true=>simp only [ar,hh,if_true];rw [if_pos (by simp)];simp only [ar];rw [Am _ _ _ (by simp)];rfl
    |false=>simp only [ar,hh,if_false,fj];rw [Am _ _ _ (by simp)];rfl
   ·unfold kA;rw [e1,e2,e3,e4,e5,f1,f2,f3,if_pos k1,lk hs];simp only [ar];rw [if_pos c,p2];cases hh:(eR n.A m.View m.Value ok).2.2 with
    |true=>simp only [ar,hh,if_true];rw [if_pos (by simp)];simp only [ar];rw [GN _ _ _ (by simp),<-nL];rfl
    |false=>simp only [ar,hh,if_false,fj];rw [GN _ _ _ (by simp),<-nL];rfl
   ·exact MW h.acc (λh=>(p3 h).1)
   ·rw [(M2 _ _ _ _).1];exact h.GL
   ·rw [(M2 _ _ _ _).2];exact h.yP
   ·split
    ·intro y hy;rw [AI.1 hy];exact amq _
    ·simp
  ·refine ⟨(n,vK i n.L.bE n []),⟨?_,?_,h.mono (by omega),vL (by simp),EC (by simp)⟩⟩
   ·unfold eI;rw [if_pos k1,nK hs,ar,if_pos (by simp [c])];simp only [ar];rw [Am _ _ _ (by simp)];rfl
   ·unfold kA;rw [e1,e2,e3,f2,f3,if_pos k1,lk hs];simp only [ar];rw [if_neg c];simp only [ar];rw [GN _ _ _ (by simp),<-nL];rfl
 by_cases k2:m.Kind=2
 ·obtain ⟨p1,p2⟩:=YR h.acc h.acc.few m.fM;have a1:=IG h.iv q1 m.fM;have a2:=MZ h.iv q1 m.fM;have Ow:(kU n.A m.fM).2.1.length<2^32:=by
   have EX:=yJ (L:=n.A.bI.L) (a:=m.fM);have hml:=aan n.A.S (ek n.A.bI.L m.fM).1;have:=h.acc.few;unfold kU;split
   ·simp
   ·split
    ·simp
    ·simp only;omega
  refine ⟨(⟨(kU n.A m.fM).1,fb n.L m.fM,n.cy,n.fh⟩,vK i n.L.bE ⟨(kU n.A m.fM).1,fb n.L m.fM,n.cy,n.fh⟩ (if (kU n.A m.fM).2.2 then [aaz i (kU n.A m.fM).2.1] else [])),⟨?_,?_,⟨IE h.acc _,by rw [(JK _ _).1];exact h.GL,by rw [(JK _ _).2];exact h.yP,Al h.iv _,by rw [IK];exact h.xH,h.inc,h.small,by have:=h.len;simp only;omega⟩,vL (by split<;>simp),EC ?_⟩⟩
  ·unfold eI;rw [if_neg k1,if_pos k2,p1];cases hh:(kU n.A m.fM).2.2 with
   |true=>simp only [ar,hh,if_true];rw [if_pos (by simp)];simp only [ar,a1];rw [Am _ _ _ (by simp)];rfl
   |false=>simp only [ar,hh,if_false,fj,a1];rw [Am _ _ _ (by simp)];rfl
  ·unfold kA;rw [e1,e6,f1,f2,f3,if_neg k1,if_pos k2,p2];cases hh:(kU n.A m.fM).2.2 with
   |true=>simp only [ar,hh,if_true];rw [if_pos (by simp)];simp only [ar,a2];rw [GN _ _ _ (by simp),<-nL];rfl
   |false=>simp only [ar,hh,if_false,fj,a2];rw [GN _ _ _ (by simp),<-nL];rfl
  ·split
   ·intro y hy;rw [AI.1 hy];exact amr Ow
   ·simp
 by_cases k3:m.Kind=3
 ·have a1:=R5 h.iv q2 m.dU m.Proof (by have:=hm.proof;omega);have a2:=Jr h.iv q2 m.dU m.Proof (by have:=hm.proof;omega);refine ⟨(⟨n.A,jZ n.L m.dU m.Proof,n.cy,n.fh⟩,vK i n.L.bE ⟨n.A,jZ n.L m.dU m.Proof,n.cy,n.fh⟩ []),⟨?_,?_,⟨h.acc,h.GL,h.yP,HR h.iv _ _,by rw [R7];exact h.xH,h.inc,h.small,by have:=h.len;simp only;omega⟩,vL (by simp),EC (by simp)⟩⟩
  ·unfold eI;rw [if_neg k1,if_neg k2,if_pos k3,a1];simp only [ar];rw [Am _ _ _ (by simp)];rfl
  ·unfold kA;rw [e1,e3,e7,f2,f3,if_neg k1,if_neg k2,if_pos k3,a2];simp only [ar];rw [GN _ _ _ (by simp),<-nL];rfl
 by_cases k4:m.Kind=4
 ·obtain ⟨ok,a1,a2⟩:=get_eq h hk hm.r;refine ⟨(⟨n.A,n.L,Vb n m.R ok,n.fh⟩,vK i n.L.bE ⟨n.A,n.L,Vb n m.R ok,n.fh⟩ []),⟨?_,?_,ah0 h hm.r ok,vL (by simp),EC (by simp)⟩⟩
  ·unfold eI;rw [if_neg k1,if_neg k2,if_neg k3,if_pos k4,a1];simp only [ar];rw [Am _ _ _ (by simp)];rfl
  ·unfold kA;rw [e1,e8,f2,f3,if_neg k1,if_neg k2,if_neg k3,if_pos k4,a2];simp only [ar];rw [GN _ _ _ (by simp),<-nL];rfl
 by_cases k5:m.Kind=5
 ·have a1:=ahX h.iv q3 m.dU m.Value;have a2:=Xg h.iv q3 m.dU m.Value;refine ⟨(⟨n.A,DF n.L m.dU m.Value,n.cy,n.fh⟩,vK i n.L.bE ⟨n.A,DF n.L m.dU m.Value,n.cy,n.fh⟩ []),⟨?_,?_,⟨h.acc,h.GL,h.yP,U9 h.iv _ _,by rw [ah1];exact h.xH,h.inc,h.small,by have:=h.len;simp only;omega⟩,vL (by simp),EC (by simp)⟩⟩
  ·unfold eI;rw [if_neg k1,if_neg k2,if_neg k3,if_neg k4,if_pos k5,a1];simp only [ar];rw [Am _ _ _ (by simp)];rfl
  ·unfold kA;rw [e1,e3,e4,f2,f3,if_neg k1,if_neg k2,if_neg k3,if_neg k4,if_pos k5,a2];simp only [ar];rw [GN _ _ _ (by simp),<-nL];rfl
 ·refine ⟨(n,vK i n.L.bE n []),⟨?_,?_,h.mono (by omega),vL (by simp),EC (by simp)⟩⟩
  ·unfold eI;rw [if_neg k1,if_neg k2,if_neg k3,if_neg k4,if_neg k5];simp only [ar];rw [Am _ _ _ (by simp)];rfl
  ·unfold kA;rw [e1,f2,f3,if_neg k1,if_neg k2,if_neg k3,if_neg k4,if_neg k5];simp only [ar];rw [GN _ _ _ (by simp),<-nL];rfl
end Dn.S
