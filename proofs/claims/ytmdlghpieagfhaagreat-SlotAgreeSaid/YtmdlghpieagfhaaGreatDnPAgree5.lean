import Derived.Test.YtmdlghpieagfhaaGreatDnPAgree4
/-
  What a node's acts add, each. Conditions: none.
-/
set_option linter.unusedVariables false
set_option linter.unusedSimpArgs false
open Int renaming le_refl→cM
open Go Dn
namespace Dn.S
theorem uK.mono {F T:Nat}{bad:List Bool} {g g':Gh}{l:aq}(h:uK F T bad g l)(hg:g.le g'):uK F T bad g' l:=⟨h.acc.mono hg.V,h.zk.mono hg.C,λe he=>(h.told e he).imp id (hg.L _),λq=>(h.done q).imp (hg.L _) λ⟨v,hv⟩=>⟨v,hv.mono hg.V hg.C⟩⟩
theorem aiG {F T:Nat}{bad:List Bool}{g:Gh}{s:ae}{i:Int}{n:ar}{k:Nat}(hF:s.F=F)(hT:s.T=T)(hn:(bad.length:Int)=mS s)(hi:gE s i n k)(h:tj F T bad g)(hg:sa bad g i n){a:aa}(ha:M8 bad a.By\/g.V a)(Et:Bool): xn F T bad g i (⟨(fm n.A a).1,da n.L a,n.eH,n.ir⟩,nA i Et ⟨(fm n.A a).1,da n.L a,n.eH,n.ir⟩ (if (fm n.A a).2.2 then [Es i (fm n.A a).2.1] else [])):=by
 have O1:=Uf hF hT hn hi.eP hi.qS (hg.eP (F:=F) (T:=T)) ha;have Ug:Real bad g.V (dV n.A.cF.L a).1:=λe he=>by
  rcases AN hi.acc.ll.inc he with q|⟨q,_⟩
  ·exact hg.ll e q
  ·rw [q];exact ha
 by_cases c1:mS n.A.S<=a.By\/a.View≠n.A.View
 ·have e:fm n.A a=(n.A,[],false):=if_pos c1;rw [e];exact yC (n:=⟨n.A,da n.L a,n.eH,n.ir⟩) (out:=[]) h ⟨hg.X6,hg.Vw,hg.XI,hg.Vx,hg.ll,hg.proof,hg.Hf,O1.acc,O1.zk,O1.told⟩ O1.done (by simp) Et
 have gb:a.By<mS n.A.S:=Int.not_le.1 λq=>c1 (.inl q);have gv:a.View=n.A.View:=by
  by_cases q:a.View=n.A.View
  ·exact q
  ·exact absurd (.inr q) c1
 have kF:=Ro hi.acc gb gv;by_cases c2: ¬xe a\/(oW n.A.S (dV n.A.cF.L a).1).2=false\/n.A.View<=(rn n.A.Proof).1
 ·have e:fm n.A a=(⟨n.A.S,n.A.Me,n.A.View,n.A.Has,n.A.At,n.A.Value,n.A.Proof,⟨(dV n.A.cF.L a).1⟩⟩,[],false):=by unfold fm;rw [if_neg c1,if_pos c2]
  rw [e];exact yC (n:=⟨⟨n.A.S,n.A.Me,n.A.View,n.A.Has,n.A.At,n.A.Value,n.A.Proof,⟨(dV n.A.cF.L a).1⟩⟩,da n.L a,n.eH,n.ir⟩) (out:=[]) h ⟨hg.X6,hg.Vw,hg.XI,hg.Vx,Ug,hg.proof,hg.Hf,O1.acc,O1.zk,O1.told⟩ O1.done (by simp) Et
 have e:fm n.A a=(⟨n.A.S,n.A.Me,n.A.View,n.A.Has,n.A.At,n.A.Value,(oW n.A.S (dV n.A.cF.L a).1).1,⟨(dV n.A.cF.L a).1⟩⟩,(oW n.A.S (dV n.A.cF.L a).1).1,true):=by unfold fm;rw [if_neg c1,if_neg c2]
 have O9:(oW n.A.S (dV n.A.cF.L a).1).2=true:=by
  cases hk:(oW n.A.S (dV n.A.cF.L a).1).2 with
  |true=>rfl
  |false=>exact absurd (.inr (.inl hk)) c2
 have tT:(rn n.A.Proof).1<n.A.View:=Int.not_le.1 λq=>c2 (.inr (.inr q));have O2:=Gz hi.acc.sz (uB hi.acc.ll) (λe he=>(kF e he).1) O9;have ov: ∀e∈(oW n.A.S (dV n.A.cF.L a).1).1,e∈(dV n.A.cF.L a).1:=λe he=>FC he;rw [e];generalize (oW n.A.S (dV n.A.cF.L a).1).1=p at O2 ov;rw [hi.CX] at O2;have abY:Real bad g.V p:=λe he=>Ug e (ov e he);have Vs:(rn p).1=n.A.View:=by
  have hl:=O2.len;have Xl:=(dB s).1 hi.sz;cases p with
  |nil=>simp at hl;omega
  |cons y q=>exact (kF y (ov y (by simp))).2
 have h1:=h.arT (a:=⟨i,(rn p).1,(rn p).2.1⟩) (λr hr hb=>by have:=hg.Vx r hr hb;show r.je<=(rn p).1;omega) (M9 hF hT hn O2 abY);have hle:g.le {g with C:=λb=>g.C b\/b=⟨i,(rn p).1,(rn p).2.1⟩}:=⟨λ_ q=>q,λ_=> .inl,λ_ q=>q,λ_ q=>q⟩
 have Vy:=O1.mono hle;refine xn.from (i:=i) (g1:={g with C:=λb=>g.C b\/b=⟨i,(rn p).1,(rn p).2.1⟩}) (yC (n:=⟨⟨n.A.S,n.A.Me,n.A.View,n.A.Has,n.A.At,n.A.Value,p,⟨(dV n.A.cF.L a).1⟩⟩,da n.L a,n.eH,n.ir⟩) (out:=[Es i p]) h1 ?_ Vy.done ?_ Et) hle ⟨λ_ q=> .inl q,λa q=>q.imp id (λe=>by rw [e]),λ_ q=> .inl q⟩
 ·refine ⟨hg.X6,hg.Vw,?_,hg.Vx,Ug,abY,hg.Hf,Vy.acc,Vy.zk,Vy.told⟩;rintro b (hb|rfl) qV
  ·have:=hg.XI b hb qV;show b.View<=(rn p).1;omega
  ·exact cM _
 ·intro y hy;have:y=Es i p:=by simpa using hy
  subst this;exact ⟨λk=>by simp [Es] at k,λk=>by simp [Es] at k,λ_=>⟨abY,.inr (.inr rfl)⟩,λk=>by simp [Es] at k,λk=>by simp [Es] at k⟩
theorem Vz {F T:Nat}{bad:List Bool}{g:Gh}{s:ae}{i:Int}{n:ar}{k:Nat}(hi:gE s i n k)(h:tj F T bad g)(hg:sa bad g i n)(v:Int):xn F T bad g i (te n v):=by
 unfold te;by_cases c:v<=n.A.View\/100000<v
 ·have e:lM n.A v=(n.A,⟨0,0,false,0,[],[]⟩,false):=if_pos c;rw [e,if_neg (by simp)];exact ⟨g,.refl g,.refl i g,h,hg,by simp⟩
 ·have e:lM n.A v=(⟨n.A.S,n.A.Me,v,n.A.Has,n.A.At,n.A.Value,n.A.Proof,⟨[]⟩⟩,⟨n.A.Me,v,n.A.Has,n.A.At,n.A.Value,n.A.Proof⟩,true):=if_neg c;rw [e,if_pos rfl,hi.uH];have h1:=h.arU (r:=⟨i,v,n.A.Has,n.A.At,n.A.Value,n.A.Proof⟩) (λa ha hb=>hg.Vw a ha hb) (λq=>hg.X6 q) (λa ha hb=>hg.XI a ha hb);refine ⟨{g with R:=λb=>g.R b\/b=⟨i,v,n.A.Has,n.A.At,n.A.Value,n.A.Proof⟩},⟨λ_ q=>q,λ_ q=>q,λ_=> .inl,λ_ q=>q⟩,⟨λ_ q=> .inl q,λ_ q=> .inl q,λa q=>q.imp id (λe=>by rw [e])⟩,h1,⟨⟨hg.X6,hg.Vw,hg.XI,?_,λe he=>(by cases he),hg.proof,λr hr=>(by cases hr),hg.acc,hg.zk,hg.told⟩,hg.done⟩,?_⟩
  ·rintro r (hr|rfl) hb
   ·have:=hg.Vx r hr hb;show r.je<=v;omega
   ·exact cM _
  ·intro y hy;rw [List.mem_singleton.1 hy];exact ⟨λk=>by simp [Lz] at k,λk=>by simp [Lz] at k,λk=>by simp [Lz] at k,λ_=>⟨.inr (.inr rfl),hg.proof⟩,λk=>by simp [Lz] at k⟩
theorem abZ {F T:Nat}{bad:List Bool}{g:Gh}{s:ae}{i:Int}{n:ar}{k:Nat}(hi:gE s i n k)(h:tj F T bad g)(hg:sa bad g i n):xn F T bad g i (kD s n,[]):=by
 have hl:(zh s).1=⟨s,⟨[]⟩,⟨[]⟩,⟨[]⟩,false,[]⟩:=by unfold zh;rw [if_pos hi.sz]
 refine ⟨g,.refl g,.refl i g,h,?_,by simp⟩;unfold kD;rw [hl];exact ⟨⟨hg.X6,hg.Vw,hg.XI,hg.Vx,λe he=>(by cases he),hg.proof,λr hr=>(by cases hr),λe he=>(by cases he),λe he=>(by cases he),λe he=>(by cases he)⟩,λq=>(by cases q)⟩
theorem aeP {bad:List Bool}{g:Gh}{s:ae}{i:Int}(hs:cC s)(h: ∀a,¬g.V a)(h1: ∀a,¬g.C a)(h2: ∀r,¬g.R r):sa bad g i (sE s i):=by
 have hl:(zh s).1=⟨s,⟨[]⟩,⟨[]⟩,⟨[]⟩,false,[]⟩:=by unfold zh;rw [if_pos hs]
 unfold sE;rw [hl];exact ⟨⟨λq=>(by cases q),λa ha=>absurd ha (h a),λa ha=>absurd ha (h1 a),λr hr=>absurd hr (h2 r),λe he=>(by cases he),λe he=>(by cases he),λr hr=>(by cases hr),λe he=>(by cases he),λe he=>(by cases he),λe he=>(by cases he)⟩,λq=>(by cases q)⟩
theorem ana {F T:Nat}{bad:List Bool}{g:Gh}{i:Int}{n:ar}(h:tj F T bad g)(hg:sa bad g i n){r:ab}(hr:(M8 bad r.By\/g.R r)/\Real bad g.V r.Proof)(ok Et:Bool):xn F T bad g i (⟨n.A,n.L,Hd n r ok,n.ir⟩,nA i Et ⟨n.A,n.L,Hd n r ok,n.ir⟩ []):=by
 refine yC (n:=⟨n.A,n.L,Hd n r ok,n.ir⟩) (out:=[]) h ⟨hg.X6,hg.Vw,hg.XI,hg.Vx,hg.ll,hg.proof,λx hx=> ?_,hg.acc,hg.zk,hg.told⟩ (λq=> .inl (hg.done q)) (by simp) Et;have hx:x∈Hd n r ok:=hx;unfold Hd at hx;split at hx
 ·rcases abQ hx with rfl|hx
  ·exact hr
  ·exact hg.Hf x hx
 ·exact hg.Hf x hx
theorem O3 {F T:Nat}{bad:List Bool}{g:Gh}{i:Int}{n:ar}{l:aq}(h:tj F T bad g)(hg:sa bad g i n)(hl:uK F T bad g l)(Et:Bool):xn F T bad g i (⟨n.A,l,n.eH,n.ir⟩,nA i Et ⟨n.A,l,n.eH,n.ir⟩ []):=yC (n:=⟨n.A,l,n.eH,n.ir⟩) (out:=[]) h ⟨hg.X6,hg.Vw,hg.XI,hg.Vx,hg.ll,hg.proof,hg.Hf,hl.acc,hl.zk,hl.told⟩ hl.done (by simp) Et
theorem Uh {F T:Nat}{bad:List Bool}{g:Gh}{i:Int}{n:ar}(h:tj F T bad g)(hg:sa bad g i n){led:Int}{out:List al}(ho: ∀y∈out,y.Kind=1/\ ∀r∈y.fN,r∈n.eH):xn F T bad g i (⟨n.A,n.L,n.eH,led⟩,out):=by refine ⟨g,.refl g,.refl i g,h,⟨⟨hg.X6,hg.Vw,hg.XI,hg.Vx,hg.ll,hg.proof,hg.Hf,hg.acc,hg.zk,hg.told⟩,hg.done⟩,λy hy=> ?_⟩;obtain ⟨q1,q2⟩:=ho y hy;exact ⟨λ_ r hr=>hg.Hf r (q2 r hr),λk=>by omega,λk=>by omega,λk=>by omega,λk=>by omega⟩
end Dn.S
