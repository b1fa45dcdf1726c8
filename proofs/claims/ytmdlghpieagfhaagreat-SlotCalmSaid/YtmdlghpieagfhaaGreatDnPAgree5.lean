import Derived.Test.YtmdlghpieagfhaaGreatDnPAgree4
/- What a node's acts add, each. Conditions: none. -/
set_option linter.unusedVariables false
set_option linter.unusedSimpArgs false
open Int renaming le_refl→cV
open Go Dn
namespace Dn.S
theorem uW.mono {F T:Nat}{bad:List Bool} {g g':Gh}{l:ar}(h:uW F T bad g l)(hg:g.le g'):uW F T bad g' l:=⟨h.acc.mono hg.V,h.sL.mono hg.C,λe he=>(h.told e he).imp id (hg.L _),λq=>(h.done q).imp (hg.L _) λ⟨v,hv⟩=>⟨v,hv.mono hg.V hg.C⟩⟩
theorem ajs {F T:Nat}{bad:List Bool}{g:Gh}{s:ae}{i:Int}{n:ao}{k:Nat}(hF:s.F=F)(hT:s.T=T)(hn:(bad.length:Int)=kz s)(hi:dP s i n k)(h:tD F T bad g)(hg:sr bad g i n){a:aa}(ha:L7 bad a.By\/g.V a)(EQ:Bool): yX F T bad g i (⟨(dp n.A a).1,b8 n.L a,n.dq,n.et⟩,lG i EQ ⟨(dp n.A a).1,b8 n.L a,n.dq,n.et⟩ (if (dp n.A a).2.2 then [yT i (dp n.A a).2.1] else [])):=by
 have Gc:=UP hF hT hn hi.dU hi.qp (hg.dU (F:=F) (T:=T)) ha;have UQ:Real bad g.V (cL n.A.bT.L a).1:=λe he=>by
  rcases uS hi.acc.jA.inc he with q|⟨q,_⟩
  ·exact hg.jA e q
  ·rw [q];exact ha
 by_cases c1:kz n.A.S<=a.By\/a.View≠n.A.View
 ·have e:dp n.A a=(n.A,[],false):=if_pos c1;rw [e];exact yY (n:=⟨n.A,b8 n.L a,n.dq,n.et⟩) (out:=[]) h ⟨hg.YN,hg.V2,hg.Hf,hg.V3,hg.jA,hg.proof,hg.Bg,Gc.acc,Gc.sL,Gc.told⟩ Gc.done (by simp) EQ
 have gb:a.By<kz n.A.S:=Int.not_le.1 λq=>c1 (.inl q);have gv:a.View=n.A.View:=by
  by_cases q:a.View=n.A.View
  ·exact q
  ·exact absurd (.inr q) c1
 have ku:=Bb hi.acc gb gv;by_cases c2: ¬tw a\/(jq n.A.S (cL n.A.bT.L a).1).2=false\/n.A.View<=(mB n.A.Proof).1
 ·have e:dp n.A a=(⟨n.A.S,n.A.Me,n.A.View,n.A.Has,n.A.At,n.A.Value,n.A.Proof,⟨(cL n.A.bT.L a).1⟩⟩,[],false):=by unfold dp;rw [if_neg c1,if_pos c2]
  rw [e];exact yY (n:=⟨⟨n.A.S,n.A.Me,n.A.View,n.A.Has,n.A.At,n.A.Value,n.A.Proof,⟨(cL n.A.bT.L a).1⟩⟩,b8 n.L a,n.dq,n.et⟩) (out:=[]) h ⟨hg.YN,hg.V2,hg.Hf,hg.V3,UQ,hg.proof,hg.Bg,Gc.acc,Gc.sL,Gc.told⟩ Gc.done (by simp) EQ
 have e:dp n.A a=(⟨n.A.S,n.A.Me,n.A.View,n.A.Has,n.A.At,n.A.Value,(jq n.A.S (cL n.A.bT.L a).1).1,⟨(cL n.A.bT.L a).1⟩⟩,(jq n.A.S (cL n.A.bT.L a).1).1,true):=by unfold dp;rw [if_neg c1,if_neg c2]
 have PF:(jq n.A.S (cL n.A.bT.L a).1).2=true:=by
  cases hk:(jq n.A.S (cL n.A.bT.L a).1).2 with
  |true=>rfl
  |false=>exact absurd (.inr (.inl hk)) c2
 have wh:(mB n.A.Proof).1<n.A.View:=Int.not_le.1 λq=>c2 (.inr (.inr q));have Px:=vY hi.acc.sz (oW hi.acc.jA) (λe he=>(ku e he).1) PF;have kG: ∀e∈(jq n.A.S (cL n.A.bT.L a).1).1,e∈(cL n.A.bT.L a).1:=λe he=>xE he;rw [e];generalize (jq n.A.S (cL n.A.bT.L a).1).1=p at Px kG;rw [hi.zM] at Px;have acG:Real bad g.V p:=λe he=>UQ e (kG e he);have Bh:(mB p).1=n.A.View:=by
  have hl:=Px.len;have Nj:=(b7 s).1 hi.sz;cases p with
  |nil=>simp at hl;omega
  |cons y q=>exact (ku y (kG y (by simp))).2
 have h1:=h.asC (a:=⟨i,(mB p).1,(mB p).2.1⟩) (λr hr hb=>by have:=hg.V3 r hr hb;show r.fS<=(mB p).1;omega) (NB hF hT hn Px acG);have hle:g.le {g with C:=λb=>g.C b\/b=⟨i,(mB p).1,(mB p).2.1⟩}:=⟨λ_ q=>q,λ_=> .inl,λ_ q=>q,λ_ q=>q⟩
 have V4:=Gc.mono hle;refine yX.from (i:=i) (g1:={g with C:=λb=>g.C b\/b=⟨i,(mB p).1,(mB p).2.1⟩}) (yY (n:=⟨⟨n.A.S,n.A.Me,n.A.View,n.A.Has,n.A.At,n.A.Value,p,⟨(cL n.A.bT.L a).1⟩⟩,b8 n.L a,n.dq,n.et⟩) (out:=[yT i p]) h1 ?_ V4.done ?_ EQ) hle ⟨λ_ q=> .inl q,λa q=>q.imp id (λe=>by rw [e]),λ_ q=> .inl q⟩
 ·refine ⟨hg.YN,hg.V2,?_,hg.V3,UQ,acG,hg.Bg,V4.acc,V4.sL,V4.told⟩;rintro b (hb|rfl) qx
  ·have:=hg.Hf b hb qx;show b.View<=(mB p).1;omega
  ·exact cV _
 ·intro y hy;have:y=yT i p:=by simpa using hy
  subst this;exact ⟨λk=>by simp [yT] at k,λk=>by simp [yT] at k,λ_=>⟨acG,.inr (.inr rfl)⟩,λk=>by simp [yT] at k,λk=>by simp [yT] at k⟩
theorem V5 {F T:Nat}{bad:List Bool}{g:Gh}{s:ae}{i:Int}{n:ao}{k:Nat}(hi:dP s i n k)(h:tD F T bad g)(hg:sr bad g i n)(v:Int):yX F T bad g i (dV n v):=by
 unfold dV;by_cases c:v<=n.A.View\/100000<v
 ·have e:iL n.A v=(n.A,⟨0,0,false,0,[],[]⟩,false):=if_pos c;rw [e,if_neg (by simp)];exact ⟨g,.refl g,.refl i g,h,hg,by simp⟩
 ·have e:iL n.A v=(⟨n.A.S,n.A.Me,v,n.A.Has,n.A.At,n.A.Value,n.A.Proof,⟨[]⟩⟩,⟨n.A.Me,v,n.A.Has,n.A.At,n.A.Value,n.A.Proof⟩,true):=if_neg c;rw [e,if_pos rfl,hi.sq];have h1:=h.asD (r:=⟨i,v,n.A.Has,n.A.At,n.A.Value,n.A.Proof⟩) (λa ha hb=>hg.V2 a ha hb) (λq=>hg.YN q) (λa ha hb=>hg.Hf a ha hb);refine ⟨{g with R:=λb=>g.R b\/b=⟨i,v,n.A.Has,n.A.At,n.A.Value,n.A.Proof⟩},⟨λ_ q=>q,λ_ q=>q,λ_=> .inl,λ_ q=>q⟩,⟨λ_ q=> .inl q,λ_ q=> .inl q,λa q=>q.imp id (λe=>by rw [e])⟩,h1,⟨⟨hg.YN,hg.V2,hg.Hf,?_,λe he=>(by cases he),hg.proof,λr hr=>(by cases hr),hg.acc,hg.sL,hg.told⟩,hg.done⟩,?_⟩
  ·rintro r (hr|rfl) hb
   ·have:=hg.V3 r hr hb;show r.fS<=v;omega
   ·exact cV _
  ·intro y hy;rw [List.mem_singleton.1 hy];exact ⟨λk=>by simp [EP] at k,λk=>by simp [EP] at k,λk=>by simp [EP] at k,λ_=>⟨.inr (.inr rfl),hg.proof⟩,λk=>by simp [EP] at k⟩
theorem acH {F T:Nat}{bad:List Bool}{g:Gh}{s:ae}{i:Int}{n:ao}{k:Nat}(hi:dP s i n k)(h:tD F T bad g)(hg:sr bad g i n):yX F T bad g i (nd s n,[]):=by
 have hl:(zL s).1=⟨s,⟨[]⟩,⟨[]⟩,⟨[]⟩,false,[]⟩:=by unfold zL;rw [if_pos hi.sz]
 refine ⟨g,.refl g,.refl i g,h,?_,by simp⟩;unfold nd;rw [hl];exact ⟨⟨hg.YN,hg.V2,hg.Hf,hg.V3,λe he=>(by cases he),hg.proof,λr hr=>(by cases hr),λe he=>(by cases he),λe he=>(by cases he),λe he=>(by cases he)⟩,λq=>(by cases q)⟩
theorem afs {bad:List Bool}{g:Gh}{s:ae}{i:Int}(hs:cC s)(h: ∀a,¬g.V a)(h1: ∀a,¬g.C a)(h2: ∀r,¬g.R r):sr bad g i (rc s i):=by
 have hl:(zL s).1=⟨s,⟨[]⟩,⟨[]⟩,⟨[]⟩,false,[]⟩:=by unfold zL;rw [if_pos hs]
 unfold rc;rw [hl];exact ⟨⟨λq=>(by cases q),λa ha=>absurd ha (h a),λa ha=>absurd ha (h1 a),λr hr=>absurd hr (h2 r),λe he=>(by cases he),λe he=>(by cases he),λr hr=>(by cases hr),λe he=>(by cases he),λe he=>(by cases he),λe he=>(by cases he)⟩,λq=>(by cases q)⟩
theorem anX {F T:Nat}{bad:List Bool}{g:Gh}{i:Int}{n:ao}(h:tD F T bad g)(hg:sr bad g i n){r:ab}(hr:(L7 bad r.By\/g.R r)/\Real bad g.V r.Proof)(ok EQ:Bool):yX F T bad g i (⟨n.A,n.L,wL n r ok,n.et⟩,lG i EQ ⟨n.A,n.L,wL n r ok,n.et⟩ []):=by
 refine yY (n:=⟨n.A,n.L,wL n r ok,n.et⟩) (out:=[]) h ⟨hg.YN,hg.V2,hg.Hf,hg.V3,hg.jA,hg.proof,λx hx=> ?_,hg.acc,hg.sL,hg.told⟩ (λq=> .inl (hg.done q)) (by simp) EQ;have hx:x∈wL n r ok:=hx;unfold wL at hx;split at hx
 ·rcases UE hx with rfl|hx
  ·exact hr
  ·exact hg.Bg x hx
 ·exact hg.Bg x hx
theorem Py {F T:Nat}{bad:List Bool}{g:Gh}{i:Int}{n:ao}{l:ar}(h:tD F T bad g)(hg:sr bad g i n)(hl:uW F T bad g l)(EQ:Bool):yX F T bad g i (⟨n.A,l,n.dq,n.et⟩,lG i EQ ⟨n.A,l,n.dq,n.et⟩ []):=yY (n:=⟨n.A,l,n.dq,n.et⟩) (out:=[]) h ⟨hg.YN,hg.V2,hg.Hf,hg.V3,hg.jA,hg.proof,hg.Bg,hl.acc,hl.sL,hl.told⟩ hl.done (by simp) EQ
theorem UR {F T:Nat}{bad:List Bool}{g:Gh}{i:Int}{n:ao}(h:tD F T bad g)(hg:sr bad g i n){led:Int}{out:List ai}(ho: ∀y∈out,y.Kind=1/\ ∀r∈y.fC,r∈n.dq):yX F T bad g i (⟨n.A,n.L,n.dq,led⟩,out):=by refine ⟨g,.refl g,.refl i g,h,⟨⟨hg.YN,hg.V2,hg.Hf,hg.V3,hg.jA,hg.proof,hg.Bg,hg.acc,hg.sL,hg.told⟩,hg.done⟩,λy hy=> ?_⟩;obtain ⟨q1,q2⟩:=ho y hy;exact ⟨λ_ r hr=>hg.Bg r (q2 r hr),λk=>by omega,λk=>by omega,λk=>by omega,λk=>by omega⟩
end Dn.S
