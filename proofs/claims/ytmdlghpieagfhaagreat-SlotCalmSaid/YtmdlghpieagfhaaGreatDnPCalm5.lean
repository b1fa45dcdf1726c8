import Derived.Test.YtmdlghpieagfhaaGreatDnPCalm4
/- Calm: what a node that hears proposals, accepts, commits. Conditions: none. -/
set_option linter.unusedVariables false
set_option linter.unusedSimpArgs false
open List renaming mem_singleton→cV,mem_append→sh,mem_append_left→AI,mem_append_right→BY,length_singleton→IT,append_nil→aau
open Option.some renaming inj→AT
open Int renaming le_refl→No
open Bool renaming false_eq_true→OF
open Go Dn
namespace Dn.S
section
variable {s:ae}{bad:List Bool}{v:Int}{X:Option (List UInt8)}{hd P:List ai}{i:Nat}{n:ao}{m:ai}{k:Nat}
theorem Ys (hI:dP s (i:Int) n k)(hk:k<=1000000)(hv:0<v)(hig:bad[i]? =some false)(h:LN s bad v X hd P i n)(qB:qq m)(hm:PM s bad v X m)(k1:m.Kind=1): ∃x,bq s (i:Int) n m=some x/\sv s bad v X hd P i n m x:=by
 obtain ⟨r1,r2,r3,r4,r5⟩:=hm.prop k1;have hs:=hI.sz;have k2:m.Kind≠2:=by omega
 have k3:m.Kind≠3:=by omega
 have k4:m.Kind≠4:=by omega
 by_cases c:n.A.Has=true/\n.A.At=v
 ·
  obtain ⟨ok,p1,p3⟩:=yQ n.A m.View m.Value m.fC (λr hr=>by have:=qB.G6 r hr;omega) (by have:=qB.gJ;omega);have Qp:ok=false:=by
   cases ok with
   |false=>rfl
   |true=>exact absurd ⟨c.1,by rw [r2];exact c.2⟩ (p3 rfl).1.2.1
  subst Qp;have Gc: ∃y∈P,y.Kind=2/\y.bM.By=(i:Int):=by refine h.Sj (Classical.byContradiction λdi=> ?_);exact h.UT (λy hy ky=>di ⟨y,hy,ky⟩) c
  refine ⟨_,?_,sv.fin (n':=n) (out:=[]) ?_ (by simp) (by simp) id rfl⟩
  ·unfold bq;rw [if_pos k1,dI hs,au,if_neg (by simp [r1,r2]),p1];simp only [bU,au,if_false,OF];rw [jY _ _ _ (by simp)];rfl
  rw [aau];refine ⟨h.view,λq=>absurd (by simp [k1]: ∃y∈hd++[m],y.Kind=1) λ⟨y,hy,ky⟩=>q y hy ky,λ_=>Gc,h.vot,λy hy ky=> ?_,h.sL,λq=>h.Sl λj hj=>jZ (q j hj) λc=>k2 c.1,h.Hf,λq y hy ky=> ?_,λq=>h.don λj hj=>jZ (q j hj) λc=>k3 c.1,λq y hy ky=> ?_,h.CG⟩
  ·rcases sh.1 hy with hy|hy
   ·exact h.Sk y hy ky
   ·rw [cV.1 hy] at ky;exact absurd ky k2
  ·rcases sh.1 hy with hy|hy
   ·exact h.cH q y hy ky
   ·rw [cV.1 hy] at ky;exact absurd ky k3
  ·rcases sh.1 hy with hy|hy
   ·exact h.Bg q y hy ky
   ·rw [cV.1 hy] at ky;exact absurd ky k4
 ·have p1:=Sg (a:=n.A) (v:=m.View) (x:=m.Value) (gJ:=m.fC) ⟨by rw [r2,h.view],by rw [r2];exact c,r5⟩ (by rw [r2];omega) (by rw [hI.zM,r2];exact r4);have hMe:=hI.sq;refine ⟨_,?_,sv.fin (n':=⟨⟨n.A.S,n.A.Me,n.A.View,true,m.View,m.Value,n.A.Proof,n.A.bT⟩,n.L,n.dq,n.et⟩) (out:=[pq ⟨n.A.Me,m.View,m.Value⟩]) ?_ ?_ ?_ id rfl⟩
  ·unfold bq;rw [if_pos k1,dI hs,au,if_neg (by simp [r1,r2]),p1];simp only [bU,au,if_true];rw [if_pos (by simp)];simp only [au];rw [jY _ _ _ (by simp)];rfl
  ·refine ⟨h.view,λq=>absurd (by simp [k1]: ∃y∈hd++[m],y.Kind=1) λ⟨y,hy,ky⟩=>q y hy ky,λ_=>⟨pq ⟨n.A.Me,m.View,m.Value⟩,BY _ (by simp),rfl,hMe⟩,h.vot,λy hy ky=> ?_,λq=> ?_,λq=>h.Sl λj hj=>jZ (q j hj) λc=>k2 c.1,h.Hf,λq y hy ky=> ?_,λq=>h.don λj hj=>jZ (q j hj) λc=>k3 c.1,λq y hy ky=> ?_,h.CG⟩
   ·rcases sh.1 hy with hy|hy
    ·exact h.Sk y hy ky
    ·rw [cV.1 hy] at ky;exact absurd ky k2
   ·obtain ⟨y,h1,h2⟩:=h.sL q;exact ⟨y,AI _ h1,h2⟩
   ·rcases sh.1 hy with hy|hy
    ·exact h.cH q y hy ky
    ·rw [cV.1 hy] at ky;exact absurd ky k3
   ·rcases sh.1 hy with hy|hy
    ·exact h.Bg q y hy ky
    ·rw [cV.1 hy] at ky;exact absurd ky k4
  ·intro y hy;rw [cV.1 hy];exact ⟨λk=>by simp [pq] at k,λ_=>⟨⟨i,hMe,hig⟩,r2,r3,r5⟩,λk=>by simp [pq] at k,λk=>by simp [pq] at k⟩
  ·simp only [K3,IT,r2,and_self,if_true];rw [if_neg c];omega
theorem K5 (l:ar)(a:aa):(b8 l a).aR=l.aR/\(l.bw=true->(b8 l a).bw=true):=by
 unfold b8;by_cases hd:lF l a
 ·rw [if_pos hd];exact ⟨rfl,id⟩
 ·rw [if_neg hd];refine ⟨(rf _ _ _).2.1,λq=> ?_⟩;rw [(fY hd).1] at q;cases q
theorem Yt (hI:dP s (i:Int) n k)(hk:k<=1000000)(hv:0<v/\v<=100000)(hn:(bad.length:Int)=kz s)(hG:2 *s.F+s.T+1<=((su bad).length:Int))(hig:bad[i]? =some false)(h:LN s bad v X hd P i n)(qB:qq m)(hm:PM s bad v X m)(k2:m.Kind=2): ∃x,bq s (i:Int) n m=some x/\sv s bad v X hd P i n m x:=by
 obtain ⟨r1,r2,r3,r4⟩:=hm.UG k2;have hr:=r1.range hn;have hs:=hI.sz;have Nj:=(b7 s).1 hs;obtain ⟨q1,q2,q3⟩:=hI.dU.E4;have k1:m.Kind≠1:=by omega
 have k3:m.Kind≠3:=by omega
 have k4:m.Kind≠4:=by omega
 have p1:=BU hI.acc hI.acc.E4 m.bM;have a1:=wb hI.dU q1 m.bM;obtain ⟨b1,b2⟩:=K5 n.L m.bM;have KX:tw m.bM:=⟨hr.1,by omega,by omega,r4⟩
 have hAS:=hI.zM;have Gb:=hI.acc.jA.inc;have V9: ∀e∈(cL n.A.bT.L m.bM).1,X=some e.Value:=by
  intro e he;rcases uS Gb he with q|⟨q,_⟩
  ·exact h.vot e q
  ·rw [q];exact r3
 have hvw:=Bb hI.acc (v:=m.bM) (by rw [hAS];exact hr.2) (by rw [r2,h.view]);have hvh: ∀y∈hd++[m],y.Kind=2-> ∃e∈(cL n.A.bT.L m.bM).1,e.By=y.bM.By/\e.View=v:=by
  intro y hy ky;rcases sh.1 hy with hy|hy
  ·exact ND Gb r2 (h.Sk y hy ky)
  ·rw [cV.1 hy];obtain ⟨e,he,h1,h2⟩:=Sh Gb KX λe he _=>by have:=(hI.acc.all e he).2;rw [this,r2,h.view];exact No _
   exact ⟨e,he,h1,by rw [h2,r2]⟩
 have an3:(∀j:Nat,bad[j]? =some false-> ∃y∈hd++[m],y.Kind=2/\y.bM.By=(j:Int))->(jq n.A.S (cL n.A.bT.L m.bM).1).2=true:=by
  intro q;have XU:(su bad).length<=wJ (cL n.A.bT.L m.bM).1 v m.bM.Value:=NF λj hj=>by obtain ⟨y,hy,ky,kb⟩:=q j hj;obtain ⟨e,he,h1,h2⟩:=hvh y hy ky;refine ⟨e,he,by rw [h1,kb],h2,?_⟩;have:=V9 e he;rw [r3] at this;exact (AT this).symm
  obtain ⟨y,hy,ky,kb⟩:=q i hig;obtain ⟨e,he,h1,h2⟩:=hvh y hy ky;have K7:e.Value=m.bM.Value:=by have:=V9 e he;rw [r3] at this;exact (AT this).symm
  obtain ⟨z,hz⟩:=Si (b6:=2 *n.A.S.F+n.A.S.T+1) he (by rw [hAS];omega) (by rw [h2,K7,hAS];omega);unfold jq;rw [hz]
 have hA:(dp n.A m.bM).1.View=v/\(dp n.A m.bM).1.Has=n.A.Has/\(dp n.A m.bM).1.At=n.A.At/\(dp n.A m.bM).1.bT.L=(cL n.A.bT.L m.bM).1/\ (((dp n.A m.bM).2.2=false/\(dp n.A m.bM).1.Proof=n.A.Proof/\((jq n.A.S (cL n.A.bT.L m.bM).1).2=true->v<=(mB n.A.Proof).1))\/ ((dp n.A m.bM).2.2=true/\(dp n.A m.bM).1.Proof=(dp n.A m.bM).2.1/\ ¬v<=(mB n.A.Proof).1/\uN s (dp n.A m.bM).2.1/\(mB (dp n.A m.bM).2.1).1=v/\X=some (mB (dp n.A m.bM).2.1).2.1)):=by
  unfold dp;rw [if_neg (by rw [hAS,r2,h.view];exact λc=>c.elim (λc=>by omega) (λc=>c rfl))];by_cases c: ¬tw m.bM\/(jq n.A.S (cL n.A.bT.L m.bM).1).2=false\/n.A.View<=(mB n.A.Proof).1
  ·rw [if_pos c];refine ⟨h.view,rfl,rfl,rfl,.inl ⟨rfl,rfl,λq=> ?_⟩⟩;rcases c with c|c|c
   ·exact absurd KX c
   ·rw [c] at q;cases q
   ·rw [h.view] at c;exact c
  ·rw [if_neg c];have hmk:(jq n.A.S (cL n.A.bT.L m.bM).1).2=true:=by
    cases hq:(jq n.A.S (cL n.A.bT.L m.bM).1).2 with
    |true=>rfl
    |false=>exact absurd (.inr (.inl hq)) c
   obtain ⟨U5,an4⟩:=Us hI.acc (v:=m.bM) (by rw [hAS];exact hr.2) (by rw [r2,h.view]) hmk;have hrp:=vY hI.acc.sz (oW hI.acc.jA) (λe he=>(hvw e he).1) hmk;refine ⟨h.view,rfl,rfl,rfl,.inr ⟨rfl,rfl,λq=>c (.inr (.inr (by rw [h.view];exact q))),?_,?_,?_⟩⟩
   ·show uN s (jq n.A.S (cL n.A.bT.L m.bM).1).1;rw [hAS] at hrp⊢;exact hrp
   ·rw [KE U5,an4,h.view]
   ·have kG:=xE (List.getElem_mem U5);have:=V9 _ kG;rw [this];congr 1;generalize (jq n.A.S (cL n.A.bT.L m.bM).1).1=p at U5;cases p with
    |nil=>simp at U5
    |cons e p=>rfl
 obtain ⟨A1,A2,A3,A4,A5⟩:=hA;generalize hN:(dp n.A m.bM).1=A' at A1 A2 A3 A4 A5;generalize hp:(dp n.A m.bM).2.1=p at A5;have hln: ∀out:List ai,(v<=(mB A'.Proof).1-> ∃y∈P++out,y.Kind=3/\y.cN=(i:Int))->((∀j:Nat,bad[j]? =some false-> ∃y∈hd++[m],y.Kind=2/\y.bM.By=(j:Int))->v<=(mB A'.Proof).1)-> LN s bad v X (hd++[m]) (P++out) i ⟨A',b8 n.L m.bM,n.dq,n.et⟩:=by
  intro out g1 g2;refine ⟨A1,λq=>by rw [A2,A3];exact h.UT λy hy=>q y (AI _ hy),λq=> ?_,by rw [A4];exact V9,λy hy ky=>by rw [A4];exact hvh y hy ky,g1,g2,by rw [b1];exact h.Hf,λq y hy ky=> ?_,λq=>b2 (h.don λj hj=>jZ (q j hj) λc=>k3 c.1),λq y hy ky=> ?_,h.CG⟩
  ·obtain ⟨y,h1,h2⟩:=h.Sj (jZ q k1);exact ⟨y,AI _ h1,h2⟩
  ·rw [b1];have hd0:n.L.bw=false:=by
    cases hq:n.L.bw with
    |false=>rfl
    |true=>have q:(b8 n.L m.bM).bw=false:=q;rw [b2 hq] at q;cases q
   rcases sh.1 hy with hy|hy
   ·exact h.cH hd0 y hy ky
   ·rw [cV.1 hy] at ky;exact absurd ky k3
  ·rcases sh.1 hy with hy|hy
   ·exact h.Bg q y hy ky
   ·rw [cV.1 hy] at ky;exact absurd ky k4
 rcases A5 with ⟨c1,c2,c3⟩|⟨c1,c2,c3,c4,c5,c6⟩
 ·refine ⟨_,?_,sv.fin (n':=⟨A',b8 n.L m.bM,n.dq,n.et⟩) (out:=[]) ?_ (by simp) ?_ b2 rfl⟩
  ·unfold bq;rw [if_neg k1,if_pos k2,p1];simp only [au,c1,if_false,OF,a1,hN];rw [jY _ _ _ (by simp)];rfl
  ·refine hln [] (λq=> ?_) λq=>by rw [c2];exact c3 (an3 q)
   rw [c2] at q;obtain ⟨y,h1,h2⟩:=h.sL q;exact ⟨y,AI _ h1,h2⟩
  ·simp only [K3,List.length_nil,A2,A3,c2];omega
 ·refine ⟨_,?_,sv.fin (n':=⟨A',b8 n.L m.bM,n.dq,n.et⟩) (out:=[yT (i:Int) p]) ?_ ?_ ?_ b2 rfl⟩
  ·unfold bq;rw [if_neg k1,if_pos k2,p1];simp only [au,c1,if_true];rw [if_pos (by simp)];simp only [au,a1,hN,hp];rw [jY _ _ _ (by simp)];rfl
  ·exact hln _ (λ_=>⟨yT (i:Int) p,BY _ (by simp),rfl,rfl⟩) λ_=>by rw [c2,c5];exact No _
  ·intro y hy;rw [cV.1 hy];exact ⟨λk=>by simp [yT] at k,λk=>by simp [yT] at k,λ_=>⟨⟨i,rfl,hig⟩,c4,c5,c6⟩,λk=>by simp [yT] at k⟩
  ·simp only [K3,IT,A2,A3,c2,c5];rw [if_neg c3,if_pos (No _)];omega
theorem acO (hI:dP s (i:Int) n k)(hk:k<=1000000)(hv:0<v/\v<=100000)(hn:(bad.length:Int)=kz s)(hG:2 *s.F+s.T+1<=((su bad).length:Int))(hig:bad[i]? =some false)(h:LN s bad v X hd P i n)(qB:qq m)(hm:PM s bad v X m)(k3:m.Kind=3): ∃x,bq s (i:Int) n m=some x/\sv s bad v X hd P i n m x:=by
 obtain ⟨r1,r2,r3,r4⟩:=hm.sL k3;have hr:=r1.range hn;have hs:=hI.sz;have Nj:=(b7 s).1 hs;obtain ⟨q1,q2,q3⟩:=hI.dU.E4;have k1:m.Kind≠1:=by omega
 have k2:m.Kind≠2:=by omega
 have k4:m.Kind≠4:=by omega
 have a1:=yS hI.dU q2 m.cN m.Proof (by have:=qB.proof;omega);have hLS:=hI.qp;obtain ⟨e0,p0,zN⟩: ∃e p,m.Proof=e::p:=by
  cases hq:m.Proof with
  |nil=>have:=r2.len;rw [hq] at this;simp at this;omega
  |cons e p=>exact ⟨e,p,rfl⟩
 rw [zN] at r3 r4;have r3:e0.View=v:=r3;have r4:X=some e0.Value:=r4;have KX:tw ⟨m.cN,e0.View,e0.Value⟩:=by obtain ⟨t1,t2,t3,t4⟩:=r2.jA.all e0 (by rw [zN];simp);exact ⟨hr.1,t2,t3,t4⟩
 have hC:fa n.L m.cN m.Proof=if n.L.bw=true then n.L else dS ⟨n.L.S,n.L.aY,⟨(cL n.L.aR.L ⟨m.cN,e0.View,e0.Value⟩).1⟩,n.L.Told,n.L.bw,n.L.Value⟩ (cL n.L.aR.L ⟨m.cN,e0.View,e0.Value⟩).1 (2 *n.L.S.F+n.L.S.T+1):=by
  unfold fa;rw [if_pos (by rw [hLS];exact r2),zN];dsimp only;by_cases PD:n.L.bw=true
  ·rw [if_pos (.inl PD),if_pos PD]
  ·rw [if_neg (λc=>c.elim PD λc=>c.elim (λc=>by rw [hLS] at c;have c:kz s<=m.cN:=c;omega) λc=>c KX),if_neg PD]
 have Gb:=hI.dU.sL.2.inc;have Wa:bq s (i:Int) n m=some (⟨n.A,fa n.L m.cN m.Proof,n.dq,n.et⟩,lG (i:Int) n.L.bw ⟨n.A,fa n.L m.cN m.Proof,n.dq,n.et⟩ []):=by unfold bq;rw [if_neg k1,if_neg k2,if_pos k3,a1];simp only [au];rw [jY _ _ _ (by simp)];rfl
 refine ⟨_,Wa,?_⟩;have agW: ∀L':ar,(∀e∈L'.aR.L,isG bad e.By->e.View<=v/\(e.View=v->X=some e.Value))->(L'.bw=false-> ∀y∈hd++[m],y.Kind=3-> ∃e∈L'.aR.L,e.By=y.cN/\e.View=v)-> ((∀j:Nat,bad[j]? =some false-> ∃y∈hd++[m],y.Kind=3/\y.cN=(j:Int))->L'.bw=true)->LN s bad v X (hd++[m]) (P++[]) i ⟨n.A,L',n.dq,n.et⟩:=by
  intro L' g1 g2 g3;rw [aau];refine ⟨h.view,λq=>h.UT λy hy=>q y (AI _ hy),λq=>h.Sj (jZ q k1),h.vot,λy hy ky=> ?_,h.sL,λq=>h.Sl λj hj=>jZ (q j hj) λc=>k2 c.1,g1,g2,g3,λq y hy ky=> ?_,h.CG⟩
  ·rcases sh.1 hy with hy|hy
   ·exact h.Sk y hy ky
   ·rw [cV.1 hy] at ky;exact absurd ky k2
  ·rcases sh.1 hy with hy|hy
   ·exact h.Bg q y hy ky
   ·rw [cV.1 hy] at ky;exact absurd ky k4
 by_cases PD:n.L.bw=true
 ·rw [hC,if_pos PD];exact sv.fin (agW n.L h.Hf (λq=>by rw [PD] at q;cases q) λ_=>PD) (by simp) (by simp [K3]) id rfl
 ·have hd0:n.L.bw=false:=by simpa using PD
  rw [hC,if_neg PD];generalize hCm:(cL n.L.aR.L ⟨m.cN,e0.View,e0.Value⟩).1=C;obtain ⟨t1,t2,t3⟩:=rf ⟨n.L.S,n.L.aY,⟨C⟩,n.L.Told,n.L.bw,n.L.Value⟩ C (2 *n.L.S.F+n.L.S.T+1);have an5: ∀e∈C,isG bad e.By->e.View<=v/\(e.View=v->X=some e.Value):=by
   intro e he hg;rw [<-hCm] at he;rcases uS Gb he with q|⟨q,_⟩
   ·exact h.Hf e q hg
   ·rw [q];exact ⟨by rw [r3];exact No _,λ_=>r4⟩
  have hcH: ∀y∈hd++[m],y.Kind=3-> ∃e∈C,e.By=y.cN/\e.View=v:=by
   intro y hy ky;rw [<-hCm];rcases sh.1 hy with hy|hy
   ·exact ND Gb r3 (h.cH hd0 y hy ky)
   ·rw [cV.1 hy];obtain ⟨e,he,h1,h2⟩:=Sh Gb KX λe he hb=>by have hb:e.By=m.cN:=hb;have:=(h.Hf e he (by rw [hb];exact r1)).1;show e.View<=e0.View;omega
    exact ⟨e,he,h1,by rw [h2];exact r3⟩
  refine sv.fin (agW _ (by rw [t2];exact an5) (λ_ y hy ky=>by rw [t2];exact hcH y hy ky) λq=> ?_) (by simp) (by simp [K3]) (λq=>by rw [hd0] at q;cases q) rfl;have ya: ∀e∈C,isG bad e.By->e.View=v->e.Value=e0.Value:=λe he hg hw=>by have:=(an5 e he hg).2 hw;rw [r4] at this;exact (AT this).symm
  have XU:(su bad).length<=wJ C v e0.Value:=NF λj hj=>by obtain ⟨y,hy,ky,kf⟩:=q j hj;obtain ⟨e,he,h1,h2⟩:=hcH y hy ky;exact ⟨e,he,by rw [h1,kf],h2,ya e he ⟨j,by rw [h1,kf],hj⟩ h2⟩
  obtain ⟨y,hy,ky,kf⟩:=q i hig;obtain ⟨e,he,h1,h2⟩:=hcH y hy ky;obtain ⟨z,hz⟩:=Si (b6:=2 *n.L.S.F+n.L.S.T+1) he (by rw [hLS];omega) (by rw [h2,ya e he ⟨i,by rw [h1,kf],hig⟩ h2,hLS];omega);unfold dS;rw [hz]
theorem acP (hI:dP s (i:Int) n k)(hk:k<=1000000)(hv:0<v/\v<=100000)(hn:(bad.length:Int)=kz s)(hG:2 *s.F+s.T+1<=((su bad).length:Int))(hig:bad[i]? =some false)(h:LN s bad v X hd P i n)(qB:qq m)(hm:PM s bad v X m): ∃x,bq s (i:Int) n m=some x/\sv s bad v X hd P i n m x:=by
 by_cases k1:m.Kind=1
 ·exact Ys hI hk hv.1 hig h qB hm k1
 by_cases k2:m.Kind=2
 ·exact Yt hI hk hv hn hG hig h qB hm k2
 by_cases k3:m.Kind=3
 ·exact acO hI hk hv hn hG hig h qB hm k3
 by_cases k4:m.Kind=4
 ·exact acM hI hk h qB hm k4
 exact UU hI hk h k1 k2 k3 k4
end
end Dn.S
