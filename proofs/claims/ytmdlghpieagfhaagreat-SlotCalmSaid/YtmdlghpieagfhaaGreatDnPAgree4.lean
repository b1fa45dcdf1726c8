import Derived.Test.YtmdlghpieagfhaaGreatDnPAgree3
/- What a node's act adds to what good ones said. Conditions: none. -/
set_option linter.unusedVariables false
set_option linter.unusedSimpArgs false
open Int renaming le_refl→cV
open Go Dn
namespace Dn.S
def yX (F T:Nat)(bad:List Bool)(g:Gh)(i:Int)(x:ao×List ai):Prop:= ∃g',g.le g'/\Gh.own i g g'/\tD F T bad g'/\sr bad g' i x.1/\ ∀y∈x.2,L8 bad g' y
theorem yX.from {F T:Nat}{bad:List Bool}{g g1:Gh}{i:Int}{x:ao×List ai}(h:yX F T bad g1 i x)(hl:g.le g1)(ho:Gh.own i g g1):yX F T bad g i x:=by obtain ⟨g',h1,h2,h3⟩:=h;exact ⟨g',hl.trans h1,ho.trans h2,h3⟩
theorem yY {F T:Nat}{bad:List Bool}{g:Gh}{i:Int}{n:ao}{out:List ai}(h:tD F T bad g)(hn:agT bad g i n)(hd:n.L.bw=true->g.L n.L.Value\/ ∃v,oX F T bad g.V g.C v n.L.Value)(hm: ∀y∈out,L8 bad g y)(EQ:Bool):yX F T bad g i (n,lG i EQ n out):=by
 have hx:n.L.bw=true-> ∃v,oX F T bad g.V g.C v n.L.Value:=λq=>(hd q).elim (h.yW _) id;have hle:g.le {g with L:=λy=>g.L y\/(n.L.bw=true/\y=n.L.Value)}:=⟨λ_ q=>q,λ_ q=>q,λ_ q=>q,λ_=> .inl⟩
 refine ⟨_,hle,⟨λ_ q=> .inl q,λ_ q=> .inl q,λ_ q=> .inl q⟩,h.asE hx,⟨⟨hn.YN,hn.V2,hn.Hf,hn.V3,hn.jA,hn.proof,hn.Bg,hn.acc,hn.sL,λe he=>(hn.told e he).imp id .inl⟩,λq=> .inr ⟨q,rfl⟩⟩,?_⟩;intro y hy;unfold lG at hy;split at hy
 ·rename_i hc;simp only [Bool.and_eq_true] at hc;rcases List.mem_append.1 hy with hy|hy
  ·exact (hm y hy).mono hle
  ·rw [List.mem_singleton.1 hy];exact ⟨λk=>by simp [Bf] at k,λk=>by simp [Bf] at k,λk=>by simp [Bf] at k,λk=>by simp [Bf] at k,λ_=> .inr (.inr ⟨hc.1,rfl⟩)⟩
 ·exact (hm y hy).mono hle
structure uW (F T:Nat) (bad:List Bool) (g:Gh) (l:ar):Prop where
 acc:Real bad g.V l.aY.L
 sL:Real bad g.C l.aR.L
 told: ∀e∈l.Told.L,L7 bad e.By\/g.L e.Value
 done:l.bw=true->g.L l.Value\/ ∃v,oX F T bad g.V g.C v l.Value
theorem sr.dU {F T:Nat}{bad:List Bool}{g:Gh}{i:Int}{n:ao}(h:sr bad g i n):uW F T bad g n.L:=⟨h.acc,h.sL,h.told,λq=> .inl (h.done q)⟩
theorem UP {F T:Nat}{bad:List Bool}{g:Gh}{s:ae}{l:ar}(hF:s.F=F)(hT:s.T=T)(hn:(bad.length:Int)=kz s)(hr:lZ l)(hs:l.S=s)(h:uW F T bad g l){a:aa}(ha:L7 bad a.By\/g.V a):uW F T bad g (b8 l a):=by
 unfold b8;by_cases hd:lF l a
 ·rw [if_pos hd];exact h
 ·rw [if_neg hd];obtain ⟨h0,h1,h2⟩:=fY hd;have hw:=tY hr.acc h1 h2.2.2.1;have Sw:Real bad g.V (cL l.aY.L a).1:=λe he=>by
   rcases uS hr.acc.2.inc he with q|⟨q,_⟩
   ·exact h.acc e q
   ·rw [q];exact ha
  obtain ⟨t1,t2,t3⟩:=rf ⟨l.S,⟨(cL l.aY.L a).1⟩,l.aR,l.Told,l.bw,l.Value⟩ (cL l.aY.L a).1 (3 *l.S.F+l.S.T+1);refine ⟨by rw [t1];exact Sw,by rw [t2];exact h.sL,by rw [t3];exact h.told,λq=> .inr ?_⟩;obtain ⟨v,hv⟩:=Bi (l:=⟨l.S,⟨(cL l.aY.L a).1⟩,l.aR,l.Told,l.bw,l.Value⟩) (b6:=3 *l.S.F+l.S.T+1) (V:=g.V) h0 hw.2 (K1 (by rw [hs];exact hn) hw) Sw q;exact ⟨v,.inl (hv.le (by rw [hs];omega))⟩
theorem ajr {F T:Nat}{bad:List Bool}{g:Gh}{s:ae}{l:ar}(hF:s.F=F)(hf:bad.countP id<=F)(hn:(bad.length:Int)=kz s)(hr:lZ l)(hs:l.S=s)(h:uW F T bad g l){b:Int}{x:List UInt8}(ha:L7 bad b\/g.L x):uW F T bad g (uR l b x):=by
 unfold uR;by_cases hd:lF l ⟨b,0,x⟩
 ·rw [if_pos hd];exact h
 ·rw [if_neg hd];obtain ⟨h0,h1,h2⟩:=fY hd;have hw:=tY (a:=⟨b,0,x⟩) hr.told h1 (cV 0);have Sw:Real bad (λe=>g.L e.Value) (cL l.Told.L ⟨b,0,x⟩).1:=λe he=>by
   rcases uS hr.told.2.inc he with q|⟨q,_⟩
   ·exact h.told e q
   ·rw [q];exact ha
  obtain ⟨t1,t2,t3⟩:=rf ⟨l.S,l.aY,l.aR,⟨(cL l.Told.L ⟨b,0,x⟩).1⟩,l.bw,l.Value⟩ (cL l.Told.L ⟨b,0,x⟩).1 (l.S.F+1);refine ⟨by rw [t1];exact h.acc,by rw [t2];exact h.sL,by rw [t3];exact Sw,λq=> .inl ?_⟩;obtain ⟨v,hv⟩:=Bi (l:=⟨l.S,l.aY,l.aR,⟨(cL l.Told.L ⟨b,0,x⟩).1⟩,l.bw,l.Value⟩) (b6:=l.S.F+1) (V:=λe=>g.L e.Value) h0 hw.2 (K1 (by rw [hs];exact hn) hw) Sw q;obtain ⟨_,_,_,hg⟩:=hv.L2 hf (by rw [hs];omega);exact hg
theorem Sc {F T:Nat}{bad:List Bool}{g:Gh}{s:ae}{l:ar}(hF:s.F=F)(hT:s.T=T)(hn:(bad.length:Int)=kz s)(hr:lZ l)(hs:l.S=s)(h:uW F T bad g l){b:Int}{p:List aa}(ha:L7 bad b\/g.C ⟨b,(mB p).1,(mB p).2.1⟩):uW F T bad g (fa l b p):=by
 unfold fa;split;rotate_left
 ·exact h
 cases p with
 |nil=>exact h
 |cons y p=>
 dsimp only;have ha:L7 bad b\/g.C ⟨b,y.View,y.Value⟩:=ha;by_cases hd:lF l ⟨b,y.View,y.Value⟩
 ·rw [if_pos hd];exact h
 ·rw [if_neg hd];obtain ⟨h0,h1,h2⟩:=fY hd;have hw:=tY (a:=⟨b,y.View,y.Value⟩) hr.sL h1 h2.2.2.1;have Sw:Real bad g.C (cL l.aR.L ⟨b,y.View,y.Value⟩).1:=λe he=>by
   rcases uS hr.sL.2.inc he with q|⟨q,_⟩
   ·exact h.sL e q
   ·rw [q];exact ha
  obtain ⟨t1,t2,t3⟩:=rf ⟨l.S,l.aY,⟨(cL l.aR.L ⟨b,y.View,y.Value⟩).1⟩,l.Told,l.bw,l.Value⟩ (cL l.aR.L ⟨b,y.View,y.Value⟩).1 (2 *l.S.F+l.S.T+1);refine ⟨by rw [t1];exact h.acc,by rw [t2];exact Sw,by rw [t3];exact h.told,λq=> .inr ?_⟩;obtain ⟨v,hv⟩:=Bi (l:=⟨l.S,l.aY,⟨(cL l.aR.L ⟨b,y.View,y.Value⟩).1⟩,l.Told,l.bw,l.Value⟩) (b6:=2 *l.S.F+l.S.T+1) (V:=g.C) h0 hw.2 (K1 (by rw [hs];exact hn) hw) Sw q;exact ⟨v,.inr (hv.le (by rw [hs];omega))⟩
theorem Yj {F T:Nat}{bad:List Bool}{g:Gh}{s:ae}{i:Int}{n:ao}{k:Nat}(hF:s.F=F)(hT:s.T=T)(hn:(bad.length:Int)=kz s)(hi:dP s i n k)(h:tD F T bad g)(hg:sr bad g i n){v:Int}{x:List UInt8}{gJ:List ab}{ok:Bool}(hp: ∀r∈gJ,r.Proof.length<2^32)(hl:gJ.length<2^32)(hc: ∀r∈gJ,(L7 bad r.By\/g.R r)/\Real bad g.V r.Proof)(Qp:ok=true->Np n.A v x/\(¬(v=0/\gJ=[])->cW n.A.S v gJ x=some true))(EQ:Bool): yX F T bad g i (⟨(bU n.A v x ok).1,n.L,n.dq,n.et⟩,lG i EQ ⟨(bU n.A v x ok).1,n.L,n.dq,n.et⟩ (if (bU n.A v x ok).2.2 then [pq (bU n.A v x ok).2.1] else [])):=by
 cases ok with
 |false=>exact yY h ⟨hg.YN,hg.V2,hg.Hf,hg.V3,hg.jA,hg.proof,hg.Bg,hg.acc,hg.sL,hg.told⟩ (λq=> .inl (hg.done q)) (by simp [bU]) EQ
 |true=>
  obtain ⟨⟨f1,f2,f3⟩,hv⟩:=Qp rfl;have cJ:n.A.Has=true->n.A.At<v:=λhh=>by have h1:=(hi.acc.jB.has hh).2.1;have h2:n.A.At≠v:=λe=>f2 ⟨hh,e⟩;omega
  have Lr:0<=v:=by rw [f1];exact hi.acc.jB.v0
  have hb:0<v->Ur F T bad g.V g.R v x:=λh0=>by have hq:=hv (λq=>by omega);rw [hi.zM] at hq;obtain ⟨q1,q2⟩:=UO hi.sz hp hl hq;exact afr hF hT hn hp q1 hc q2
  have h1:=h.cL (a:=⟨i,v,x⟩) Lr (λb u6 qx=>by obtain ⟨q1,q2⟩:=hg.V2 b u6 qx;have:=cJ q1;show b.View<v;omega) (λr hr qx=>by have:=hg.V3 r hr qx;show r.fS<=v;omega) hb;refine yX.from (i:=i) (g1:={g with V:=λb=>g.V b\/b=⟨i,v,x⟩}) (yY (i:=i) (n:=⟨(bU n.A v x true).1,n.L,n.dq,n.et⟩) (out:=if (bU n.A v x true).2.2 then [pq (bU n.A v x true).2.1] else []) h1 ?_ (λq=> .inl (hg.done q)) ?_ EQ) ⟨λ_=> .inl,λ_ q=>q,λ_ q=>q,λ_ q=>q⟩ ⟨λa q=>q.imp id (λe=>by rw [e]),λ_ q=> .inl q,λ_ q=> .inl q⟩
  ·refine ⟨λ_=> .inr (by simp [bU]),?_,hg.Hf,hg.V3,hg.jA.mono λ_=> .inl,hg.proof.mono λ_=> .inl,λr hr=>⟨(hg.Bg r hr).1,(hg.Bg r hr).2.mono λ_=> .inl⟩,hg.acc.mono λ_=> .inl,hg.sL,hg.told⟩;rintro a (ha|rfl) qx
   ·obtain ⟨q1,q2⟩:=hg.V2 a ha qx;have:=cJ q1;exact ⟨rfl,by show a.View<=v;omega⟩
   ·exact ⟨rfl,cV _⟩
  ·intro y hy;have:y=pq ⟨n.A.Me,v,x⟩:=by simpa [bU] using hy
   subst this;exact ⟨λk=>by simp [pq] at k,λ_=> .inr (.inr (by simp [pq,hi.sq])),λk=>by simp [pq] at k,λk=>by simp [pq] at k,λk=>by simp [pq] at k⟩
end Dn.S
