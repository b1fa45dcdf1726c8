import Derived.Test.YtmdlghpieagfhaaGreatDnPAgree3
/-
  What a node's act adds to what good ones said. Conditions: none.
-/
set_option linter.unusedVariables false
set_option linter.unusedSimpArgs false
open Int renaming le_refl→cM
open Go Dn
namespace Dn.S
def xn (F T:Nat)(bad:List Bool)(g:Gh)(i:Int)(x:ar×List al):Prop:= ∃g',g.le g'/\Gh.own i g g'/\tj F T bad g'/\sa bad g' i x.1/\ ∀y∈x.2,LB bad g' y
theorem xn.from {F T:Nat}{bad:List Bool}{g g1:Gh}{i:Int}{x:ar×List al}(h:xn F T bad g1 i x)(hl:g.le g1)(ho:Gh.own i g g1):xn F T bad g i x:=by obtain ⟨g',h1,h2,h3⟩:=h;exact ⟨g',hl.trans h1,ho.trans h2,h3⟩
theorem yC {F T:Nat}{bad:List Bool}{g:Gh}{i:Int}{n:ar}{out:List al}(h:tj F T bad g)(hn:af7 bad g i n)(hd:n.L.bQ=true->g.L n.L.Value\/ ∃v,oN F T bad g.V g.C v n.L.Value)(hm: ∀y∈out,LB bad g y)(Et:Bool):xn F T bad g i (n,nA i Et n out):=by
 have hx:n.L.bQ=true-> ∃v,oN F T bad g.V g.C v n.L.Value:=λq=>(hd q).elim (h.yB _) id;have hle:g.le {g with L:=λy=>g.L y\/(n.L.bQ=true/\y=n.L.Value)}:=⟨λ_ q=>q,λ_ q=>q,λ_ q=>q,λ_=> .inl⟩
 refine ⟨_,hle,⟨λ_ q=> .inl q,λ_ q=> .inl q,λ_ q=> .inl q⟩,h.arV hx,⟨⟨hn.X6,hn.Vw,hn.XI,hn.Vx,hn.ll,hn.proof,hn.Hf,hn.acc,hn.zk,λe he=>(hn.told e he).imp id .inl⟩,λq=> .inr ⟨q,rfl⟩⟩,?_⟩;intro y hy;unfold nA at hy;split at hy
 ·rename_i hc;simp only [Bool.and_eq_true] at hc;rcases List.mem_append.1 hy with hy|hy
  ·exact (hm y hy).mono hle
  ·rw [List.mem_singleton.1 hy];exact ⟨λk=>by simp [He] at k,λk=>by simp [He] at k,λk=>by simp [He] at k,λk=>by simp [He] at k,λ_=> .inr (.inr ⟨hc.1,rfl⟩)⟩
 ·exact (hm y hy).mono hle
structure uK (F T:Nat) (bad:List Bool) (g:Gh) (l:aq):Prop where
 acc:Real bad g.V l.aY.L
 zk:Real bad g.C l.bn.L
 told: ∀e∈l.Told.L,M8 bad e.By\/g.L e.Value
 done:l.bQ=true->g.L l.Value\/ ∃v,oN F T bad g.V g.C v l.Value
theorem sa.eP {F T:Nat}{bad:List Bool}{g:Gh}{i:Int}{n:ar}(h:sa bad g i n):uK F T bad g n.L:=⟨h.acc,h.zk,h.told,λq=> .inl (h.done q)⟩
theorem Uf {F T:Nat}{bad:List Bool}{g:Gh}{s:ae}{l:aq}(hF:s.F=F)(hT:s.T=T)(hn:(bad.length:Int)=mS s)(hr:lN l)(hs:l.S=s)(h:uK F T bad g l){a:aa}(ha:M8 bad a.By\/g.V a):uK F T bad g (da l a):=by
 unfold da;by_cases hd:mP l a
 ·rw [if_pos hd];exact h
 ·rw [if_neg hd];obtain ⟨h0,h1,h2⟩:=jx hd;have hw:=tI hr.acc h1 h2.2.2.1;have RS:Real bad g.V (dV l.aY.L a).1:=λe he=>by
   rcases AN hr.acc.2.inc he with q|⟨q,_⟩
   ·exact h.acc e q
   ·rw [q];exact ha
  obtain ⟨t1,t2,t3⟩:=CZ ⟨l.S,⟨(dV l.aY.L a).1⟩,l.bn,l.Told,l.bQ,l.Value⟩ (dV l.aY.L a).1 (3 *l.S.F+l.S.T+1);refine ⟨by rw [t1];exact RS,by rw [t2];exact h.zk,by rw [t3];exact h.told,λq=> .inr ?_⟩;obtain ⟨v,hv⟩:=AQ (l:=⟨l.S,⟨(dV l.aY.L a).1⟩,l.bn,l.Told,l.bQ,l.Value⟩) (cg:=3 *l.S.F+l.S.T+1) (V:=g.V) h0 hw.2 (KD (by rw [hs];exact hn) hw) RS q;exact ⟨v,.inl (hv.le (by rw [hs];omega))⟩
theorem aiF {F T:Nat}{bad:List Bool}{g:Gh}{s:ae}{l:aq}(hF:s.F=F)(hf:bad.countP id<=F)(hn:(bad.length:Int)=mS s)(hr:lN l)(hs:l.S=s)(h:uK F T bad g l){b:Int}{x:List UInt8}(ha:M8 bad b\/g.L x):uK F T bad g (AM l b x):=by
 unfold AM;by_cases hd:mP l ⟨b,0,x⟩
 ·rw [if_pos hd];exact h
 ·rw [if_neg hd];obtain ⟨h0,h1,h2⟩:=jx hd;have hw:=tI (a:=⟨b,0,x⟩) hr.told h1 (cM 0);have RS:Real bad (λe=>g.L e.Value) (dV l.Told.L ⟨b,0,x⟩).1:=λe he=>by
   rcases AN hr.told.2.inc he with q|⟨q,_⟩
   ·exact h.told e q
   ·rw [q];exact ha
  obtain ⟨t1,t2,t3⟩:=CZ ⟨l.S,l.aY,l.bn,⟨(dV l.Told.L ⟨b,0,x⟩).1⟩,l.bQ,l.Value⟩ (dV l.Told.L ⟨b,0,x⟩).1 (l.S.F+1);refine ⟨by rw [t1];exact h.acc,by rw [t2];exact h.zk,by rw [t3];exact RS,λq=> .inl ?_⟩;obtain ⟨v,hv⟩:=AQ (l:=⟨l.S,l.aY,l.bn,⟨(dV l.Told.L ⟨b,0,x⟩).1⟩,l.bQ,l.Value⟩) (cg:=l.S.F+1) (V:=λe=>g.L e.Value) h0 hw.2 (KD (by rw [hs];exact hn) hw) RS q;obtain ⟨_,_,_,hg⟩:=hv.Lw hf (by rw [hs];omega);exact hg
theorem RJ {F T:Nat}{bad:List Bool}{g:Gh}{s:ae}{l:aq}(hF:s.F=F)(hT:s.T=T)(hn:(bad.length:Int)=mS s)(hr:lN l)(hs:l.S=s)(h:uK F T bad g l){b:Int}{p:List aa}(ha:M8 bad b\/g.C ⟨b,(rn p).1,(rn p).2.1⟩):uK F T bad g (jb l b p):=by
 unfold jb;split;rotate_left
 ·exact h
 cases p with
 |nil=>exact h
 |cons y p=>
 dsimp only;have ha:M8 bad b\/g.C ⟨b,y.View,y.Value⟩:=ha;by_cases hd:mP l ⟨b,y.View,y.Value⟩
 ·rw [if_pos hd];exact h
 ·rw [if_neg hd];obtain ⟨h0,h1,h2⟩:=jx hd;have hw:=tI (a:=⟨b,y.View,y.Value⟩) hr.zk h1 h2.2.2.1;have RS:Real bad g.C (dV l.bn.L ⟨b,y.View,y.Value⟩).1:=λe he=>by
   rcases AN hr.zk.2.inc he with q|⟨q,_⟩
   ·exact h.zk e q
   ·rw [q];exact ha
  obtain ⟨t1,t2,t3⟩:=CZ ⟨l.S,l.aY,⟨(dV l.bn.L ⟨b,y.View,y.Value⟩).1⟩,l.Told,l.bQ,l.Value⟩ (dV l.bn.L ⟨b,y.View,y.Value⟩).1 (2 *l.S.F+l.S.T+1);refine ⟨by rw [t1];exact h.acc,by rw [t2];exact RS,by rw [t3];exact h.told,λq=> .inr ?_⟩;obtain ⟨v,hv⟩:=AQ (l:=⟨l.S,l.aY,⟨(dV l.bn.L ⟨b,y.View,y.Value⟩).1⟩,l.Told,l.bQ,l.Value⟩) (cg:=2 *l.S.F+l.S.T+1) (V:=g.C) h0 hw.2 (KD (by rw [hs];exact hn) hw) RS q;exact ⟨v,.inr (hv.le (by rw [hs];omega))⟩
theorem XJ {F T:Nat}{bad:List Bool}{g:Gh}{s:ae}{i:Int}{n:ar}{k:Nat}(hF:s.F=F)(hT:s.T=T)(hn:(bad.length:Int)=mS s)(hi:gE s i n k)(h:tj F T bad g)(hg:sa bad g i n){v:Int}{x:List UInt8}{kQ:List ab}{ok:Bool}(hp: ∀r∈kQ,r.Proof.length<2^32)(hl:kQ.length<2^32)(hc: ∀r∈kQ,(M8 bad r.By\/g.R r)/\Real bad g.V r.Proof)(Pc:ok=true->Rn n.A v x/\(¬(v=0/\kQ=[])->fH n.A.S v kQ x=some true))(Et:Bool): xn F T bad g i (⟨(b8 n.A v x ok).1,n.L,n.eH,n.ir⟩,nA i Et ⟨(b8 n.A v x ok).1,n.L,n.eH,n.ir⟩ (if (b8 n.A v x ok).2.2 then [sC (b8 n.A v x ok).2.1] else [])):=by
 cases ok with
 |false=>exact yC h ⟨hg.X6,hg.Vw,hg.XI,hg.Vx,hg.ll,hg.proof,hg.Hf,hg.acc,hg.zk,hg.told⟩ (λq=> .inl (hg.done q)) (by simp [b8]) Et
 |true=>
  obtain ⟨⟨f1,f2,f3⟩,hv⟩:=Pc rfl;have cT:n.A.Has=true->n.A.At<v:=λhh=>by have h1:=(hi.acc.lm.has hh).2.1;have h2:n.A.At≠v:=λe=>f2 ⟨hh,e⟩;omega
  have PR:0<=v:=by rw [f1];exact hi.acc.lm.v0
  have hb:0<v->TQ F T bad g.V g.R v x:=λh0=>by have hq:=hv (λq=>by omega);rw [hi.CX] at hq;obtain ⟨q1,q2⟩:=Ue hi.sz hp hl hq;exact aeO hF hT hn hp q1 hc q2
  have h1:=h.dV (a:=⟨i,v,x⟩) PR (λb uO qV=>by obtain ⟨q1,q2⟩:=hg.Vw b uO qV;have:=cT q1;show b.View<v;omega) (λr hr qV=>by have:=hg.Vx r hr qV;show r.je<=v;omega) hb;refine xn.from (i:=i) (g1:={g with V:=λb=>g.V b\/b=⟨i,v,x⟩}) (yC (i:=i) (n:=⟨(b8 n.A v x true).1,n.L,n.eH,n.ir⟩) (out:=if (b8 n.A v x true).2.2 then [sC (b8 n.A v x true).2.1] else []) h1 ?_ (λq=> .inl (hg.done q)) ?_ Et) ⟨λ_=> .inl,λ_ q=>q,λ_ q=>q,λ_ q=>q⟩ ⟨λa q=>q.imp id (λe=>by rw [e]),λ_ q=> .inl q,λ_ q=> .inl q⟩
  ·refine ⟨λ_=> .inr (by simp [b8]),?_,hg.XI,hg.Vx,hg.ll.mono λ_=> .inl,hg.proof.mono λ_=> .inl,λr hr=>⟨(hg.Hf r hr).1,(hg.Hf r hr).2.mono λ_=> .inl⟩,hg.acc.mono λ_=> .inl,hg.zk,hg.told⟩;rintro a (ha|rfl) qV
   ·obtain ⟨q1,q2⟩:=hg.Vw a ha qV;have:=cT q1;exact ⟨rfl,by show a.View<=v;omega⟩
   ·exact ⟨rfl,cM _⟩
  ·intro y hy;have:y=sC ⟨n.A.Me,v,x⟩:=by simpa [b8] using hy
   subst this;exact ⟨λk=>by simp [sC] at k,λ_=> .inr (.inr (by simp [sC,hi.uH])),λk=>by simp [sC] at k,λk=>by simp [sC] at k,λk=>by simp [sC] at k⟩
end Dn.S
