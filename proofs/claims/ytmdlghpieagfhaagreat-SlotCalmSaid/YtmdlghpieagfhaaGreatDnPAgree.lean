import Derived.Test.YtmdlghpieagfhaaGreatDnPReport2
import Derived.Test.YtmdlghpieagfhaaGreatDnD
/- One value is chosen: what no program says. Conditions: none. -/
set_option linter.unusedVariables false
set_option linter.unusedSimpArgs false
open List renaming mem_filter→cV,mem_map→AI,length_map→AT,contains_iff_mem→BY,range→OF,mem_range→aau
open List.Pairwise renaming filter→sh
open Bool renaming not_eq_true'→IT,and_eq_true→No
open List.Sublist renaming map→aaJ
open Go Dn
namespace Dn.S
def wK (bad:List Bool)(b:Nat):Bool:=(bad[b]?).getD false
theorem aso (l:List Bool):l.countP id=((OF l.length).filter (wK l)).length:=by
 have:l=(OF l.length).map (wK l):=by
  apply List.ext_getElem
  ·simp
  ·intro i h1 h2;simp [wK,h1]
 conv=>lhs;rw [this]
 rw [List.countP_map,List.countP_eq_length_filter];rfl
theorem VS {bad:List Bool}{A:List Nat}(hn:A.Nodup)(hr: ∀b∈A,b<bad.length):(A.filter (wK bad)).length<=bad.countP id:=by rw [aso];refine o8 (sh _ hn) λi hi=> ?_;rw [cV] at hi⊢;exact ⟨aau.2 (hr i hi.1),hi.2⟩
theorem F6 {α:Type}(l:List α)(p:α->Bool):l.length=(l.filter p).length+(l.filter λx=>!p x).length:=by
 induction l with
 |nil=>rfl
 |cons a l ih=>cases h:p a<;>simp [h]<;>omega
def meet (bad:List Bool)(A B:List Nat):List Nat:=(A.filter λb=>B.contains b).filter λb=>!wK bad b
theorem RP {bad:List Bool}{A B:List Nat}{b:Nat}(h:b∈meet bad A B):b∈A/\b∈B/\wK bad b=false:=by unfold meet at h;simp only [cV,BY,IT] at h;exact ⟨h.1.1,h.1.2,h.2⟩
theorem Uq {bad:List Bool}{A B:List Nat}(h:A.Nodup):(meet bad A B).Nodup:=sh _ (sh _ h)
theorem RQ {bad:List Bool}{A B:List Nat}{F:Nat}(hF:bad.countP id<=F)(hA:A.Nodup)(hB:B.Nodup)(rA: ∀b∈A,b<bad.length)(rB: ∀b∈B,b<bad.length):A.length+B.length<=bad.length+F+(meet bad A B).length:=by
 have h1:=F6 A (λb=>B.contains b);have h2:=F6 (A.filter λb=>B.contains b) (wK bad);have h3:=VS (A:=A.filter λb=>B.contains b) (bad:=bad) (sh _ hA) (λb hb=>rA b (cV.1 hb).1);have h4:((A.filter λb=>!B.contains b)++B).length<=(OF bad.length).length:=by
  refine o8 (List.pairwise_append.2 ⟨sh _ hA,hB,λx hx y hy=> ?_⟩) λi hi=> ?_
  ·intro e;subst e;have:=(cV.1 hx).2;simp only [IT,<-Bool.not_eq_true,BY] at this;exact this hy
  ·rw [aau];rcases List.mem_append.1 hi with hi|hi
   ·exact rA i (cV.1 hi).1
   ·exact rB i hi
 rw [List.length_append,List.length_range] at h4;unfold meet;omega
theorem RR {bad:List Bool}{A B:List Nat}{F:Nat}(hF:bad.countP id<=F)(hA:A.Nodup)(hB:B.Nodup)(rA: ∀b∈A,b<bad.length)(rB: ∀b∈B,b<bad.length)(h:bad.length+F<A.length+B.length): ∃b,b∈A/\b∈B/\wK bad b=false:=by
 have:=RQ hF hA hB rA rB;cases hm:meet bad A B with
 |nil=>rw [hm] at this;simp at this;omega
 |cons b r=>exact ⟨b,RP (by rw [hm];simp)⟩
theorem Nk {bad:List Bool}{A:List Nat}{F:Nat}(hF:bad.countP id<=F)(hA:A.Nodup)(rA: ∀b∈A,b<bad.length)(h:F<A.length): ∃b∈A,wK bad b=false:=by
 have h1:=F6 A (wK bad);have h2:=VS hA rA;cases hm:A.filter λb=>!wK bad b with
 |nil=>rw [hm] at h1;simp at h1;omega
 |cons b r=>
  have:b∈A.filter λb=>!wK bad b:=by rw [hm];simp
  rw [cV] at this;exact ⟨b,this.1,by simpa using this.2⟩
def Pg (bad:List Bool)(V:aa->Prop)(n:Nat)(v:Int)(x:List UInt8):Prop:=∃A:List Nat,A.Nodup/\(∀b∈A,b<bad.length/\(wK bad b=true\/V ⟨(b:Int),v,x⟩))/\n<=A.length
theorem Pg.le {bad:List Bool}{V:aa->Prop}{n m:Nat}{v:Int}{x:List UInt8}(h:Pg bad V n v x)(hm:m<=n):Pg bad V m v x:=by obtain ⟨A,h1,h2,h3⟩:=h;exact ⟨A,h1,h2,by omega⟩
theorem Pg.mono {bad:List Bool}{V W:aa->Prop}{n:Nat}{v:Int}{x:List UInt8}(h:Pg bad V n v x)(hm: ∀a,V a->W a):Pg bad W n v x:=by obtain ⟨A,h1,h2,h3⟩:=h;exact ⟨A,h1,λb hb=>⟨(h2 b hb).1,(h2 b hb).2.imp id (hm _)⟩,h3⟩
theorem Pg.L2 {bad:List Bool}{V:aa->Prop}{n F:Nat}{v:Int}{x:List UInt8}(h:Pg bad V n v x)(hF:bad.countP id<=F)(hn:F<n): ∃b:Nat,b<bad.length/\wK bad b=false/\V ⟨(b:Int),v,x⟩:=by
 obtain ⟨A,h1,h2,h3⟩:=h;obtain ⟨b,hb,hg⟩:=Nk hF h1 (λb hb=>(h2 b hb).1) (by omega);refine ⟨b,(h2 b hb).1,hg,?_⟩;rcases (h2 b hb).2 with h|h
 ·rw [hg] at h;cases h
 ·exact h
def Ur (F T:Nat)(bad:List Bool)(V:aa->Prop)(R:ab->Prop)(w:Int)(x:List UInt8):Prop:=∃L:List ab,L.length=2 *F+2 *T+1/\(L.map λr=>r.By.toNat).Nodup/\ (∀r∈L,0<=r.By/\r.By.toNat<bad.length/\r.fS=w/\(wK bad r.By.toNat=true\/R r)/\(r.Has=true->r.View<w)/\(r.Proof≠[]->Pg bad V (2 *F+T+1) (mB r.Proof).1 (mB r.Proof).2.1/\(mB r.Proof).1<w))/\ ∃res,F5 ((F:Int)+T+1) L res/\(res.2=true->res.1=x)
structure ace (F T:Nat) (bad:List Bool) (V C:aa->Prop) (R:ab->Prop):Prop where
 E4:bad.countP id<=F
 size:bad.length=3 *F+2 *T+1
 acf: ∀a b,V a->V b->a.By=b.By->a.View=b.View->a.Value=b.Value
 v0: ∀a,V a->0<=a.View
 VT: ∀r a,R r->V a->a.By=r.By->a.View<r.fS->r.Has=true/\a.View<=r.View
 acg: ∀r,R r->r.Has=true->V ⟨r.By,r.View,r.Value⟩
 ae8: ∀r a,R r->C a->a.By=r.By->a.View<r.fS->a.View<=(mB r.Proof).1
 VU: ∀a,C a->Pg bad V (2 *F+T+1) a.View a.Value
 back: ∀a,V a->0<a.View->Ur F T bad V R a.View a.Value
def oX (F T:Nat)(bad:List Bool)(V C:aa->Prop)(v:Int)(x:List UInt8):Prop:=Pg bad V (3 *F+T+1) v x\/Pg bad C (2 *F+T+1) v x
theorem Nl {F T:Nat}{bad:List Bool}{V C:aa->Prop}{R:ab->Prop}(h:ace F T bad V C R){n m:Nat}{v:Int}{x y:List UInt8}(h1:Pg bad V n v x)(h2:Pg bad V m v y)(hn:bad.length+F<n+m):x=y:=by
 obtain ⟨A,a1,a2,a3⟩:=h1;obtain ⟨B,b1,b2,b3⟩:=h2;obtain ⟨b,hA,hB,hg⟩:=RR h.E4 a1 b1 (λb hb=>(a2 b hb).1) (λb hb=>(b2 b hb).1) (by omega);have g1:V ⟨(b:Int),v,x⟩:=by
  rcases (a2 b hA).2 with q|q
  ·rw [hg] at q;cases q
  ·exact q
 have g2:V ⟨(b:Int),v,y⟩:=by
  rcases (b2 b hB).2 with q|q
  ·rw [hg] at q;cases q
  ·exact q
 exact h.acf _ _ g1 g2 rfl rfl
theorem oX.Pj {F T:Nat}{bad:List Bool}{V C:aa->Prop}{R:ab->Prop}(h:ace F T bad V C R){v:Int}{x:List UInt8}(hc:oX F T bad V C v x):Pg bad V (2 *F+T+1) v x:=by
 rcases hc with hc|hc
 ·exact hc.le (by omega)
 ·obtain ⟨b,_,_,g⟩:=hc.L2 h.E4 (by omega);exact h.VU _ g
theorem XX (L:List ab): ∀b:Int×List UInt8,-1<=b.1->b.1<=(L.foldl nI b).1/\(∀r∈L,(mB r.Proof).1<=(L.foldl nI b).1)/\(L.foldl nI b=b\/ ∃r∈L,r.Proof≠[]/\L.foldl nI b=((mB r.Proof).1,(mB r.Proof).2.1)):=by
 induction L with
 |nil=>intro b _;exact ⟨Int.le_refl _,by simp,.inl rfl⟩
 |cons r L ih=>
  intro b hb;have Gk:b.1<=(nI b r).1/\(mB r.Proof).1<=(nI b r).1/\(nI b r=b\/(r.Proof≠[]/\nI b r=((mB r.Proof).1,(mB r.Proof).2.1))):=by
   unfold nI;cases hp:r.Proof with
   |nil=>simp [mB];omega
   |cons e q=>
    by_cases cJ:b.1<e.View
    ·simp [mB,cJ];omega
    ·simp [mB,cJ];omega
  obtain ⟨s1,s2,s3⟩:=Gk;obtain ⟨i1,i2,i3⟩:=ih (nI b r) (by omega);simp only [List.foldl_cons];refine ⟨by omega,?_,?_⟩
  ·intro q hq;rcases List.mem_cons.1 hq with rfl|hq
   ·omega
   ·exact i2 q hq
  ·rcases i3 with i3|⟨q,hq,i3⟩
   ·rw [i3];rcases s3 with s3|s3
    ·exact .inl s3
    ·exact .inr ⟨r,by simp,s3⟩
   ·exact .inr ⟨q,by simp [hq],i3⟩
theorem later {F T:Nat}{bad:List Bool}{V C:aa->Prop}{R:ab->Prop}(h:ace F T bad V C R){v:Int}{x:List UInt8}(hc:oX F T bad V C v x): ∀(n:Nat) (a:aa),V a->v<a.View->(a.View-v).toNat<=n->a.Value=x:=by
 have S5:=hc.Pj h;have Lr:0<=v:=by obtain ⟨b,_,_,g⟩:=S5.L2 h.E4 (by omega);exact h.v0 _ g
 intro n;induction n with
 |zero=>intro a _ h1 h2;omega
 |succ n ih=>
  intro a hV cJ hn;obtain ⟨L,l1,l2,l3,res,hb,po⟩:=h.back a hV (by omega);have ya: ∀(b:Int) (u:Int) (y:List UInt8),V ⟨b,u,y⟩->v<u->u<a.View->y=x:=λb u y hy h1 h2=>ih ⟨b,u,y⟩ hy h1 (by show (u-v).toNat<=n;omega);have ajg: ∀r∈L,r.Proof≠[]->v<=(mB r.Proof).1->(mB r.Proof).2.1=x:=by
   intro r hr hp hle;obtain ⟨q1,q2⟩:=(l3 r hr).2.2.2.2.2 hp;by_cases he:(mB r.Proof).1=v
   ·rw [he] at q1;exact (Nl h S5 q1 (by have:=h.size;omega)).symm
   ·obtain ⟨b,_,_,g⟩:=q1.L2 h.E4 (by omega);exact ya _ _ _ g (by omega) q2
  obtain ⟨t1,t2,t3⟩:=XX L (-1,[]) (by decide);have Ni: ∀r∈L,wK bad r.By.toNat=false->R r:=by
   intro r hr hg;rcases (l3 r hr).2.2.2.1 with q|q
   ·rw [hg] at q;cases q
   ·exact q
  have rL: ∀b∈L.map (λr=>r.By.toNat),b<bad.length:=by intro b hb;obtain ⟨r,hr,rfl⟩:=AI.1 hb;exact (l3 r hr).2.1
  have hLl:(L.map λr=>r.By.toNat).length=2 *F+2 *T+1:=by rw [AT];exact l1
  have XU:(L.length:Int)=2 *F+2 *T+1:=by omega
  change F5 ((F:Int)+T+1) L res at hb;have anM:pg L=L.foldl nI (-1,[]):=rfl;rw [<-anM] at t1 t2 t3;by_cases hbv:v<=(pg L).1
  ·have B2:(pg L).2=x:=by
    rcases t3 with t3|⟨r,hr,hp,t3⟩
    ·rw [t3] at hbv;simp at hbv;omega
    ·rw [t3] at hbv⊢;exact ajg r hr hp hbv
   rcases hb with ⟨y,q1,rfl⟩|⟨q1,rfl⟩
   ·have hy:=po rfl;simp only at hy;rw [<-hy];have hlen:F<((L.filter (A8 (pg L).1 y)).map λr=>r.By.toNat).length:=by rw [AT];have:(tz (pg L).1 L y:Int)=((L.filter (A8 (pg L).1 y)).length:Int):=rfl;omega
    obtain ⟨b,TT,hg⟩:=Nk h.E4 (List.Nodup.sublist (aaJ _ List.filter_sublist) l2) (λb hb=>by obtain ⟨r,hr,rfl⟩:=AI.1 hb;exact (l3 r (cV.1 hr).1).2.1) hlen;obtain ⟨r,hr,rfl⟩:=AI.1 TT;obtain ⟨hrL,hit⟩:=cV.1 hr;simp only [A8,No,decide_eq_true_eq] at hit;obtain ⟨i1,i2,i3⟩:=hit;have hR:=Ni r hrL hg;rw [<-i3];exact ya _ _ _ (h.acg r hR i1) (by omega) ((l3 r hrL).2.2.2.2.1 i1)
   ·have:=po (decide_eq_true (by omega));simp only at this;rw [<-this];exact B2
  ·rcases hc with hc|hc
   ·obtain ⟨A,a1,a2,a3⟩:=hc;have hml:=RQ h.E4 a1 l2 (λb hb=>(a2 b hb).1) rL;have iy:(meet bad A (L.map λr=>r.By.toNat)).length<=((L.filter (A8 (pg L).1 x)).map λr=>r.By.toNat).length:=by
     refine o8 (Uq a1) λb hb=> ?_;obtain ⟨hA,hB,hg⟩:=RP hb;obtain ⟨r,hr,rfl⟩:=AI.1 hB;refine AI.2 ⟨r,cV.2 ⟨hr,?_⟩,rfl⟩;have hR:=Ni r hr hg;have hV1:V ⟨((r.By.toNat:Nat):Int),v,x⟩:=by
      rcases (a2 _ hA).2 with q|q
      ·rw [hg] at q;cases q
      ·exact q
     have Du:((r.By.toNat:Nat):Int)=r.By:=by have:=(l3 r hr).1;omega
     rw [Du] at hV1;obtain ⟨g1,g2⟩:=h.VT r _ hR hV1 rfl (by rw [(l3 r hr).2.2.1];exact cJ);have g2:v<=r.View:=g2;have hV2:=h.acg r hR g1;have hx:r.Value=x:=by
      by_cases he:r.View=v
      ·exact h.acf _ _ hV2 hV1 rfl he
      ·exact ya _ _ _ hV2 (by omega) ((l3 r hr).2.2.2.2.1 g1)
     simp only [A8,No,decide_eq_true_eq];exact ⟨g1,by omega,hx⟩
    rw [AT] at iy;have hx:F+T+1<=tz (pg L).1 L x:=by have:tz (pg L).1 L x=(L.filter (A8 (pg L).1 x)).length:=rfl;have:=h.size;omega
    rcases hb with ⟨y,q1,rfl⟩|⟨q1,rfl⟩
    ·have hy:=po rfl;simp only at hy;rw [<-hy];refine Decidable.byContradiction λdi=> ?_;have:=RO (c:=(pg L).1) di L;omega
    ·have:=q1 x;omega
   ·exfalso;obtain ⟨A,a1,a2,a3⟩:=hc;obtain ⟨b,hA,hB,hg⟩:=RR h.E4 a1 l2 (λb hb=>(a2 b hb).1) rL (by have:=h.size;omega);obtain ⟨r,hr,rfl⟩:=AI.1 hB;have hR:=Ni r hr hg;have hC:C ⟨((r.By.toNat:Nat):Int),v,x⟩:=by
     rcases (a2 _ hA).2 with q|q
     ·rw [hg] at q;cases q
     ·exact q
    have Du:((r.By.toNat:Nat):Int)=r.By:=by have:=(l3 r hr).1;omega
    rw [Du] at hC;have:=h.ae8 r _ hR hC rfl (by rw [(l3 r hr).2.2.1];exact cJ);have h2:=t2 r hr;simp only at this;omega
theorem agree {F T:Nat}{bad:List Bool}{V C:aa->Prop}{R:ab->Prop}(h:ace F T bad V C R){v w:Int}{x y:List UInt8}(hx:oX F T bad V C v x)(hy:oX F T bad V C w y):x=y:=by
 have key: ∀{v w:Int} {x y:List UInt8},oX F T bad V C v x->oX F T bad V C w y->v<=w->x=y:=by
  intro v w x y hx hy hle;by_cases he:v=w
  ·subst he;exact Nl h (hx.Pj h) (hy.Pj h) (by have:=h.size;omega)
  ·obtain ⟨b,_,_,g⟩:=(hy.Pj h).L2 h.E4 (by omega);exact (later h hx _ _ g (by show v<w;omega) (Nat.le_refl _)).symm
 by_cases hle:v<=w
 ·exact key hx hy hle
 ·exact (key hy hx (by omega)).symm
end Dn.S
