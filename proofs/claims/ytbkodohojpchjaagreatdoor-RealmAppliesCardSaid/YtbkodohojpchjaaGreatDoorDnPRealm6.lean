import Derived.Test.YtbkodohojpchjaaGreatDoorDnPRealm5
/-
  Realms: which are right; which are alike; the last reply of a client. Conditions: none.
-/
set_option linter.unusedVariables false
set_option linter.unusedSimpArgs false
open Go.IntKind renaming wrap→c8
open List renaming length_map→sh,length_cons→AI,getElem_map→AS,length_nil→AT,take_length→By,mem_iff_getElem→BY,getElem_mem→IN
open Go Dn
namespace Dn.S
def jM (x:aC):ar:=⟨x.Id,x.Span,x.cF⟩
def jR (x:aj):aD:=⟨x.Client,x.Seq,x.E,x.Value,x.Version,x.Names⟩
def dV (r:au):b6:=⟨ch r.Shelf,⟨r.aN.ct,r.aN.L.map jM⟩,⟨r.aR.L.map ol⟩,r.Seen.map jR⟩
theorem Ul (l:List aj)(hl:l.length<=1000):qZ l=some (l.map jR):=by
 unfold qZ;have cV:Loop (nv l) (([]:List aD),0)=some (l.map jR):=by
  refine Kj l jR (λk hk=> ?_) ?_
  ·unfold nv;dsimp only;have:= @xy _ _ jR l k;rw [if_pos (by omega),aP hk,show wR l[k]=some (jR l[k]) from rfl,al,if_pos (by simp only [AI,AT];omega),wrap64 (by omega) (by omega)];rfl
  ·unfold nv;dsimp only;rw [if_neg (by omega)]
 rw [cV,al]
theorem Kr {r:au}(h:Small r):ox r=some (dV r):=by
 have h1:=h.shelf;have h2:=h.book;have h3:=h.table;have h4:=h.seen;unfold ox;rw [Ul _ h4,al];have l1:Loop (q0 r) (([]:List aY),r.aN.ct,([]:List ar),([]:List aL),r.Seen.map jR,0)=some (r.Shelf.L.map toR,r.aN.ct,([]:List ar),([]:List aL),r.Seen.map jR):=by
  refine aM.eq (aM.count (λk=>((r.Shelf.L.take k).map toR,r.aN.ct,([]:List ar),([]:List aL),r.Seen.map jR,(k:Int))) r.Shelf.L.length (λ_=>True) (by simp) trivial (λk hk _=> ?_) (λ_=> ?_))
  ·unfold q0;dsimp only;have:= @xy _ _ toR r.Shelf.L k;rw [if_pos (by omega),aP hk,if_pos (by simp only [AI,AT];omega),wrap64 (by omega) (by omega),ta hk];exact .mk ⟨rfl,trivial⟩
  ·unfold q0;dsimp only;rw [if_neg (by omega),By];exact .mk rfl
 rw [l1,al];dsimp only;have l2:Loop (q8 r) (r.Shelf.L.map toR,r.aN.ct,([]:List ar),([]:List aL),r.Seen.map jR,0)=some (r.Shelf.L.map toR,r.aN.ct,r.aN.L.map jM,([]:List aL),r.Seen.map jR):=by
  refine aM.eq (aM.count (λk=>(r.Shelf.L.map toR,r.aN.ct,(r.aN.L.take k).map jM,([]:List aL),r.Seen.map jR,(k:Int))) r.aN.L.length (λ_=>True) (by simp) trivial (λk hk _=> ?_) (λ_=> ?_))
  ·unfold q8;dsimp only;have:= @xy _ _ jM r.aN.L k;rw [if_pos (by omega),aP hk,if_pos (by simp only [AI,AT];omega),wrap64 (by omega) (by omega),ta hk];exact .mk ⟨rfl,trivial⟩
  ·unfold q8;dsimp only;rw [if_neg (by omega),By];exact .mk rfl
 rw [l2,al];dsimp only;have l3:Loop (q9 r) (r.Shelf.L.map toR,r.aN.ct,r.aN.L.map jM,([]:List aL),r.Seen.map jR,0)=some (r.Shelf.L.map toR,r.aN.ct,r.aN.L.map jM,r.aR.L.map ol,r.Seen.map jR):=by
  refine aM.eq (aM.count (λk=>(r.Shelf.L.map toR,r.aN.ct,r.aN.L.map jM,(r.aR.L.take k).map ol,r.Seen.map jR,(k:Int))) r.aR.L.length (λ_=>True) (by simp) trivial (λk hk _=> ?_) (λ_=> ?_))
  ·unfold q9;dsimp only;have:= @xy _ _ ol r.aR.L k;rw [if_pos (by omega),aP hk,if_pos (by simp only [AI,AT];omega),wrap64 (by omega) (by omega),ta hk];exact .mk ⟨rfl,trivial⟩
  ·unfold q9;dsimp only;rw [if_neg (by omega),By];exact .mk rfl
 rw [l3,al];rfl
theorem RO {α:Type}{key:α->Int}{L:List α}(h: ∀k (hk:k<L.length)(h0:0<k),key (L[k-1]'(by omega))<key L[k]):pQ key L:=by
 unfold pQ;rw [List.pairwise_iff_getElem];intro i j hi hj Nn;induction j with
 |zero=>omega
 |succ j ih=>
  have h1:=h (j+1) hj (by omega);simp only [Nat.add_sub_cancel] at h1;by_cases aqC:i=j
  ·subst aqC;exact h1
  ·have:=ih (by omega) (by omega);omega
def aco (b:aK)(k:Nat):Prop:= ∃hk:k<b.L.length,(1<=b.L[k].Id/\1<=b.L[k].Span/\b.L[k].Span<=1000/\b.ct<b.L[k].cF/\b.L[k].cF<=b.ct+b.L[k].Span)/\ ∀h0:0<k,(b.L[k-1]'(by omega)).Id<b.L[k].Id
theorem RP (b:aK)(hl:b.L.length<=1000):aM (wN ⟨b.ct,b.L.map jM⟩) λx=>x=true↔iD b:=by
 unfold wN;dsimp only;rw [sh];have R6: ∀q:Prop,(iD b->q)->(q->False)->aM (some false) λx=>x=true↔iD b:=λq h1 h2=> .mk ⟨λh=>(by cases h),λh=>absurd (h1 h) h2⟩;by_cases h1:b.ct<0
 ·rw [if_pos h1,al,if_pos rfl];exact R6 _ (λh=>h.now.1) (by omega)
 rw [if_neg h1];by_cases h2:1000000000<b.ct
 ·rw [if_pos h2,al,if_pos rfl];exact R6 _ (λh=>h.now.2) (by omega)
 rw [if_neg h2];by_cases h3:(50:Int)<(b.L.length:Int)
 ·rw [decide_eq_true h3,al,if_pos rfl];exact R6 _ (λh=>h.len) (by omega)
 rw [decide_eq_false h3,al,if_neg (by decide)];refine aM.bd (rI b.L.length (aco b) false (λk hk _=> ?_) ?_) ?_
 ·unfold vc;have hka:k<(b.L.map jM).length:=by rw [sh];exact hk
  dsimp only;rw [if_pos (by rw [sh];omega),aP hka,wrap64 (show-9223372036854775808<=(k:Int)+1 by omega) (by omega)];have e1:(b.L.map jM)[k]=jM b.L[k]:=AS _;have hw:(if (jM b.L[k]).Id<1 then some true else if (jM b.L[k]).Span<1 then some true else if (1000:Int)<(jM b.L[k]).Span then some true else if (jM b.L[k]).cF<=b.ct then some true else if c8 .i64 (b.ct+(jM b.L[k]).Span)<(jM b.L[k]).cF then some true else if (0:Int)<(k:Int) then ix (b.L.map jM) (c8 .i64 ((k:Int)-1)) λy1=>some (decide ((jM b.L[k]).Id<=y1.Id)) else some false)=some true/\ ¬aco b k\/(if (jM b.L[k]).Id<1 then some true else if (jM b.L[k]).Span<1 then some true else if (1000:Int)<(jM b.L[k]).Span then some true else if (jM b.L[k]).cF<=b.ct then some true else if c8 .i64 (b.ct+(jM b.L[k]).Span)<(jM b.L[k]).cF then some true else if (0:Int)<(k:Int) then ix (b.L.map jM) (c8 .i64 ((k:Int)-1)) λy1=>some (decide ((jM b.L[k]).Id<=y1.Id)) else some false)=some false/\aco b k:=by
   show (if b.L[k].Id<1 then _ else if b.L[k].Span<1 then _ else if (1000:Int)<b.L[k].Span then _ else if b.L[k].cF<=b.ct then _ else if c8 .i64 (b.ct+b.L[k].Span)<b.L[k].cF then _ else if (0:Int)<(k:Int) then ix (b.L.map jM) (c8 .i64 ((k:Int)-1)) λy1=>some (decide (b.L[k].Id<=y1.Id)) else _)=_/\_\/(if b.L[k].Id<1 then _ else if b.L[k].Span<1 then _ else if (1000:Int)<b.L[k].Span then _ else if b.L[k].cF<=b.ct then _ else if c8 .i64 (b.ct+b.L[k].Span)<b.L[k].cF then _ else if (0:Int)<(k:Int) then ix (b.L.map jM) (c8 .i64 ((k:Int)-1)) λy1=>some (decide (b.L[k].Id<=y1.Id)) else _)=_/\_;by_cases g1:b.L[k].Id<1
   ·exact .inl ⟨if_pos g1,λ⟨_,h,_⟩=>by omega⟩
   rw [if_neg g1];by_cases g2:b.L[k].Span<1
   ·exact .inl ⟨if_pos g2,λ⟨_,h,_⟩=>by omega⟩
   rw [if_neg g2];by_cases g3:1000<b.L[k].Span
   ·exact .inl ⟨if_pos g3,λ⟨_,h,_⟩=>by omega⟩
   rw [if_neg g3];by_cases g4:b.L[k].cF<=b.ct
   ·exact .inl ⟨if_pos g4,λ⟨_,h,_⟩=>by omega⟩
   rw [if_neg g4,wrap64 (by omega) (by omega)];by_cases g5:b.ct+b.L[k].Span<b.L[k].cF
   ·exact .inl ⟨if_pos g5,λ⟨_,h,_⟩=>by omega⟩
   rw [if_neg g5];by_cases g6:(0:Int)<(k:Int)
   ·have Yk:k-1<(b.L.map jM).length:=by omega
    rw [if_pos g6,wrap64 (by omega) (by omega),show (k:Int)-1=((k-1:Nat):Int) by omega,aP Yk];have e2:(b.L.map jM)[k-1]=jM (b.L[k-1]'(by omega)):=AS _;rw [e2];by_cases g7:b.L[k].Id<=(jM (b.L[k-1]'(by omega))).Id
    ·exact .inl ⟨by rw [decide_eq_true g7],λ⟨_,_,h⟩=>by have h:=h (by omega);have g7:b.L[k].Id<=(b.L[k-1]'(by omega)).Id:=g7;omega⟩
    ·exact .inr ⟨by rw [decide_eq_false g7],hk,by omega,λ_=>by have g7: ¬b.L[k].Id<=(b.L[k-1]'(by omega)).Id:=g7;omega⟩
   ·exact .inr ⟨if_neg g6,hk,by omega,λh0=>by omega⟩
  rw [e1];rcases hw with ⟨hw,hn⟩|⟨hw,hn⟩
  ·rw [hw,al,if_pos rfl];exact ⟨λh=>absurd h hn,λ_=>rfl⟩
  ·rw [hw,al,if_neg (by decide)];exact ⟨λ_=>rfl,λh=>absurd hn h⟩
 ·unfold vc;dsimp only;rw [if_neg (by rw [sh];omega)]
 ·rintro x (⟨rfl,h⟩|⟨rfl,k,hk,h⟩)
  ·refine .mk ⟨λ_=>⟨⟨by omega,by omega⟩,by omega,RO λk hk h0=>(h k hk).2.2 h0,λx hx=> ?_⟩,λ_=>rfl⟩;obtain ⟨k,hk,rfl⟩:=BY.1 hx;exact (h k hk).2.1
  ·refine .mk ⟨λhh=>(by cases hh),λhb=>absurd ⟨hk,hb.all _ (IN hk),λh0=>hb.inc.lt hk (by omega)⟩ h⟩
def aja (L:List aj)(k:Nat):Prop:= ∃hk:k<L.length,(0<=L[k].Client/\L[k].Client<=1000/\1<=L[k].Seq)/\ ∀h0:0<k,(L[k-1]'(by omega)).Client<L[k].Client
theorem RQ {r:au}(h:Small r):aM (wQ (dV r)) λx=>x=true↔iG r:=by
 have h1:=h.shelf;have h2:=h.book;have h3:=h.table;have h4:=h.seen;have R6:(iG r->False)->aM (some false) λx=>x=true↔iG r:=λh2=> .mk ⟨λh=>(by cases h),λh=>absurd h h2⟩;unfold wQ;rw [show (dV r).Shelf=ch r.Shelf from rfl,Rq _ (by omega),al];cases hs:A0 r.Shelf.L with
 |false=>rw [if_pos (show (!false)=true from rfl),al,if_pos rfl];exact R6 λh=>by rw [MX.2 h.shelf] at hs;cases hs
 |true=>
 rw [if_neg (by decide)];obtain ⟨b2,e2,g2⟩:=RP r.aN h2;rw [show (dV r).aN=⟨r.aN.ct,r.aN.L.map jM⟩ from rfl,e2,al];cases b2 with
 |false=>rw [if_pos (show (!false)=true from rfl),al,if_pos rfl];exact R6 λh=>by have:=g2.2 h.book;cases this
 |true=>
 rw [if_neg (by decide)];obtain ⟨b3,e3,g3⟩:=Ry r.aR.L h3;rw [show (dV r).aR=⟨r.aR.L.map ol⟩ from rfl,e3,al];cases b3 with
 |false=>rw [if_pos (show (!false)=true from rfl),al,if_pos rfl];exact R6 λh=>by have:=g3.2 h.table;cases this
 |true=>
 rw [if_neg (by decide)];have oW:(dV r).Seen.length=r.Seen.length:=sh _;rw [oW];by_cases h50:(50:Int)<(r.Seen.length:Int)
 ·rw [decide_eq_true h50,al,if_pos rfl];exact R6 λh=>by have:=h.few;omega
 rw [decide_eq_false h50,al,if_neg (by decide)];refine aM.bd (rI r.Seen.length (aja r.Seen) false (λk hk _=> ?_) ?_) ?_
 ·unfold ve;have hka:k<(dV r).Seen.length:=by omega
  rw [if_pos (by omega),aP hka,wrap64 (show-9223372036854775808<=(k:Int)+1 by omega) (by omega)];have e1:(dV r).Seen[k]=jR r.Seen[k]:=AS _;rw [e1];have hw:(if (jR r.Seen[k]).Client<0 then some true else if (1000:Int)<(jR r.Seen[k]).Client then some true else if (jR r.Seen[k]).Seq<1 then some true else if (0:Int)<(k:Int) then ix (dV r).Seen (c8 .i64 ((k:Int)-1)) λy1=>some (decide ((jR r.Seen[k]).Client<=y1.Client)) else some false)=some true/\ ¬aja r.Seen k\/(if (jR r.Seen[k]).Client<0 then some true else if (1000:Int)<(jR r.Seen[k]).Client then some true else if (jR r.Seen[k]).Seq<1 then some true else if (0:Int)<(k:Int) then ix (dV r).Seen (c8 .i64 ((k:Int)-1)) λy1=>some (decide ((jR r.Seen[k]).Client<=y1.Client)) else some false)=some false/\aja r.Seen k:=by
   show (if r.Seen[k].Client<0 then _ else if (1000:Int)<r.Seen[k].Client then _ else if r.Seen[k].Seq<1 then _ else if (0:Int)<(k:Int) then ix (dV r).Seen (c8 .i64 ((k:Int)-1)) λy1=>some (decide (r.Seen[k].Client<=y1.Client)) else _)=_/\_\/(if r.Seen[k].Client<0 then _ else if (1000:Int)<r.Seen[k].Client then _ else if r.Seen[k].Seq<1 then _ else if (0:Int)<(k:Int) then ix (dV r).Seen (c8 .i64 ((k:Int)-1)) λy1=>some (decide (r.Seen[k].Client<=y1.Client)) else _)=_/\_;by_cases g1:r.Seen[k].Client<0
   ·exact .inl ⟨if_pos g1,λ⟨_,h,_⟩=>by omega⟩
   rw [if_neg g1];by_cases g2:1000<r.Seen[k].Client
   ·exact .inl ⟨if_pos g2,λ⟨_,h,_⟩=>by omega⟩
   rw [if_neg g2];by_cases g3:r.Seen[k].Seq<1
   ·exact .inl ⟨if_pos g3,λ⟨_,h,_⟩=>by omega⟩
   rw [if_neg g3];by_cases g6:(0:Int)<(k:Int)
   ·have Yk:k-1<(dV r).Seen.length:=by omega
    rw [if_pos g6,wrap64 (by omega) (by omega),show (k:Int)-1=((k-1:Nat):Int) by omega,aP Yk];have e2:(dV r).Seen[k-1]=jR (r.Seen[k-1]'(by omega)):=AS _;rw [e2];by_cases g7:r.Seen[k].Client<=(jR (r.Seen[k-1]'(by omega))).Client
    ·exact .inl ⟨by rw [decide_eq_true g7],λ⟨_,_,h⟩=>by have h:=h (by omega);have g7:r.Seen[k].Client<=(r.Seen[k-1]'(by omega)).Client:=g7;omega⟩
    ·exact .inr ⟨by rw [decide_eq_false g7],hk,by omega,λ_=>by have g7: ¬r.Seen[k].Client<=(r.Seen[k-1]'(by omega)).Client:=g7;omega⟩
   ·exact .inr ⟨if_neg g6,hk,by omega,λh0=>by omega⟩
  rcases hw with ⟨hw,hn⟩|⟨hw,hn⟩
  ·rw [hw,al,if_pos rfl];exact ⟨λh=>absurd h hn,λ_=>rfl⟩
  ·rw [hw,al,if_neg (by decide)];exact ⟨λ_=>rfl,λh=>absurd hn h⟩
 ·unfold ve;rw [if_neg (by omega)]
 ·rintro x (⟨rfl,hh⟩|⟨rfl,k,hk,hh⟩)
  ·refine .mk ⟨λ_=>⟨⟨MX.1 hs,g2.1 rfl,g3.1 rfl⟩,RO λk hk h0=>(hh k hk).2.2 h0,by omega,λx hx=> ?_⟩,λ_=>rfl⟩;obtain ⟨k,hk,rfl⟩:=BY.1 hx;exact (hh k hk).2.1
  ·exact .mk ⟨λh=>(by cases h),λhb=>absurd ⟨hk,hb.seen _ (IN hk),λh0=>hb.inc.lt hk (by omega)⟩ hh⟩
end Dn.S
