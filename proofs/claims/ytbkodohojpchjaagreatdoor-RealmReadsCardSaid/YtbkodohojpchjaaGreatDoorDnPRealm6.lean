import Derived.Test.YtbkodohojpchjaaGreatDoorDnPRealm5
/-
  Realms: which are right; which are alike; the last reply of a client. Conditions: none.
-/
open Go Dn
set_option linter.unusedVariables false
set_option linter.unusedSimpArgs false
namespace Dn.S
def yF (x:aw):bV:=⟨x.Id,x.Span,x.cY⟩
def Dh (x:af):cS:=⟨x.Client,x.Seq,x.E,x.Value,x.Version,x.Names⟩
def nS (r:ak):pc:=⟨lX r.Shelf,⟨r.bt.dE,r.bt.L.map yF⟩,⟨r.bh.L.map GJ⟩,r.Seen.map Dh⟩
theorem Pb (l:List af) (hl:l.length≤1000):pi l=some (l.map Dh):=by
 unfold pi
 have fT:Loop (mh l) (([]:List cS),0)=some (l.map Dh):=by
  refine V8 l Dh (fun k hk=> ?_) ?_
  ·unfold mh
   dsimp only
   have:= @Bu _ _ Dh l k
   rw [if_pos (by omega),bx hk,show AP l[k]=some (Dh l[k]) from rfl,aC,if_pos (by simp only [List.length_cons,List.length_nil];omega),wrap64 (by omega) (by omega)]
   rfl
  ·unfold mh
   dsimp only
   rw [if_neg (by omega)]
 rw [fT,aC]
theorem Pc {r:ak} (h:Small r):uh r=some (nS r):=by
 have h1:=h.shelf
 have h2:=h.book
 have h3:=h.table
 have h4:=h.seen
 unfold uh
 rw [Pb _ h4,aC]
 have l1:Loop (pj r) (([]:List ew),r.bt.dE,([]:List bV),([]:List bJ),r.Seen.map Dh,0)=some (r.Shelf.L.map toR,r.bt.dE,([]:List bV),([]:List bJ),r.Seen.map Dh):=by
  refine bq.eq (bq.count (fun k=>((r.Shelf.L.take k).map toR,r.bt.dE,([]:List bV),([]:List bJ),r.Seen.map Dh,(k:Int))) r.Shelf.L.length (fun _=>True) (by simp) trivial (fun k hk _=> ?_) (fun _=> ?_))
  ·unfold pj
   dsimp only
   have:= @Bu _ _ toR r.Shelf.L k
   rw [if_pos (by omega),bx hk,if_pos (by simp only [List.length_cons,List.length_nil];omega),wrap64 (by omega) (by omega),uD hk]
   exact .mk ⟨rfl,trivial⟩
  ·unfold pj
   dsimp only
   rw [if_neg (by omega),List.take_length]
   exact .mk rfl
 rw [l1,aC]
 dsimp only
 have l2:Loop (pk r) (r.Shelf.L.map toR,r.bt.dE,([]:List bV),([]:List bJ),r.Seen.map Dh,0)=some (r.Shelf.L.map toR,r.bt.dE,r.bt.L.map yF,([]:List bJ),r.Seen.map Dh):=by
  refine bq.eq (bq.count (fun k=>(r.Shelf.L.map toR,r.bt.dE,(r.bt.L.take k).map yF,([]:List bJ),r.Seen.map Dh,(k:Int))) r.bt.L.length (fun _=>True) (by simp) trivial (fun k hk _=> ?_) (fun _=> ?_))
  ·unfold pk
   dsimp only
   have:= @Bu _ _ yF r.bt.L k
   rw [if_pos (by omega),bx hk,if_pos (by simp only [List.length_cons,List.length_nil];omega),wrap64 (by omega) (by omega),uD hk]
   exact .mk ⟨rfl,trivial⟩
  ·unfold pk
   dsimp only
   rw [if_neg (by omega),List.take_length]
   exact .mk rfl
 rw [l2,aC]
 dsimp only
 have l3:Loop (pn r) (r.Shelf.L.map toR,r.bt.dE,r.bt.L.map yF,([]:List bJ),r.Seen.map Dh,0)=some (r.Shelf.L.map toR,r.bt.dE,r.bt.L.map yF,r.bh.L.map GJ,r.Seen.map Dh):=by
  refine bq.eq (bq.count (fun k=>(r.Shelf.L.map toR,r.bt.dE,r.bt.L.map yF,(r.bh.L.take k).map GJ,r.Seen.map Dh,(k:Int))) r.bh.L.length (fun _=>True) (by simp) trivial (fun k hk _=> ?_) (fun _=> ?_))
  ·unfold pn
   dsimp only
   have:= @Bu _ _ GJ r.bh.L k
   rw [if_pos (by omega),bx hk,if_pos (by simp only [List.length_cons,List.length_nil];omega),wrap64 (by omega) (by omega),uD hk]
   exact .mk ⟨rfl,trivial⟩
  ·unfold pn
   dsimp only
   rw [if_neg (by omega),List.take_length]
   exact .mk rfl
 rw [l3,aC]
 rfl
theorem MX {α:Type} {key:α→Int} {L:List α} (h: ∀k (hk:k<L.length) (h0:0<k),key (L[k-1]'(by omega))<key L[k]):qC key L:=by
 unfold qC
 rw [List.pairwise_iff_getElem]
 intro i j hi hj NA
 induction j with
 |zero=>omega
 |succ j ih=>
  have h1:=h (j+1) hj (by omega)
  simp only [Nat.add_sub_cancel] at h1
  by_cases alc:i=j
  ·subst alc;exact h1
  ·have:=ih (by omega) (by omega);omega
def WB (b:aD) (k:Nat):Prop:= ∃hk:k<b.L.length,(1≤b.L[k].Id∧1≤b.L[k].Span∧b.L[k].Span≤1000∧b.dE<b.L[k].cY∧b.L[k].cY≤b.dE+b.L[k].Span)∧ ∀h0:0<k,(b.L[k-1]'(by omega)).Id<b.L[k].Id
theorem MY (b:aD) (hl:b.L.length≤1000):bq (ud ⟨b.dE,b.L.map yF⟩) fun x=>x=true↔jj b:=by
 unfold ud
 dsimp only
 rw [List.length_map]
 have SR: ∀q:Prop,(jj b→q)→(q→False)→bq (some false) fun x=>x=true↔jj b:=fun q h1 h2=> .mk ⟨fun h=>(by cases h),fun h=>absurd (h1 h) h2⟩
 by_cases h1:b.dE<0
 ·rw [if_pos h1,aC,if_pos rfl];exact SR _ (fun h=>h.now.1) (by omega)
 rw [if_neg h1]
 by_cases h2:1000000000<b.dE
 ·rw [if_pos h2,aC,if_pos rfl];exact SR _ (fun h=>h.now.2) (by omega)
 rw [if_neg h2]
 by_cases h3:(50:Int)<(b.L.length:Int)
 ·rw [decide_eq_true h3,aC,if_pos rfl];exact SR _ (fun h=>h.len) (by omega)
 rw [decide_eq_false h3,aC,if_neg (by decide)]
 refine bq.bd (pH b.L.length (WB b) false (fun k hk _=> ?_) ?_) ?_
 ·unfold sK
  have hka:k<(b.L.map yF).length:=by rw [List.length_map];exact hk
  dsimp only
  rw [if_pos (by rw [List.length_map];omega),bx hka,wrap64 (show-9223372036854775808≤(k:Int)+1 by omega) (by omega)]
  have e1:(b.L.map yF)[k]=yF b.L[k]:=List.getElem_map _
  have hw:(if (yF b.L[k]).Id<1 then some true else if (yF b.L[k]).Span<1 then some true else if (1000:Int)<(yF b.L[k]).Span then some true else if (yF b.L[k]).cY≤b.dE then some true else if IntKind.wrap .i64 (b.dE+(yF b.L[k]).Span)<(yF b.L[k]).cY then some true else if (0:Int)<(k:Int) then ix (b.L.map yF) (IntKind.wrap .i64 ((k:Int)-1)) fun y1=>some (decide ((yF b.L[k]).Id≤y1.Id)) else some false)=some true∧ ¬WB b k∨(if (yF b.L[k]).Id<1 then some true else if (yF b.L[k]).Span<1 then some true else if (1000:Int)<(yF b.L[k]).Span then some true else if (yF b.L[k]).cY≤b.dE then some true else if IntKind.wrap .i64 (b.dE+(yF b.L[k]).Span)<(yF b.L[k]).cY then some true else if (0:Int)<(k:Int) then ix (b.L.map yF) (IntKind.wrap .i64 ((k:Int)-1)) fun y1=>some (decide ((yF b.L[k]).Id≤y1.Id)) else some false)=some false∧WB b k:=by
   show (if b.L[k].Id<1 then _ else if b.L[k].Span<1 then _ else if (1000:Int)<b.L[k].Span then _ else if b.L[k].cY≤b.dE then _ else if IntKind.wrap .i64 (b.dE+b.L[k].Span)<b.L[k].cY then _ else if (0:Int)<(k:Int) then ix (b.L.map yF) (IntKind.wrap .i64 ((k:Int)-1)) fun y1=>some (decide (b.L[k].Id≤y1.Id)) else _)=_∧_∨(if b.L[k].Id<1 then _ else if b.L[k].Span<1 then _ else if (1000:Int)<b.L[k].Span then _ else if b.L[k].cY≤b.dE then _ else if IntKind.wrap .i64 (b.dE+b.L[k].Span)<b.L[k].cY then _ else if (0:Int)<(k:Int) then ix (b.L.map yF) (IntKind.wrap .i64 ((k:Int)-1)) fun y1=>some (decide (b.L[k].Id≤y1.Id)) else _)=_∧_
   by_cases g1:b.L[k].Id<1
   ·exact .inl ⟨if_pos g1,fun ⟨_,h,_⟩=>by omega⟩
   rw [if_neg g1]
   by_cases g2:b.L[k].Span<1
   ·exact .inl ⟨if_pos g2,fun ⟨_,h,_⟩=>by omega⟩
   rw [if_neg g2]
   by_cases g3:1000<b.L[k].Span
   ·exact .inl ⟨if_pos g3,fun ⟨_,h,_⟩=>by omega⟩
   rw [if_neg g3]
   by_cases g4:b.L[k].cY≤b.dE
   ·exact .inl ⟨if_pos g4,fun ⟨_,h,_⟩=>by omega⟩
   rw [if_neg g4,wrap64 (by omega) (by omega)]
   by_cases g5:b.dE+b.L[k].Span<b.L[k].cY
   ·exact .inl ⟨if_pos g5,fun ⟨_,h,_⟩=>by omega⟩
   rw [if_neg g5]
   by_cases g6:(0:Int)<(k:Int)
   ·have SQ:k-1<(b.L.map yF).length:=by omega
    rw [if_pos g6,wrap64 (by omega) (by omega),show (k:Int)-1=((k-1:Nat):Int) by omega,bx SQ]
    have e2:(b.L.map yF)[k-1]=yF (b.L[k-1]'(by omega)):=List.getElem_map _
    rw [e2]
    by_cases g7:b.L[k].Id≤(yF (b.L[k-1]'(by omega))).Id
    ·exact .inl ⟨by rw [decide_eq_true g7],fun ⟨_,_,h⟩=>by
      have h:=h (by omega)
      have g7:b.L[k].Id≤(b.L[k-1]'(by omega)).Id:=g7
      omega⟩
    ·exact .inr ⟨by rw [decide_eq_false g7],hk,by omega,fun _=>by
      have g7: ¬b.L[k].Id≤(b.L[k-1]'(by omega)).Id:=g7
      omega⟩
   ·exact .inr ⟨if_neg g6,hk,by omega,fun h0=>by omega⟩
  rw [e1]
  rcases hw with ⟨hw,hn⟩|⟨hw,hn⟩
  ·rw [hw,aC,if_pos rfl]
   exact ⟨fun h=>absurd h hn,fun _=>rfl⟩
  ·rw [hw,aC,if_neg (by decide)]
   exact ⟨fun _=>rfl,fun h=>absurd hn h⟩
 ·unfold sK
  dsimp only
  rw [if_neg (by rw [List.length_map];omega)]
 ·rintro x (⟨rfl,h⟩|⟨rfl,k,hk,h⟩)
  ·refine .mk ⟨fun _=>⟨⟨by omega,by omega⟩,by omega,MX fun k hk h0=>(h k hk).2.2 h0,fun x hx=> ?_⟩,fun _=>rfl⟩
   obtain ⟨k,hk,rfl⟩:=List.mem_iff_getElem.1 hx
   exact (h k hk).2.1
  ·refine .mk ⟨fun hh=>(by cases hh),fun hb=>absurd ⟨hk,hb.all _ (List.getElem_mem hk),fun h0=>hb.inc.lt hk (by omega)⟩ h⟩
def acK (L:List af) (k:Nat):Prop:= ∃hk:k<L.length,(0≤L[k].Client∧L[k].Client≤1000∧1≤L[k].Seq)∧ ∀h0:0<k,(L[k-1]'(by omega)).Client<L[k].Client
theorem MZ {r:ak} (h:Small r):bq (ug (nS r)) fun x=>x=true↔fM r:=by
 have h1:=h.shelf
 have h2:=h.book
 have h3:=h.table
 have h4:=h.seen
 have SR:(fM r→False)→bq (some false) fun x=>x=true↔fM r:=fun h2=> .mk ⟨fun h=>(by cases h),fun h=>absurd h h2⟩
 unfold ug
 rw [show (nS r).Shelf=lX r.Shelf from rfl,MA _ (by omega),aC]
 cases hs:xJ r.Shelf.L with
 |false=>
  rw [if_pos (show (!false)=true from rfl),aC,if_pos rfl]
  exact SR fun h=>by rw [Jc.2 h.shelf] at hs;cases hs
 |true=>
 rw [if_neg (by decide)]
 obtain ⟨b2,e2,g2⟩:=MY r.bt h2
 rw [show (nS r).bt=⟨r.bt.dE,r.bt.L.map yF⟩ from rfl,e2,aC]
 cases b2 with
 |false=>
  rw [if_pos (show (!false)=true from rfl),aC,if_pos rfl]
  exact SR fun h=>by have:=g2.2 h.book;cases this
 |true=>
 rw [if_neg (by decide)]
 obtain ⟨b3,e3,g3⟩:=MJ r.bh.L h3
 rw [show (nS r).bh=⟨r.bh.L.map GJ⟩ from rfl,e3,aC]
 cases b3 with
 |false=>
  rw [if_pos (show (!false)=true from rfl),aC,if_pos rfl]
  exact SR fun h=>by have:=g3.2 h.table;cases this
 |true=>
 rw [if_neg (by decide)]
 have mb:(nS r).Seen.length=r.Seen.length:=List.length_map _
 rw [mb]
 by_cases h50:(50:Int)<(r.Seen.length:Int)
 ·rw [decide_eq_true h50,aC,if_pos rfl]
  exact SR fun h=>by have:=h.few;omega
 rw [decide_eq_false h50,aC,if_neg (by decide)]
 refine bq.bd (pH r.Seen.length (acK r.Seen) false (fun k hk _=> ?_) ?_) ?_
 ·unfold sM
  have hka:k<(nS r).Seen.length:=by omega
  rw [if_pos (by omega),bx hka,wrap64 (show-9223372036854775808≤(k:Int)+1 by omega) (by omega)]
  have e1:(nS r).Seen[k]=Dh r.Seen[k]:=List.getElem_map _
  rw [e1]
  have hw:(if (Dh r.Seen[k]).Client<0 then some true else if (1000:Int)<(Dh r.Seen[k]).Client then some true else if (Dh r.Seen[k]).Seq<1 then some true else if (0:Int)<(k:Int) then ix (nS r).Seen (IntKind.wrap .i64 ((k:Int)-1)) fun y1=>some (decide ((Dh r.Seen[k]).Client≤y1.Client)) else some false)=some true∧ ¬acK r.Seen k∨(if (Dh r.Seen[k]).Client<0 then some true else if (1000:Int)<(Dh r.Seen[k]).Client then some true else if (Dh r.Seen[k]).Seq<1 then some true else if (0:Int)<(k:Int) then ix (nS r).Seen (IntKind.wrap .i64 ((k:Int)-1)) fun y1=>some (decide ((Dh r.Seen[k]).Client≤y1.Client)) else some false)=some false∧acK r.Seen k:=by
   show (if r.Seen[k].Client<0 then _ else if (1000:Int)<r.Seen[k].Client then _ else if r.Seen[k].Seq<1 then _ else if (0:Int)<(k:Int) then ix (nS r).Seen (IntKind.wrap .i64 ((k:Int)-1)) fun y1=>some (decide (r.Seen[k].Client≤y1.Client)) else _)=_∧_∨(if r.Seen[k].Client<0 then _ else if (1000:Int)<r.Seen[k].Client then _ else if r.Seen[k].Seq<1 then _ else if (0:Int)<(k:Int) then ix (nS r).Seen (IntKind.wrap .i64 ((k:Int)-1)) fun y1=>some (decide (r.Seen[k].Client≤y1.Client)) else _)=_∧_
   by_cases g1:r.Seen[k].Client<0
   ·exact .inl ⟨if_pos g1,fun ⟨_,h,_⟩=>by omega⟩
   rw [if_neg g1]
   by_cases g2:1000<r.Seen[k].Client
   ·exact .inl ⟨if_pos g2,fun ⟨_,h,_⟩=>by omega⟩
   rw [if_neg g2]
   by_cases g3:r.Seen[k].Seq<1
   ·exact .inl ⟨if_pos g3,fun ⟨_,h,_⟩=>by omega⟩
   rw [if_neg g3]
   by_cases g6:(0:Int)<(k:Int)
   ·have SQ:k-1<(nS r).Seen.length:=by omega
    rw [if_pos g6,wrap64 (by omega) (by omega),show (k:Int)-1=((k-1:Nat):Int) by omega,bx SQ]
    have e2:(nS r).Seen[k-1]=Dh (r.Seen[k-1]'(by omega)):=List.getElem_map _
    rw [e2]
    by_cases g7:r.Seen[k].Client≤(Dh (r.Seen[k-1]'(by omega))).Client
    ·exact .inl ⟨by rw [decide_eq_true g7],fun ⟨_,_,h⟩=>by
      have h:=h (by omega)
      have g7:r.Seen[k].Client≤(r.Seen[k-1]'(by omega)).Client:=g7
      omega⟩
    ·exact .inr ⟨by rw [decide_eq_false g7],hk,by omega,fun _=>by
      have g7: ¬r.Seen[k].Client≤(r.Seen[k-1]'(by omega)).Client:=g7
      omega⟩
   ·exact .inr ⟨if_neg g6,hk,by omega,fun h0=>by omega⟩
  rcases hw with ⟨hw,hn⟩|⟨hw,hn⟩
  ·rw [hw,aC,if_pos rfl]
   exact ⟨fun h=>absurd h hn,fun _=>rfl⟩
  ·rw [hw,aC,if_neg (by decide)]
   exact ⟨fun _=>rfl,fun h=>absurd hn h⟩
 ·unfold sM
  rw [if_neg (by omega)]
 ·rintro x (⟨rfl,hh⟩|⟨rfl,k,hk,hh⟩)
  ·refine .mk ⟨fun _=>⟨⟨Jc.1 hs,g2.1 rfl,g3.1 rfl⟩,MX fun k hk h0=>(hh k hk).2.2 h0,by omega,fun x hx=> ?_⟩,fun _=>rfl⟩
   obtain ⟨k,hk,rfl⟩:=List.mem_iff_getElem.1 hx
   exact (hh k hk).2.1
  ·exact .mk ⟨fun h=>(by cases h),fun hb=>absurd ⟨hk,hb.seen _ (List.getElem_mem hk),fun h0=>hb.inc.lt hk (by omega)⟩ hh⟩
end Dn.S
