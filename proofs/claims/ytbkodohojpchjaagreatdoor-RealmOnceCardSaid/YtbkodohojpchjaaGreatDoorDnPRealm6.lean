import Derived.Test.YtbkodohojpchjaaGreatDoorDnPRealm5
/-
  Realms: which are right; which are alike; the last reply of a client. Conditions: none.
-/
open Go Dn
set_option linter.unusedVariables false
set_option linter.unusedSimpArgs false
namespace Dn.S
def yU (x:av):bU:=⟨x.Id,x.Span,x.c9⟩
def Av (x:af):cn:=⟨x.Client,x.Seq,x.E,x.Value,x.Version,x.Names⟩
def nS (r:ak):pj:=⟨lX r.Shelf,⟨r.br.dK,r.br.L.map yU⟩,⟨r.bg.L.map GJ⟩,r.Seen.map Av⟩
theorem Pz (l:List af) (hl:l.length≤1000):pq l=some (l.map Av):=by
 unfold pq
 have fW:Loop (mh l) (([]:List cn),0)=some (l.map Av):=by
  refine WA l Av (fun k hk=> ?_) ?_
  ·unfold mh
   dsimp only
   have:= @BG _ _ Av l k
   rw [if_pos (by omega),bt hk,show rm l[k]=some (Av l[k]) from rfl,aA,if_pos (by simp only [List.length_cons,List.length_nil];omega),wrap64 (by omega) (by omega)]
   rfl
  ·unfold mh
   dsimp only
   rw [if_neg (by omega)]
 rw [fW,aA]
theorem GS {r:ak} (h:Small r):qO r=some (nS r):=by
 have h1:=h.shelf
 have h2:=h.book
 have h3:=h.table
 have h4:=h.seen
 unfold qO
 rw [Pz _ h4,aA]
 have l1:Loop (pu r) (([]:List eG),r.br.dK,([]:List bU),([]:List bI),r.Seen.map Av,0)=some (r.Shelf.L.map toR,r.br.dK,([]:List bU),([]:List bI),r.Seen.map Av):=by
  refine bu.eq (bu.count (fun k=>((r.Shelf.L.take k).map toR,r.br.dK,([]:List bU),([]:List bI),r.Seen.map Av,(k:Int))) r.Shelf.L.length (fun _=>True) (by simp) trivial (fun k hk _=> ?_) (fun _=> ?_))
  ·unfold pu
   dsimp only
   have:= @BG _ _ toR r.Shelf.L k
   rw [if_pos (by omega),bt hk,if_pos (by simp only [List.length_cons,List.length_nil];omega),wrap64 (by omega) (by omega),uO hk]
   exact .mk ⟨rfl,trivial⟩
  ·unfold pu
   dsimp only
   rw [if_neg (by omega),List.take_length]
   exact .mk rfl
 rw [l1,aA]
 dsimp only
 have l2:Loop (pv r) (r.Shelf.L.map toR,r.br.dK,([]:List bU),([]:List bI),r.Seen.map Av,0)=some (r.Shelf.L.map toR,r.br.dK,r.br.L.map yU,([]:List bI),r.Seen.map Av):=by
  refine bu.eq (bu.count (fun k=>(r.Shelf.L.map toR,r.br.dK,(r.br.L.take k).map yU,([]:List bI),r.Seen.map Av,(k:Int))) r.br.L.length (fun _=>True) (by simp) trivial (fun k hk _=> ?_) (fun _=> ?_))
  ·unfold pv
   dsimp only
   have:= @BG _ _ yU r.br.L k
   rw [if_pos (by omega),bt hk,if_pos (by simp only [List.length_cons,List.length_nil];omega),wrap64 (by omega) (by omega),uO hk]
   exact .mk ⟨rfl,trivial⟩
  ·unfold pv
   dsimp only
   rw [if_neg (by omega),List.take_length]
   exact .mk rfl
 rw [l2,aA]
 dsimp only
 have l3:Loop (pw r) (r.Shelf.L.map toR,r.br.dK,r.br.L.map yU,([]:List bI),r.Seen.map Av,0)=some (r.Shelf.L.map toR,r.br.dK,r.br.L.map yU,r.bg.L.map GJ,r.Seen.map Av):=by
  refine bu.eq (bu.count (fun k=>(r.Shelf.L.map toR,r.br.dK,r.br.L.map yU,(r.bg.L.take k).map GJ,r.Seen.map Av,(k:Int))) r.bg.L.length (fun _=>True) (by simp) trivial (fun k hk _=> ?_) (fun _=> ?_))
  ·unfold pw
   dsimp only
   have:= @BG _ _ GJ r.bg.L k
   rw [if_pos (by omega),bt hk,if_pos (by simp only [List.length_cons,List.length_nil];omega),wrap64 (by omega) (by omega),uO hk]
   exact .mk ⟨rfl,trivial⟩
  ·unfold pw
   dsimp only
   rw [if_neg (by omega),List.take_length]
   exact .mk rfl
 rw [l3,aA]
 rfl
theorem Nf {α:Type} {key:α→Int} {L:List α} (h: ∀k (hk:k<L.length) (h0:0<k),key (L[k-1]'(by omega))<key L[k]):oK key L:=by
 unfold oK
 rw [List.pairwise_iff_getElem]
 intro i j hi hj NT
 induction j with
 |zero=>omega
 |succ j ih=>
  have h1:=h (j+1) hj (by omega)
  simp only [Nat.add_sub_cancel] at h1
  by_cases akh:i=j
  ·subst akh;exact h1
  ·have:=ih (by omega) (by omega);omega
def W5 (b:aC) (k:Nat):Prop:= ∃hk:k<b.L.length,(1≤b.L[k].Id∧1≤b.L[k].Span∧b.L[k].Span≤1000∧b.dK<b.L[k].c9∧b.L[k].c9≤b.dK+b.L[k].Span)∧ ∀h0:0<k,(b.L[k-1]'(by omega)).Id<b.L[k].Id
theorem Ng (b:aC) (hl:b.L.length≤1000):bu (ul ⟨b.dK,b.L.map yU⟩) fun x=>x=true↔jn b:=by
 unfold ul
 dsimp only
 rw [List.length_map]
 have LN: ∀q:Prop,(jn b→q)→(q→False)→bu (some false) fun x=>x=true↔jn b:=fun q h1 h2=> .mk ⟨fun h=>(by cases h),fun h=>absurd (h1 h) h2⟩
 by_cases h1:b.dK<0
 ·rw [if_pos h1,aA,if_pos rfl];exact LN _ (fun h=>h.now.1) (by omega)
 rw [if_neg h1]
 by_cases h2:1000000000<b.dK
 ·rw [if_pos h2,aA,if_pos rfl];exact LN _ (fun h=>h.now.2) (by omega)
 rw [if_neg h2]
 by_cases h3:(50:Int)<(b.L.length:Int)
 ·rw [decide_eq_true h3,aA,if_pos rfl];exact LN _ (fun h=>h.len) (by omega)
 rw [decide_eq_false h3,aA,if_neg (by decide)]
 refine bu.bd (nP b.L.length (W5 b) false (fun k hk _=> ?_) ?_) ?_
 ·unfold sR
  have hka:k<(b.L.map yU).length:=by rw [List.length_map];exact hk
  dsimp only
  rw [if_pos (by rw [List.length_map];omega),bt hka,wrap64 (show-9223372036854775808≤(k:Int)+1 by omega) (by omega)]
  have e1:(b.L.map yU)[k]=yU b.L[k]:=List.getElem_map _
  have hw:(if (yU b.L[k]).Id<1 then some true else if (yU b.L[k]).Span<1 then some true else if (1000:Int)<(yU b.L[k]).Span then some true else if (yU b.L[k]).c9≤b.dK then some true else if IntKind.wrap .i64 (b.dK+(yU b.L[k]).Span)<(yU b.L[k]).c9 then some true else if (0:Int)<(k:Int) then ix (b.L.map yU) (IntKind.wrap .i64 ((k:Int)-1)) fun y1=>some (decide ((yU b.L[k]).Id≤y1.Id)) else some false)=some true∧ ¬W5 b k∨(if (yU b.L[k]).Id<1 then some true else if (yU b.L[k]).Span<1 then some true else if (1000:Int)<(yU b.L[k]).Span then some true else if (yU b.L[k]).c9≤b.dK then some true else if IntKind.wrap .i64 (b.dK+(yU b.L[k]).Span)<(yU b.L[k]).c9 then some true else if (0:Int)<(k:Int) then ix (b.L.map yU) (IntKind.wrap .i64 ((k:Int)-1)) fun y1=>some (decide ((yU b.L[k]).Id≤y1.Id)) else some false)=some false∧W5 b k:=by
   show (if b.L[k].Id<1 then _ else if b.L[k].Span<1 then _ else if (1000:Int)<b.L[k].Span then _ else if b.L[k].c9≤b.dK then _ else if IntKind.wrap .i64 (b.dK+b.L[k].Span)<b.L[k].c9 then _ else if (0:Int)<(k:Int) then ix (b.L.map yU) (IntKind.wrap .i64 ((k:Int)-1)) fun y1=>some (decide (b.L[k].Id≤y1.Id)) else _)=_∧_∨(if b.L[k].Id<1 then _ else if b.L[k].Span<1 then _ else if (1000:Int)<b.L[k].Span then _ else if b.L[k].c9≤b.dK then _ else if IntKind.wrap .i64 (b.dK+b.L[k].Span)<b.L[k].c9 then _ else if (0:Int)<(k:Int) then ix (b.L.map yU) (IntKind.wrap .i64 ((k:Int)-1)) fun y1=>some (decide (b.L[k].Id≤y1.Id)) else _)=_∧_
   by_cases g1:b.L[k].Id<1
   ·exact .inl ⟨if_pos g1,fun ⟨_,h,_⟩=>by omega⟩
   rw [if_neg g1]
   by_cases g2:b.L[k].Span<1
   ·exact .inl ⟨if_pos g2,fun ⟨_,h,_⟩=>by omega⟩
   rw [if_neg g2]
   by_cases g3:1000<b.L[k].Span
   ·exact .inl ⟨if_pos g3,fun ⟨_,h,_⟩=>by omega⟩
   rw [if_neg g3]
   by_cases g4:b.L[k].c9≤b.dK
   ·exact .inl ⟨if_pos g4,fun ⟨_,h,_⟩=>by omega⟩
   rw [if_neg g4,wrap64 (by omega) (by omega)]
   by_cases g5:b.dK+b.L[k].Span<b.L[k].c9
   ·exact .inl ⟨if_pos g5,fun ⟨_,h,_⟩=>by omega⟩
   rw [if_neg g5]
   by_cases g6:(0:Int)<(k:Int)
   ·have Tc:k-1<(b.L.map yU).length:=by omega
    rw [if_pos g6,wrap64 (by omega) (by omega),show (k:Int)-1=((k-1:Nat):Int) by omega,bt Tc]
    have e2:(b.L.map yU)[k-1]=yU (b.L[k-1]'(by omega)):=List.getElem_map _
    rw [e2]
    by_cases g7:b.L[k].Id≤(yU (b.L[k-1]'(by omega))).Id
    ·exact .inl ⟨by rw [decide_eq_true g7],fun ⟨_,_,h⟩=>by
      have h:=h (by omega)
      have g7:b.L[k].Id≤(b.L[k-1]'(by omega)).Id:=g7
      omega⟩
    ·exact .inr ⟨by rw [decide_eq_false g7],hk,by omega,fun _=>by
      have g7: ¬b.L[k].Id≤(b.L[k-1]'(by omega)).Id:=g7
      omega⟩
   ·exact .inr ⟨if_neg g6,hk,by omega,fun h0=>by omega⟩
  rw [e1]
  rcases hw with ⟨hw,hn⟩|⟨hw,hn⟩
  ·rw [hw,aA,if_pos rfl]
   exact ⟨fun h=>absurd h hn,fun _=>rfl⟩
  ·rw [hw,aA,if_neg (by decide)]
   exact ⟨fun _=>rfl,fun h=>absurd hn h⟩
 ·unfold sR
  dsimp only
  rw [if_neg (by rw [List.length_map];omega)]
 ·rintro x (⟨rfl,h⟩|⟨rfl,k,hk,h⟩)
  ·refine .mk ⟨fun _=>⟨⟨by omega,by omega⟩,by omega,Nf fun k hk h0=>(h k hk).2.2 h0,fun x hx=> ?_⟩,fun _=>rfl⟩
   obtain ⟨k,hk,rfl⟩:=List.mem_iff_getElem.1 hx
   exact (h k hk).2.1
  ·refine .mk ⟨fun hh=>(by cases hh),fun hb=>absurd ⟨hk,hb.all _ (List.getElem_mem hk),fun h0=>hb.inc.lt hk (by omega)⟩ h⟩
def adf (L:List af) (k:Nat):Prop:= ∃hk:k<L.length,(0≤L[k].Client∧L[k].Client≤1000∧1≤L[k].Seq)∧ ∀h0:0<k,(L[k-1]'(by omega)).Client<L[k].Client
theorem Dr {r:ak} (h:Small r):bu (qN (nS r)) fun x=>x=true↔en r:=by
 have h1:=h.shelf
 have h2:=h.book
 have h3:=h.table
 have h4:=h.seen
 have LN:(en r→False)→bu (some false) fun x=>x=true↔en r:=fun h2=> .mk ⟨fun h=>(by cases h),fun h=>absurd h h2⟩
 unfold qN
 rw [show (nS r).Shelf=lX r.Shelf from rfl,MU _ (by omega),aA]
 cases hs:xY r.Shelf.L with
 |false=>
  rw [if_pos (show (!false)=true from rfl),aA,if_pos rfl]
  exact LN fun h=>by rw [Jm.2 h.shelf] at hs;cases hs
 |true=>
 rw [if_neg (by decide)]
 obtain ⟨b2,e2,g2⟩:=Ng r.br h2
 rw [show (nS r).br=⟨r.br.dK,r.br.L.map yU⟩ from rfl,e2,aA]
 cases b2 with
 |false=>
  rw [if_pos (show (!false)=true from rfl),aA,if_pos rfl]
  exact LN fun h=>by have:=g2.2 h.book;cases this
 |true=>
 rw [if_neg (by decide)]
 obtain ⟨b3,e3,g3⟩:=M3 r.bg.L h3
 rw [show (nS r).bg=⟨r.bg.L.map GJ⟩ from rfl,e3,aA]
 cases b3 with
 |false=>
  rw [if_pos (show (!false)=true from rfl),aA,if_pos rfl]
  exact LN fun h=>by have:=g3.2 h.table;cases this
 |true=>
 rw [if_neg (by decide)]
 have ma:(nS r).Seen.length=r.Seen.length:=List.length_map _
 rw [ma]
 by_cases h50:(50:Int)<(r.Seen.length:Int)
 ·rw [decide_eq_true h50,aA,if_pos rfl]
  exact LN fun h=>by have:=h.few;omega
 rw [decide_eq_false h50,aA,if_neg (by decide)]
 refine bu.bd (nP r.Seen.length (adf r.Seen) false (fun k hk _=> ?_) ?_) ?_
 ·unfold sU
  have hka:k<(nS r).Seen.length:=by omega
  rw [if_pos (by omega),bt hka,wrap64 (show-9223372036854775808≤(k:Int)+1 by omega) (by omega)]
  have e1:(nS r).Seen[k]=Av r.Seen[k]:=List.getElem_map _
  rw [e1]
  have hw:(if (Av r.Seen[k]).Client<0 then some true else if (1000:Int)<(Av r.Seen[k]).Client then some true else if (Av r.Seen[k]).Seq<1 then some true else if (0:Int)<(k:Int) then ix (nS r).Seen (IntKind.wrap .i64 ((k:Int)-1)) fun y1=>some (decide ((Av r.Seen[k]).Client≤y1.Client)) else some false)=some true∧ ¬adf r.Seen k∨(if (Av r.Seen[k]).Client<0 then some true else if (1000:Int)<(Av r.Seen[k]).Client then some true else if (Av r.Seen[k]).Seq<1 then some true else if (0:Int)<(k:Int) then ix (nS r).Seen (IntKind.wrap .i64 ((k:Int)-1)) fun y1=>some (decide ((Av r.Seen[k]).Client≤y1.Client)) else some false)=some false∧adf r.Seen k:=by
   show (if r.Seen[k].Client<0 then _ else if (1000:Int)<r.Seen[k].Client then _ else if r.Seen[k].Seq<1 then _ else if (0:Int)<(k:Int) then ix (nS r).Seen (IntKind.wrap .i64 ((k:Int)-1)) fun y1=>some (decide (r.Seen[k].Client≤y1.Client)) else _)=_∧_∨(if r.Seen[k].Client<0 then _ else if (1000:Int)<r.Seen[k].Client then _ else if r.Seen[k].Seq<1 then _ else if (0:Int)<(k:Int) then ix (nS r).Seen (IntKind.wrap .i64 ((k:Int)-1)) fun y1=>some (decide (r.Seen[k].Client≤y1.Client)) else _)=_∧_
   by_cases g1:r.Seen[k].Client<0
   ·exact .inl ⟨if_pos g1,fun ⟨_,h,_⟩=>by omega⟩
   rw [if_neg g1]
   by_cases g2:1000<r.Seen[k].Client
   ·exact .inl ⟨if_pos g2,fun ⟨_,h,_⟩=>by omega⟩
   rw [if_neg g2]
   by_cases g3:r.Seen[k].Seq<1
   ·exact .inl ⟨if_pos g3,fun ⟨_,h,_⟩=>by omega⟩
   rw [if_neg g3]
   by_cases g6:(0:Int)<(k:Int)
   ·have Tc:k-1<(nS r).Seen.length:=by omega
    rw [if_pos g6,wrap64 (by omega) (by omega),show (k:Int)-1=((k-1:Nat):Int) by omega,bt Tc]
    have e2:(nS r).Seen[k-1]=Av (r.Seen[k-1]'(by omega)):=List.getElem_map _
    rw [e2]
    by_cases g7:r.Seen[k].Client≤(Av (r.Seen[k-1]'(by omega))).Client
    ·exact .inl ⟨by rw [decide_eq_true g7],fun ⟨_,_,h⟩=>by
      have h:=h (by omega)
      have g7:r.Seen[k].Client≤(r.Seen[k-1]'(by omega)).Client:=g7
      omega⟩
    ·exact .inr ⟨by rw [decide_eq_false g7],hk,by omega,fun _=>by
      have g7: ¬r.Seen[k].Client≤(r.Seen[k-1]'(by omega)).Client:=g7
      omega⟩
   ·exact .inr ⟨if_neg g6,hk,by omega,fun h0=>by omega⟩
  rcases hw with ⟨hw,hn⟩|⟨hw,hn⟩
  ·rw [hw,aA,if_pos rfl]
   exact ⟨fun h=>absurd h hn,fun _=>rfl⟩
  ·rw [hw,aA,if_neg (by decide)]
   exact ⟨fun _=>rfl,fun h=>absurd hn h⟩
 ·unfold sU
  rw [if_neg (by omega)]
 ·rintro x (⟨rfl,hh⟩|⟨rfl,k,hk,hh⟩)
  ·refine .mk ⟨fun _=>⟨⟨Jm.1 hs,g2.1 rfl,g3.1 rfl⟩,Nf fun k hk h0=>(hh k hk).2.2 h0,by omega,fun x hx=> ?_⟩,fun _=>rfl⟩
   obtain ⟨k,hk,rfl⟩:=List.mem_iff_getElem.1 hx
   exact (hh k hk).2.1
  ·exact .mk ⟨fun h=>(by cases h),fun hb=>absurd ⟨hk,hb.seen _ (List.getElem_mem hk),fun h0=>hb.inc.lt hk (by omega)⟩ hh⟩
end Dn.S
