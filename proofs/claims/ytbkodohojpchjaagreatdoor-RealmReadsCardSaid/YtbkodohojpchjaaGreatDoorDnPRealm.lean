import Derived.Test.YtbkodohojpchjaaGreatDoorDnPShelf10
import Derived.Test.YtbkodohojpchjaaGreatDoorDnPWatch3
/-
  Realms: sessions. Conditions: none.
-/
open Go Dn
set_option linter.unusedVariables false
set_option linter.unusedSimpArgs false
namespace Dn.S
abbrev lh (x:aw):Int:=x.Id
abbrev kG (x:af):Int:=x.Client
theorem Qs (x y:Int):ja x y=some (Kt x y):=by
 unfold ja nx Kt
 simp only [aC,decide_true,Bool.not_true,Bool.false_eq_true,if_false]
 split
 ·rfl
 ·split<;>rfl
theorem Sv (b:aD) (id:Int):dQ b id=bsearch b.L id df:=by
 unfold dQ
 rw [show cv b.L id df=bsearch b.L id df from rfl]
 cases bsearch b.L id df<;>rfl
theorem yE {b:aD} (hs:qC lh b.L) (hl:b.L.length<2^60) (id:Int):dQ b id=some ((oZ lh b.L id:Int),ki lh b.L id):=by
 rw [Sv]
 refine Gu hs hl fun a=> ?_
 unfold df
 rw [Qs,aC]
theorem Sw (r:ak) (c:Int):eU r c=bsearch r.Seen c cU:=by
 unfold eU
 rw [show cF r.Seen c cU=bsearch r.Seen c cU from rfl]
 cases bsearch r.Seen c cU<;>rfl
theorem Jg {r:ak} (hs:qC kG r.Seen) (hl:r.Seen.length<2^60) (c:Int):eU r c=some ((oZ kG r.Seen c:Int),ki kG r.Seen c):=by
 rw [Sw]
 refine Gu hs hl fun a=> ?_
 unfold cU
 rw [Qs,aC]
structure jj (b:aD):Prop where
 now:0≤b.dE∧b.dE≤1000000000
 len:b.L.length≤50
 inc:qC lh b.L
 all: ∀x∈b.L,1≤x.Id∧1≤x.Span∧x.Span≤1000∧b.dE<x.cY∧x.cY≤b.dE+x.Span
theorem acG {b:aD} (h:jj b) (id:Int):ui b id=some (ki lh b.L id):=by
 unfold ui
 rw [yE h.inc (by have:=h.len;omega),aC]
def uE (b:aD) (id span:Int):Int:=if id<1∨span<1∨1000<span then 1 else if ki lh b.L id then 7 else if 50≤b.L.length then 9 else 0
def De (b:aD) (id span:Int):aD:=if uE b id span=0 then ⟨b.dE,Gv lh b.L ⟨id,span,b.dE+span⟩⟩ else b
theorem We {p q r:Prop} [Decidable p] [Decidable q] [Decidable r]:(if p then some true else if q then some true else some (decide r))=some (decide (p∨q∨r)):=by
 by_cases h1:p
 ·rw [if_pos h1,decide_eq_true (.inl h1)]
 ·rw [if_neg h1]
  by_cases h2:q
  ·rw [if_pos h2,decide_eq_true (.inr (.inl h2))]
  ·rw [if_neg h2]
   congr 1
   rw [decide_eq_decide]
   exact ⟨fun h=> .inr (.inr h),fun h=>h.resolve_left h1|>.resolve_left h2⟩
theorem Zg {b:aD} (h:jj b) (id span:Int):rc b id span=some (De b id span,uE b id span):=by
 unfold rc
 have hlen:=h.len
 have ala:=h.now
 rw [yE h.inc (by omega),aC,We,aC]
 by_cases h1:id<1∨span<1∨1000<span
 ·have hE:uE b id span=1:=by unfold uE;rw [if_pos h1]
  unfold De
  rw [decide_eq_true h1,if_pos rfl,hE,if_neg (by decide)]
 rw [decide_eq_false h1,if_neg (by decide)]
 dsimp only
 cases h2:ki lh b.L id with
 |true=>
  have hE:uE b id span=7:=by unfold uE;rw [if_neg h1,h2,if_pos rfl]
  unfold De
  rw [if_pos rfl,hE,if_neg (by decide)]
 |false=>
  rw [if_neg (by decide)]
  by_cases h3:50≤b.L.length
  ·have hE:uE b id span=9:=by unfold uE;rw [if_neg h1,h2,if_neg (by decide),if_pos h3]
   unfold De
   rw [if_pos (by omega),hE,if_neg (by decide)]
  ·have hE:uE b id span=0:=by unfold uE;rw [if_neg h1,h2,if_neg (by decide),if_neg h3]
   unfold De
   have hi:=Gw (key:=lh) (L:=b.L) (a:=(⟨id,span,b.dE+span⟩:aw)) (by':=24) (by omega)
   rw [if_neg (by omega),yA (by omega),aC,wrap64 (by omega) (by omega),show oZ lh b.L id=oZ lh b.L (lh ⟨id,span,b.dE+span⟩) from rfl,hi,aC,hE,if_pos rfl]
def Ct (b:aD) (id:Int):aD×Int:=if ki lh b.L id then (match b.L[oZ lh b.L id]? with|some y=>⟨b.dE,b.L.set (oZ lh b.L id) ⟨y.Id,y.Span,b.dE+y.Span⟩⟩|none=>b,0) else (b,14)
theorem Wf {b:aD} (h:jj b) (id:Int):pq b id=some (Ct b id):=by
 unfold pq Ct
 have hlen:=h.len
 have ala:=h.now
 rw [yE h.inc (by omega),aC]
 dsimp only
 cases h2:ki lh b.L id with
 |false=>rfl
 |true=>
  obtain ⟨hk,he⟩:=(h.inc.has id).1 h2
  have hx:=h.all _ (List.getElem_mem hk)
  rw [if_neg (by decide),yA (by omega),aC,bx hk,bx hk,wrap64 (by omega) (by omega),if_pos rfl,List.getElem?_eq_getElem hk,Int.toNat_natCast]
def rV (b:aD) (id:Int):aD×Int:=if ki lh b.L id then (⟨b.dE,b.L.take (oZ lh b.L id)++b.L.drop (oZ lh b.L id+1)⟩,0) else (b,14)
theorem Wg {b:aD} (h:jj b) (id:Int):pu b id=some (rV b id):=by
 unfold pu rV
 have hlen:=h.len
 rw [yE h.inc (by omega),aC]
 dsimp only
 cases h2:ki lh b.L id with
 |false=>rfl
 |true=>
  obtain ⟨hk,he⟩:=(h.inc.has id).1 h2
  rw [if_neg (by decide),yA (by omega),aC,wrap64 (by omega) (by omega),if_pos rfl]
  unfold yc
  rw [if_pos (by omega),aC]
  simp only [Int.toNat_natCast]
  rfl
def zv (now:Int) (x:aw):Bool:=decide (x.cY≤now)
def Df (b:aD) (now:Int):Int:=if now<b.dE then 15 else if 1000000000<now then 5 else 0
def Qt (b:aD) (now:Int):aD:=⟨now,b.L.filter fun x=>!zv now x⟩
def Bv (b:aD) (now:Int):List Int:=(b.L.filter (zv now)).map (·.Id)
theorem Zh {b:aD} (h:jj b) (now:Int):rf b now=some (if Df b now=0 then (Qt b now,Bv b now,0) else (b,[],Df b now)):=by
 unfold rf Df
 have hlen:=h.len
 by_cases h1:now<b.dE
 ·rw [if_pos h1,if_pos h1,if_neg (by decide)]
 rw [if_neg h1,if_neg h1]
 by_cases h2:1000000000<now
 ·rw [if_pos h2,if_pos h2,if_neg (by decide)]
 rw [if_neg h2,if_neg h2,if_pos rfl]
 have fT:Loop (nB b now) (([]:List Int),now,([]:List aw),0)=some (Bv b now,now,b.L.filter fun x=>!zv now x):=by
  refine bq.eq (bq.count (fun k=>(((b.L.take k).filter (zv now)).map (·.Id),now,(b.L.take k).filter (fun x=>!zv now x),(k:Int))) b.L.length (fun _=>True) (by simp) trivial (fun k hk _=> ?_) (fun _=> ?_))
  ·unfold nB
   dsimp only
   have l1:= @GI _ (zv now) b.L k
   have l2:= @GI _ (fun x=>!zv now x) b.L k
   rw [if_pos (by omega),bx hk,Bt hk,Bt hk,wrap64 (by omega) (by omega)]
   by_cases hg:b.L[k].cY≤now
   ·have hb:zv now b.L[k]=true:=decide_eq_true hg
    rw [if_pos hg,if_pos (by rw [List.length_map];simp only [List.length_cons,List.length_nil];omega)]
    simp only [hb,if_true,Bool.not_true,Bool.false_eq_true,if_false,List.append_nil,List.map_append,List.map_cons,List.map_nil]
    exact .mk ⟨rfl,trivial⟩
   ·have hb:zv now b.L[k]=false:=decide_eq_false hg
    rw [if_neg hg,if_pos (by simp only [List.length_cons,List.length_nil];omega)]
    simp only [hb,if_true,Bool.not_false,Bool.false_eq_true,if_false,List.append_nil]
    exact .mk ⟨rfl,trivial⟩
  ·unfold nB
   dsimp only
   rw [if_neg (by omega),List.take_length]
   exact .mk rfl
 rw [fT,aC]
 rfl
theorem Qu {α:Type} {key:α→Int} {L:List α} (hs:qC key L) {a:α} (h:ki key L (key a)=false):qC key (Gv key L a):=by
 obtain ⟨h1,h2⟩:=hs.lb (key a)
 have cT: ∀x∈L,key x≠key a:=fun x hx he=>by
  rw [Bool.eq_false_iff] at h
  exact h (Bn.2 ⟨x,hx,he⟩)
 unfold Gv qC
 rw [List.append_assoc,List.pairwise_append]
 refine ⟨List.Pairwise.sublist (List.take_sublist _ _) hs,?_,?_⟩
 ·rw [List.singleton_append,List.pairwise_cons]
  refine ⟨fun x hx=> ?_,List.Pairwise.sublist (List.drop_sublist _ _) hs⟩
  obtain ⟨k,hk,rfl⟩:=List.mem_iff_getElem.1 hx
  rw [List.length_drop] at hk
  rw [List.getElem_drop]
  have:=h2 (oZ key L (key a)+k) (by omega) (by omega)
  have:=cT _ (List.getElem_mem (show oZ key L (key a)+k<L.length by omega))
  omega
 ·intro x hx y hy
  obtain ⟨k,hk,rfl⟩:=List.mem_iff_getElem.1 hx
  rw [List.length_take] at hk
  rw [List.getElem_take]
  have Dm:=h1 k (by omega) (by omega)
  rcases List.mem_append.1 hy with hy|hy
  ·rw [List.mem_singleton.1 hy];exact Dm
  ·obtain ⟨j,hj,rfl⟩:=List.mem_iff_getElem.1 hy
   rw [List.length_drop] at hj
   rw [List.getElem_drop]
   have:=h2 (oZ key L (key a)+j) (by omega) (by omega)
   omega
theorem KF {α:Type} {key:α→Int} {L:List α} {a x:α}:x∈Gv key L a↔x∈L∨x=a:=by
 unfold Gv
 rw [List.mem_append,List.mem_append,List.mem_singleton]
 have:x∈L↔x∈L.take (oZ key L (key a))∨x∈L.drop (oZ key L (key a)):=by
  rw [←List.mem_append,List.take_append_drop]
 rw [this]
 constructor
 ·rintro ((h|h)|h)
  ·exact .inl (.inl h)
  ·exact .inr h
  ·exact .inl (.inr h)
 ·rintro ((h|h)|h)
  ·exact .inl (.inl h)
  ·exact .inr h
  ·exact .inl (.inr h)
theorem Qv {α:Type} {key:α→Int} {L:List α} {a:α}:(Gv key L a).length=L.length+1:=by
 unfold Gv
 have:=OQ (key:=key) L (key a)
 simp only [List.length_append,List.length_take,List.length_drop,List.length_cons,List.length_nil]
 omega
theorem Zj {b:aD} (h:jj b) (id span:Int):jj (De b id span):=by
 unfold De
 by_cases he:uE b id span=0
 ·rw [if_pos he]
  unfold uE at he
  split at he
  ·cases he
  rename_i h1
  split at he
  ·cases he
  rename_i h2
  split at he
  ·cases he
  rename_i h3
  have h2:ki lh b.L id=false:=by simpa using h2
  refine ⟨h.now,?_,Qu h.inc h2,?_⟩
  ·show (Gv lh b.L _).length≤50
   rw [Qv];omega
  ·intro x hx
   rcases KF.1 hx with hx|rfl
   ·exact h.all x hx
   ·dsimp only
    have:=h.now
    omega
 ·rw [if_neg he];exact h
theorem MK {α:Type} {key:α→Int} {L M:List α} (h:M.map key=L.map key) (hs:qC key L):qC key M:=by
 unfold qC at *
 rw [←List.pairwise_map] at hs⊢
 rw [h];exact hs
theorem ML {α:Type} {key:α→Int} {L:List α} {i:Nat} (hi:i<L.length) {y:α} (hy:key y=key L[i]):(L.set i y).map key=L.map key:=by
 rw [List.map_set,hy,←List.getElem_map key (h:=by simpa using hi),List.set_getElem_self]
theorem Wh {b:aD} (h:jj b) (id:Int):jj (Ct b id).1∧ ∀i,ki lh (Ct b id).1.L i=ki lh b.L i:=by
 unfold Ct
 cases h2:ki lh b.L id with
 |false=>exact ⟨h,fun _=>rfl⟩
 |true=>
  obtain ⟨hk,he⟩:=(h.inc.has id).1 h2
  rw [if_pos rfl,List.getElem?_eq_getElem hk]
  dsimp only
  have PQ:(b.L.set (oZ lh b.L id) ⟨b.L[oZ lh b.L id].Id,b.L[oZ lh b.L id].Span,b.dE+b.L[oZ lh b.L id].Span⟩).map lh=b.L.map lh:=ML hk rfl
  refine ⟨⟨h.now,by show (b.L.set _ _).length≤50;rw [List.length_set];exact h.len,MK PQ h.inc,fun x hx=> ?_⟩,fun i=> ?_⟩
  ·rcases List.mem_or_eq_of_mem_set hx with hx|rfl
   ·exact h.all x hx
   ·have:=h.all _ (List.getElem_mem hk)
    have:=h.now
    dsimp only
    omega
  ·have hh: ∀M:List aw,ki lh M i=(M.map lh).any fun e=>decide (e=i):=fun M=>by
    unfold ki;rw [List.any_map];rfl
   rw [hh,hh,PQ]
theorem acH {b:aD} (h:jj b) {M:List aw} (hM:M.Sublist b.L):jj ⟨b.dE,M⟩:=
 ⟨h.now,Nat.le_trans hM.length_le h.len,List.Pairwise.sublist hM h.inc,fun x hx=>h.all x (hM.subset hx)⟩
theorem Zk {α:Type} (L:List α) (i:Nat):(L.take i++L.drop (i+1)).Sublist L:=by
 rw [←List.eraseIdx_eq_take_drop_succ];exact List.eraseIdx_sublist ..
theorem MM {b:aD} (h:jj b) (id:Int):jj (rV b id).1:=by
 unfold rV
 split
 ·exact acH h (Zk _ _)
 ·exact h
theorem Qw {b:aD} (h:jj b) {now:Int} (hz:Df b now=0):jj (Qt b now):=by
 unfold Df at hz
 split at hz
 ·cases hz
 rename_i h1
 split at hz
 ·cases hz
 rename_i h2
 have hn:=h.now
 refine ⟨⟨by show 0≤now;omega,by show now≤_;omega⟩,Nat.le_trans (List.length_filter_le _ _) h.len,List.Pairwise.sublist List.filter_sublist h.inc,fun x hx=> ?_⟩
 obtain ⟨h3,h4⟩:=List.mem_filter.1 hx
 have:=h.all x h3
 have h5: ¬x.cY≤now:=by simpa [zv] using h4
 show 1≤x.Id∧1≤x.Span∧x.Span≤1000∧now<x.cY∧x.cY≤now+x.Span
 omega
end Dn.S
