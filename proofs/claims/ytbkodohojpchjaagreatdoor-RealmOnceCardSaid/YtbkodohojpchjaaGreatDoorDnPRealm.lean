import Derived.Test.YtbkodohojpchjaaGreatDoorDnPShelf10
import Derived.Test.YtbkodohojpchjaaGreatDoorDnPWatch3
/-
  Realms: sessions. Conditions: none.
-/
open Go Dn
set_option linter.unusedVariables false
set_option linter.unusedSimpArgs false
namespace Dn.S
abbrev lh (x:av):Int:=x.Id
abbrev jq (x:af):Int:=x.Client
theorem QQ (x y:Int):jb x y=some (KJ x y):=by
 unfold jb nx KJ
 simp only [aA,decide_true,Bool.not_true,Bool.false_eq_true,if_false]
 split
 ·rfl
 ·split<;>rfl
theorem SP (b:aC) (id:Int):dX b id=bsearch b.L id di:=by
 unfold dX
 rw [show cz b.L id di=bsearch b.L id di from rfl]
 cases bsearch b.L id di<;>rfl
theorem yS {b:aC} (hs:oK lh b.L) (hl:b.L.length<2^60) (id:Int):dX b id=some ((o9 lh b.L id:Int),ka lh b.L id):=by
 rw [SP]
 refine Gu hs hl fun a=> ?_
 unfold di
 rw [QQ,aA]
theorem SQ (r:ak) (c:Int):eY r c=bsearch r.Seen c cX:=by
 unfold eY
 rw [show cJ r.Seen c cX=bsearch r.Seen c cX from rfl]
 cases bsearch r.Seen c cX<;>rfl
theorem Jp {r:ak} (hs:oK jq r.Seen) (hl:r.Seen.length<2^60) (c:Int):eY r c=some ((o9 jq r.Seen c:Int),ka jq r.Seen c):=by
 rw [SQ]
 refine Gu hs hl fun a=> ?_
 unfold cX
 rw [QQ,aA]
structure jn (b:aC):Prop where
 now:0≤b.dK∧b.dK≤1000000000
 len:b.L.length≤50
 inc:oK lh b.L
 all: ∀x∈b.L,1≤x.Id∧1≤x.Span∧x.Span≤1000∧b.dK<x.c9∧x.c9≤b.dK+x.Span
theorem ada {b:aC} (h:jn b) (id:Int):uq b id=some (ka lh b.L id):=by
 unfold uq
 rw [yS h.inc (by have:=h.len;omega),aA]
def uP (b:aC) (id span:Int):Int:=if id<1∨span<1∨1000<span then 1 else if ka lh b.L id then 7 else if 50≤b.L.length then 9 else 0
def Dp (b:aC) (id span:Int):aC:=if uP b id span=0 then ⟨b.dK,Gv lh b.L ⟨id,span,b.dK+span⟩⟩ else b
theorem WH {p q r:Prop} [Decidable p] [Decidable q] [Decidable r]:(if p then some true else if q then some true else some (decide r))=some (decide (p∨q∨r)):=by
 by_cases h1:p
 ·rw [if_pos h1,decide_eq_true (.inl h1)]
 ·rw [if_neg h1]
  by_cases h2:q
  ·rw [if_pos h2,decide_eq_true (.inr (.inl h2))]
  ·rw [if_neg h2]
   congr 1
   rw [decide_eq_decide]
   exact ⟨fun h=> .inr (.inr h),fun h=>h.resolve_left h1|>.resolve_left h2⟩
theorem ZS {b:aC} (h:jn b) (id span:Int):rr b id span=some (Dp b id span,uP b id span):=by
 unfold rr
 have hlen:=h.len
 have akf:=h.now
 rw [yS h.inc (by omega),aA,WH,aA]
 by_cases h1:id<1∨span<1∨1000<span
 ·have hE:uP b id span=1:=by unfold uP;rw [if_pos h1]
  unfold Dp
  rw [decide_eq_true h1,if_pos rfl,hE,if_neg (by decide)]
 rw [decide_eq_false h1,if_neg (by decide)]
 dsimp only
 cases h2:ka lh b.L id with
 |true=>
  have hE:uP b id span=7:=by unfold uP;rw [if_neg h1,h2,if_pos rfl]
  unfold Dp
  rw [if_pos rfl,hE,if_neg (by decide)]
 |false=>
  rw [if_neg (by decide)]
  by_cases h3:50≤b.L.length
  ·have hE:uP b id span=9:=by unfold uP;rw [if_neg h1,h2,if_neg (by decide),if_pos h3]
   unfold Dp
   rw [if_pos (by omega),hE,if_neg (by decide)]
  ·have hE:uP b id span=0:=by unfold uP;rw [if_neg h1,h2,if_neg (by decide),if_neg h3]
   unfold Dp
   have hi:=Gw (key:=lh) (L:=b.L) (a:=(⟨id,span,b.dK+span⟩:av)) (by':=24) (by omega)
   rw [if_neg (by omega),yN (by omega),aA,wrap64 (by omega) (by omega),show o9 lh b.L id=o9 lh b.L (lh ⟨id,span,b.dK+span⟩) from rfl,hi,aA,hE,if_pos rfl]
def CE (b:aC) (id:Int):aC×Int:=if ka lh b.L id then (match b.L[o9 lh b.L id]? with|some y=>⟨b.dK,b.L.set (o9 lh b.L id) ⟨y.Id,y.Span,b.dK+y.Span⟩⟩|none=>b,0) else (b,14)
theorem WI {b:aC} (h:jn b) (id:Int):pA b id=some (CE b id):=by
 unfold pA CE
 have hlen:=h.len
 have akf:=h.now
 rw [yS h.inc (by omega),aA]
 dsimp only
 cases h2:ka lh b.L id with
 |false=>rfl
 |true=>
  obtain ⟨hk,he⟩:=(h.inc.has id).1 h2
  have hx:=h.all _ (List.getElem_mem hk)
  rw [if_neg (by decide),yN (by omega),aA,bt hk,bt hk,wrap64 (by omega) (by omega),if_pos rfl,List.getElem?_eq_getElem hk,Int.toNat_natCast]
def r6 (b:aC) (id:Int):aC×Int:=if ka lh b.L id then (⟨b.dK,b.L.take (o9 lh b.L id)++b.L.drop (o9 lh b.L id+1)⟩,0) else (b,14)
theorem WJ {b:aC} (h:jn b) (id:Int):pB b id=some (r6 b id):=by
 unfold pB r6
 have hlen:=h.len
 rw [yS h.inc (by omega),aA]
 dsimp only
 cases h2:ka lh b.L id with
 |false=>rfl
 |true=>
  obtain ⟨hk,he⟩:=(h.inc.has id).1 h2
  rw [if_neg (by decide),yN (by omega),aA,wrap64 (by omega) (by omega),if_pos rfl]
  unfold yw
  rw [if_pos (by omega),aA]
  simp only [Int.toNat_natCast]
  rfl
def zK (now:Int) (x:av):Bool:=decide (x.c9≤now)
def Dq (b:aC) (now:Int):Int:=if now<b.dK then 15 else if 1000000000<now then 5 else 0
def QR (b:aC) (now:Int):aC:=⟨now,b.L.filter fun x=>!zK now x⟩
def zL (b:aC) (now:Int):List Int:=(b.L.filter (zK now)).map (·.Id)
theorem ZT {b:aC} (h:jn b) (now:Int):rv b now=some (if Dq b now=0 then (QR b now,zL b now,0) else (b,[],Dq b now)):=by
 unfold rv Dq
 have hlen:=h.len
 by_cases h1:now<b.dK
 ·rw [if_pos h1,if_pos h1,if_neg (by decide)]
 rw [if_neg h1,if_neg h1]
 by_cases h2:1000000000<now
 ·rw [if_pos h2,if_pos h2,if_neg (by decide)]
 rw [if_neg h2,if_neg h2,if_pos rfl]
 have fW:Loop (nB b now) (([]:List Int),now,([]:List av),0)=some (zL b now,now,b.L.filter fun x=>!zK now x):=by
  refine bu.eq (bu.count (fun k=>(((b.L.take k).filter (zK now)).map (·.Id),now,(b.L.take k).filter (fun x=>!zK now x),(k:Int))) b.L.length (fun _=>True) (by simp) trivial (fun k hk _=> ?_) (fun _=> ?_))
  ·unfold nB
   dsimp only
   have l1:= @GI _ (zK now) b.L k
   have l2:= @GI _ (fun x=>!zK now x) b.L k
   rw [if_pos (by omega),bt hk,BF hk,BF hk,wrap64 (by omega) (by omega)]
   by_cases hg:b.L[k].c9≤now
   ·have hb:zK now b.L[k]=true:=decide_eq_true hg
    rw [if_pos hg,if_pos (by rw [List.length_map];simp only [List.length_cons,List.length_nil];omega)]
    simp only [hb,if_true,Bool.not_true,Bool.false_eq_true,if_false,List.append_nil,List.map_append,List.map_cons,List.map_nil]
    exact .mk ⟨rfl,trivial⟩
   ·have hb:zK now b.L[k]=false:=decide_eq_false hg
    rw [if_neg hg,if_pos (by simp only [List.length_cons,List.length_nil];omega)]
    simp only [hb,if_true,Bool.not_false,Bool.false_eq_true,if_false,List.append_nil]
    exact .mk ⟨rfl,trivial⟩
  ·unfold nB
   dsimp only
   rw [if_neg (by omega),List.take_length]
   exact .mk rfl
 rw [fW,aA]
 rfl
theorem QS {α:Type} {key:α→Int} {L:List α} (hs:oK key L) {a:α} (h:ka key L (key a)=false):oK key (Gv key L a):=by
 obtain ⟨h1,h2⟩:=hs.lb (key a)
 have db: ∀x∈L,key x≠key a:=fun x hx he=>by
  rw [Bool.eq_false_iff] at h
  exact h (Bz.2 ⟨x,hx,he⟩)
 unfold Gv oK
 rw [List.append_assoc,List.pairwise_append]
 refine ⟨List.Pairwise.sublist (List.take_sublist _ _) hs,?_,?_⟩
 ·rw [List.singleton_append,List.pairwise_cons]
  refine ⟨fun x hx=> ?_,List.Pairwise.sublist (List.drop_sublist _ _) hs⟩
  obtain ⟨k,hk,rfl⟩:=List.mem_iff_getElem.1 hx
  rw [List.length_drop] at hk
  rw [List.getElem_drop]
  have:=h2 (o9 key L (key a)+k) (by omega) (by omega)
  have:=db _ (List.getElem_mem (show o9 key L (key a)+k<L.length by omega))
  omega
 ·intro x hx y hy
  obtain ⟨k,hk,rfl⟩:=List.mem_iff_getElem.1 hx
  rw [List.length_take] at hk
  rw [List.getElem_take]
  have Dx:=h1 k (by omega) (by omega)
  rcases List.mem_append.1 hy with hy|hy
  ·rw [List.mem_singleton.1 hy];exact Dx
  ·obtain ⟨j,hj,rfl⟩:=List.mem_iff_getElem.1 hy
   rw [List.length_drop] at hj
   rw [List.getElem_drop]
   have:=h2 (o9 key L (key a)+j) (by omega) (by omega)
   omega
theorem KT {α:Type} {key:α→Int} {L:List α} {a x:α}:x∈Gv key L a↔x∈L∨x=a:=by
 unfold Gv
 rw [List.mem_append,List.mem_append,List.mem_singleton]
 have:x∈L↔x∈L.take (o9 key L (key a))∨x∈L.drop (o9 key L (key a)):=by
  rw [←List.mem_append,List.take_append_drop]
 rw [this]
 constructor
 ·rintro ((h|h)|h)
  ·exact .inl (.inl h)
  ·exact .inr h
  ·exact .inl (.inr h)
 ·rintro ((h|h)|h)
  ·exact .inl (.inl h)
  ·exact .inr h
  ·exact .inl (.inr h)
theorem QT {α:Type} {key:α→Int} {L:List α} {a:α}:(Gv key L a).length=L.length+1:=by
 unfold Gv
 have:=O7 (key:=key) L (key a)
 simp only [List.length_append,List.length_take,List.length_drop,List.length_cons,List.length_nil]
 omega
theorem ZU {b:aC} (h:jn b) (id span:Int):jn (Dp b id span):=by
 unfold Dp
 by_cases he:uP b id span=0
 ·rw [if_pos he]
  unfold uP at he
  split at he
  ·cases he
  rename_i h1
  split at he
  ·cases he
  rename_i h2
  split at he
  ·cases he
  rename_i h3
  have h2:ka lh b.L id=false:=by simpa using h2
  refine ⟨h.now,?_,QS h.inc h2,?_⟩
  ·show (Gv lh b.L _).length≤50
   rw [QT];omega
  ·intro x hx
   rcases KT.1 hx with hx|rfl
   ·exact h.all x hx
   ·dsimp only
    have:=h.now
    omega
 ·rw [if_neg he];exact h
theorem M4 {α:Type} {key:α→Int} {L M:List α} (h:M.map key=L.map key) (hs:oK key L):oK key M:=by
 unfold oK at *
 rw [←List.pairwise_map] at hs⊢
 rw [h];exact hs
theorem M5 {α:Type} {key:α→Int} {L:List α} {i:Nat} (hi:i<L.length) {y:α} (hy:key y=key L[i]):(L.set i y).map key=L.map key:=by
 rw [List.map_set,hy,←List.getElem_map key (h:=by simpa using hi),List.set_getElem_self]
theorem WK {b:aC} (h:jn b) (id:Int):jn (CE b id).1∧ ∀i,ka lh (CE b id).1.L i=ka lh b.L i:=by
 unfold CE
 cases h2:ka lh b.L id with
 |false=>exact ⟨h,fun _=>rfl⟩
 |true=>
  obtain ⟨hk,he⟩:=(h.inc.has id).1 h2
  rw [if_pos rfl,List.getElem?_eq_getElem hk]
  dsimp only
  have Qb:(b.L.set (o9 lh b.L id) ⟨b.L[o9 lh b.L id].Id,b.L[o9 lh b.L id].Span,b.dK+b.L[o9 lh b.L id].Span⟩).map lh=b.L.map lh:=M5 hk rfl
  refine ⟨⟨h.now,by show (b.L.set _ _).length≤50;rw [List.length_set];exact h.len,M4 Qb h.inc,fun x hx=> ?_⟩,fun i=> ?_⟩
  ·rcases List.mem_or_eq_of_mem_set hx with hx|rfl
   ·exact h.all x hx
   ·have:=h.all _ (List.getElem_mem hk)
    have:=h.now
    dsimp only
    omega
  ·have hh: ∀M:List av,ka lh M i=(M.map lh).any fun e=>decide (e=i):=fun M=>by
    unfold ka;rw [List.any_map];rfl
   rw [hh,hh,Qb]
theorem adb {b:aC} (h:jn b) {M:List av} (hM:M.Sublist b.L):jn ⟨b.dK,M⟩:=
 ⟨h.now,Nat.le_trans hM.length_le h.len,List.Pairwise.sublist hM h.inc,fun x hx=>h.all x (hM.subset hx)⟩
theorem ZV {α:Type} (L:List α) (i:Nat):(L.take i++L.drop (i+1)).Sublist L:=by
 rw [←List.eraseIdx_eq_take_drop_succ];exact List.eraseIdx_sublist ..
theorem M6 {b:aC} (h:jn b) (id:Int):jn (r6 b id).1:=by
 unfold r6
 split
 ·exact adb h (ZV _ _)
 ·exact h
theorem KU {b:aC} (h:jn b) {now:Int} (hz:Dq b now=0):jn (QR b now):=by
 unfold Dq at hz
 split at hz
 ·cases hz
 rename_i h1
 split at hz
 ·cases hz
 rename_i h2
 have hn:=h.now
 refine ⟨⟨by show 0≤now;omega,by show now≤_;omega⟩,Nat.le_trans (List.length_filter_le _ _) h.len,List.Pairwise.sublist List.filter_sublist h.inc,fun x hx=> ?_⟩
 obtain ⟨h3,h4⟩:=List.mem_filter.1 hx
 have:=h.all x h3
 have h5: ¬x.c9≤now:=by simpa [zK] using h4
 show 1≤x.Id∧1≤x.Span∧x.Span≤1000∧now<x.c9∧x.c9≤now+x.Span
 omega
end Dn.S
