import Derived.Test.YtbkodohojpchjaaGreatDoorDnPShelf10
import Derived.Test.YtbkodohojpchjaaGreatDoorDnPWatch3
/-
  Realms: sessions. Conditions: none.
-/
open Go Dn
set_option linter.unusedVariables false
set_option linter.unusedSimpArgs false
namespace Dn.S
abbrev kr (x:ar):Int:=x.Id
abbrev ug (x:ai):Int:=x.Client
theorem M0 (x y:Int):ig x y=some (HA x y):=by
 unfold ig mE HA
 simp only [aR,decide_true,Bool.not_true,Bool.false_eq_true,if_false]
 split
 ·rfl
 ·split<;>rfl
theorem OV (b:aD) (id:Int):dt b id=bsearch b.L id cI:=by
 unfold dt
 rw [show b8 b.L id cI=bsearch b.L id cI from rfl]
 cases bsearch b.L id cI<;>rfl
theorem wG {b:aD} (hs:sY kr b.L) (hl:b.L.length<2^60) (id:Int):dt b id=some ((rV kr b.L id:Int),li kr b.L id):=by
 rw [OV]
 refine DM hs hl fun a=> ?_
 unfold cI
 rw [M0,aR]
theorem OW (r:au) (c:Int):ei r c=bsearch r.Seen c cz:=by
 unfold ei
 rw [show ck r.Seen c cz=bsearch r.Seen c cz from rfl]
 cases bsearch r.Seen c cz<;>rfl
theorem Gj {r:au} (hs:sY ug r.Seen) (hl:r.Seen.length<2^60) (c:Int):ei r c=some ((rV ug r.Seen c:Int),li ug r.Seen c):=by
 rw [OW]
 refine DM hs hl fun a=> ?_
 unfold cz
 rw [M0,aR]
structure ku (b:aD):Prop where
 now:0≤b.fQ∧b.fQ≤1000000000
 len:b.L.length≤50
 inc:sY kr b.L
 all: ∀x∈b.L,1≤x.Id∧1≤x.Span∧x.Span≤1000∧b.fQ<x.jJ∧x.jJ≤b.fQ+x.Span
theorem YB {b:aD} (h:ku b) (id:Int):sE b id=some (li kr b.L id):=by
 unfold sE
 rw [wG h.inc (by have:=h.len;omega),aR]
def s4 (b:aD) (id span:Int):Int:=if id<1∨span<1∨1000<span then 1 else if li kr b.L id then 7 else if 50≤b.L.length then 9 else 0
def Bb (b:aD) (id span:Int):aD:=if s4 b id span=0 then ⟨b.fQ,DN kr b.L ⟨id,span,b.fQ+span⟩⟩ else b
theorem Sx {p q r:Prop} [Decidable p] [Decidable q] [Decidable r]:(if p then some true else if q then some true else some (decide r))=some (decide (p∨q∨r)):=by
 by_cases h1:p
 ·rw [if_pos h1,decide_eq_true (.inl h1)]
 ·rw [if_neg h1]
  by_cases h2:q
  ·rw [if_pos h2,decide_eq_true (.inr (.inl h2))]
  ·rw [if_neg h2]
   congr 1
   rw [decide_eq_decide]
   exact ⟨fun h=> .inr (.inr h),fun h=>h.resolve_left h1|>.resolve_left h2⟩
theorem Vl {b:aD} (h:ku b) (id span:Int):pQ b id span=some (Bb b id span,s4 b id span):=by
 unfold pQ
 have hlen:=h.len
 have afW:=h.now
 rw [wG h.inc (by omega),aR,Sx,aR]
 by_cases h1:id<1∨span<1∨1000<span
 ·have hE:s4 b id span=1:=by unfold s4;rw [if_pos h1]
  unfold Bb
  rw [decide_eq_true h1,if_pos rfl,hE,if_neg (by decide)]
 rw [decide_eq_false h1,if_neg (by decide)]
 dsimp only
 cases h2:li kr b.L id with
 |true=>
  have hE:s4 b id span=7:=by unfold s4;rw [if_neg h1,h2,if_pos rfl]
  unfold Bb
  rw [if_pos rfl,hE,if_neg (by decide)]
 |false=>
  rw [if_neg (by decide)]
  by_cases h3:50≤b.L.length
  ·have hE:s4 b id span=9:=by unfold s4;rw [if_neg h1,h2,if_neg (by decide),if_pos h3]
   unfold Bb
   rw [if_pos (by omega),hE,if_neg (by decide)]
  ·have hE:s4 b id span=0:=by unfold s4;rw [if_neg h1,h2,if_neg (by decide),if_neg h3]
   unfold Bb
   have hi:=DO (key:=kr) (L:=b.L) (a:=(⟨id,span,b.fQ+span⟩:ar)) (Yw:=24) (by omega)
   rw [if_neg (by omega),wD (by omega),aR,wrap64 (by omega) (by omega),show rV kr b.L id=rV kr b.L (kr ⟨id,span,b.fQ+span⟩) from rfl,hi,aR,hE,if_pos rfl]
def Ap (b:aD) (id:Int):aD×Int:=if li kr b.L id then (match b.L[rV kr b.L id]? with|some y=>⟨b.fQ,b.L.set (rV kr b.L id) ⟨y.Id,y.Span,b.fQ+y.Span⟩⟩|none=>b,0) else (b,14)
theorem Sy {b:aD} (h:ku b) (id:Int):n4 b id=some (Ap b id):=by
 unfold n4 Ap
 have hlen:=h.len
 have afW:=h.now
 rw [wG h.inc (by omega),aR]
 dsimp only
 cases h2:li kr b.L id with
 |false=>rfl
 |true=>
  obtain ⟨hk,he⟩:=(h.inc.has id).1 h2
  have hx:=h.all _ (List.getElem_mem hk)
  rw [if_neg (by decide),wD (by omega),aR,cg hk,cg hk,wrap64 (by omega) (by omega),if_pos rfl,List.getElem?_eq_getElem hk,Int.toNat_natCast]
def qt (b:aD) (id:Int):aD×Int:=if li kr b.L id then (⟨b.fQ,b.L.take (rV kr b.L id)++b.L.drop (rV kr b.L id+1)⟩,0) else (b,14)
theorem Sz {b:aD} (h:ku b) (id:Int):n5 b id=some (qt b id):=by
 unfold n5 qt
 have hlen:=h.len
 rw [wG h.inc (by omega),aR]
 dsimp only
 cases h2:li kr b.L id with
 |false=>rfl
 |true=>
  obtain ⟨hk,he⟩:=(h.inc.has id).1 h2
  rw [if_neg (by decide),wD (by omega),aR,wrap64 (by omega) (by omega),if_pos rfl]
  unfold wk
  rw [if_pos (by omega),aR]
  simp only [Int.toNat_natCast]
  rfl
def xu (now:Int) (x:ar):Bool:=decide (x.jJ≤now)
def Bc (b:aD) (now:Int):Int:=if now<b.fQ then 15 else if 1000000000<now then 5 else 0
def M1 (b:aD) (now:Int):aD:=⟨now,b.L.filter fun x=>!xu now x⟩
def zq (b:aD) (now:Int):List Int:=(b.L.filter (xu now)).map (·.Id)
theorem Vm {b:aD} (h:ku b) (now:Int):pS b now=some (if Bc b now=0 then (M1 b now,zq b now,0) else (b,[],Bc b now)):=by
 unfold pS Bc
 have hlen:=h.len
 by_cases h1:now<b.fQ
 ·rw [if_pos h1,if_pos h1,if_neg (by decide)]
 rw [if_neg h1,if_neg h1]
 by_cases h2:1000000000<now
 ·rw [if_pos h2,if_pos h2,if_neg (by decide)]
 rw [if_neg h2,if_neg h2,if_pos rfl]
 have iw:Loop (mI b now) (([]:List Int),now,([]:List ar),0)=some (zq b now,now,b.L.filter fun x=>!xu now x):=by
  refine bV.eq (bV.count (fun k=>(((b.L.take k).filter (xu now)).map (·.Id),now,(b.L.take k).filter (fun x=>!xu now x),(k:Int))) b.L.length (fun _=>True) (by simp) trivial (fun k hk _=> ?_) (fun _=> ?_))
  ·unfold mI
   dsimp only
   have l1:= @DX _ (xu now) b.L k
   have l2:= @DX _ (fun x=>!xu now x) b.L k
   rw [if_pos (by omega),cg hk,zp hk,zp hk,wrap64 (by omega) (by omega)]
   by_cases hg:b.L[k].jJ≤now
   ·have hb:xu now b.L[k]=true:=decide_eq_true hg
    rw [if_pos hg,if_pos (by rw [List.length_map];simp only [List.length_cons,List.length_nil];omega)]
    simp only [hb,if_true,Bool.not_true,Bool.false_eq_true,if_false,List.append_nil,List.map_append,List.map_cons,List.map_nil]
    exact .mk ⟨rfl,trivial⟩
   ·have hb:xu now b.L[k]=false:=decide_eq_false hg
    rw [if_neg hg,if_pos (by simp only [List.length_cons,List.length_nil];omega)]
    simp only [hb,if_true,Bool.not_false,Bool.false_eq_true,if_false,List.append_nil]
    exact .mk ⟨rfl,trivial⟩
  ·unfold mI
   dsimp only
   rw [if_neg (by omega),List.take_length]
   exact .mk rfl
 rw [iw,aR]
 rfl
theorem M2 {α:Type} {key:α→Int} {L:List α} (hs:sY key L) {a:α} (h:li key L (key a)=false):sY key (DN key L a):=by
 obtain ⟨h1,h2⟩:=hs.lb (key a)
 have cG: ∀x∈L,key x≠key a:=fun x hx he=>by
  rw [Bool.eq_false_iff] at h
  exact h (Se.2 ⟨x,hx,he⟩)
 unfold DN sY
 rw [List.append_assoc,List.pairwise_append]
 refine ⟨List.Pairwise.sublist (List.take_sublist _ _) hs,?_,?_⟩
 ·rw [List.singleton_append,List.pairwise_cons]
  refine ⟨fun x hx=> ?_,List.Pairwise.sublist (List.drop_sublist _ _) hs⟩
  obtain ⟨k,hk,rfl⟩:=List.mem_iff_getElem.1 hx
  rw [List.length_drop] at hk
  rw [List.getElem_drop]
  have:=h2 (rV key L (key a)+k) (by omega) (by omega)
  have:=cG _ (List.getElem_mem (show rV key L (key a)+k<L.length by omega))
  omega
 ·intro x hx y hy
  obtain ⟨k,hk,rfl⟩:=List.mem_iff_getElem.1 hx
  rw [List.length_take] at hk
  rw [List.getElem_take]
  have Bi:=h1 k (by omega) (by omega)
  rcases List.mem_append.1 hy with hy|hy
  ·rw [List.mem_singleton.1 hy];exact Bi
  ·obtain ⟨j,hj,rfl⟩:=List.mem_iff_getElem.1 hy
   rw [List.length_drop] at hj
   rw [List.getElem_drop]
   have:=h2 (rV key L (key a)+j) (by omega) (by omega)
   omega
theorem M3 {α:Type} {key:α→Int} {L:List α} {a x:α}:x∈DN key L a↔x∈L∨x=a:=by
 unfold DN
 rw [List.mem_append,List.mem_append,List.mem_singleton]
 have:x∈L↔x∈L.take (rV key L (key a))∨x∈L.drop (rV key L (key a)):=by
  rw [←List.mem_append,List.take_append_drop]
 rw [this]
 constructor
 ·rintro ((h|h)|h)
  ·exact .inl (.inl h)
  ·exact .inr h
  ·exact .inl (.inr h)
 ·rintro ((h|h)|h)
  ·exact .inl (.inl h)
  ·exact .inr h
  ·exact .inl (.inr h)
theorem M4 {α:Type} {key:α→Int} {L:List α} {a:α}:(DN key L a).length=L.length+1:=by
 unfold DN
 have:=Lo (key:=key) L (key a)
 simp only [List.length_append,List.length_take,List.length_drop,List.length_cons,List.length_nil]
 omega
theorem Vn {b:aD} (h:ku b) (id span:Int):ku (Bb b id span):=by
 unfold Bb
 by_cases he:s4 b id span=0
 ·rw [if_pos he]
  unfold s4 at he
  split at he
  ·cases he
  rename_i h1
  split at he
  ·cases he
  rename_i h2
  split at he
  ·cases he
  rename_i h3
  have h2:li kr b.L id=false:=by simpa using h2
  refine ⟨h.now,?_,M2 h.inc h2,?_⟩
  ·show (DN kr b.L _).length≤50
   rw [M4];omega
  ·intro x hx
   rcases M3.1 hx with hx|rfl
   ·exact h.all x hx
   ·dsimp only
    have:=h.now
    omega
 ·rw [if_neg he];exact h
theorem JH {α:Type} {key:α→Int} {L M:List α} (h:M.map key=L.map key) (hs:sY key L):sY key M:=by
 unfold sY at *
 rw [←List.pairwise_map] at hs⊢
 rw [h];exact hs
theorem JI {α:Type} {key:α→Int} {L:List α} {i:Nat} (hi:i<L.length) {y:α} (hy:key y=key L[i]):(L.set i y).map key=L.map key:=by
 rw [List.map_set,hy,←List.getElem_map key (h:=by simpa using hi),List.set_getElem_self]
theorem SA {b:aD} (h:ku b) (id:Int):ku (Ap b id).1∧ ∀i,li kr (Ap b id).1.L i=li kr b.L i:=by
 unfold Ap
 cases h2:li kr b.L id with
 |false=>exact ⟨h,fun _=>rfl⟩
 |true=>
  obtain ⟨hk,he⟩:=(h.inc.has id).1 h2
  rw [if_pos rfl,List.getElem?_eq_getElem hk]
  dsimp only
  have Mm:(b.L.set (rV kr b.L id) ⟨b.L[rV kr b.L id].Id,b.L[rV kr b.L id].Span,b.fQ+b.L[rV kr b.L id].Span⟩).map kr=b.L.map kr:=JI hk rfl
  refine ⟨⟨h.now,by show (b.L.set _ _).length≤50;rw [List.length_set];exact h.len,JH Mm h.inc,fun x hx=> ?_⟩,fun i=> ?_⟩
  ·rcases List.mem_or_eq_of_mem_set hx with hx|rfl
   ·exact h.all x hx
   ·have:=h.all _ (List.getElem_mem hk)
    have:=h.now
    dsimp only
    omega
  ·have hh: ∀M:List ar,li kr M i=(M.map kr).any fun e=>decide (e=i):=fun M=>by
    unfold li;rw [List.any_map];rfl
   rw [hh,hh,Mm]
theorem YC {b:aD} (h:ku b) {M:List ar} (hM:M.Sublist b.L):ku ⟨b.fQ,M⟩:=
 ⟨h.now,Nat.le_trans hM.length_le h.len,List.Pairwise.sublist hM h.inc,fun x hx=>h.all x (hM.subset hx)⟩
theorem Vo {α:Type} (L:List α) (i:Nat):(L.take i++L.drop (i+1)).Sublist L:=by
 rw [←List.eraseIdx_eq_take_drop_succ];exact List.eraseIdx_sublist ..
theorem JJ {b:aD} (h:ku b) (id:Int):ku (qt b id).1:=by
 unfold qt
 split
 ·exact YC h (Vo _ _)
 ·exact h
theorem M5 {b:aD} (h:ku b) {now:Int} (hz:Bc b now=0):ku (M1 b now):=by
 unfold Bc at hz
 split at hz
 ·cases hz
 rename_i h1
 split at hz
 ·cases hz
 rename_i h2
 have hn:=h.now
 refine ⟨⟨by show 0≤now;omega,by show now≤_;omega⟩,Nat.le_trans (List.length_filter_le _ _) h.len,List.Pairwise.sublist List.filter_sublist h.inc,fun x hx=> ?_⟩
 obtain ⟨h3,h4⟩:=List.mem_filter.1 hx
 have:=h.all x h3
 have h5: ¬x.jJ≤now:=by simpa [xu] using h4
 show 1≤x.Id∧1≤x.Span∧x.Span≤1000∧now<x.jJ∧x.jJ≤now+x.Span
 omega
end Dn.S
