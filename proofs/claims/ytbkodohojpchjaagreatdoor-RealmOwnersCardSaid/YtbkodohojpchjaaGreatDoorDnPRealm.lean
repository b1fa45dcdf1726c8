import Derived.Test.YtbkodohojpchjaaGreatDoorDnPShelf10
import Derived.Test.YtbkodohojpchjaaGreatDoorDnPWatch3
/-
  Realms: sessions. Conditions: none.
-/
open Go Dn
set_option linter.unusedVariables false
set_option linter.unusedSimpArgs false
namespace Dn.S
abbrev dO (x:ay):Int:=x.Id
abbrev uV (x:ai):Int:=x.Client
theorem Oa (x y:Int):iM x y=some (Iy x y):=by
 unfold iM mX Iy
 simp only [aM,decide_true,Bool.not_true,Bool.false_eq_true,if_false]
 split
 ·rfl
 ·split<;>rfl
theorem P9 (b:az) (id:Int):dz b id=bsearch b.L id cS:=by
 unfold dz
 rw [show b8 b.L id cS=bsearch b.L id cS from rfl]
 cases bsearch b.L id cS<;>rfl
theorem xw {b:az} (hs:tG dO b.L) (hl:b.L.length<2^60) (id:Int):dz b id=some ((pB dO b.L id:Int),fY dO b.L id):=by
 rw [P9]
 refine EH hs hl fun a=> ?_
 unfold cS
 rw [Oa,aM]
theorem Qa (r:aq) (c:Int):ez r c=bsearch r.Seen c cD:=by
 unfold ez
 rw [show cn r.Seen c cD=bsearch r.Seen c cD from rfl]
 cases bsearch r.Seen c cD<;>rfl
theorem Hi {r:aq} (hs:tG uV r.Seen) (hl:r.Seen.length<2^60) (c:Int):ez r c=some ((pB uV r.Seen c:Int),fY uV r.Seen c):=by
 rw [Qa]
 refine EH hs hl fun a=> ?_
 unfold cD
 rw [Oa,aM]
structure iY (b:az):Prop where
 now:0≤b.fE∧b.fE≤1000000000
 len:b.L.length≤50
 inc:tG dO b.L
 all: ∀x∈b.L,1≤x.Id∧1≤x.Span∧x.Span≤1000∧b.fE<x.gz∧x.gz≤b.fE+x.Span
theorem TD {b:az} (h:iY b) (id:Int):p8 b id=some (fY dO b.L id):=by
 unfold p8
 rw [xw h.inc (by have:=h.len;omega),aM]
def tK (b:az) (id span:Int):Int:=if id<1∨span<1∨1000<span then 1 else if fY dO b.L id then 7 else if 50≤b.L.length then 9 else 0
def yo (b:az) (id span:Int):az:=if tK b id span=0 then ⟨b.fE,EI dO b.L ⟨id,span,b.fE+span⟩⟩ else b
theorem TE {p q r:Prop} [Decidable p] [Decidable q] [Decidable r]:(if p then some true else if q then some true else some (decide r))=some (decide (p∨q∨r)):=by
 by_cases h1:p
 ·rw [if_pos h1,decide_eq_true (.inl h1)]
 ·rw [if_neg h1]
  by_cases h2:q
  ·rw [if_pos h2,decide_eq_true (.inr (.inl h2))]
  ·rw [if_neg h2]
   congr 1
   rw [decide_eq_decide]
   exact ⟨fun h=> .inr (.inr h),fun h=>h.resolve_left h1|>.resolve_left h2⟩
theorem Wq {b:az} (h:iY b) (id span:Int):qw b id span=some (yo b id span,tK b id span):=by
 unfold qw
 have hlen:=h.len
 have agw:=h.now
 rw [xw h.inc (by omega),aM,TE,aM]
 by_cases h1:id<1∨span<1∨1000<span
 ·have hE:tK b id span=1:=by unfold tK;rw [if_pos h1]
  unfold yo
  rw [decide_eq_true h1,if_pos rfl,hE,if_neg (by decide)]
 rw [decide_eq_false h1,if_neg (by decide)]
 dsimp only
 cases h2:fY dO b.L id with
 |true=>
  have hE:tK b id span=7:=by unfold tK;rw [if_neg h1,h2,if_pos rfl]
  unfold yo
  rw [if_pos rfl,hE,if_neg (by decide)]
 |false=>
  rw [if_neg (by decide)]
  by_cases h3:50≤b.L.length
  ·have hE:tK b id span=9:=by unfold tK;rw [if_neg h1,h2,if_neg (by decide),if_pos h3]
   unfold yo
   rw [if_pos (by omega),hE,if_neg (by decide)]
  ·have hE:tK b id span=0:=by unfold tK;rw [if_neg h1,h2,if_neg (by decide),if_neg h3]
   unfold yo
   have hi:=EJ (key:=dO) (L:=b.L) (a:=(⟨id,span,b.fE+span⟩:ay)) (ZC:=24) (by omega)
   rw [if_neg (by omega),xr (by omega),aM,wrap64 (by omega) (by omega),show pB dO b.L id=pB dO b.L (dO ⟨id,span,b.fE+span⟩) from rfl,hi,aM,hE,if_pos rfl]
def A6 (b:az) (id:Int):az×Int:=if fY dO b.L id then (match b.L[pB dO b.L id]? with|some y=>⟨b.fE,b.L.set (pB dO b.L id) ⟨y.Id,y.Span,b.fE+y.Span⟩⟩|none=>b,0) else (b,14)
theorem TF {b:az} (h:iY b) (id:Int):oL b id=some (A6 b id):=by
 unfold oL A6
 have hlen:=h.len
 have agw:=h.now
 rw [xw h.inc (by omega),aM]
 dsimp only
 cases h2:fY dO b.L id with
 |false=>rfl
 |true=>
  obtain ⟨hk,he⟩:=(h.inc.has id).1 h2
  have hx:=h.all _ (List.getElem_mem hk)
  rw [if_neg (by decide),xr (by omega),aM,cg hk,cg hk,wrap64 (by omega) (by omega),if_pos rfl,List.getElem?_eq_getElem hk,Int.toNat_natCast]
def jV (b:az) (id:Int):az×Int:=if fY dO b.L id then (⟨b.fE,b.L.take (pB dO b.L id)++b.L.drop (pB dO b.L id+1)⟩,0) else (b,14)
theorem TG {b:az} (h:iY b) (id:Int):oM b id=some (jV b id):=by
 unfold oM jV
 have hlen:=h.len
 rw [xw h.inc (by omega),aM]
 dsimp only
 cases h2:fY dO b.L id with
 |false=>rfl
 |true=>
  obtain ⟨hk,he⟩:=(h.inc.has id).1 h2
  rw [if_neg (by decide),xr (by omega),aM,wrap64 (by omega) (by omega),if_pos rfl]
  unfold xj
  rw [if_pos (by omega),aM]
  simp only [Int.toNat_natCast]
  rfl
def wU (now:Int) (x:ay):Bool:=decide (x.gz≤now)
def BQ (b:az) (now:Int):Int:=if now<b.fE then 15 else if 1000000000<now then 5 else 0
def EW (b:az) (now:Int):az:=⟨now,b.L.filter fun x=>!wU now x⟩
def vn (b:az) (now:Int):List Int:=(b.L.filter (wU now)).map (·.Id)
theorem Wr {b:az} (h:iY b) (now:Int):qy b now=some (if BQ b now=0 then (EW b now,vn b now,0) else (b,[],BQ b now)):=by
 unfold qy BQ
 have hlen:=h.len
 by_cases h1:now<b.fE
 ·rw [if_pos h1,if_pos h1,if_neg (by decide)]
 rw [if_neg h1,if_neg h1]
 by_cases h2:1000000000<now
 ·rw [if_pos h2,if_pos h2,if_neg (by decide)]
 rw [if_neg h2,if_neg h2,if_pos rfl]
 have fZ:Loop (nb b now) (([]:List Int),now,([]:List ay),0)=some (vn b now,now,b.L.filter fun x=>!wU now x):=by
  refine bK.eq (bK.count (fun k=>(((b.L.take k).filter (wU now)).map (·.Id),now,(b.L.take k).filter (fun x=>!wU now x),(k:Int))) b.L.length (fun _=>True) (by simp) trivial (fun k hk _=> ?_) (fun _=> ?_))
  ·unfold nb
   dsimp only
   have l1:= @EV _ (wU now) b.L k
   have l2:= @EV _ (fun x=>!wU now x) b.L k
   rw [if_pos (by omega),cg hk,z7 hk,z7 hk,wrap64 (by omega) (by omega)]
   by_cases hg:b.L[k].gz≤now
   ·have hb:wU now b.L[k]=true:=decide_eq_true hg
    rw [if_pos hg,if_pos (by rw [List.length_map];simp only [List.length_cons,List.length_nil];omega)]
    simp only [hb,if_true,Bool.not_true,Bool.false_eq_true,if_false,List.append_nil,List.map_append,List.map_cons,List.map_nil]
    exact .mk ⟨rfl,trivial⟩
   ·have hb:wU now b.L[k]=false:=decide_eq_false hg
    rw [if_neg hg,if_pos (by simp only [List.length_cons,List.length_nil];omega)]
    simp only [hb,if_true,Bool.not_false,Bool.false_eq_true,if_false,List.append_nil]
    exact .mk ⟨rfl,trivial⟩
  ·unfold nb
   dsimp only
   rw [if_neg (by omega),List.take_length]
   exact .mk rfl
 rw [fZ,aM]
 rfl
theorem Ob {α:Type} {key:α→Int} {L:List α} (hs:tG key L) {a:α} (h:fY key L (key a)=false):tG key (EI key L a):=by
 obtain ⟨h1,h2⟩:=hs.lb (key a)
 have cI: ∀x∈L,key x≠key a:=fun x hx he=>by
  rw [Bool.eq_false_iff] at h
  exact h (qY.2 ⟨x,hx,he⟩)
 unfold EI tG
 rw [List.append_assoc,List.pairwise_append]
 refine ⟨List.Pairwise.sublist (List.take_sublist _ _) hs,?_,?_⟩
 ·rw [List.singleton_append,List.pairwise_cons]
  refine ⟨fun x hx=> ?_,List.Pairwise.sublist (List.drop_sublist _ _) hs⟩
  obtain ⟨k,hk,rfl⟩:=List.mem_iff_getElem.1 hx
  rw [List.length_drop] at hk
  rw [List.getElem_drop]
  have:=h2 (pB key L (key a)+k) (by omega) (by omega)
  have:=cI _ (List.getElem_mem (show pB key L (key a)+k<L.length by omega))
  omega
 ·intro x hx y hy
  obtain ⟨k,hk,rfl⟩:=List.mem_iff_getElem.1 hx
  rw [List.length_take] at hk
  rw [List.getElem_take]
  have BW:=h1 k (by omega) (by omega)
  rcases List.mem_append.1 hy with hy|hy
  ·rw [List.mem_singleton.1 hy];exact BW
  ·obtain ⟨j,hj,rfl⟩:=List.mem_iff_getElem.1 hy
   rw [List.length_drop] at hj
   rw [List.getElem_drop]
   have:=h2 (pB key L (key a)+j) (by omega) (by omega)
   omega
theorem IK {α:Type} {key:α→Int} {L:List α} {a x:α}:x∈EI key L a↔x∈L∨x=a:=by
 unfold EI
 rw [List.mem_append,List.mem_append,List.mem_singleton]
 have:x∈L↔x∈L.take (pB key L (key a))∨x∈L.drop (pB key L (key a)):=by
  rw [←List.mem_append,List.take_append_drop]
 rw [this]
 constructor
 ·rintro ((h|h)|h)
  ·exact .inl (.inl h)
  ·exact .inr h
  ·exact .inl (.inr h)
 ·rintro ((h|h)|h)
  ·exact .inl (.inl h)
  ·exact .inr h
  ·exact .inl (.inr h)
theorem Oc {α:Type} {key:α→Int} {L:List α} {a:α}:(EI key L a).length=L.length+1:=by
 unfold EI
 have:=Mx (key:=key) L (key a)
 simp only [List.length_append,List.length_take,List.length_drop,List.length_cons,List.length_nil]
 omega
theorem Ws {b:az} (h:iY b) (id span:Int):iY (yo b id span):=by
 unfold yo
 by_cases he:tK b id span=0
 ·rw [if_pos he]
  unfold tK at he
  split at he
  ·cases he
  rename_i h1
  split at he
  ·cases he
  rename_i h2
  split at he
  ·cases he
  rename_i h3
  have h2:fY dO b.L id=false:=by simpa using h2
  refine ⟨h.now,?_,Ob h.inc h2,?_⟩
  ·show (EI dO b.L _).length≤50
   rw [Oc];omega
  ·intro x hx
   rcases IK.1 hx with hx|rfl
   ·exact h.all x hx
   ·dsimp only
    have:=h.now
    omega
 ·rw [if_neg he];exact h
theorem KO {α:Type} {key:α→Int} {L M:List α} (h:M.map key=L.map key) (hs:tG key L):tG key M:=by
 unfold tG at *
 rw [←List.pairwise_map] at hs⊢
 rw [h];exact hs
theorem KP {α:Type} {key:α→Int} {L:List α} {i:Nat} (hi:i<L.length) {y:α} (hy:key y=key L[i]):(L.set i y).map key=L.map key:=by
 rw [List.map_set,hy,←List.getElem_map key (h:=by simpa using hi),List.set_getElem_self]
theorem KQ {b:az} (h:iY b) (id:Int):iY (A6 b id).1∧ ∀i,fY dO (A6 b id).1.L i=fY dO b.L i:=by
 unfold A6
 cases h2:fY dO b.L id with
 |false=>exact ⟨h,fun _=>rfl⟩
 |true=>
  obtain ⟨hk,he⟩:=(h.inc.has id).1 h2
  rw [if_pos rfl,List.getElem?_eq_getElem hk]
  dsimp only
  have NB:(b.L.set (pB dO b.L id) ⟨b.L[pB dO b.L id].Id,b.L[pB dO b.L id].Span,b.fE+b.L[pB dO b.L id].Span⟩).map dO=b.L.map dO:=KP hk rfl
  refine ⟨⟨h.now,by show (b.L.set _ _).length≤50;rw [List.length_set];exact h.len,KO NB h.inc,fun x hx=> ?_⟩,fun i=> ?_⟩
  ·rcases List.mem_or_eq_of_mem_set hx with hx|rfl
   ·exact h.all x hx
   ·have:=h.all _ (List.getElem_mem hk)
    have:=h.now
    dsimp only
    omega
  ·have hh: ∀M:List ay,fY dO M i=(M.map dO).any fun e=>decide (e=i):=fun M=>by
    unfold fY;rw [List.any_map];rfl
   rw [hh,hh,NB]
theorem ZH {b:az} (h:iY b) {M:List ay} (hM:M.Sublist b.L):iY ⟨b.fE,M⟩:=
 ⟨h.now,Nat.le_trans hM.length_le h.len,List.Pairwise.sublist hM h.inc,fun x hx=>h.all x (hM.subset hx)⟩
theorem IL {α:Type} (L:List α) (i:Nat):(L.take i++L.drop (i+1)).Sublist L:=by
 rw [←List.eraseIdx_eq_take_drop_succ];exact List.eraseIdx_sublist ..
theorem KR {b:az} (h:iY b) (id:Int):iY (jV b id).1:=by
 unfold jV
 split
 ·exact ZH h (IL _ _)
 ·exact h
theorem Qb {b:az} (h:iY b) {id:Int} (hz:(jV b id).2=0) (i:Int):fY dO (jV b id).1.L i=(fY dO b.L i&&!decide (i=id)):=by
 unfold jV at hz⊢
 cases h2:fY dO b.L id with
 |false=>rw [h2] at hz;simp at hz
 |true=>
  obtain ⟨hk,he⟩:=(h.inc.has id).1 h2
  rw [if_pos rfl]
  dsimp only
  rw [Bool.eq_iff_iff,Bool.and_eq_true,qY,qY]
  constructor
  ·rintro ⟨x,hx,hi⟩
   refine ⟨⟨x,(IL _ _).subset hx,hi⟩,?_⟩
   have:x.Id≠id:=by
    intro hxi
    rcases List.mem_append.1 hx with hx|hx
    ·obtain ⟨k,LR,rfl⟩:=List.mem_iff_getElem.1 hx
     rw [List.length_take] at LR
     rw [List.getElem_take] at hxi
     have h5:b.L[k].Id<id:=(h.inc.lb id).1 k (by omega) (by omega)
     omega
    ·obtain ⟨k,LR,rfl⟩:=List.mem_iff_getElem.1 hx
     rw [List.length_drop] at LR
     rw [List.getElem_drop] at hxi
     have h5:b.L[pB dO b.L id].Id<b.L[pB dO b.L id+1+k].Id:=h.inc.lt (i:=pB dO b.L id) (j:=pB dO b.L id+1+k) (by omega) (by omega)
     have h6:b.L[pB dO b.L id].Id=id:=he
     omega
   unfold dO at hi
   rw [←hi]
   simpa using this
  ·rintro ⟨⟨x,hx,hi⟩,hn⟩
   refine ⟨x,?_,hi⟩
   obtain ⟨k,LR,rfl⟩:=List.mem_iff_getElem.1 hx
   have cI:k≠pB dO b.L id:=by
    intro Z7
    subst Z7
    have hn:i≠id:=by simpa using hn
    exact hn (hi.symm.trans he)
   rw [List.mem_append]
   by_cases cz:k<pB dO b.L id
   ·left
    rw [List.mem_take_iff_getElem]
    exact ⟨k,by omega,rfl⟩
   ·right
    rw [List.mem_drop_iff_getElem]
    exact ⟨k-(pB dO b.L id+1),by omega,by congr 1;omega⟩
theorem Od {b:az} (h:iY b) {now:Int} (hz:BQ b now=0):iY (EW b now):=by
 unfold BQ at hz
 split at hz
 ·cases hz
 rename_i h1
 split at hz
 ·cases hz
 rename_i h2
 have hn:=h.now
 refine ⟨⟨by show 0≤now;omega,by show now≤_;omega⟩,Nat.le_trans (List.length_filter_le _ _) h.len,List.Pairwise.sublist List.filter_sublist h.inc,fun x hx=> ?_⟩
 obtain ⟨h3,h4⟩:=List.mem_filter.1 hx
 have:=h.all x h3
 have h5: ¬x.gz≤now:=by simpa [wU] using h4
 show 1≤x.Id∧1≤x.Span∧x.Span≤1000∧now<x.gz∧x.gz≤now+x.Span
 omega
theorem TH {b:az} (h:iY b) (now i:Int):fY dO (EW b now).L i=(fY dO b.L i&&!decide (i∈vn b now)):=by
 unfold EW vn
 dsimp only
 rw [Bool.eq_iff_iff,Bool.and_eq_true,qY,qY]
 constructor
 ·rintro ⟨x,hx,hi⟩
  obtain ⟨h3,h4⟩:=List.mem_filter.1 hx
  refine ⟨⟨x,h3,hi⟩,?_⟩
  rw [Bool.not_eq_true',decide_eq_false_iff_not,List.mem_map]
  rintro ⟨y,hy,he⟩
  obtain ⟨h5,h6⟩:=List.mem_filter.1 hy
  obtain ⟨k,hk,rfl⟩:=List.mem_iff_getElem.1 h3
  obtain ⟨j,hj,rfl⟩:=List.mem_iff_getElem.1 h5
  have hkj:k=j:=by
   rcases Nat.lt_trichotomy k j with cz|iH|cz
   ·have:=h.inc.lt hj cz;unfold dO at this hi;omega
   ·exact iH
   ·have:=h.inc.lt hk cz;unfold dO at this hi;omega
  subst hkj
  rw [h6] at h4;cases h4
 ·rintro ⟨⟨x,hx,hi⟩,hn⟩
  refine ⟨x,List.mem_filter.2 ⟨hx,?_⟩,hi⟩
  rw [Bool.not_eq_true',decide_eq_false_iff_not] at hn
  cases hg:wU now x with
  |false=>rfl
  |true=>exact absurd (List.mem_map.2 ⟨x,List.mem_filter.2 ⟨hx,hg⟩,hi⟩) hn
end Dn.S
