import Derived.Test.YtbkodohojpchjaaGreatDoorDnPShelf10
import Derived.Test.YtbkodohojpchjaaGreatDoorDnPWatch3
/-
  Realms: sessions. Conditions: none.
-/
set_option linter.unusedVariables false
set_option linter.unusedSimpArgs false
open List.Pairwise renaming sublist→c9
open List renaming mem_iff_getElem→sh,mem_append→AI,getElem?_eq_getElem→AT,getElem_mem→By,length_cons→BY,length_drop→IN,length_nil→IS,mem_singleton→IT,getElem_drop→OF,length_take→aaq,append_nil→aar
open Bool renaming false_eq_true→AS,not_true→aas
open Int renaming toNat_natCast→No
open Nat renaming le_trans→aaF
open Go Dn
namespace Dn.S
abbrev fC (x:aE):Int:=x.Id
abbrev iD (x:ai):Int:=x.Client
theorem VE (x y:Int):j0 x y=some (Oy x y):=by
 unfold j0 o4 Oy;simp only [av,decide_true,aas,AS,if_false];split
 ·rfl
 ·split<;>rfl
theorem XE (b:aK)(id:Int):eQ b id=bsearch b.L id dQ:=by unfold eQ;rw [show da b.L id dQ=bsearch b.L id dQ from rfl];cases bsearch b.L id dQ<;>rfl
theorem Bz {b:aK}(hs:rL fC b.L)(hl:b.L.length<2^60)(id:Int):eQ b id=some ((nj fC b.L id:Int),fP fC b.L id):=by rw [XE];refine Kc hs hl λa=> ?_;unfold dQ;rw [VE,av]
theorem XF (r:ap)(c:Int):fT r c=bsearch r.Seen c dE:=by unfold fT;rw [show dt r.Seen c dE=bsearch r.Seen c dE from rfl];cases bsearch r.Seen c dE<;>rfl
theorem MM {r:ap}(hs:rL iD r.Seen)(hl:r.Seen.length<2^60)(c:Int):fT r c=some ((nj iD r.Seen c:Int),fP iD r.Seen c):=by rw [XF];refine Kc hs hl λa=> ?_;unfold dE;rw [VE,av]
structure jN (b:aK):Prop where
 now:0<=b.cI/\b.cI<=1000000000
 len:b.L.length<=50
 inc:rL fC b.L
 all: ∀x∈b.L,1<=x.Id/\1<=x.Span/\x.Span<=1000/\b.cI<x.dX/\x.dX<=b.cI+x.Span
theorem aiS {b:aK}(h:jN b)(id:Int):wH b id=some (fP fC b.L id):=by unfold wH;rw [Bz h.inc (by have:=h.len;omega),av]
def su (b:aK)(id span:Int):Int:=if id<1\/span<1\/1000<span then 1 else if fP fC b.L id then 7 else if 50<=b.L.length then 9 else 0
def AN (b:aK)(id span:Int):aK:=if su b id span=0 then ⟨b.cI,Ez fC b.L ⟨id,span,b.cI+span⟩⟩ else b
theorem Rr {p q r:Prop}[Decidable p][Decidable q][Decidable r]:(if p then some true else if q then some true else some (decide r))=some (decide (p\/q\/r)):=by
 by_cases h1:p
 ·rw [if_pos h1,decide_eq_true (.inl h1)]
 ·rw [if_neg h1];by_cases h2:q
  ·rw [if_pos h2,decide_eq_true (.inr (.inl h2))]
  ·rw [if_neg h2];congr 1;rw [decide_eq_decide];exact ⟨λh=> .inr (.inr h),λh=>h.resolve_left h1|>.resolve_left h2⟩
theorem ae8 {b:aK}(h:jN b)(id span:Int):tu b id span=some (AN b id span,su b id span):=by
 unfold tu;have hlen:=h.len;have aiT:=h.now;rw [Bz h.inc (by omega),av,Rr,av];by_cases h1:id<1\/span<1\/1000<span
 ·have hE:su b id span=1:=by unfold su;rw [if_pos h1]
  unfold AN;rw [decide_eq_true h1,if_pos rfl,hE,if_neg (by decide)]
 rw [decide_eq_false h1,if_neg (by decide)];dsimp only;cases h2:fP fC b.L id with
 |true=>
  have hE:su b id span=7:=by unfold su;rw [if_neg h1,h2,if_pos rfl]
  unfold AN;rw [if_pos rfl,hE,if_neg (by decide)]
 |false=>
  rw [if_neg (by decide)];by_cases h3:50<=b.L.length
  ·have hE:su b id span=9:=by unfold su;rw [if_neg h1,h2,if_neg (by decide),if_pos h3]
   unfold AN;rw [if_pos (by omega),hE,if_neg (by decide)]
  ·have hE:su b id span=0:=by unfold su;rw [if_neg h1,h2,if_neg (by decide),if_neg h3]
   unfold AN;have hi:=Ke (key:=fC) (L:=b.L) (a:=(⟨id,span,b.cI+span⟩:aE)) (by':=24) (by omega);rw [if_neg (by omega),Bv (by omega),av,wrap64 (by omega) (by omega),show nj fC b.L id=nj fC b.L (fC ⟨id,span,b.cI+span⟩) from rfl,hi,av,hE,if_pos rfl]
def qC (b:aK)(id:Int):aK×Int:=if fP fC b.L id then (match b.L[nj fC b.L id]? with|some y=>⟨b.cI,b.L.set (nj fC b.L id) ⟨y.Id,y.Span,b.cI+y.Span⟩⟩|none=>b,0) else (b,14)
theorem abJ {b:aK}(h:jN b)(id:Int):rh b id=some (qC b id):=by
 unfold rh qC;have hlen:=h.len;have aiT:=h.now;rw [Bz h.inc (by omega),av];dsimp only;cases h2:fP fC b.L id with
 |false=>rfl
 |true=>obtain ⟨hk,he⟩:=(h.inc.has id).1 h2;have hx:=h.all _ (By hk);rw [if_neg (by decide),Bv (by omega),av,ba hk,ba hk,wrap64 (by omega) (by omega),if_pos rfl,AT hk,No]
def di (b:aK)(id:Int):aK×Int:=if fP fC b.L id then (⟨b.cI,b.L.take (nj fC b.L id)++b.L.drop (nj fC b.L id+1)⟩,0) else (b,14)
theorem abK {b:aK}(h:jN b)(id:Int):rj b id=some (di b id):=by
 unfold rj di;have hlen:=h.len;rw [Bz h.inc (by omega),av];dsimp only;cases h2:fP fC b.L id with
 |false=>rfl
 |true=>obtain ⟨hk,he⟩:=(h.inc.has id).1 h2;rw [if_neg (by decide),Bv (by omega),av,wrap64 (by omega) (by omega),if_pos rfl];unfold Bd;rw [if_pos (by omega),av];simp only [No];rfl
def rP (now:Int)(x:aE):Bool:=decide (x.dX<=now)
def pZ (b:aK)(now:Int):Int:=if now<b.cI then 15 else if 1000000000<now then 5 else 0
def Kp (b:aK)(now:Int):aK:=⟨now,b.L.filter λx=>!rP now x⟩
def p0 (b:aK)(now:Int):List Int:=(b.L.filter (rP now)).map (·.Id)
theorem ae9 {b:aK}(h:jN b)(now:Int):tx b now=some (if pZ b now=0 then (Kp b now,p0 b now,0) else (b,[],pZ b now)):=by
 unfold tx pZ;have hlen:=h.len;by_cases h1:now<b.cI
 ·rw [if_pos h1,if_pos h1,if_neg (by decide)]
 rw [if_neg h1,if_neg h1];by_cases h2:1000000000<now
 ·rw [if_pos h2,if_pos h2,if_neg (by decide)]
 rw [if_neg h2,if_neg h2,if_pos rfl];have cw:Loop (o9 b now) (([]:List Int),now,([]:List aE),0)=some (p0 b now,now,b.L.filter λx=>!rP now x):=by
  refine aO.eq (aO.count (λk=>(((b.L.take k).filter (rP now)).map (·.Id),now,(b.L.take k).filter (λx=>!rP now x),(k:Int))) b.L.length (λ_=>True) (by simp) trivial (λk hk _=> ?_) (λ_=> ?_))
  ·unfold o9;dsimp only;have l1:= @oe _ (rP now) b.L k;have l2:= @oe _ (λx=>!rP now x) b.L k;rw [if_pos (by omega),ba hk,kN hk,kN hk,wrap64 (by omega) (by omega)];by_cases hg:b.L[k].dX<=now
   ·have hb:rP now b.L[k]=true:=decide_eq_true hg;rw [if_pos hg,if_pos (by rw [List.length_map];simp only [BY,IS];omega)];simp only [hb,if_true,aas,AS,if_false,aar,List.map_append,List.map_cons,List.map_nil];exact .mk ⟨rfl,trivial⟩
   ·have hb:rP now b.L[k]=false:=decide_eq_false hg;rw [if_neg hg,if_pos (by simp only [BY,IS];omega)];simp only [hb,if_true,Bool.not_false,AS,if_false,aar];exact .mk ⟨rfl,trivial⟩
  ·unfold o9;dsimp only;rw [if_neg (by omega),List.take_length];exact .mk rfl
 rw [cw,av];rfl
theorem VF {α:Type}{key:α->Int}{L:List α}(hs:rL key L){a:α}(h:fP key L (key a)=false):rL key (Ez key L a):=by
 obtain ⟨h1,h2⟩:=hs.lb (key a);have dG: ∀x∈L,key x≠key a:=λx hx he=>by rw [Bool.eq_false_iff] at h;exact h (pH.2 ⟨x,hx,he⟩)
 unfold Ez rL;rw [List.append_assoc,List.pairwise_append];refine ⟨c9 (List.take_sublist _ _) hs,?_,?_⟩
 ·rw [List.singleton_append,List.pairwise_cons];refine ⟨λx hx=> ?_,c9 (List.drop_sublist _ _) hs⟩;obtain ⟨k,hk,rfl⟩:=sh.1 hx;rw [IN] at hk;rw [OF];have:=h2 (nj key L (key a)+k) (by omega) (by omega);have:=dG _ (By (show nj key L (key a)+k<L.length by omega));omega
 ·intro x hx y hy;obtain ⟨k,hk,rfl⟩:=sh.1 hx;rw [aaq] at hk;rw [List.getElem_take];have CX:=h1 k (by omega) (by omega);rcases AI.1 hy with hy|hy
  ·rw [IT.1 hy];exact CX
  ·obtain ⟨j,hj,rfl⟩:=sh.1 hy;rw [IN] at hj;rw [OF];have:=h2 (nj key L (key a)+j) (by omega) (by omega);omega
theorem OQ {α:Type}{key:α->Int}{L:List α}{a x:α}:x∈Ez key L a↔x∈L\/x=a:=by
 unfold Ez;rw [AI,AI,IT];have:x∈L↔x∈L.take (nj key L (key a))\/x∈L.drop (nj key L (key a)):=by rw [<-AI,List.take_append_drop]
 rw [this];constructor
 ·rintro ((h|h)|h)
  ·exact .inl (.inl h)
  ·exact .inr h
  ·exact .inl (.inr h)
 ·rintro ((h|h)|h)
  ·exact .inl (.inl h)
  ·exact .inr h
  ·exact .inl (.inr h)
theorem VG {α:Type}{key:α->Int}{L:List α}{a:α}:(Ez key L a).length=L.length+1:=by unfold Ez;have:=Kb (key:=key) L (key a);simp only [List.length_append,aaq,IN,BY,IS];omega
theorem afa {b:aK}(h:jN b)(id span:Int):jN (AN b id span):=by
 unfold AN;by_cases he:su b id span=0
 ·rw [if_pos he];unfold su at he;split at he
  ·cases he
  rename_i h1;split at he
  ·cases he
  rename_i h2;split at he
  ·cases he
  rename_i h3;have h2:fP fC b.L id=false:=by simpa using h2
  refine ⟨h.now,?_,VF h.inc h2,?_⟩
  ·show (Ez fC b.L _).length<=50;rw [VG];omega
  ·intro x hx;rcases OQ.1 hx with hx|rfl
   ·exact h.all x hx
   ·dsimp only;have:=h.now;omega
 ·rw [if_neg he];exact h
theorem Rs {α:Type}{key:α->Int}{L M:List α}(h:M.map key=L.map key)(hs:rL key L):rL key M:=by unfold rL at *;rw [<-List.pairwise_map] at hs⊢;rw [h];exact hs
theorem Rt {α:Type}{key:α->Int}{L:List α}{i:Nat}(hi:i<L.length){y:α}(hy:key y=key L[i]):(L.set i y).map key=L.map key:=by rw [List.map_set,hy,<-List.getElem_map key (h:=by simpa using hi),List.set_getElem_self]
theorem abL {b:aK}(h:jN b)(id:Int):jN (qC b id).1/\ ∀i,fP fC (qC b id).1.L i=fP fC b.L i:=by
 unfold qC;cases h2:fP fC b.L id with
 |false=>exact ⟨h,λ_=>rfl⟩
 |true=>
  obtain ⟨hk,he⟩:=(h.inc.has id).1 h2;rw [if_pos rfl,AT hk];dsimp only;have UJ:(b.L.set (nj fC b.L id) ⟨b.L[nj fC b.L id].Id,b.L[nj fC b.L id].Span,b.cI+b.L[nj fC b.L id].Span⟩).map fC=b.L.map fC:=Rt hk rfl;refine ⟨⟨h.now,by show (b.L.set _ _).length<=50;rw [List.length_set];exact h.len,Rs UJ h.inc,λx hx=> ?_⟩,λi=> ?_⟩
  ·rcases List.mem_or_eq_of_mem_set hx with hx|rfl
   ·exact h.all x hx
   ·have:=h.all _ (By hk);have:=h.now;dsimp only;omega
  ·have hh: ∀M:List aE,fP fC M i=(M.map fC).any λe=>decide (e=i):=λM=>by unfold fP;rw [List.any_map];rfl
   rw [hh,hh,UJ]
theorem aiU {b:aK}(h:jN b){M:List aE}(hM:M.Sublist b.L):jN ⟨b.cI,M⟩:=⟨h.now,aaF hM.length_le h.len,c9 hM h.inc,λx hx=>h.all x (hM.subset hx)⟩
theorem afb {α:Type}(L:List α)(i:Nat):(L.take i++L.drop (i+1)).Sublist L:=by rw [<-List.eraseIdx_eq_take_drop_succ];exact List.eraseIdx_sublist ..
theorem Ru {b:aK}(h:jN b)(id:Int):jN (di b id).1:=by
 unfold di;split
 ·exact aiU h (afb _ _)
 ·exact h
theorem HK {b:aK}(h:jN b){now:Int}(hz:pZ b now=0):jN (Kp b now):=by
 unfold pZ at hz;split at hz
 ·cases hz
 rename_i h1;split at hz
 ·cases hz
 rename_i h2;have hn:=h.now;refine ⟨⟨by show 0<=now;omega,by show now<=_;omega⟩,aaF (List.length_filter_le _ _) h.len,c9 List.filter_sublist h.inc,λx hx=> ?_⟩;obtain ⟨h3,h4⟩:=List.mem_filter.1 hx;have:=h.all x h3;have h5: ¬x.dX<=now:=by simpa [rP] using h4
 show 1<=x.Id/\1<=x.Span/\x.Span<=1000/\now<x.dX/\x.dX<=now+x.Span;omega
end Dn.S
