import Derived.Test.YtbkodohojpchjaaGreatDoorDnPShelf10
import Derived.Test.YtbkodohojpchjaaGreatDoorDnPWatch3
/-
  Realms: sessions. Conditions: none.
-/
set_option linter.unusedVariables false
set_option linter.unusedSimpArgs false
open List.Pairwise renaming sublist→c8
open List renaming mem_iff_getElem→sh,mem_append→AI,getElem?_eq_getElem→AT,getElem_mem→By,length_cons→BY,length_drop→IN,length_nil→IS,mem_singleton→IT,getElem_drop→OF,length_take→aaa,append_nil→aaf
open Bool renaming false_eq_true→AS,not_true→aai
open Int renaming toNat_natCast→No
open Nat renaming le_trans→aaj
open Go Dn
namespace Dn.S
abbrev fD (x:aC):Int:=x.Id
abbrev iC (x:aj):Int:=x.Client
theorem VV (x y:Int):j0 x y=some (OC x y):=by
 unfold j0 o7 OC;simp only [al,decide_true,aai,AS,if_false];split
 ·rfl
 ·split<;>rfl
theorem XX (b:aK)(id:Int):eQ b id=bsearch b.L id dR:=by unfold eQ;rw [show c9 b.L id dR=bsearch b.L id dR from rfl];cases bsearch b.L id dR<;>rfl
theorem BR {b:aK}(hs:pQ fD b.L)(hl:b.L.length<2^60)(id:Int):eQ b id=some ((nq fD b.L id:Int),fR fD b.L id):=by rw [XX];refine J8 hs hl λa=> ?_;unfold dR;rw [VV,al]
theorem XY (r:au)(c:Int):fV r c=bsearch r.Seen c dD:=by unfold fV;rw [show dq r.Seen c dD=bsearch r.Seen c dD from rfl];cases bsearch r.Seen c dD<;>rfl
theorem M0 {r:au}(hs:pQ iC r.Seen)(hl:r.Seen.length<2^60)(c:Int):fV r c=some ((nq iC r.Seen c:Int),fR iC r.Seen c):=by rw [XY];refine J8 hs hl λa=> ?_;unfold dD;rw [VV,al]
structure iD (b:aK):Prop where
 now:0<=b.ct/\b.ct<=1000000000
 len:b.L.length<=50
 inc:pQ fD b.L
 all: ∀x∈b.L,1<=x.Id/\1<=x.Span/\x.Span<=1000/\b.ct<x.cF/\x.cF<=b.ct+x.Span
theorem ai5 {b:aK}(h:iD b)(id:Int):wS b id=some (fR fD b.L id):=by unfold wS;rw [BR h.inc (by have:=h.len;omega),al]
def sd (b:aK)(id span:Int):Int:=if id<1\/span<1\/1000<span then 1 else if fR fD b.L id then 7 else if 50<=b.L.length then 9 else 0
def A7 (b:aK)(id span:Int):aK:=if sd b id span=0 then ⟨b.ct,EJ fD b.L ⟨id,span,b.ct+span⟩⟩ else b
theorem Rz {p q r:Prop}[Decidable p][Decidable q][Decidable r]:(if p then some true else if q then some true else some (decide r))=some (decide (p\/q\/r)):=by
 by_cases h1:p
 ·rw [if_pos h1,decide_eq_true (.inl h1)]
 ·rw [if_neg h1];by_cases h2:q
  ·rw [if_pos h2,decide_eq_true (.inr (.inl h2))]
  ·rw [if_neg h2];congr 1;rw [decide_eq_decide];exact ⟨λh=> .inr (.inr h),λh=>h.resolve_left h1|>.resolve_left h2⟩
theorem afi {b:aK}(h:iD b)(id span:Int):tu b id span=some (A7 b id span,sd b id span):=by
 unfold tu;have hlen:=h.len;have ai6:=h.now;rw [BR h.inc (by omega),al,Rz,al];by_cases h1:id<1\/span<1\/1000<span
 ·have hE:sd b id span=1:=by unfold sd;rw [if_pos h1]
  unfold A7;rw [decide_eq_true h1,if_pos rfl,hE,if_neg (by decide)]
 rw [decide_eq_false h1,if_neg (by decide)];dsimp only;cases h2:fR fD b.L id with
 |true=>
  have hE:sd b id span=7:=by unfold sd;rw [if_neg h1,h2,if_pos rfl]
  unfold A7;rw [if_pos rfl,hE,if_neg (by decide)]
 |false=>
  rw [if_neg (by decide)];by_cases h3:50<=b.L.length
  ·have hE:sd b id span=9:=by unfold sd;rw [if_neg h1,h2,if_neg (by decide),if_pos h3]
   unfold A7;rw [if_pos (by omega),hE,if_neg (by decide)]
  ·have hE:sd b id span=0:=by unfold sd;rw [if_neg h1,h2,if_neg (by decide),if_neg h3]
   unfold A7;have hi:=J9 (key:=fD) (L:=b.L) (a:=(⟨id,span,b.ct+span⟩:aC)) (by':=24) (by omega);rw [if_neg (by omega),BN (by omega),al,wrap64 (by omega) (by omega),show nq fD b.L id=nq fD b.L (fD ⟨id,span,b.ct+span⟩) from rfl,hi,al,hE,if_pos rfl]
def qw (b:aK)(id:Int):aK×Int:=if fR fD b.L id then (match b.L[nq fD b.L id]? with|some y=>⟨b.ct,b.L.set (nq fD b.L id) ⟨y.Id,y.Span,b.ct+y.Span⟩⟩|none=>b,0) else (b,14)
theorem ab4 {b:aK}(h:iD b)(id:Int):rc b id=some (qw b id):=by
 unfold rc qw;have hlen:=h.len;have ai6:=h.now;rw [BR h.inc (by omega),al];dsimp only;cases h2:fR fD b.L id with
 |false=>rfl
 |true=>obtain ⟨hk,he⟩:=(h.inc.has id).1 h2;have hx:=h.all _ (By hk);rw [if_neg (by decide),BN (by omega),al,aP hk,aP hk,wrap64 (by omega) (by omega),if_pos rfl,AT hk,No]
def di (b:aK)(id:Int):aK×Int:=if fR fD b.L id then (⟨b.ct,b.L.take (nq fD b.L id)++b.L.drop (nq fD b.L id+1)⟩,0) else (b,14)
theorem ab5 {b:aK}(h:iD b)(id:Int):re b id=some (di b id):=by
 unfold re di;have hlen:=h.len;rw [BR h.inc (by omega),al];dsimp only;cases h2:fR fD b.L id with
 |false=>rfl
 |true=>obtain ⟨hk,he⟩:=(h.inc.has id).1 h2;rw [if_neg (by decide),BN (by omega),al,wrap64 (by omega) (by omega),if_pos rfl];unfold Br;rw [if_pos (by omega),al];simp only [No];rfl
def rK (now:Int)(x:aC):Bool:=decide (x.cF<=now)
def pY (b:aK)(now:Int):Int:=if now<b.ct then 15 else if 1000000000<now then 5 else 0
def Km (b:aK)(now:Int):aK:=⟨now,b.L.filter λx=>!rK now x⟩
def pZ (b:aK)(now:Int):List Int:=(b.L.filter (rK now)).map (·.Id)
theorem afj {b:aK}(h:iD b)(now:Int):tx b now=some (if pY b now=0 then (Km b now,pZ b now,0) else (b,[],pY b now)):=by
 unfold tx pY;have hlen:=h.len;by_cases h1:now<b.ct
 ·rw [if_pos h1,if_pos h1,if_neg (by decide)]
 rw [if_neg h1,if_neg h1];by_cases h2:1000000000<now
 ·rw [if_pos h2,if_pos h2,if_neg (by decide)]
 rw [if_neg h2,if_neg h2,if_pos rfl];have cV:Loop (pc b now) (([]:List Int),now,([]:List aC),0)=some (pZ b now,now,b.L.filter λx=>!rK now x):=by
  refine aM.eq (aM.count (λk=>(((b.L.take k).filter (rK now)).map (·.Id),now,(b.L.take k).filter (λx=>!rK now x),(k:Int))) b.L.length (λ_=>True) (by simp) trivial (λk hk _=> ?_) (λ_=> ?_))
  ·unfold pc;dsimp only;have l1:= @oh _ (rK now) b.L k;have l2:= @oh _ (λx=>!rK now x) b.L k;rw [if_pos (by omega),aP hk,kE hk,kE hk,wrap64 (by omega) (by omega)];by_cases hg:b.L[k].cF<=now
   ·have hb:rK now b.L[k]=true:=decide_eq_true hg;rw [if_pos hg,if_pos (by rw [List.length_map];simp only [BY,IS];omega)];simp only [hb,if_true,aai,AS,if_false,aaf,List.map_append,List.map_cons,List.map_nil];exact .mk ⟨rfl,trivial⟩
   ·have hb:rK now b.L[k]=false:=decide_eq_false hg;rw [if_neg hg,if_pos (by simp only [BY,IS];omega)];simp only [hb,if_true,Bool.not_false,AS,if_false,aaf];exact .mk ⟨rfl,trivial⟩
  ·unfold pc;dsimp only;rw [if_neg (by omega),List.take_length];exact .mk rfl
 rw [cV,al];rfl
theorem VW {α:Type}{key:α->Int}{L:List α}(hs:pQ key L){a:α}(h:fR key L (key a)=false):pQ key (EJ key L a):=by
 obtain ⟨h1,h2⟩:=hs.lb (key a);have dG: ∀x∈L,key x≠key a:=λx hx he=>by rw [Bool.eq_false_iff] at h;exact h (pK.2 ⟨x,hx,he⟩)
 unfold EJ pQ;rw [List.append_assoc,List.pairwise_append];refine ⟨c8 (List.take_sublist _ _) hs,?_,?_⟩
 ·rw [List.singleton_append,List.pairwise_cons];refine ⟨λx hx=> ?_,c8 (List.drop_sublist _ _) hs⟩;obtain ⟨k,hk,rfl⟩:=sh.1 hx;rw [IN] at hk;rw [OF];have:=h2 (nq key L (key a)+k) (by omega) (by omega);have:=dG _ (By (show nq key L (key a)+k<L.length by omega));omega
 ·intro x hx y hy;obtain ⟨k,hk,rfl⟩:=sh.1 hx;rw [aaa] at hk;rw [List.getElem_take];have De:=h1 k (by omega) (by omega);rcases AI.1 hy with hy|hy
  ·rw [IT.1 hy];exact De
  ·obtain ⟨j,hj,rfl⟩:=sh.1 hy;rw [IN] at hj;rw [OF];have:=h2 (nq key L (key a)+j) (by omega) (by omega);omega
theorem OT {α:Type}{key:α->Int}{L:List α}{a x:α}:x∈EJ key L a↔x∈L\/x=a:=by
 unfold EJ;rw [AI,AI,IT];have:x∈L↔x∈L.take (nq key L (key a))\/x∈L.drop (nq key L (key a)):=by rw [<-AI,List.take_append_drop]
 rw [this];constructor
 ·rintro ((h|h)|h)
  ·exact .inl (.inl h)
  ·exact .inr h
  ·exact .inl (.inr h)
 ·rintro ((h|h)|h)
  ·exact .inl (.inl h)
  ·exact .inr h
  ·exact .inl (.inr h)
theorem VX {α:Type}{key:α->Int}{L:List α}{a:α}:(EJ key L a).length=L.length+1:=by unfold EJ;have:=J7 (key:=key) L (key a);simp only [List.length_append,aaa,IN,BY,IS];omega
theorem afk {b:aK}(h:iD b)(id span:Int):iD (A7 b id span):=by
 unfold A7;by_cases he:sd b id span=0
 ·rw [if_pos he];unfold sd at he;split at he
  ·cases he
  rename_i h1;split at he
  ·cases he
  rename_i h2;split at he
  ·cases he
  rename_i h3;have h2:fR fD b.L id=false:=by simpa using h2
  refine ⟨h.now,?_,VW h.inc h2,?_⟩
  ·show (EJ fD b.L _).length<=50;rw [VX];omega
  ·intro x hx;rcases OT.1 hx with hx|rfl
   ·exact h.all x hx
   ·dsimp only;have:=h.now;omega
 ·rw [if_neg he];exact h
theorem RB {α:Type}{key:α->Int}{L M:List α}(h:M.map key=L.map key)(hs:pQ key L):pQ key M:=by unfold pQ at *;rw [<-List.pairwise_map] at hs⊢;rw [h];exact hs
theorem RC {α:Type}{key:α->Int}{L:List α}{i:Nat}(hi:i<L.length){y:α}(hy:key y=key L[i]):(L.set i y).map key=L.map key:=by rw [List.map_set,hy,<-List.getElem_map key (h:=by simpa using hi),List.set_getElem_self]
theorem ab6 {b:aK}(h:iD b)(id:Int):iD (qw b id).1/\ ∀i,fR fD (qw b id).1.L i=fR fD b.L i:=by
 unfold qw;cases h2:fR fD b.L id with
 |false=>exact ⟨h,λ_=>rfl⟩
 |true=>
  obtain ⟨hk,he⟩:=(h.inc.has id).1 h2;rw [if_pos rfl,AT hk];dsimp only;have U1:(b.L.set (nq fD b.L id) ⟨b.L[nq fD b.L id].Id,b.L[nq fD b.L id].Span,b.ct+b.L[nq fD b.L id].Span⟩).map fD=b.L.map fD:=RC hk rfl;refine ⟨⟨h.now,by show (b.L.set _ _).length<=50;rw [List.length_set];exact h.len,RB U1 h.inc,λx hx=> ?_⟩,λi=> ?_⟩
  ·rcases List.mem_or_eq_of_mem_set hx with hx|rfl
   ·exact h.all x hx
   ·have:=h.all _ (By hk);have:=h.now;dsimp only;omega
  ·have hh: ∀M:List aC,fR fD M i=(M.map fD).any λe=>decide (e=i):=λM=>by unfold fR;rw [List.any_map];rfl
   rw [hh,hh,U1]
theorem ai7 {b:aK}(h:iD b){M:List aC}(hM:M.Sublist b.L):iD ⟨b.ct,M⟩:=⟨h.now,aaj hM.length_le h.len,c8 hM h.inc,λx hx=>h.all x (hM.subset hx)⟩
theorem afl {α:Type}(L:List α)(i:Nat):(L.take i++L.drop (i+1)).Sublist L:=by rw [<-List.eraseIdx_eq_take_drop_succ];exact List.eraseIdx_sublist ..
theorem RD {b:aK}(h:iD b)(id:Int):iD (di b id).1:=by
 unfold di;split
 ·exact ai7 h (afl _ _)
 ·exact h
theorem HF {b:aK}(h:iD b){now:Int}(hz:pY b now=0):iD (Km b now):=by
 unfold pY at hz;split at hz
 ·cases hz
 rename_i h1;split at hz
 ·cases hz
 rename_i h2;have hn:=h.now;refine ⟨⟨by show 0<=now;omega,by show now<=_;omega⟩,aaj (List.length_filter_le _ _) h.len,c8 List.filter_sublist h.inc,λx hx=> ?_⟩;obtain ⟨h3,h4⟩:=List.mem_filter.1 hx;have:=h.all x h3;have h5: ¬x.cF<=now:=by simpa [rK] using h4
 show 1<=x.Id/\1<=x.Span/\x.Span<=1000/\now<x.cF/\x.cF<=now+x.Span;omega
end Dn.S
