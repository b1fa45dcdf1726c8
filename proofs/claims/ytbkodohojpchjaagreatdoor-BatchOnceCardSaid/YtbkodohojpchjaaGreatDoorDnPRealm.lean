import Derived.Test.YtbkodohojpchjaaGreatDoorDnPShelf10
import Derived.Test.YtbkodohojpchjaaGreatDoorDnPWatch3
/- Realms: sessions. Conditions: none. -/
set_option linter.unusedVariables false
set_option linter.unusedSimpArgs false
open List.Pairwise renaming sublist→bN
open List renaming mem_iff_getElem→sh,mem_append→AI,getElem?_eq_getElem→AT,getElem_mem→By,length_cons→BY,length_drop→IN,length_nil→IT,mem_singleton→No,getElem_drop→aaG,length_take→aaW,append_nil→aa6
open Bool renaming false_eq_true→AS,not_true→abK
open Int renaming toNat_natCast→OF
open Nat renaming le_trans→abL
open Go Dn
namespace Dn.S
abbrev mw (x:aw):Int:=x.Id
abbrev kh (x:ae):Int:=x.Client
theorem UT (x y:Int):jY x y=some (On x y):=by
 unfold jY o4 On;simp only [az,decide_true,abK,AS,if_false];split
 ·rfl
 ·split<;>rfl
theorem WW (b:aF)(id:Int):ea b id=bsearch b.L id dj:=by unfold ea;rw [show cE b.L id dj=bsearch b.L id dj from rfl];cases bsearch b.L id dj<;>rfl
theorem Bb {b:aF}(hs:rF mw b.L)(hl:b.L.length<2^60)(id:Int):ea b id=some ((qF mw b.L id:Int),kY mw b.L id):=by rw [WW];refine JL hs hl λa=> ?_;unfold dj;rw [UT,az]
theorem WX (r:al)(c:Int):fg r c=bsearch r.Seen c c8:=by unfold fg;rw [show cS r.Seen c c8=bsearch r.Seen c c8 from rfl];cases bsearch r.Seen c c8<;>rfl
theorem MN {r:al}(hs:rF kh r.Seen)(hl:r.Seen.length<2^60)(c:Int):fg r c=some ((qF kh r.Seen c:Int),kY kh r.Seen c):=by rw [WX];refine JL hs hl λa=> ?_;unfold c8;rw [UT,az]
structure my (b:aF):Prop where
 now:0<=b.iT/\b.iT<=1000000000
 len:b.L.length<=50
 inc:rF mw b.L
 all: ∀x∈b.L,1<=x.Id/\1<=x.Span/\x.Span<=1000/\b.iT<x.lz/\x.lz<=b.iT+x.Span
theorem ahX {b:aF}(h:my b)(id:Int):wD b id=some (kY mw b.L id):=by unfold wD;rw [Bb h.inc (by have:=h.len;omega),az]
def wX (b:aF)(id span:Int):Int:=if id<1\/span<1\/1000<span then 1 else if kY mw b.L id then 7 else if 50<=b.L.length then 9 else 0
def F5 (b:aF)(id span:Int):aF:=if wX b id span=0 then ⟨b.iT,GC mw b.L ⟨id,span,b.iT+span⟩⟩ else b
theorem abd {p q r:Prop}[Decidable p][Decidable q][Decidable r]:(if p then some true else if q then some true else some (decide r))=some (decide (p\/q\/r)):=by
 by_cases h1:p
 ·rw [if_pos h1,decide_eq_true (.inl h1)]
 ·rw [if_neg h1];by_cases h2:q
  ·rw [if_pos h2,decide_eq_true (.inr (.inl h2))]
  ·rw [if_neg h2];congr 1;rw [decide_eq_decide];exact ⟨λh=> .inr (.inr h),λh=>h.resolve_left h1|>.resolve_left h2⟩
theorem aeA {b:aF}(h:my b)(id span:Int):s9 b id span=some (F5 b id span,wX b id span):=by
 unfold s9;have hlen:=h.len;have ap5:=h.now;rw [Bb h.inc (by omega),az,abd,az];by_cases h1:id<1\/span<1\/1000<span
 ·have hE:wX b id span=1:=by unfold wX;rw [if_pos h1]
  unfold F5;rw [decide_eq_true h1,if_pos rfl,hE,if_neg (by decide)]
 rw [decide_eq_false h1,if_neg (by decide)];dsimp only;cases h2:kY mw b.L id with
 |true=>
  have hE:wX b id span=7:=by unfold wX;rw [if_neg h1,h2,if_pos rfl]
  unfold F5;rw [if_pos rfl,hE,if_neg (by decide)]
 |false=>
  rw [if_neg (by decide)];by_cases h3:50<=b.L.length
  ·have hE:wX b id span=9:=by unfold wX;rw [if_neg h1,h2,if_neg (by decide),if_pos h3]
   unfold F5;rw [if_pos (by omega),hE,if_neg (by decide)]
  ·have hE:wX b id span=0:=by unfold wX;rw [if_neg h1,h2,if_neg (by decide),if_neg h3]
   unfold F5;have hi:=JM (key:=mw) (L:=b.L) (a:=(⟨id,span,b.iT+span⟩:aw)) (by':=24) (by omega);rw [if_neg (by omega),A8 (by omega),az,wrap64 (by omega) (by omega),show qF mw b.L id=qF mw b.L (mw ⟨id,span,b.iT+span⟩) from rfl,hi,az,hE,if_pos rfl]
def EX (b:aF)(id:Int):aF×Int:=if kY mw b.L id then (match b.L[qF mw b.L id]? with|some y=>⟨b.iT,b.L.set (qF mw b.L id) ⟨y.Id,y.Span,b.iT+y.Span⟩⟩|none=>b,0) else (b,14)
theorem abe {b:aF}(h:my b)(id:Int):qP b id=some (EX b id):=by
 unfold qP EX;have hlen:=h.len;have ap5:=h.now;rw [Bb h.inc (by omega),az];dsimp only;cases h2:kY mw b.L id with
 |false=>rfl
 |true=>obtain ⟨hk,he⟩:=(h.inc.has id).1 h2;have hx:=h.all _ (By hk);rw [if_neg (by decide),A8 (by omega),az,b7 hk,b7 hk,wrap64 (by omega) (by omega),if_pos rfl,AT hk,OF]
def uk (b:aF)(id:Int):aF×Int:=if kY mw b.L id then (⟨b.iT,b.L.take (qF mw b.L id)++b.L.drop (qF mw b.L id+1)⟩,0) else (b,14)
theorem abf {b:aF}(h:my b)(id:Int):qQ b id=some (uk b id):=by
 unfold qQ uk;have hlen:=h.len;rw [Bb h.inc (by omega),az];dsimp only;cases h2:kY mw b.L id with
 |false=>rfl
 |true=>obtain ⟨hk,he⟩:=(h.inc.has id).1 h2;rw [if_neg (by decide),A8 (by omega),az,wrap64 (by omega) (by omega),if_pos rfl];unfold AY;rw [if_pos (by omega),az];simp only [OF];rfl
def BR (now:Int)(x:aw):Bool:=decide (x.lz<=now)
def F6 (b:aF)(now:Int):Int:=if now<b.iT then 15 else if 1000000000<now then 5 else 0
def UU (b:aF)(now:Int):aF:=⟨now,b.L.filter λx=>!BR now x⟩
def BS (b:aF)(now:Int):List Int:=(b.L.filter (BR now)).map (·.Id)
theorem aeB {b:aF}(h:my b)(now:Int):tc b now=some (if F6 b now=0 then (UU b now,BS b now,0) else (b,[],F6 b now)):=by
 unfold tc F6;have hlen:=h.len;by_cases h1:now<b.iT
 ·rw [if_pos h1,if_pos h1,if_neg (by decide)]
 rw [if_neg h1,if_neg h1];by_cases h2:1000000000<now
 ·rw [if_pos h2,if_pos h2,if_neg (by decide)]
 rw [if_neg h2,if_neg h2,if_pos rfl];have ke:Loop (o9 b now) (([]:List Int),now,([]:List aw),0)=some (BS b now,now,b.L.filter λx=>!BR now x):=by
  refine bG.eq (bG.count (λk=>(((b.L.take k).filter (BR now)).map (·.Id),now,(b.L.take k).filter (λx=>!BR now x),(k:Int))) b.L.length (λ_=>True) (by simp) trivial (λk hk _=> ?_) (λ_=> ?_))
  ·unfold o9;dsimp only;have l1:= @JW _ (BR now) b.L k;have l2:= @JW _ (λx=>!BR now x) b.L k;rw [if_pos (by omega),b7 hk,DT hk,DT hk,wrap64 (by omega) (by omega)];by_cases hg:b.L[k].lz<=now
   ·have hb:BR now b.L[k]=true:=decide_eq_true hg;rw [if_pos hg,if_pos (by rw [List.length_map];simp only [BY,IT];omega)];simp only [hb,if_true,abK,AS,if_false,aa6,List.map_append,List.map_cons,List.map_nil];exact .mk ⟨rfl,trivial⟩
   ·have hb:BR now b.L[k]=false:=decide_eq_false hg;rw [if_neg hg,if_pos (by simp only [BY,IT];omega)];simp only [hb,if_true,Bool.not_false,AS,if_false,aa6];exact .mk ⟨rfl,trivial⟩
  ·unfold o9;dsimp only;rw [if_neg (by omega),List.take_length];exact .mk rfl
 rw [ke,az];rfl
theorem UW {α:Type}{key:α->Int}{L:List α}(hs:rF key L){a:α}(h:kY key L (key a)=false):rF key (GC key L a):=by
 obtain ⟨h1,h2⟩:=hs.lb (key a);have cR: ∀x∈L,key x≠key a:=λx hx he=>by rw [Bool.eq_false_iff] at h;exact h (DN.2 ⟨x,hx,he⟩)
 unfold GC rF;rw [List.append_assoc,List.pairwise_append];refine ⟨bN (List.take_sublist _ _) hs,?_,?_⟩
 ·rw [List.singleton_append,List.pairwise_cons];refine ⟨λx hx=> ?_,bN (List.drop_sublist _ _) hs⟩;obtain ⟨k,hk,rfl⟩:=sh.1 hx;rw [IN] at hk;rw [aaG];have:=h2 (qF key L (key a)+k) (by omega) (by omega);have:=cR _ (By (show qF key L (key a)+k<L.length by omega));omega
 ·intro x hx y hy;obtain ⟨k,hk,rfl⟩:=sh.1 hx;rw [aaW] at hk;rw [List.getElem_take];have CF:=h1 k (by omega) (by omega);rcases AI.1 hy with hy|hy
  ·rw [No.1 hy];exact CF
  ·obtain ⟨j,hj,rfl⟩:=sh.1 hy;rw [IN] at hj;rw [aaG];have:=h2 (qF key L (key a)+j) (by omega) (by omega);omega
theorem Oy {α:Type}{key:α->Int}{L:List α}{a x:α}:x∈GC key L a↔x∈L\/x=a:=by
 unfold GC;rw [AI,AI,No];have:x∈L↔x∈L.take (qF key L (key a))\/x∈L.drop (qF key L (key a)):=by rw [<-AI,List.take_append_drop]
 rw [this];constructor
 ·rintro ((h|h)|h)
  ·exact .inl (.inl h)
  ·exact .inr h
  ·exact .inl (.inr h)
 ·rintro ((h|h)|h)
  ·exact .inl (.inl h)
  ·exact .inr h
  ·exact .inl (.inr h)
theorem UX {α:Type}{key:α->Int}{L:List α}{a:α}:(GC key L a).length=L.length+1:=by unfold GC;have:=SM (key:=key) L (key a);simp only [List.length_append,aaW,IN,BY,IT];omega
theorem aeC {b:aF}(h:my b)(id span:Int):my (F5 b id span):=by
 unfold F5;by_cases he:wX b id span=0
 ·rw [if_pos he];unfold wX at he;split at he
  ·cases he
  rename_i h1;split at he
  ·cases he
  rename_i h2;split at he
  ·cases he
  rename_i h3;have h2:kY mw b.L id=false:=by simpa using h2
  refine ⟨h.now,?_,UW h.inc h2,?_⟩
  ·show (GC mw b.L _).length<=50;rw [UX];omega
  ·intro x hx;rcases Oy.1 hx with hx|rfl
   ·exact h.all x hx
   ·dsimp only;have:=h.now;omega
 ·rw [if_neg he];exact h
theorem QK {α:Type}{key:α->Int}{L M:List α}(h:M.map key=L.map key)(hs:rF key L):rF key M:=by unfold rF at *;rw [<-List.pairwise_map] at hs⊢;rw [h];exact hs
theorem QL {α:Type}{key:α->Int}{L:List α}{i:Nat}(hi:i<L.length){y:α}(hy:key y=key L[i]):(L.set i y).map key=L.map key:=by rw [List.map_set,hy,<-List.getElem_map key (h:=by simpa using hi),List.set_getElem_self]
theorem abg {b:aF}(h:my b)(id:Int):my (EX b id).1/\ ∀i,kY mw (EX b id).1.L i=kY mw b.L i:=by
 unfold EX;cases h2:kY mw b.L id with
 |false=>exact ⟨h,λ_=>rfl⟩
 |true=>
  obtain ⟨hk,he⟩:=(h.inc.has id).1 h2;rw [if_pos rfl,AT hk];dsimp only;have TX:(b.L.set (qF mw b.L id) ⟨b.L[qF mw b.L id].Id,b.L[qF mw b.L id].Span,b.iT+b.L[qF mw b.L id].Span⟩).map mw=b.L.map mw:=QL hk rfl;refine ⟨⟨h.now,by show (b.L.set _ _).length<=50;rw [List.length_set];exact h.len,QK TX h.inc,λx hx=> ?_⟩,λi=> ?_⟩
  ·rcases List.mem_or_eq_of_mem_set hx with hx|rfl
   ·exact h.all x hx
   ·have:=h.all _ (By hk);have:=h.now;dsimp only;omega
  ·have hh: ∀M:List aw,kY mw M i=(M.map mw).any λe=>decide (e=i):=λM=>by unfold kY;rw [List.any_map];rfl
   rw [hh,hh,TX]
theorem ahY {b:aF}(h:my b){M:List aw}(hM:M.Sublist b.L):my ⟨b.iT,M⟩:=⟨h.now,abL hM.length_le h.len,bN hM h.inc,λx hx=>h.all x (hM.subset hx)⟩
theorem aeD {α:Type}(L:List α)(i:Nat):(L.take i++L.drop (i+1)).Sublist L:=by rw [<-List.eraseIdx_eq_take_drop_succ];exact List.eraseIdx_sublist ..
theorem QM {b:aF}(h:my b)(id:Int):my (uk b id).1:=by
 unfold uk;split
 ·exact ahY h (aeD _ _)
 ·exact h
theorem Oz {b:aF}(h:my b){now:Int}(hz:F6 b now=0):my (UU b now):=by
 unfold F6 at hz;split at hz
 ·cases hz
 rename_i h1;split at hz
 ·cases hz
 rename_i h2;have hn:=h.now;refine ⟨⟨by show 0<=now;omega,by show now<=_;omega⟩,abL (List.length_filter_le _ _) h.len,bN List.filter_sublist h.inc,λx hx=> ?_⟩;obtain ⟨h3,h4⟩:=List.mem_filter.1 hx;have:=h.all x h3;have h5: ¬x.lz<=now:=by simpa [BR] using h4
 show 1<=x.Id/\1<=x.Span/\x.Span<=1000/\now<x.lz/\x.lz<=now+x.Span;omega
end Dn.S
