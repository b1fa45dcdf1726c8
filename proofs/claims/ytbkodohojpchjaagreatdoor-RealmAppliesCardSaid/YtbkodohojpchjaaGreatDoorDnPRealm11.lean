import Derived.Test.YtbkodohojpchjaaGreatDoorDnPRealm10
/-
  Realms as the document's: all orders; the same realm comes of both. Conditions: none.
-/
set_option linter.unusedVariables false
set_option linter.unusedSimpArgs false
open List renaming length_map→c8
open Go Dn
namespace Dn.S
abbrev agO:=(List aY)×Int×(List ar)×(List aL)×(List aD)×Int×Int×Int×(List UInt8)×Int×(List (List UInt8))×(List bq)
def pO (r:au)(E version:Int)(l:List aF):agO:=(r.Shelf.L.map toR,r.aN.ct,r.aN.L.map jM,r.aR.L.map ol,r.Seen.map jR,0,0,E,[],version,[],l.map HE)
theorem rM (r:au)(E version:Int)(l:List aF){X:Option agO}(hX:X=some (pO r E version l)): (bd X λw4=>some ((⟨(⟨w4.1⟩:bE),(⟨w4.2.1,w4.2.2.1⟩:cJ),(⟨w4.2.2.2.1⟩:eK),w4.2.2.2.2.1⟩:b6),(⟨w4.2.2.2.2.2.1,w4.2.2.2.2.2.2.1,w4.2.2.2.2.2.2.2.1,w4.2.2.2.2.2.2.2.2.1,w4.2.2.2.2.2.2.2.2.2.1,w4.2.2.2.2.2.2.2.2.2.2.1⟩:aD),w4.2.2.2.2.2.2.2.2.2.2.2))= some (dV r,⟨0,0,E,[],version,[]⟩,l.map HE):=by rw [hX,al];rfl
theorem afx {r:au}(h:eF r){o:aB}(hk:0<=o.Kind/\o.Kind<=11): tM (dV r) (tc o)=some (dV (A9 ⟨r,o,cX o 0,[]⟩).r,Kt (A9 ⟨r,o,cX o 0,[]⟩).x,(A9 ⟨r,o,cX o 0,[]⟩).l.map HE):=by
 have hlen:=h.shelf.len;have SK:=h.book.len;have htl:=h.table.len;by_cases O5:1<=o.Kind/\o.Kind<=5
 ·rw [<-Ku h O5];unfold tM;have hg: ∀k:Int,(k=1\/k=2\/k=3\/k=4\/k=5)->(if k=1 then some (decide (k=1)) else bd (if k=2 then some (decide (k=2)) else bd (if k=3 then some (decide (k=3)) else bd (if k=4 then some (decide (k=4)) else some (decide (k=5)):Option Bool) λw3=>some w3:Option Bool) λw2=>some w2:Option Bool) λw1=>some w1:Option Bool)=some true:=by rintro k (rfl|rfl|rfl|rfl|rfl)<;>rfl
  refine aX (hg o.Kind (by omega)) ?_;rw [al,if_pos rfl];obtain ⟨x,hx⟩: ∃x,oJ (dV r) (tc o)=some x:=⟨_,Ku h O5⟩
  rw [hx,al]
 have hg: ∀k:Int,k≠1->k≠2->k≠3->k≠4->k≠5->(if k=1 then some (decide (k=1)) else bd (if k=2 then some (decide (k=2)) else bd (if k=3 then some (decide (k=3)) else bd (if k=4 then some (decide (k=4)) else some (decide (k=5)):Option Bool) λw3=>some w3:Option Bool) λw2=>some w2:Option Bool) λw1=>some w1:Option Bool)=some false:=by intro k h1 h2 h3 h4 h5;rw [if_neg h1,if_neg h2,if_neg h3,if_neg h4,decide_eq_false h5];rfl
 unfold tM;refine aX (hg o.Kind (by omega) (by omega) (by omega) (by omega) (by omega)) ?_;rw [al,if_neg (show¬false=true by decide)];have n: ∀k:Int,o.Kind≠k-> ¬(tc o).Kind=k:=λk hh=>hh;have CM:o.Kind=0\/o.Kind=6\/o.Kind=7\/o.Kind=8\/o.Kind=9\/o.Kind=10\/o.Kind=11:=by omega
 rcases CM with hk|hk|hk|hk|hk|hk
 ·have hd:A9 ⟨r,o,cX o 0,[]⟩=⟨r,o,cX o 0,[]⟩:=by unfold A9;rw [if_pos hk]
  rw [hd];rw [if_neg (n 6 (by omega)),if_neg (n 7 (by omega)),if_neg (n 8 (by omega)),if_neg (n 9 (by omega)),if_neg (n 10 (by omega)),decide_eq_false (n 11 (by omega)),al,if_neg (show¬false=true by decide)];exact rM r 0 0 [] rfl
 ·have hd:A9 ⟨r,o,cX o 0,[]⟩=VY ⟨r,o,cX o 0,[]⟩:=by unfold A9;simp only [hk];rfl
  rw [hd,if_pos (show (tc o).Kind=6 from hk)];exact rM {r with aN:=A7 r.aN o.Session o.Span} (sd r.aN o.Session o.Span) 0 [] (aX (Un h.book o.Session o.Span) rfl)
 ·have hd:A9 ⟨r,o,cX o 0,[]⟩=OU ⟨r,o,cX o 0,[]⟩:=by unfold A9;simp only [hk];rfl
  rw [hd,if_neg (n 6 (by omega)),if_pos (show (tc o).Kind=7 from hk)];exact rM {r with aN:=(qw r.aN o.Session).1} (qw r.aN o.Session).2 0 [] (aX (y:=some (pO {r with aN:=(qw r.aN o.Session).1} (qw r.aN o.Session).2 0 [])) (aX (RT h.book o.Session) rfl) rfl)
 ·have hd:A9 ⟨r,o,cX o 0,[]⟩=A8 ⟨r,o,cX o 0,[]⟩:=by unfold A9;simp only [hk];rfl
  rw [hd,if_neg (n 6 (by omega)),if_neg (n 7 (by omega)),if_pos (show (tc o).Kind=8 from hk)];unfold A8;dsimp only;have hc:=RU h.book o.Session;by_cases hz:(di r.aN o.Session).2=0
  ·rw [if_pos hz];have hdr:=GI [o.Session] (p0 ⟨r,o,cX o 0,[]⟩ (di r.aN o.Session)) (by show 0+r.Shelf.L.length<=_;omega) (by simp) rfl;have hds:fE (p0 ⟨r,o,cX o 0,[]⟩ (di r.aN o.Session)) [o.Session]=mZ (p0 ⟨r,o,cX o 0,[]⟩ (di r.aN o.Session)) o.Session:=rfl;rw [hds] at hdr;refine (rM (mZ (p0 ⟨r,o,cX o 0,[]⟩ (di r.aN o.Session)) o.Session).r (di r.aN o.Session).2 0 (mZ (p0 ⟨r,o,cX o 0,[]⟩ (di r.aN o.Session)) o.Session).l (aX (y:=some (pO (mZ (p0 ⟨r,o,cX o 0,[]⟩ (di r.aN o.Session)) o.Session).r (di r.aN o.Session).2 0 (mZ (p0 ⟨r,o,cX o 0,[]⟩ (di r.aN o.Session)) o.Session).l)) (aX (y:=some (pO (mZ (p0 ⟨r,o,cX o 0,[]⟩ (di r.aN o.Session)) o.Session).r (di r.aN o.Session).2 0 (mZ (p0 ⟨r,o,cX o 0,[]⟩ (di r.aN o.Session)) o.Session).l)) (aX hc ?_) rfl) rfl)).trans rfl;refine aX (y:=some ((mZ (p0 ⟨r,o,cX o 0,[]⟩ (di r.aN o.Session)) o.Session).r.Shelf.L.map toR,(di r.aN o.Session).1.ct,(di r.aN o.Session).1.L.map jM,r.aR.L.map ol,r.Seen.map jR,(mZ (p0 ⟨r,o,cX o 0,[]⟩ (di r.aN o.Session)) o.Session).l.map HE)) ?_ rfl;rw [if_pos (show (Ks (di r.aN o.Session).1,(di r.aN o.Session).2).2=0 from hz)];exact aX hdr rfl
  ·rw [if_neg hz];refine (rM {r with aN:=(di r.aN o.Session).1} (di r.aN o.Session).2 0 [] (aX (y:=some (pO {r with aN:=(di r.aN o.Session).1} (di r.aN o.Session).2 0 [])) (aX (y:=some (pO {r with aN:=(di r.aN o.Session).1} (di r.aN o.Session).2 0 [])) (aX hc ?_) rfl) rfl)).trans rfl;refine aX (y:=some (r.Shelf.L.map toR,(di r.aN o.Session).1.ct,(di r.aN o.Session).1.L.map jM,r.aR.L.map ol,r.Seen.map jR,[])) ?_ rfl;rw [if_neg (show¬(Ks (di r.aN o.Session).1,(di r.aN o.Session).2).2=0 from hz)];rfl
 ·have hd:A9 ⟨r,o,cX o 0,[]⟩=GG ⟨r,o,cX o 0,[]⟩:=by unfold A9;simp only [hk];rfl
  rw [hd,if_neg (n 6 (by omega)),if_neg (n 7 (by omega)),if_neg (n 8 (by omega)),if_pos (show (tc o).Kind=9 from hk)];unfold GG;dsimp only;have ht:=Uo h.book o.Span;by_cases hz:pY r.aN o.Span=0
  ·rw [if_pos hz] at ht⊢;have hgl:(pZ r.aN o.Span).length<=r.aN.L.length:=by unfold pZ;rw [c8];exact List.length_filter_le _ _
   have hdr:=GI (pZ r.aN o.Span) (ux ⟨r,o,cX o 0,[]⟩) (by show 0+r.Shelf.L.length<=_;omega) (by omega) rfl;obtain ⟨d1,d2,d3,d4,d5,d6⟩:=vB (pZ r.aN o.Span) (v:=ux ⟨r,o,cX o 0,[]⟩) (mE h (HF h.book hz));generalize fE (ux ⟨r,o,cX o 0,[]⟩) (pZ r.aN o.Span)=v at hdr d1 d2 d3 d4 d5 d6;have hv:(v.r.Shelf.L.map toR,o.Span,(Km r.aN o.Span).L.map jM,r.aR.L.map ol,r.Seen.map jR,(0:Int),(0:Int),(0:Int),([]:List UInt8),o.Span,([]:List (List UInt8)),v.l.map HE)=pO v.r 0 o.Span v.l:=by unfold pO;rw [d5,d6,d4];rfl
   refine (rM v.r 0 o.Span v.l (aX (y:=some (pO v.r 0 o.Span v.l)) (aX (y:=some (pO v.r 0 o.Span v.l)) (aX (y:=some (pO v.r 0 o.Span v.l)) (aX ht ?_) rfl) rfl) rfl)).trans ?_
   ·refine aX (y:=some (pO v.r 0 o.Span v.l)) ?_ rfl;rw [if_pos (show (Ks (Km r.aN o.Span),pZ r.aN o.Span,(0:Int)).2.2=0 from rfl),<-hv];exact aX hdr rfl
   ·unfold Kt;rw [d3];rfl
  ·rw [if_neg hz] at ht⊢;refine (rM r (pY r.aN o.Span) 0 [] (aX (y:=some (pO r (pY r.aN o.Span) 0 [])) (aX (y:=some (pO r (pY r.aN o.Span) 0 [])) (aX (y:=some (pO r (pY r.aN o.Span) 0 [])) (aX ht ?_) rfl) rfl) rfl)).trans rfl;refine aX (y:=some (pO r (pY r.aN o.Span) 0 [])) ?_ rfl;rw [if_neg (show¬(Ks r.aN,([]:List Int),pY r.aN o.Span).2.2=0 from hz)];rfl
 ·have hd:A9 ⟨r,o,cX o 0,[]⟩=OV ⟨r,o,cX o 0,[]⟩:=by unfold A9;rw [if_neg (by show¬o.Kind=0;omega),if_neg (by show¬o.Kind=1;omega),if_neg (by show¬o.Kind=2;omega),if_neg (by show¬o.Kind=3;omega),if_neg (by show¬o.Kind=4;omega),if_neg (by show¬o.Kind=5;omega),if_neg (by show¬o.Kind=6;omega),if_neg (by show¬o.Kind=7;omega),if_neg (by show¬o.Kind=8;omega),if_neg (by show¬o.Kind=9;omega)]
  rw [hd,if_neg (n 6 (by omega)),if_neg (n 7 (by omega)),if_neg (n 8 (by omega)),if_neg (n 9 (by omega))];have hw:(if (tc o).Kind=10 then some (decide ((tc o).Kind=10)) else some (decide ((tc o).Kind=11)):Option Bool)=some true:=by
   rcases hk with hk|hk
   ·rw [if_pos (show (tc o).Kind=10 from hk),decide_eq_true (show (tc o).Kind=10 from hk)]
   ·rw [if_neg (n 10 (by omega)),decide_eq_true (show (tc o).Kind=11 from hk)]
  have ha:=XW r.aR.L (iF o) (by omega);refine (rM {r with aR:=⟨(rJ r.aR.L (iF o)).1⟩} (rJ r.aR.L (iF o)).2 0 [] (aX (y:=some (pO {r with aR:=⟨(rJ r.aR.L (iF o)).1⟩} (rJ r.aR.L (iF o)).2 0 [])) (aX (y:=some (pO {r with aR:=⟨(rJ r.aR.L (iF o)).1⟩} (rJ r.aR.L (iF o)).2 0 [])) (aX (y:=some (pO {r with aR:=⟨(rJ r.aR.L (iF o)).1⟩} (rJ r.aR.L (iF o)).2 0 [])) (aX hw ?_) rfl) rfl) rfl)).trans rfl;rw [al,if_pos rfl];exact aX (y:=some (r.Shelf.L.map toR,r.aN.ct,r.aN.L.map jM,(rJ r.aR.L (iF o)).1.map ol,r.Seen.map jR,0,0,(rJ r.aR.L (iF o)).2,[],0,[])) (aX ha rfl) rfl
theorem RV {r:au}(h:iG r)(o:aB):xa (dV r) (tc o)=some (dV (iH r o).1,jR (iH r o).2.1,(iH r o).2.2.map VS):=by
 have hf:=h.few;have oW:(dV r).Seen.length=r.Seen.length:=c8 ..;unfold xa iH fJ;rw [X5,al];cases hm:FR o with
 |false=>rfl
 |true=>
 rw [if_neg (show¬(!true)=true by decide),if_neg (show¬true=false by decide),show wU (dV r) (tc o).Client=_ from Up h o.Client,al];dsimp only;have L9:fJ r.Seen o=(cX o 0,false)->(bd (tM (dV r) (tc o)) λca=>bd (tP ca.1.aR ca.2.2) λgO=>bd (tR (dV r).Seen (⟨(tc o).Client,(tc o).Seq,ca.2.1.E,ca.2.1.Value,ca.2.1.Version,ca.2.1.Names⟩:aD)) λoP=>
  some ((⟨ca.1.Shelf,ca.1.aN,gO.1,oP⟩:b6),(⟨(tc o).Client,(tc o).Seq,ca.2.1.E,ca.2.1.Value,ca.2.1.Version,ca.2.1.Names⟩:aD),gO.2))=
  some (dV ⟨(gZ r o).r.Shelf,(gZ r o).r.aN,⟨(gY (gZ r o).r.aR.L (gZ r o).l).1⟩,zt r.Seen o.Client (gZ r o).x⟩,jR (gZ r o).x,(gY (gZ r o).r.aR.L (gZ r o).l).2.map VS):=by
  intro Yn;have hp:=HG hm;have hw:gZ r o=A9 ⟨r,o,cX o 0,[]⟩:=by unfold gZ;rw [Yn]
  have hd:Dc ⟨r,o,cX o 0,[]⟩ (gZ r o):=by rw [hw];exact V0 (w:=⟨r,o,cX o 0,[]⟩) h.toeF
  have hxc:(gZ r o).x.Client=o.Client:=hd.dI;have hxs:(gZ r o).x.Seq=o.Seq:=hd.seq;have hll:=hd.len;have htl:=hd.table.len;rw [afx h.toeF hp.2.2.1,al,<-hw];generalize gZ r o=v at hxc hxs hll htl;have hx:(⟨(tc o).Client,(tc o).Seq,(Kt v.x).E,(Kt v.x).Value,(Kt v.x).Version,(Kt v.x).Names⟩:aD)=jR v.x:=by show (⟨o.Client,o.Seq,v.x.E,v.x.Value,v.x.Version,v.x.Names⟩:aD)=⟨v.x.Client,v.x.Seq,v.x.E,v.x.Value,v.x.Version,v.x.Names⟩;rw [hxc,hxs]
  have hll:v.l.length<=250:=by simpa using hll
  dsimp only;rw [show tP (dV v.r).aR (v.l.map HE)=_ from Uf v.r.aR.L v.l (by omega) (by omega),al,hx,show tR (dV r).Seen (jR v.x)=_ from Uq h hxc,al];rfl
 cases hl:(fS r.Seen o.Client).2 with
 |true=>
  rw [if_pos rfl,if_pos rfl,al];by_cases h1:(fS r.Seen o.Client).1.Seq=o.Seq
  ·rw [decide_eq_true (show (jR (fS r.Seen o.Client).1).Seq=(tc o).Seq from h1),if_pos rfl,if_pos h1];rfl
  ·rw [decide_eq_false (show¬(jR (fS r.Seen o.Client).1).Seq=(tc o).Seq from h1),if_neg (show¬false=true by decide),if_neg h1,if_pos rfl,al];by_cases h2:o.Seq<(fS r.Seen o.Client).1.Seq
   ·rw [decide_eq_true (show (tc o).Seq<(jR (fS r.Seen o.Client).1).Seq from h2),if_pos rfl,if_pos h2];rfl
   ·rw [decide_eq_false (show¬(tc o).Seq<(jR (fS r.Seen o.Client).1).Seq from h2),if_neg (show¬false=true by decide),if_neg h2,if_neg (show¬(!true)=true by decide),al,if_neg (show¬false=true by decide)];rw [L9 (GH hm (.inr ⟨hl,by omega⟩)),if_neg (show¬false=true by decide)]
 |false=>
  rw [if_neg (show¬false=true by decide),al,if_neg (show¬false=true by decide),if_neg (show¬false=true by decide),al,if_neg (show¬false=true by decide),if_pos (show (!false)=true from rfl),al,if_neg (show¬false=true by decide)];by_cases h3:50<=r.Seen.length
  ·rw [decide_eq_true (show (50:Int)<=((dV r).Seen.length:Int) by omega),if_pos rfl,if_pos h3];rfl
  ·rw [decide_eq_false (show¬(50:Int)<=((dV r).Seen.length:Int) by omega),if_neg (show¬false=true by decide),if_neg h3,L9 (GH hm (.inl ⟨hl,by omega⟩)),if_neg (show¬false=true by decide)]
end Dn.S
