import Derived.Test.YtbkodohojpchjaaGreatDoorDnPRealm10
/-
  Realms as the document's: all orders; the same realm comes of both. Conditions: none.
-/
set_option linter.unusedVariables false
set_option linter.unusedSimpArgs false
open List renaming length_map→c9
open Go Dn
namespace Dn.S
abbrev agD:=(List aP)×Int×(List al)×(List aF)×(List aw)×Int×Int×Int×(List UInt8)×Int×(List (List UInt8))×(List bq)
def pN (r:ap)(E version:Int)(l:List aG):agD:=(r.Shelf.L.map toR,r.aL.cI,r.aL.L.map oK,r.aS.L.map sb,r.Seen.map kh,0,0,E,[],version,[],l.map HJ)
theorem rR (r:ap)(E version:Int)(l:List aG){X:Option agD}(hX:X=some (pN r E version l)): (bd X λw4=>some ((⟨(⟨w4.1⟩:bE),(⟨w4.2.1,w4.2.2.1⟩:cD),(⟨w4.2.2.2.1⟩:eo),w4.2.2.2.2.1⟩:bM),(⟨w4.2.2.2.2.2.1,w4.2.2.2.2.2.2.1,w4.2.2.2.2.2.2.2.1,w4.2.2.2.2.2.2.2.2.1,w4.2.2.2.2.2.2.2.2.2.1,w4.2.2.2.2.2.2.2.2.2.2.1⟩:aw),w4.2.2.2.2.2.2.2.2.2.2.2))= some (gK r,⟨0,0,E,[],version,[]⟩,l.map HJ):=by rw [hX,av];rfl
theorem afl {r:ap}(h:eH r){o:ar}(hk:0<=o.Kind/\o.Kind<=11): tL (gK r) (qD o)=some (gK (AP ⟨r,o,cY o 0,[]⟩).r,Kw (AP ⟨r,o,cY o 0,[]⟩).x,(AP ⟨r,o,cY o 0,[]⟩).l.map HJ):=by
 have hlen:=h.shelf.len;have Sv:=h.book.len;have htl:=h.table.len;by_cases O5:1<=o.Kind/\o.Kind<=5
 ·rw [<-Kx h O5];unfold tL;have hg: ∀k:Int,(k=1\/k=2\/k=3\/k=4\/k=5)->(if k=1 then some (decide (k=1)) else bd (if k=2 then some (decide (k=2)) else bd (if k=3 then some (decide (k=3)) else bd (if k=4 then some (decide (k=4)) else some (decide (k=5)):Option Bool) λw3=>some w3:Option Bool) λw2=>some w2:Option Bool) λw1=>some w1:Option Bool)=some true:=by rintro k (rfl|rfl|rfl|rfl|rfl)<;>rfl
  refine aQ (hg o.Kind (by omega)) ?_;rw [av,if_pos rfl];obtain ⟨x,hx⟩: ∃x,ov (gK r) (qD o)=some x:=⟨_,Kx h O5⟩
  rw [hx,av]
 have hg: ∀k:Int,k≠1->k≠2->k≠3->k≠4->k≠5->(if k=1 then some (decide (k=1)) else bd (if k=2 then some (decide (k=2)) else bd (if k=3 then some (decide (k=3)) else bd (if k=4 then some (decide (k=4)) else some (decide (k=5)):Option Bool) λw3=>some w3:Option Bool) λw2=>some w2:Option Bool) λw1=>some w1:Option Bool)=some false:=by intro k h1 h2 h3 h4 h5;rw [if_neg h1,if_neg h2,if_neg h3,if_neg h4,decide_eq_false h5];rfl
 unfold tL;refine aQ (hg o.Kind (by omega) (by omega) (by omega) (by omega) (by omega)) ?_;rw [av,if_neg (show¬false=true by decide)];have n: ∀k:Int,o.Kind≠k-> ¬(qD o).Kind=k:=λk hh=>hh;have EN:o.Kind=0\/o.Kind=6\/o.Kind=7\/o.Kind=8\/o.Kind=9\/o.Kind=10\/o.Kind=11:=by omega
 rcases EN with hk|hk|hk|hk|hk|hk
 ·have hd:AP ⟨r,o,cY o 0,[]⟩=⟨r,o,cY o 0,[]⟩:=by unfold AP;rw [if_pos hk]
  rw [hd];rw [if_neg (n 6 (by omega)),if_neg (n 7 (by omega)),if_neg (n 8 (by omega)),if_neg (n 9 (by omega)),if_neg (n 10 (by omega)),decide_eq_false (n 11 (by omega)),av,if_neg (show¬false=true by decide)];exact rR r 0 0 [] rfl
 ·have hd:AP ⟨r,o,cY o 0,[]⟩=VH ⟨r,o,cY o 0,[]⟩:=by unfold AP;simp only [hk];rfl
  rw [hd,if_pos (show (qD o).Kind=6 from hk)];exact rR {r with aL:=AN r.aL o.Session o.Span} (su r.aL o.Session o.Span) 0 [] (aQ (T4 h.book o.Session o.Span) rfl)
 ·have hd:AP ⟨r,o,cY o 0,[]⟩=OR ⟨r,o,cY o 0,[]⟩:=by unfold AP;simp only [hk];rfl
  rw [hd,if_neg (n 6 (by omega)),if_pos (show (qD o).Kind=7 from hk)];exact rR {r with aL:=(qC r.aL o.Session).1} (qC r.aL o.Session).2 0 [] (aQ (y:=some (pN {r with aL:=(qC r.aL o.Session).1} (qC r.aL o.Session).2 0 [])) (aQ (RH h.book o.Session) rfl) rfl)
 ·have hd:AP ⟨r,o,cY o 0,[]⟩=AO ⟨r,o,cY o 0,[]⟩:=by unfold AP;simp only [hk];rfl
  rw [hd,if_neg (n 6 (by omega)),if_neg (n 7 (by omega)),if_pos (show (qD o).Kind=8 from hk)];unfold AO;dsimp only;have hc:=RI h.book o.Session;by_cases hz:(di r.aL o.Session).2=0
  ·rw [if_pos hz];have ZU:=GH [o.Session] (qa ⟨r,o,cY o 0,[]⟩ (di r.aL o.Session)) (by show 0+r.Shelf.L.length<=_;omega) (by simp) rfl;have hds:fD (qa ⟨r,o,cY o 0,[]⟩ (di r.aL o.Session)) [o.Session]=mW (qa ⟨r,o,cY o 0,[]⟩ (di r.aL o.Session)) o.Session:=rfl;rw [hds] at ZU;refine (rR (mW (qa ⟨r,o,cY o 0,[]⟩ (di r.aL o.Session)) o.Session).r (di r.aL o.Session).2 0 (mW (qa ⟨r,o,cY o 0,[]⟩ (di r.aL o.Session)) o.Session).l (aQ (y:=some (pN (mW (qa ⟨r,o,cY o 0,[]⟩ (di r.aL o.Session)) o.Session).r (di r.aL o.Session).2 0 (mW (qa ⟨r,o,cY o 0,[]⟩ (di r.aL o.Session)) o.Session).l)) (aQ (y:=some (pN (mW (qa ⟨r,o,cY o 0,[]⟩ (di r.aL o.Session)) o.Session).r (di r.aL o.Session).2 0 (mW (qa ⟨r,o,cY o 0,[]⟩ (di r.aL o.Session)) o.Session).l)) (aQ hc ?_) rfl) rfl)).trans rfl;refine aQ (y:=some ((mW (qa ⟨r,o,cY o 0,[]⟩ (di r.aL o.Session)) o.Session).r.Shelf.L.map toR,(di r.aL o.Session).1.cI,(di r.aL o.Session).1.L.map oK,r.aS.L.map sb,r.Seen.map kh,(mW (qa ⟨r,o,cY o 0,[]⟩ (di r.aL o.Session)) o.Session).l.map HJ)) ?_ rfl;rw [if_pos (show (Kv (di r.aL o.Session).1,(di r.aL o.Session).2).2=0 from hz)];exact aQ ZU rfl
  ·rw [if_neg hz];refine (rR {r with aL:=(di r.aL o.Session).1} (di r.aL o.Session).2 0 [] (aQ (y:=some (pN {r with aL:=(di r.aL o.Session).1} (di r.aL o.Session).2 0 [])) (aQ (y:=some (pN {r with aL:=(di r.aL o.Session).1} (di r.aL o.Session).2 0 [])) (aQ hc ?_) rfl) rfl)).trans rfl;refine aQ (y:=some (r.Shelf.L.map toR,(di r.aL o.Session).1.cI,(di r.aL o.Session).1.L.map oK,r.aS.L.map sb,r.Seen.map kh,[])) ?_ rfl;rw [if_neg (show¬(Kv (di r.aL o.Session).1,(di r.aL o.Session).2).2=0 from hz)];rfl
 ·have hd:AP ⟨r,o,cY o 0,[]⟩=GF ⟨r,o,cY o 0,[]⟩:=by unfold AP;simp only [hk];rfl
  rw [hd,if_neg (n 6 (by omega)),if_neg (n 7 (by omega)),if_neg (n 8 (by omega)),if_pos (show (qD o).Kind=9 from hk)];unfold GF;dsimp only;have ht:=T5 h.book o.Span;by_cases hz:pZ r.aL o.Span=0
  ·rw [if_pos hz] at ht⊢;have hgl:(p0 r.aL o.Span).length<=r.aL.L.length:=by unfold p0;rw [c9];exact List.length_filter_le _ _
   have ZU:=GH (p0 r.aL o.Span) (uv ⟨r,o,cY o 0,[]⟩) (by show 0+r.Shelf.L.length<=_;omega) (by omega) rfl;obtain ⟨d1,d2,d3,d4,d5,d6⟩:=vz (p0 r.aL o.Span) (v:=uv ⟨r,o,cY o 0,[]⟩) (mz h (HK h.book hz));generalize fD (uv ⟨r,o,cY o 0,[]⟩) (p0 r.aL o.Span)=v at ZU d1 d2 d3 d4 d5 d6;have hv:(v.r.Shelf.L.map toR,o.Span,(Kp r.aL o.Span).L.map oK,r.aS.L.map sb,r.Seen.map kh,(0:Int),(0:Int),(0:Int),([]:List UInt8),o.Span,([]:List (List UInt8)),v.l.map HJ)=pN v.r 0 o.Span v.l:=by unfold pN;rw [d5,d6,d4];rfl
   refine (rR v.r 0 o.Span v.l (aQ (y:=some (pN v.r 0 o.Span v.l)) (aQ (y:=some (pN v.r 0 o.Span v.l)) (aQ (y:=some (pN v.r 0 o.Span v.l)) (aQ ht ?_) rfl) rfl) rfl)).trans ?_
   ·refine aQ (y:=some (pN v.r 0 o.Span v.l)) ?_ rfl;rw [if_pos (show (Kv (Kp r.aL o.Span),p0 r.aL o.Span,(0:Int)).2.2=0 from rfl),<-hv];exact aQ ZU rfl
   ·unfold Kw;rw [d3];rfl
  ·rw [if_neg hz] at ht⊢;refine (rR r (pZ r.aL o.Span) 0 [] (aQ (y:=some (pN r (pZ r.aL o.Span) 0 [])) (aQ (y:=some (pN r (pZ r.aL o.Span) 0 [])) (aQ (y:=some (pN r (pZ r.aL o.Span) 0 [])) (aQ ht ?_) rfl) rfl) rfl)).trans rfl;refine aQ (y:=some (pN r (pZ r.aL o.Span) 0 [])) ?_ rfl;rw [if_neg (show¬(Kv r.aL,([]:List Int),pZ r.aL o.Span).2.2=0 from hz)];rfl
 ·have hd:AP ⟨r,o,cY o 0,[]⟩=OS ⟨r,o,cY o 0,[]⟩:=by unfold AP;rw [if_neg (by show¬o.Kind=0;omega),if_neg (by show¬o.Kind=1;omega),if_neg (by show¬o.Kind=2;omega),if_neg (by show¬o.Kind=3;omega),if_neg (by show¬o.Kind=4;omega),if_neg (by show¬o.Kind=5;omega),if_neg (by show¬o.Kind=6;omega),if_neg (by show¬o.Kind=7;omega),if_neg (by show¬o.Kind=8;omega),if_neg (by show¬o.Kind=9;omega)]
  rw [hd,if_neg (n 6 (by omega)),if_neg (n 7 (by omega)),if_neg (n 8 (by omega)),if_neg (n 9 (by omega))];have hw:(if (qD o).Kind=10 then some (decide ((qD o).Kind=10)) else some (decide ((qD o).Kind=11)):Option Bool)=some true:=by
   rcases hk with hk|hk
   ·rw [if_pos (show (qD o).Kind=10 from hk),decide_eq_true (show (qD o).Kind=10 from hk)]
   ·rw [if_neg (n 10 (by omega)),decide_eq_true (show (qD o).Kind=11 from hk)]
  have ha:=XD r.aS.L (iF o) (by omega);refine (rR {r with aS:=⟨(rO r.aS.L (iF o)).1⟩} (rO r.aS.L (iF o)).2 0 [] (aQ (y:=some (pN {r with aS:=⟨(rO r.aS.L (iF o)).1⟩} (rO r.aS.L (iF o)).2 0 [])) (aQ (y:=some (pN {r with aS:=⟨(rO r.aS.L (iF o)).1⟩} (rO r.aS.L (iF o)).2 0 [])) (aQ (y:=some (pN {r with aS:=⟨(rO r.aS.L (iF o)).1⟩} (rO r.aS.L (iF o)).2 0 [])) (aQ hw ?_) rfl) rfl) rfl)).trans rfl;rw [av,if_pos rfl];exact aQ (y:=some (r.Shelf.L.map toR,r.aL.cI,r.aL.L.map oK,(rO r.aS.L (iF o)).1.map sb,r.Seen.map kh,0,0,(rO r.aS.L (iF o)).2,[],0,[])) (aQ ha rfl) rfl
theorem RJ {r:ap}(h:e8 r)(o:ar):wQ (gK r) (qD o)=some (gK (dV r o).1,kh (dV r o).2.1,(dV r o).2.2.map Pa):=by
 have hf:=h.few;have pO:(gK r).Seen.length=r.Seen.length:=c9 ..;unfold wQ dV fI;rw [XM,av];cases hm:FL o with
 |false=>rfl
 |true=>
 rw [if_neg (show¬(!true)=true by decide),if_neg (show¬true=false by decide),show wK (gK r) (qD o).Client=_ from T6 h o.Client,av];dsimp only;have LY:fI r.Seen o=(cY o 0,false)->(bd (tL (gK r) (qD o)) λcf=>bd (tO cf.1.aS cf.2.2) λfH=>bd (tQ (gK r).Seen (⟨(qD o).Client,(qD o).Seq,cf.2.1.E,cf.2.1.Value,cf.2.1.Version,cf.2.1.Names⟩:aw)) λn0=>
  some ((⟨cf.1.Shelf,cf.1.aL,fH.1,n0⟩:bM),(⟨(qD o).Client,(qD o).Seq,cf.2.1.E,cf.2.1.Value,cf.2.1.Version,cf.2.1.Names⟩:aw),fH.2))=
  some (gK ⟨(gZ r o).r.Shelf,(gZ r o).r.aL,⟨(gY (gZ r o).r.aS.L (gZ r o).l).1⟩,zd r.Seen o.Client (gZ r o).x⟩,kh (gZ r o).x,(gY (gZ r o).r.aS.L (gZ r o).l).2.map Pa):=by
  intro X6;have hp:=HL hm;have hw:gZ r o=AP ⟨r,o,cY o 0,[]⟩:=by unfold gZ;rw [X6]
  have hd:CU ⟨r,o,cY o 0,[]⟩ (gZ r o):=by rw [hw];exact VJ (w:=⟨r,o,cY o 0,[]⟩) h.toeH
  have hxc:(gZ r o).x.Client=o.Client:=hd.dK;have hxs:(gZ r o).x.Seq=o.Seq:=hd.seq;have hll:=hd.len;have htl:=hd.table.len;rw [afl h.toeH hp.2.2.1,av,<-hw];generalize gZ r o=v at hxc hxs hll htl;have hx:(⟨(qD o).Client,(qD o).Seq,(Kw v.x).E,(Kw v.x).Value,(Kw v.x).Version,(Kw v.x).Names⟩:aw)=kh v.x:=by show (⟨o.Client,o.Seq,v.x.E,v.x.Value,v.x.Version,v.x.Names⟩:aw)=⟨v.x.Client,v.x.Seq,v.x.E,v.x.Value,v.x.Version,v.x.Names⟩;rw [hxc,hxs]
  have hll:v.l.length<=250:=by simpa using hll
  dsimp only;rw [show tO (gK v.r).aS (v.l.map HJ)=_ from TV v.r.aS.L v.l (by omega) (by omega),av,hx,show tQ (gK r).Seen (kh v.x)=_ from T7 h hxc,av];rfl
 cases hl:(fQ r.Seen o.Client).2 with
 |true=>
  rw [if_pos rfl,if_pos rfl,av];by_cases h1:(fQ r.Seen o.Client).1.Seq=o.Seq
  ·rw [decide_eq_true (show (kh (fQ r.Seen o.Client).1).Seq=(qD o).Seq from h1),if_pos rfl,if_pos h1];rfl
  ·rw [decide_eq_false (show¬(kh (fQ r.Seen o.Client).1).Seq=(qD o).Seq from h1),if_neg (show¬false=true by decide),if_neg h1,if_pos rfl,av];by_cases h2:o.Seq<(fQ r.Seen o.Client).1.Seq
   ·rw [decide_eq_true (show (qD o).Seq<(kh (fQ r.Seen o.Client).1).Seq from h2),if_pos rfl,if_pos h2];rfl
   ·rw [decide_eq_false (show¬(qD o).Seq<(kh (fQ r.Seen o.Client).1).Seq from h2),if_neg (show¬false=true by decide),if_neg h2,if_neg (show¬(!true)=true by decide),av,if_neg (show¬false=true by decide)];rw [LY (GG hm (.inr ⟨hl,by omega⟩)),if_neg (show¬false=true by decide)]
 |false=>
  rw [if_neg (show¬false=true by decide),av,if_neg (show¬false=true by decide),if_neg (show¬false=true by decide),av,if_neg (show¬false=true by decide),if_pos (show (!false)=true from rfl),av,if_neg (show¬false=true by decide)];by_cases h3:50<=r.Seen.length
  ·rw [decide_eq_true (show (50:Int)<=((gK r).Seen.length:Int) by omega),if_pos rfl,if_pos h3];rfl
  ·rw [decide_eq_false (show¬(50:Int)<=((gK r).Seen.length:Int) by omega),if_neg (show¬false=true by decide),if_neg h3,LY (GG hm (.inl ⟨hl,by omega⟩)),if_neg (show¬false=true by decide)]
end Dn.S
