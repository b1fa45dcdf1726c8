import Derived.Test.YtbkodohojpchjaaGreatDoorDnPRealm
/-
  Realms: what an order does. Conditions: none.
-/
open Go Dn
set_option linter.unusedVariables false
set_option linter.unusedSimpArgs false
namespace Dn.S
theorem db {α β:Type} {x y:Option α} {K:α→Option β} {z:Option β} (h:x=y) (h2:bd y K=z):bd x K=z:=h▸h2
def wV (k:Int) (w:af):af:=if w.x.E=0 then {w with l:=w.l++[⟨k,w.o.Path⟩]} else w
theorem yZ (w:af) (k:Int) (hl:w.l.length≤2^20):c9 w k=some ((),wV k w):=by
 unfold c9 wV
 by_cases h:w.x.E=0
 ·rw [if_pos h,if_pos (by simp only [List.length_cons,List.length_nil];omega),aM,if_pos h]
 ·rw [if_neg h,aM,if_neg h]
def vo (w:af) (id:Int):af:={w with r:={w.r with Shelf:=⟨(cN w.r.Shelf.L id).1⟩},l:=w.l++(cN w.r.Shelf.L id).2.map fun p=>⟨3,p⟩}
theorem A7 (L:List ae) (id:Int):(cN L id).1.length+(cN L id).2.length=L.length:=by
 unfold cN
 dsimp only
 rw [List.length_map]
 exact KJ _ _
theorem TJ (w:af) (id:Int):(vo w id).l.length+(vo w id).r.Shelf.L.length=w.l.length+w.r.Shelf.L.length:=by
 unfold vo
 dsimp only
 have:=A7 w.r.Shelf.L id
 rw [List.length_append,List.length_map]
 omega
theorem KS (w:af) (id:Int) (hl:w.l.length+w.r.Shelf.L.length≤2^20):gw w id=some ((),vo w id):=by
 unfold gw
 have hlen:=A7 w.r.Shelf.L id
 rw [drop_eq w.r.Shelf id (by omega),aM]
 have fZ:Loop (gQ (((⟨(cN w.r.Shelf.L id).1⟩:av),(cN w.r.Shelf.L id).2))) (0,(cN w.r.Shelf.L id).1,w.r.bF.fE,w.r.bF.L,w.r.ck.L,w.r.Seen,w.o.Client,w.o.Seq,w.o.Kind,w.o.Path,w.o.Value,w.o.Version,w.o.Session,w.o.Span,w.x.Client,w.x.Seq,w.x.E,w.x.Value,w.x.Version,w.x.Names,w.l)=
  some ((cN w.r.Shelf.L id).1,w.r.bF.fE,w.r.bF.L,w.r.ck.L,w.r.Seen,w.o.Client,w.o.Seq,w.o.Kind,w.o.Path,w.o.Value,w.o.Version,w.o.Session,w.o.Span,w.x.Client,w.x.Seq,w.x.E,w.x.Value,w.x.Version,w.x.Names,w.l++(cN w.r.Shelf.L id).2.map fun p=>(⟨3,p⟩:aC)):=by
  refine bK.eq (bK.count (fun k=>((k:Int),(cN w.r.Shelf.L id).1,w.r.bF.fE,w.r.bF.L,w.r.ck.L,w.r.Seen,w.o.Client,w.o.Seq,w.o.Kind,w.o.Path,w.o.Value,w.o.Version,w.o.Session,w.o.Span,w.x.Client,w.x.Seq,w.x.E,w.x.Value,w.x.Version,w.x.Names,w.l++((cN w.r.Shelf.L id).2.take k).map fun p=>(⟨3,p⟩:aC))) (cN w.r.Shelf.L id).2.length (fun _=>True) (by simp) trivial (fun k hk _=> ?_) (fun _=> ?_))
  ·unfold gQ
   dsimp only
   rw [if_pos (by omega),cg hk,if_pos (by simp only [List.length_append,List.length_map,List.length_take,List.length_cons,List.length_nil];omega),wrap64 (by omega) (by omega),P5 hk]
   refine .mk ⟨?_,trivial⟩
   simp
  ·unfold gQ
   dsimp only
   rw [if_neg (by omega),List.take_length]
   exact .mk rfl
 exact db fZ rfl
def jA (w:af) (ids:List Int):af:=ids.foldl vo w
theorem Hj (ids:List Int): ∀w,(jA w ids).l.length+(jA w ids).r.Shelf.L.length=w.l.length+w.r.Shelf.L.length:=by
 unfold jA
 induction ids with
 |nil=>intro w;rfl
 |cons i ids ih=>intro w;rw [List.foldl_cons,ih,TJ]
def Wt (w:af):(List ae)×Int×(List ay)×(List ak)×(List ai)×Int×Int×Int×(List UInt8)×(List UInt8)×Int×Int×Int×Int×Int×Int×(List UInt8)×Int×(List (List UInt8))×(List aC):=
 (w.r.Shelf.L,w.r.bF.fE,w.r.bF.L,w.r.ck.L,w.r.Seen,w.o.Client,w.o.Seq,w.o.Kind,w.o.Path,w.o.Value,w.o.Version,w.o.Session,w.o.Span,w.x.Client,w.x.Seq,w.x.E,w.x.Value,w.x.Version,w.x.Names,w.l)
theorem TL (w:af) (p:az×(List Int)×Int) (hl:w.l.length+w.r.Shelf.L.length≤2^20) (h2:p.2.1.length≤2^20):Loop (gU p) (0,Wt w)=some (Wt (jA w p.2.1)):=by
 refine bK.eq (bK.count (fun k=>((k:Int),Wt (jA w (p.2.1.take k)))) p.2.1.length (fun _=>True) (by simp [jA]) trivial (fun k hk _=> ?_) (fun _=> ?_))
 ·have hd:=KS (jA w (p.2.1.take k)) p.2.1[k] (by rw [Hj];exact hl)
  have hs:jA w (p.2.1.take (k+1))=vo (jA w (p.2.1.take k)) p.2.1[k]:=yX hk
  rw [hs]
  unfold gU
  dsimp only
  rw [if_pos (by omega),cg hk]
  rw [wrap64 (by omega) (by omega)]
  refine .of (db hd rfl) ⟨?_,trivial⟩
  rfl
 ·unfold gU
  dsimp only
  rw [if_neg (by omega),List.take_length]
  exact .mk rfl
def n0 (w:af) (p:List ae×Int):af:={w with r:={w.r with Shelf:=⟨p.1⟩},x:={w.x with E:=p.2}}
def EX (w:af) (p:az×Int):af:={w with r:={w.r with bF:=p.1},x:={w.x with E:=p.2}}
def adu (w:af) (e:Int):af:={w with x:={w.x with E:=e}}
def z8 (w:af):af:=if w.o.Session≠0∧fY dO w.r.bF.L w.o.Session=false then adu w 14 else wV 1 (n0 w (nv w.r.Shelf.L w.o.Path w.o.Value w.o.Session))
def ZI (w:af):af:={w with x:={w.x with E:=(jO w.r.Shelf.L w.o.Path).2,Value:=(jO w.r.Shelf.L w.o.Path).1.Value,Version:=(jO w.r.Shelf.L w.o.Path).1.Version}}
def Oe (w:af):af:=if w.x.E=0 then {w with x:={w.x with Version:=(jO w.r.Shelf.L w.o.Path).1.Version}} else w
def TM (w:af):af:=Oe (wV 2 (n0 w (xP w.r.Shelf.L w.o.Path w.o.Value w.o.Version)))
def Cx (w:af):af:=wV 3 (n0 w (II w.r.Shelf.L w.o.Path w.o.Version))
def TN (w:af):af:={w with x:={w.x with E:=(N4 w.r.Shelf.L w.o.Path).2,Names:=(N4 w.r.Shelf.L w.o.Path).1}}
def TP (w:af):af:=EX w (yo w.r.bF w.o.Session w.o.Span,tK w.r.bF w.o.Session w.o.Span)
def MP (w:af):af:=EX w (A6 w.r.bF w.o.Session)
def EY (w:af):af:=if (jV w.r.bF w.o.Session).2=0 then vo (EX w (jV w.r.bF w.o.Session)) w.o.Session else EX w (jV w.r.bF w.o.Session)
def y4 (w:af):af:=⟨⟨w.r.Shelf,EW w.r.bF w.o.Span,w.r.ck,w.r.Seen⟩,w.o,⟨w.x.Client,w.x.Seq,0,w.x.Value,w.o.Span,w.x.Names⟩,w.l⟩
def KT (w:af):af:=if BQ w.r.bF w.o.Span=0 then jA (y4 w) (vn w.r.bF w.o.Span) else adu w (BQ w.r.bF w.o.Span)
def Aa (o:aB):ak:=⟨o.Path,o.Client,decide (o.Kind=11)⟩
def MQ (w:af):af:={w with r:={w.r with ck:=⟨(IJ w.r.ck.L (Aa w.o)).1⟩},x:={w.x with E:=(IJ w.r.ck.L (Aa w.o)).2}}
structure dY (r:aq):Prop where
 shelf:ik r.Shelf.L
 book:iY r.bF
 table:yY r.ck.L
theorem MR {w:af} (h:dY w.r) (hl:w.l.length≤2^20):gK w=some ((),z8 w):=by
 have hlen:=h.shelf.len
 unfold gK z8
 have XO:(bd (kW w.r.Shelf w.o.Path w.o.Value w.o.Session) fun aV=>bd (c9 (⟨(⟨aV.1,w.r.bF,w.r.ck,w.r.Seen⟩:aq),w.o,(⟨w.x.Client,w.x.Seq,aV.2,w.x.Value,w.x.Version,w.x.Names⟩:ai),w.l⟩:af) 1) fun cP=>some ((),cP.2))=some ((),wV 1 (n0 w (nv w.r.Shelf.L w.o.Path w.o.Value w.o.Session))):=by
  rw [PX h.shelf.ord (by omega),aM]
  exact db (yZ (n0 w (nv w.r.Shelf.L w.o.Path w.o.Value w.o.Session)) 1 hl) rfl
 by_cases hs:w.o.Session=0
 ·rw [decide_eq_true hs,if_neg (by decide),aM,if_neg (by decide),XO,if_neg (fun hh=>hh.1 hs)]
 ·rw [decide_eq_false hs,if_pos (show (!false)=true from rfl),TD h.book,aM,aM]
  cases hh:fY dO w.r.bF.L w.o.Session with
  |false=>rw [if_pos (show (!false)=true from rfl),if_pos ⟨hs,rfl⟩];rfl
  |true=>rw [if_neg (by decide),XO,if_neg (fun hq=>by cases hq.2)]
theorem Wu {w:af} (h:dY w.r):kw w=some ((),ZI w):=by
 have hlen:=h.shelf.len
 unfold kw ZI
 rw [get_eq h.shelf.ord (by omega),aM]
theorem Wv {w:af} (h:dY w.r) (hl:w.l.length≤2^20):kz w=some ((),TM w):=by
 have hlen:=h.shelf.len
 unfold kz TM
 rw [ZG h.shelf,aM]
 refine db (yZ (n0 w (xP w.r.Shelf.L w.o.Path w.o.Value w.o.Version)) 2 hl) ?_
 rw [aM]
 dsimp only
 have lW:ik (wV 2 (n0 w (xP w.r.Shelf.L w.o.Path w.o.Value w.o.Version))).r.Shelf.L:=by
  have:(wV 2 (n0 w (xP w.r.Shelf.L w.o.Path w.o.Value w.o.Version))).r.Shelf.L=(xP w.r.Shelf.L w.o.Path w.o.Value w.o.Version).1:=by unfold wV;split<;>rfl
  rw [this];exact N9 h.shelf _ _ _
 generalize wV 2 (n0 w (xP w.r.Shelf.L w.o.Path w.o.Value w.o.Version))=v at lW
 have pF:=lW.len
 unfold Oe
 by_cases he:v.x.E=0
 ·rw [if_pos he,get_eq lW.ord (by omega),aM,aM,if_pos he]
 ·rw [if_neg he,aM,if_neg he]
theorem MU {w:af} (h:dY w.r) (hl:w.l.length≤2^20):gO w=some ((),Cx w):=by
 unfold gO Cx
 rw [del_eq h.shelf,aM]
 exact db (yZ (n0 w (II w.r.Shelf.L w.o.Path w.o.Version)) 3 hl) rfl
theorem TQ {w:af} (h:dY w.r):jI w=some ((),TN w):=by
 have hlen:=h.shelf.len
 unfold jI TN
 rw [Wg h.shelf.ord (by omega),aM]
theorem TR {w:af} (h:dY w.r):jJ w=some ((),TP w):=by
 unfold jJ TP
 rw [Wq h.book,aM];rfl
theorem Qc {w:af} (h:dY w.r):iO w=some ((),MP w):=by
 unfold iO MP
 rw [TF h.book,aM];rfl
theorem Qd {w:af} (h:dY w.r) (hl:w.l.length+w.r.Shelf.L.length≤2^20):iP w=some ((),EY w):=by
 unfold iP EY
 rw [TG h.book,aM]
 by_cases he:(jV w.r.bF w.o.Session).2=0
 ·rw [if_pos he,if_pos he]
  have hd:=KS (EX w (jV w.r.bF w.o.Session)) w.o.Session hl
  exact db (y:=some (Wt (vo (EX w (jV w.r.bF w.o.Session)) w.o.Session))) (db hd rfl) rfl
 ·rw [if_neg he,if_neg he];rfl
theorem TS {w:af} (h:dY w.r) (hl:w.l.length+w.r.Shelf.L.length≤2^20):jK w=some ((),KT w):=by
 have hlen:=h.book.len
 unfold jK KT
 rw [Wr h.book,aM]
 by_cases he:BQ w.r.bF w.o.Span=0
 ·rw [if_pos he,if_pos he]
  dsimp only
  rw [decide_eq_true rfl,if_neg (by decide)]
  have hg:(vn w.r.bF w.o.Span).length≤w.r.bF.L.length:=by
   unfold vn;rw [List.length_map];exact List.length_filter_le _ _
  have ht:=TL (y4 w) (EW w.r.bF w.o.Span,vn w.r.bF w.o.Span,0) hl (by dsimp only;omega)
  exact db ht rfl
 ·rw [if_neg he,if_neg he]
  dsimp only
  rw [decide_eq_false he,if_pos (show (!false)=true from rfl)];rfl
theorem Hk {w:af} (h:dY w.r):iQ w=some ((),MQ w):=by
 have hlen:=h.table.len
 unfold iQ MQ
 rw [show p9 w.r.ck (⟨w.o.Path,w.o.Client,decide (w.o.Kind=11)⟩:ak)=some (⟨(IJ w.r.ck.L (Aa w.o)).1⟩,(IJ w.r.ck.L (Aa w.o)).2) from TA w.r.ck.L (Aa w.o) (by omega),aM]
def Ww (w:af):af:=
 if w.o.Kind=0 then w else if w.o.Kind=1 then z8 w else if w.o.Kind=2 then ZI w else if w.o.Kind=3 then TM w else if w.o.Kind=4 then Cx w else if w.o.Kind=5 then TN w
 else if w.o.Kind=6 then TP w else if w.o.Kind=7 then MP w else if w.o.Kind=8 then EY w else if w.o.Kind=9 then KT w else MQ w
theorem Wx {w:af} (h:dY w.r) (hl:w.l.length+w.r.Shelf.L.length≤2^20) (hk:0≤w.o.Kind∧w.o.Kind≤11) {β:Type} (K:Unit×af→Option β):
 (bd qz fun aV=>ix aV w.o.Kind fun y=>bd (lJ y w) K)=K ((),Ww w):=by
 unfold qz
 rw [aM]
 obtain ⟨n,hn⟩: ∃n:Nat,w.o.Kind=(n:Int):=⟨w.o.Kind.toNat,by omega⟩
 have adv:n<12:=by omega
 have CR:w.l.length≤2^20:=by omega
 unfold Ww
 rw [hn]
 rw [cg (by simpa using adv)]
 unfold lJ
 match n,adv with
 |0,_=>rfl
 |1,_=>exact db (MR h CR) rfl
 |2,_=>exact db (Wu h) rfl
 |3,_=>exact db (Wv h CR) rfl
 |4,_=>exact db (MU h CR) rfl
 |5,_=>exact db (TQ h) rfl
 |6,_=>exact db (TR h) rfl
 |7,_=>exact db (Qc h) rfl
 |8,_=>exact db (Qd h hl) rfl
 |9,_=>exact db (TS h hl) rfl
 |10,_=>exact db (Hk h) rfl
 |11,_=>exact db (Hk h) rfl
end Dn.S
