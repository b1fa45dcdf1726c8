import Derived.Test.YtbkodohojpchjaaGreatDoorDnPRealm
/-
  Realms: what an order does. Conditions: none.
-/
open Go Dn
set_option linter.unusedVariables false
set_option linter.unusedSimpArgs false
namespace Dn.S
theorem cX {α β:Type} {x y:Option α} {K:α→Option β} {z:Option β} (h:x=y) (h2:bd y K=z):bd x K=z:=h▸h2
def uT (k:Int) (w:af):af:=if w.x.E=0 then {w with l:=w.l++[⟨k,w.o.Path⟩]} else w
theorem ye (w:af) (k:Int) (hl:w.l.length≤2^20):cU w k=some ((),uT k w):=by
 unfold cU uT
 by_cases h:w.x.E=0
 ·rw [if_pos h,if_pos (by simp only [List.length_cons,List.length_nil];omega),aR,if_pos h]
 ·rw [if_neg h,aR,if_neg h]
def vS (w:af) (id:Int):af:={w with r:={w.r with Shelf:=⟨(cR w.r.Shelf.L id).1⟩},l:=w.l++(cR w.r.Shelf.L id).2.map fun p=>⟨3,p⟩}
theorem Aq (L:List ae) (id:Int):(cR L id).1.length+(cR L id).2.length=L.length:=by
 unfold cR
 dsimp only
 rw [List.length_map]
 exact JF _ _
theorem SB (w:af) (id:Int):(vS w id).l.length+(vS w id).r.Shelf.L.length=w.l.length+w.r.Shelf.L.length:=by
 unfold vS
 dsimp only
 have:=Aq w.r.Shelf.L id
 rw [List.length_append,List.length_map]
 omega
theorem JK (w:af) (id:Int) (hl:w.l.length+w.r.Shelf.L.length≤2^20):fT w id=some ((),vS w id):=by
 unfold fT
 have hlen:=Aq w.r.Shelf.L id
 rw [drop_eq w.r.Shelf id (by omega),aR]
 have iw:Loop (gh (((⟨(cR w.r.Shelf.L id).1⟩:aB),(cR w.r.Shelf.L id).2))) (0,(cR w.r.Shelf.L id).1,w.r.bM.fQ,w.r.bM.L,w.r.bk.L,w.r.Seen,w.o.Client,w.o.Seq,w.o.Kind,w.o.Path,w.o.Value,w.o.Version,w.o.Session,w.o.Span,w.x.Client,w.x.Seq,w.x.E,w.x.Value,w.x.Version,w.x.Names,w.l)=
  some ((cR w.r.Shelf.L id).1,w.r.bM.fQ,w.r.bM.L,w.r.bk.L,w.r.Seen,w.o.Client,w.o.Seq,w.o.Kind,w.o.Path,w.o.Value,w.o.Version,w.o.Session,w.o.Span,w.x.Client,w.x.Seq,w.x.E,w.x.Value,w.x.Version,w.x.Names,w.l++(cR w.r.Shelf.L id).2.map fun p=>(⟨3,p⟩:aA)):=by
  refine bV.eq (bV.count (fun k=>((k:Int),(cR w.r.Shelf.L id).1,w.r.bM.fQ,w.r.bM.L,w.r.bk.L,w.r.Seen,w.o.Client,w.o.Seq,w.o.Kind,w.o.Path,w.o.Value,w.o.Version,w.o.Session,w.o.Span,w.x.Client,w.x.Seq,w.x.E,w.x.Value,w.x.Version,w.x.Names,w.l++((cR w.r.Shelf.L id).2.take k).map fun p=>(⟨3,p⟩:aA))) (cR w.r.Shelf.L id).2.length (fun _=>True) (by simp) trivial (fun k hk _=> ?_) (fun _=> ?_))
  ·unfold gh
   dsimp only
   rw [if_pos (by omega),cg hk,if_pos (by simp only [List.length_append,List.length_map,List.length_take,List.length_cons,List.length_nil];omega),wrap64 (by omega) (by omega),OS hk]
   refine .mk ⟨?_,trivial⟩
   simp
  ·unfold gh
   dsimp only
   rw [if_neg (by omega),List.take_length]
   exact .mk rfl
 exact cX iw rfl
def kv (w:af) (ids:List Int):af:=ids.foldl vS w
theorem Gk (ids:List Int): ∀w,(kv w ids).l.length+(kv w ids).r.Shelf.L.length=w.l.length+w.r.Shelf.L.length:=by
 unfold kv
 induction ids with
 |nil=>intro w;rfl
 |cons i ids ih=>intro w;rw [List.foldl_cons,ih,SB]
def Vp (w:af):(List ae)×Int×(List ar)×(List ak)×(List ai)×Int×Int×Int×(List UInt8)×(List UInt8)×Int×Int×Int×Int×Int×Int×(List UInt8)×Int×(List (List UInt8))×(List aA):=
 (w.r.Shelf.L,w.r.bM.fQ,w.r.bM.L,w.r.bk.L,w.r.Seen,w.o.Client,w.o.Seq,w.o.Kind,w.o.Path,w.o.Value,w.o.Version,w.o.Session,w.o.Span,w.x.Client,w.x.Seq,w.x.E,w.x.Value,w.x.Version,w.x.Names,w.l)
theorem SC (w:af) (p:aD×(List Int)×Int) (hl:w.l.length+w.r.Shelf.L.length≤2^20) (h2:p.2.1.length≤2^20):Loop (gj p) (0,Vp w)=some (Vp (kv w p.2.1)):=by
 refine bV.eq (bV.count (fun k=>((k:Int),Vp (kv w (p.2.1.take k)))) p.2.1.length (fun _=>True) (by simp [kv]) trivial (fun k hk _=> ?_) (fun _=> ?_))
 ·have hd:=JK (kv w (p.2.1.take k)) p.2.1[k] (by rw [Gk];exact hl)
  have hs:kv w (p.2.1.take (k+1))=vS (kv w (p.2.1.take k)) p.2.1[k]:=yd hk
  rw [hs]
  unfold gj
  dsimp only
  rw [if_pos (by omega),cg hk]
  rw [wrap64 (by omega) (by omega)]
  refine .of (cX hd rfl) ⟨?_,trivial⟩
  rfl
 ·unfold gj
  dsimp only
  rw [if_neg (by omega),List.take_length]
  exact .mk rfl
def nG (w:af) (p:List ae×Int):af:={w with r:={w.r with Shelf:=⟨p.1⟩},x:={w.x with E:=p.2}}
def D6 (w:af) (p:aD×Int):af:={w with r:={w.r with bM:=p.1},x:={w.x with E:=p.2}}
def acB (w:af) (e:Int):af:={w with x:={w.x with E:=e}}
def zr (w:af):af:=if w.o.Session≠0∧li kr w.r.bM.L w.o.Session=false then acB w 14 else uT 1 (nG w (rr w.r.Shelf.L w.o.Path w.o.Value w.o.Session))
def YD (w:af):af:={w with x:={w.x with E:=(jD w.r.Shelf.L w.o.Path).2,Value:=(jD w.r.Shelf.L w.o.Path).1.Value,Version:=(jD w.r.Shelf.L w.o.Path).1.Version}}
def M6 (w:af):af:=if w.x.E=0 then {w with x:={w.x with Version:=(jD w.r.Shelf.L w.o.Path).1.Version}} else w
def SD (w:af):af:=M6 (uT 2 (nG w (zo w.r.Shelf.L w.o.Path w.o.Value w.o.Version)))
def HH (w:af):af:=uT 3 (nG w (Lz w.r.Shelf.L w.o.Path w.o.Version))
def SE (w:af):af:={w with x:={w.x with E:=(MQ w.r.Shelf.L w.o.Path).2,Names:=(MQ w.r.Shelf.L w.o.Path).1}}
def SF (w:af):af:=D6 w (Bb w.r.bM w.o.Session w.o.Span,s4 w.r.bM w.o.Session w.o.Span)
def LC (w:af):af:=D6 w (Ap w.r.bM w.o.Session)
def D7 (w:af):af:=if (qt w.r.bM w.o.Session).2=0 then vS (D6 w (qt w.r.bM w.o.Session)) w.o.Session else D6 w (qt w.r.bM w.o.Session)
def yf (w:af):af:=⟨⟨w.r.Shelf,M1 w.r.bM w.o.Span,w.r.bk,w.r.Seen⟩,w.o,⟨w.x.Client,w.x.Seq,0,w.x.Value,w.o.Span,w.x.Names⟩,w.l⟩
def JL (w:af):af:=if Bc w.r.bM w.o.Span=0 then kv (yf w) (zq w.r.bM w.o.Span) else acB w (Bc w.r.bM w.o.Span)
def mX (o:av):ak:=⟨o.Path,o.Client,decide (o.Kind=11)⟩
def LD (w:af):af:={w with r:={w.r with bk:=⟨(Ao w.r.bk.L (mX w.o)).1⟩},x:={w.x with E:=(Ao w.r.bk.L (mX w.o)).2}}
structure dQ (r:au):Prop where
 shelf:ja r.Shelf.L
 book:ku r.bM
 table:DZ r.bk.L
theorem LF {w:af} (h:dQ w.r) (hl:w.l.length≤2^20):ga w=some ((),zr w):=by
 have hlen:=h.shelf.len
 unfold ga zr
 have Wy:(bd (kH w.r.Shelf w.o.Path w.o.Value w.o.Session) fun aV=>bd (cU (⟨(⟨aV.1,w.r.bM,w.r.bk,w.r.Seen⟩:au),w.o,(⟨w.x.Client,w.x.Seq,aV.2,w.x.Value,w.x.Version,w.x.Names⟩:ai),w.l⟩:af) 1) fun cY=>some ((),cY.2))=some ((),uT 1 (nG w (rr w.r.Shelf.L w.o.Path w.o.Value w.o.Session))):=by
  rw [OJ h.shelf.ord (by omega),aR]
  exact cX (ye (nG w (rr w.r.Shelf.L w.o.Path w.o.Value w.o.Session)) 1 hl) rfl
 by_cases hs:w.o.Session=0
 ·rw [decide_eq_true hs,if_neg (by decide),aR,if_neg (by decide),Wy,if_neg (fun hh=>hh.1 hs)]
 ·rw [decide_eq_false hs,if_pos (show (!false)=true from rfl),YB h.book,aR,aR]
  cases hh:li kr w.r.bM.L w.o.Session with
  |false=>rw [if_pos (show (!false)=true from rfl),if_pos ⟨hs,rfl⟩];rfl
  |true=>rw [if_neg (by decide),Wy,if_neg (fun hq=>by cases hq.2)]
theorem Vq {w:af} (h:dQ w.r):kc w=some ((),YD w):=by
 have hlen:=h.shelf.len
 unfold kc YD
 rw [get_eq h.shelf.ord (by omega),aR]
theorem Vr {w:af} (h:dQ w.r) (hl:w.l.length≤2^20):ke w=some ((),SD w):=by
 have hlen:=h.shelf.len
 unfold ke SD
 rw [Yz h.shelf,aR]
 refine cX (ye (nG w (zo w.r.Shelf.L w.o.Path w.o.Value w.o.Version)) 2 hl) ?_
 rw [aR]
 dsimp only
 have mC:ja (uT 2 (nG w (zo w.r.Shelf.L w.o.Path w.o.Value w.o.Version))).r.Shelf.L:=by
  have:(uT 2 (nG w (zo w.r.Shelf.L w.o.Path w.o.Value w.o.Version))).r.Shelf.L=(zo w.r.Shelf.L w.o.Path w.o.Value w.o.Version).1:=by unfold uT;split<;>rfl
  rw [this];exact MY h.shelf _ _ _
 generalize uT 2 (nG w (zo w.r.Shelf.L w.o.Path w.o.Value w.o.Version))=v at mC
 have oW:=mC.len
 unfold M6
 by_cases he:v.x.E=0
 ·rw [if_pos he,get_eq mC.ord (by omega),aR,aR,if_pos he]
 ·rw [if_neg he,aR,if_neg he]
theorem LG {w:af} (h:dQ w.r) (hl:w.l.length≤2^20):gf w=some ((),HH w):=by
 unfold gf HH
 rw [del_eq h.shelf,aR]
 exact cX (ye (nG w (Lz w.r.Shelf.L w.o.Path w.o.Version)) 3 hl) rfl
theorem SG {w:af} (h:dQ w.r):jk w=some ((),SE w):=by
 have hlen:=h.shelf.len
 unfold jk SE
 rw [Vd h.shelf.ord (by omega),aR]
theorem SH {w:af} (h:dQ w.r):jm w=some ((),SF w):=by
 unfold jm SF
 rw [Vl h.book,aR];rfl
theorem OX {w:af} (h:dQ w.r):il w=some ((),LC w):=by
 unfold il LC
 rw [Sy h.book,aR];rfl
theorem OY {w:af} (h:dQ w.r) (hl:w.l.length+w.r.Shelf.L.length≤2^20):im w=some ((),D7 w):=by
 unfold im D7
 rw [Sz h.book,aR]
 by_cases he:(qt w.r.bM w.o.Session).2=0
 ·rw [if_pos he,if_pos he]
  have hd:=JK (D6 w (qt w.r.bM w.o.Session)) w.o.Session hl
  exact cX (y:=some (Vp (vS (D6 w (qt w.r.bM w.o.Session)) w.o.Session))) (cX hd rfl) rfl
 ·rw [if_neg he,if_neg he];rfl
theorem SI {w:af} (h:dQ w.r) (hl:w.l.length+w.r.Shelf.L.length≤2^20):jn w=some ((),JL w):=by
 have hlen:=h.book.len
 unfold jn JL
 rw [Vm h.book,aR]
 by_cases he:Bc w.r.bM w.o.Span=0
 ·rw [if_pos he,if_pos he]
  dsimp only
  rw [decide_eq_true rfl,if_neg (by decide)]
  have hg:(zq w.r.bM w.o.Span).length≤w.r.bM.L.length:=by
   unfold zq;rw [List.length_map];exact List.length_filter_le _ _
  have ht:=SC (yf w) (M1 w.r.bM w.o.Span,zq w.r.bM w.o.Span,0) hl (by dsimp only;omega)
  exact cX ht rfl
 ·rw [if_neg he,if_neg he]
  dsimp only
  rw [decide_eq_false he,if_pos (show (!false)=true from rfl)];rfl
theorem Gl {w:af} (h:dQ w.r):iq w=some ((),LD w):=by
 have hlen:=h.table.len
 unfold iq LD
 rw [show pv w.r.bk (⟨w.o.Path,w.o.Client,decide (w.o.Kind=11)⟩:ak)=some (⟨(Ao w.r.bk.L (mX w.o)).1⟩,(Ao w.r.bk.L (mX w.o)).2) from Sv w.r.bk.L (mX w.o) (by omega),aR]
def OZ (w:af):af:=
 if w.o.Kind=0 then w else if w.o.Kind=1 then zr w else if w.o.Kind=2 then YD w else if w.o.Kind=3 then SD w else if w.o.Kind=4 then HH w else if w.o.Kind=5 then SE w
 else if w.o.Kind=6 then SF w else if w.o.Kind=7 then LC w else if w.o.Kind=8 then D7 w else if w.o.Kind=9 then JL w else LD w
theorem Vs {w:af} (h:dQ w.r) (hl:w.l.length+w.r.Shelf.L.length≤2^20) (hk:0≤w.o.Kind∧w.o.Kind≤11) {β:Type} (K:Unit×af→Option β):
 (bd pT fun aV=>ix aV w.o.Kind fun y=>bd (lm y w) K)=K ((),OZ w):=by
 unfold pT
 rw [aR]
 obtain ⟨n,hn⟩: ∃n:Nat,w.o.Kind=(n:Int):=⟨w.o.Kind.toNat,by omega⟩
 have acC:n<12:=by omega
 have BK:w.l.length≤2^20:=by omega
 unfold OZ
 rw [hn]
 rw [cg (by simpa using acC)]
 unfold lm
 match n,acC with
 |0,_=>rfl
 |1,_=>exact cX (LF h BK) rfl
 |2,_=>exact cX (Vq h) rfl
 |3,_=>exact cX (Vr h BK) rfl
 |4,_=>exact cX (LG h BK) rfl
 |5,_=>exact cX (SG h) rfl
 |6,_=>exact cX (SH h) rfl
 |7,_=>exact cX (OX h) rfl
 |8,_=>exact cX (OY h hl) rfl
 |9,_=>exact cX (SI h hl) rfl
 |10,_=>exact cX (Gl h) rfl
 |11,_=>exact cX (Gl h) rfl
end Dn.S
