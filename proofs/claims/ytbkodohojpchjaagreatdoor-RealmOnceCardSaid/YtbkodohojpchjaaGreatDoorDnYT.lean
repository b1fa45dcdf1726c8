import Derived.Test.YtbkodohojpchjaaGreatDoorDnC
/-
  The functions, on typed values. Conditions: none.
-/
open Go Dn
set_option linter.unusedVariables false
set_option linter.unusedSimpArgs false
set_option maxRecDepth 100000
namespace Dn.S
structure ae where
 Path:List UInt8
 Value:List UInt8
 Version:Int
 bJ:Int
deriving DecidableEq
@[reducible] def Mk (x : ae) : List MV := [.s x.Path, .s x.Value, .i .i64 x.Version, .i .i64 x.bJ]
@[reducible] def aL (x : ae) : MV := .agg (Mk x)
structure ax where
 L:List ae
deriving DecidableEq
@[reducible] def Kq (x : ax) : List MV := [.list (x.L.map aL)]
@[reducible] def b9 (x : ax) : MV := .agg (Kq x)
structure av where
 Id:Int
 Span:Int
 c9:Int
deriving DecidableEq
@[reducible] def Fs (x : av) : List MV := [.i .i64 x.Id, .i .i64 x.Span, .i .i64 x.c9]
@[reducible] def aN (x : av) : MV := .agg (Fs x)
structure aC where
 dK:Int
 L:List av
deriving DecidableEq
@[reducible] def Ml (x : aC) : List MV := [.i .i64 x.dK, .list (x.L.map aN)]
@[reducible] def dh (x : aC) : MV := .agg (Ml x)
structure al where
 Path:List UInt8
 Client:Int
 Kids:Bool
deriving DecidableEq
@[reducible] def Kr (x : al) : List MV := [.s x.Path, .i .i64 x.Client, .b x.Kids]
@[reducible] def aW (x : al) : MV := .agg (Kr x)
structure bC where
 L:List al
deriving DecidableEq
@[reducible] def Ks (x : bC) : List MV := [.list (x.L.map aW)]
@[reducible] def iH (x : bC) : MV := .agg (Ks x)
structure af where
 Client:Int
 Seq:Int
 E:Int
 Value:List UInt8
 Version:Int
 Names:List (List UInt8)
deriving DecidableEq
@[reducible] def Kt (x : af) : List MV := [.i .i64 x.Client, .i .i64 x.Seq, .i .i64 x.E, .s x.Value, .i .i64 x.Version, .list (x.Names.map MV.s)]
@[reducible] def aJ (x : af) : MV := .agg (Kt x)
structure ak where
 Shelf:ax
 br:aC
 bg:bC
 Seen:List af
deriving DecidableEq
@[reducible] def Ku (x : ak) : List MV := [.list (x.Shelf.L.map aL), .i .i64 x.br.dK, .list (x.br.L.map aN), .list (x.bg.L.map aW), .list (x.Seen.map aJ)]
@[reducible] def cT (x : ak) : MV := .agg (Ku x)
structure au where
 Client:Int
 Seq:Int
 Kind:Int
 Path:List UInt8
 Value:List UInt8
 Version:Int
 Session:Int
 Span:Int
deriving DecidableEq
@[reducible] def Kv (x : au) : List MV := [.i .i64 x.Client, .i .i64 x.Seq, .i .i64 x.Kind, .s x.Path, .s x.Value, .i .i64 x.Version, .i .i64 x.Session, .i .i64 x.Span]
@[reducible] def cm (x : au) : MV := .agg (Kv x)
structure eG where
 Path:List UInt8
 Value:List UInt8
 Version:Int
 bJ:Int
deriving DecidableEq
@[reducible] def RZ (x : eG) : List MV := [.s x.Path, .s x.Value, .i .i64 x.Version, .i .i64 x.bJ]
@[reducible] def kO (x : eG) : MV := .agg (RZ x)
structure jU where
 L:List eG
deriving DecidableEq
@[reducible] def OE (x : jU) : List MV := [.list (x.L.map kO)]
@[reducible] def C4 (x : jU) : MV := .agg (OE x)
structure bU where
 Id:Int
 Span:Int
 c9:Int
deriving DecidableEq
@[reducible] def Kw (x : bU) : List MV := [.i .i64 x.Id, .i .i64 x.Span, .i .i64 x.c9]
@[reducible] def ke (x : bU) : MV := .agg (Kw x)
structure vv where
 dK:Int
 L:List bU
deriving DecidableEq
@[reducible] def R0 (x : vv) : List MV := [.i .i64 x.dK, .list (x.L.map ke)]
@[reducible] def OG (x : vv) : MV := .agg (R0 x)
structure bI where
 Path:List UInt8
 Client:Int
 Kids:Bool
deriving DecidableEq
@[reducible] def OH (x : bI) : List MV := [.s x.Path, .i .i64 x.Client, .b x.Kids]
@[reducible] def gn (x : bI) : MV := .agg (OH x)
structure rj where
 L:List bI
deriving DecidableEq
@[reducible] def OI (x : rj) : List MV := [.list (x.L.map gn)]
@[reducible] def Mm (x : rj) : MV := .agg (OI x)
structure cn where
 Client:Int
 Seq:Int
 E:Int
 Value:List UInt8
 Version:Int
 Names:List (List UInt8)
deriving DecidableEq
@[reducible] def OJ (x : cn) : List MV := [.i .i64 x.Client, .i .i64 x.Seq, .i .i64 x.E, .s x.Value, .i .i64 x.Version, .list (x.Names.map MV.s)]
@[reducible] def fw (x : cn) : MV := .agg (OJ x)
structure pj where
 Shelf:jU
 br:vv
 bg:rj
 Seen:List cn
deriving DecidableEq
@[reducible] def OL (x : pj) : List MV := [.list (x.Shelf.L.map kO), .i .i64 x.br.dK, .list (x.br.L.map ke), .list (x.bg.L.map gn), .list (x.Seen.map fw)]
@[reducible] def C5 (x : pj) : MV := .agg (OL x)
structure aE where
 Kind:Int
 Path:List UInt8
deriving DecidableEq
@[reducible] def Hn (x : aE) : List MV := [.i .i64 x.Kind, .s x.Path]
@[reducible] def fA (x : aE) : MV := .agg (Hn x)
structure ai where
 r:ak
 o:au
 x:af
 l:List aE
deriving DecidableEq
@[reducible] def bD (x : ai) : List MV := [.list (x.r.Shelf.L.map aL), .i .i64 x.r.br.dK, .list (x.r.br.L.map aN), .list (x.r.bg.L.map aW), .list (x.r.Seen.map aJ), .i .i64 x.o.Client, .i .i64 x.o.Seq, .i .i64 x.o.Kind, .s x.o.Path, .s x.o.Value, .i .i64 x.o.Version, .i .i64 x.o.Session, .i .i64 x.o.Span, .i .i64 x.x.Client, .i .i64 x.x.Seq, .i .i64 x.x.E, .s x.x.Value, .i .i64 x.x.Version, .list (x.x.Names.map MV.s), .list (x.l.map fA)]
structure ba where
 W:al
 C:aE
deriving DecidableEq
@[reducible] def Kx (x : ba) : List MV := [.s x.W.Path, .i .i64 x.W.Client, .b x.W.Kids, .i .i64 x.C.Kind, .s x.C.Path]
@[reducible] def dc (x : ba) : MV := .agg (Kx x)
structure afP where
 Client:Int
 Seq:Int
 Kind:Int
 Path:List UInt8
 Value:List UInt8
 Version:Int
 Session:Int
 Span:Int
deriving DecidableEq
structure R2 where
 Kind:Int
 Path:List UInt8
deriving DecidableEq
structure afQ where
 W:bI
 C:R2
deriving DecidableEq
noncomputable def yx (a:ak) (st:Int):Option (Int⊕(Unit⊕Bool)):=
 if st<(a.Shelf.L.length:Int) then
 bd (
  ix a.Shelf.L st fun y=>
  if (200:Int)<(y.Path.length:Int) then
  some true
  else
  ix a.Shelf.L st fun y1=>
  some (decide ((1100:Int)<(y1.Value.length:Int))):Option Bool) fun w2=>
 if w2 then
 some (.inr (.inr false))
 else
 some (.inl (IntKind.wrap .i64 (st+1)))
 else
 some (.inr (.inl ()))
noncomputable def yy (a:ak) (ec:Int):Option (Int⊕(Unit⊕Bool)):=
 if ec<(a.bg.L.length:Int) then
 ix a.bg.L ec fun y2=>
 if (200:Int)<(y2.Path.length:Int) then
 some (.inr (.inr false))
 else
 some (.inl (IntKind.wrap .i64 (ec+1)))
 else
 some (.inr (.inl ()))
noncomputable def yz (a:ak) (dO:Int) (nV:Int):Option (Int⊕(Unit⊕Bool)):=
 ix a.Seen dO fun y5=>
 if nV<(y5.Names.length:Int) then
 ix a.Seen dO fun y6=>
 ix y6.Names nV fun y7=>
 if (200:Int)<(y7.length:Int) then
 some (.inr (.inr false))
 else
 some (.inl (IntKind.wrap .i64 (nV+1)))
 else
 some (.inr (.inl ()))
noncomputable def yA (a:ak) (dO:Int):Option (Int⊕(Unit⊕Bool)):=
 if dO<(a.Seen.length:Int) then
 bd (
  ix a.Seen dO fun y3=>
  if (1100:Int)<(y3.Value.length:Int) then
  some true
  else
  ix a.Seen dO fun y4=>
  some (decide ((40:Int)<(y4.Names.length:Int))):Option Bool) fun w5=>
 if w5 then
 some (.inr (.inr false))
 else
 bd (Loop (yz a dO) 0) fun w6=>
 match w6 with
 | .inl p8=>
  some (.inl (IntKind.wrap .i64 (dO+1)))
 | .inr p9=>
  some (.inr (.inr p9))
 else
 some (.inr (.inl ()))
noncomputable def A8 (a:ak):Option Bool:=
 bd (
  if (40:Int)<(a.Shelf.L.length:Int) then
  some true
  else
  if (40:Int)<(a.bg.L.length:Int) then
  some true
  else
  if (60:Int)<(a.br.L.length:Int) then
  some true
  else
  if (60:Int)<(a.Seen.length:Int) then
  some true
  else
  some (decide ((10000000000:Int)<a.br.dK)):Option Bool) fun w=>
 if w then
 some false
 else
 bd (Loop (yx a) 0) fun w1=>
 match w1 with
 | .inl p1=>
  bd (Loop (yy a) 0) fun w3=>
  match w3 with
  | .inl p4=>
   bd (Loop (yA a) 0) fun w4=>
   match w4 with
   | .inl p10=>
    some true
   | .inr p11=>
    some p11
  | .inr p5=>
   some p5
 | .inr p2=>
  some p2
noncomputable def sQ (lA:List au) (st:Int):Option (Int⊕(Unit⊕Bool)):=
 if st<(lA.length:Int) then
 bd (
  if st=30 then
  some true
  else
  ix lA st fun y=>
  if (200:Int)<(y.Path.length:Int) then
  some true
  else
  ix lA st fun y1=>
  some (decide ((1100:Int)<(y1.Value.length:Int))):Option Bool) fun w1=>
 if w1 then
 some (.inr (.inr false))
 else
 some (.inl (IntKind.wrap .i64 (st+1)))
 else
 some (.inr (.inl ()))
noncomputable def qM (lA:List au):Option Bool:=
 bd (Loop (sQ lA) 0) fun w=>
 match w with
 | .inl p1=>
  some true
 | .inr p2=>
  some p2
noncomputable def ui (p:List UInt8) (st:(List (List UInt8))×(List UInt8)×Int):Option (((List (List UInt8))×(List UInt8)×Int)⊕((List (List UInt8))×(List UInt8))):=
 if st.2.2<(p.length:Int) then
 if (0:Int)≤st.2.2∧st.2.2<(p.length:Int) then
 bd (
  if ((p.getD (Int.toNat st.2.2) 0).toNat:Int)=47 then
  if (st.1.length+([st.2.1]:List (List UInt8)).length) *16≤2^46 then
  some (st.1++([st.2.1]:List (List UInt8)),([]:List UInt8))
  else none
  else
  if (0:Int)≤st.2.2∧st.2.2<(p.length:Int) then
  OB ([((p.getD (Int.toNat st.2.2) 0).toNat:Int)]:List Int) fun bs=>
  if st.2.1.length+bs.length≤2^46 then
  some (st.1,st.2.1++bs)
  else none
  else none:Option ((List (List UInt8))×(List UInt8))) fun w2=>
 some (.inl (w2.1,w2.2,IntKind.wrap .i64 (st.2.2+1)))
 else none
 else
 some (.inr (st.1,st.2.1))
noncomputable def yB (p:List UInt8):Option ((List (List UInt8))×Bool):=
 bd (
  if (p.length:Int)=0 then
  some true
  else
  if (0:Int)≤0∧(0:Int)<(p.length:Int) then
  some (!decide (((p.getD (Int.toNat 0) 0).toNat:Int)=47))
  else none:Option Bool) fun w=>
 if w then
 some (([]:List (List UInt8)),false)
 else
 if p=([47]:List UInt8) then
 some (([]:List (List UInt8)),true)
 else
 bd (Loop (ui p) (([]:List (List UInt8)),([]:List UInt8),1)) fun w1=>
 if (w1.1.length+([w1.2]:List (List UInt8)).length) *16≤2^46 then
 some (w1.1++([w1.2]:List (List UInt8)),true)
 else none
noncomputable def nw (sA:List UInt8) (st:Int):Option (Int⊕(Unit⊕Bool)):=
 if st<(sA.length:Int) then
 if (0:Int)≤st∧st<(sA.length:Int) then
 bd (
  if (97:Int)≤((sA.getD (Int.toNat st) 0).toNat:Int) then
  if ((sA.getD (Int.toNat st) 0).toNat:Int)≤122 then
  some true
  else
  if (48:Int)≤((sA.getD (Int.toNat st) 0).toNat:Int) then
  if ((sA.getD (Int.toNat st) 0).toNat:Int)≤57 then
  some true
  else
  if ((sA.getD (Int.toNat st) 0).toNat:Int)=45 then
  some true
  else
  some (decide (((sA.getD (Int.toNat st) 0).toNat:Int)=95))
  else
  if ((sA.getD (Int.toNat st) 0).toNat:Int)=45 then
  some true
  else
  some (decide (((sA.getD (Int.toNat st) 0).toNat:Int)=95))
  else
  if (48:Int)≤((sA.getD (Int.toNat st) 0).toNat:Int) then
  if ((sA.getD (Int.toNat st) 0).toNat:Int)≤57 then
  some true
  else
  if ((sA.getD (Int.toNat st) 0).toNat:Int)=45 then
  some true
  else
  some (decide (((sA.getD (Int.toNat st) 0).toNat:Int)=95))
  else
  if ((sA.getD (Int.toNat st) 0).toNat:Int)=45 then
  some true
  else
  some (decide (((sA.getD (Int.toNat st) 0).toNat:Int)=95)):Option Bool) fun w1=>
 if !w1 then
 some (.inr (.inr false))
 else
 some (.inl (IntKind.wrap .i64 (st+1)))
 else none
 else
 some (.inr (.inl ()))
noncomputable def rk (sA:List UInt8):Option Bool:=
 bd (Loop (nw sA) 0) fun w=>
 match w with
 | .inl p1=>
  bd (
   if (1:Int)≤(sA.length:Int) then
   some (decide ((sA.length:Int)≤30))
   else
   some false:Option Bool) fun w2=>
  some w2
 | .inr p2=>
  some p2
noncomputable def pk (rA:(List (List UInt8))×Bool) (st:Int):Option (Int⊕(Unit⊕Bool)):=
 if st<(rA.1.length:Int) then
 ix rA.1 st fun y=>
 bd (rk y) fun aX=>
 if !aX then
 some (.inr (.inr false))
 else
 some (.inl (IntKind.wrap .i64 (st+1)))
 else
 some (.inr (.inl ()))
noncomputable def ng (p:List UInt8):Option Bool:=
 if (100:Int)<(p.length:Int) then
 some false
 else
 bd (yB p) fun rA=>
 bd (Loop (pk rA) 0) fun w=>
 match w with
 | .inl p3=>
  bd (
   if rA.2 then
   some (decide ((rA.1.length:Int)≤8))
   else
   some false:Option Bool) fun w1=>
  some w1
 | .inr p4=>
  some p4
noncomputable def oo (p:List UInt8):Option ((List (List UInt8))×Int):=
 bd (ng p) fun rA=>
 if !rA then
 some (([]:List (List UInt8)),13)
 else
 bd (yB p) fun aX=>
 some (aX.1,0)
noncomputable def pn (rA:(List (List UInt8))×Int) (aX:(List (List UInt8))×Int) (st:Int):Option (Int⊕(Unit⊕Bool)):=
 bd (
  if st<(rA.1.length:Int) then
  some (decide (st<(aX.1.length:Int)))
  else
  some false:Option Bool) fun w2=>
 if w2 then
 ix rA.1 st fun y=>
 ix aX.1 st fun y1=>
 if !decide (y=y1) then
 ix rA.1 st fun y2=>
 ix aX.1 st fun y3=>
 some (.inr (.inr (Op.bytesLess y2 y3)))
 else
 some (.inl (IntKind.wrap .i64 (st+1)))
 else
 some (.inr (.inl ()))
noncomputable def uj (p:List UInt8) (q:List UInt8):Option Bool:=
 bd (oo p) fun rA=>
 bd (oo q) fun aX=>
 bd (
  if !decide (rA.2=0) then
  some true
  else
  some (!decide (aX.2=0)):Option Bool) fun w=>
 if w then
 some false
 else
 bd (Loop (pn rA aX) 0) fun w1=>
 match w1 with
 | .inl p3=>
  some (decide ((rA.1.length:Int)<(aX.1.length:Int)))
 | .inr p4=>
  some p4
noncomputable def rl (lA:List (List UInt8)) (st:(List UInt8)×Int):Option (((List UInt8)×Int)⊕(List UInt8)):=
 if st.2<(lA.length:Int) then
 if st.1.length+([47]:List UInt8).length≤2^46 then
 ix lA st.2 fun y=>
 if (st.1++([47]:List UInt8)).length+y.length≤2^46 then
 some (.inl ((st.1++([47]:List UInt8))++y,IntKind.wrap .i64 (st.2+1)))
 else none
 else none
 else
 some (.inr st.1)
noncomputable def xz (lA:List (List UInt8)):Option (List UInt8):=
 bd (Loop (rl lA) (([]:List UInt8),0)) fun w=>
 if w=([]:List UInt8) then
 some ([47]:List UInt8)
 else
 some w
noncomputable def oq (p:List UInt8):Option ((List UInt8)×Int):=
 bd (oo p) fun rA=>
 if !decide (rA.2=0) then
 some (([]:List UInt8),rA.2)
 else
 if (rA.1.length:Int)=0 then
 some (([]:List UInt8),6)
 else
 if (0:Int)≤0∧(0:Int)≤(IntKind.wrap .i64 ((rA.1.length:Int)-1))∧(IntKind.wrap .i64 ((rA.1.length:Int)-1))≤(rA.1.length:Int) then
 bd (xz (List.drop (Int.toNat 0) (List.take (Int.toNat (IntKind.wrap .i64 ((rA.1.length:Int)-1))) rA.1))) fun aX=>
 some (aX,0)
 else none
noncomputable def xA (sA:jU) (p:List UInt8) (st:Int):Option (Int⊕(Unit⊕Int)):=
 if st<(sA.L.length:Int) then
 ix sA.L st fun y=>
 if y.Path=p then
 some (.inr (.inr st))
 else
 some (.inl (IntKind.wrap .i64 (st+1)))
 else
 some (.inr (.inl ()))
noncomputable def vw (sA:jU) (p:List UInt8):Option Int:=
 bd (Loop (xA sA p) 0) fun w=>
 match w with
 | .inl p3=>
  some (-1)
 | .inr p4=>
  some p4
noncomputable def po (a:jU) (st:Int):Option (Int⊕(Unit⊕Bool)):=
 if st<(a.L.length:Int) then
 ix a.L st fun y=>
 bd (
  bd (ng y.Path) fun rA=>
  if !rA then
  some true
  else
  if (1000:Int)<(y.Value.length:Int) then
  some true
  else
  if y.Version<0 then
  some true
  else
  if (1000000000:Int)<y.Version then
  some true
  else
  if y.bJ<0 then
  some true
  else
  if (0:Int)<st then
  ix a.L (IntKind.wrap .i64 (st-1)) fun y1=>
  bd (uj y1.Path y.Path) fun aX=>
  some (!aX)
  else
  some false:Option Bool) fun w2=>
 if w2 then
 some (.inr (.inr false))
 else
 bd (oq y.Path) fun da=>
 if !decide (da.2=0) then
 if !decide (y.bJ=0) then
 some (.inr (.inr false))
 else
 some (.inl (IntKind.wrap .i64 (st+1)))
 else
 bd (vw a da.1) fun n0=>
 bd (
  if n0<0 then
  some true
  else
  ix a.L n0 fun y2=>
  some (!decide (y2.bJ=0)):Option Bool) fun w3=>
 if w3 then
 some (.inr (.inr false))
 else
 some (.inl (IntKind.wrap .i64 (st+1)))
 else
 some (.inr (.inl ()))
noncomputable def uk (a:jU):Option Bool:=
 bd (
  if (a.L.length:Int)<1 then
  some true
  else
  some (decide ((200:Int)<(a.L.length:Int))):Option Bool) fun w=>
 if w then
 some false
 else
 bd (Loop (po a) 0) fun w1=>
 match w1 with
 | .inl p1=>
  bd (vw a ([47]:List UInt8)) fun A9=>
  some (decide (A9=0))
 | .inr p2=>
  some p2
noncomputable def sR (a:vv) (st:Int):Option (Int⊕(Unit⊕Bool)):=
 if st<(a.L.length:Int) then
 ix a.L st fun y=>
 bd (
  if y.Id<1 then
  some true
  else
  if y.Span<1 then
  some true
  else
  if (1000:Int)<y.Span then
  some true
  else
  if y.c9≤a.dK then
  some true
  else
  if (IntKind.wrap .i64 (a.dK+y.Span))<y.c9 then
  some true
  else
  if (0:Int)<st then
  ix a.L (IntKind.wrap .i64 (st-1)) fun y1=>
  some (decide (y.Id≤y1.Id))
  else
  some false:Option Bool) fun w2=>
 if w2 then
 some (.inr (.inr false))
 else
 some (.inl (IntKind.wrap .i64 (st+1)))
 else
 some (.inr (.inl ()))
noncomputable def ul (a:vv):Option Bool:=
 bd (
  if a.dK<0 then
  some true
  else
  if (1000000000:Int)<a.dK then
  some true
  else
  some (decide ((50:Int)<(a.L.length:Int))):Option Bool) fun w=>
 if w then
 some false
 else
 bd (Loop (sR a) 0) fun w1=>
 match w1 with
 | .inl p1=>
  some true
 | .inr p2=>
  some p2
noncomputable def um (lA:List bI) (w:bI) (st:Int):Option (Int⊕(Unit⊕Bool)):=
 if st<(lA.length:Int) then
 ix lA st fun y=>
 if ((decide (y.Path=w.Path))&&((decide (y.Client=w.Client))&&(decide (y.Kids=w.Kids)))) then
 some (.inr (.inr true))
 else
 some (.inl (IntKind.wrap .i64 (st+1)))
 else
 some (.inr (.inl ()))
noncomputable def vz (lA:List bI) (w:bI):Option Bool:=
 bd (Loop (um lA w) 0) fun w1=>
 match w1 with
 | .inl p1=>
  some false
 | .inr p2=>
  some p2
noncomputable def sS (t:rj) (st:Int):Option (Int⊕(Unit⊕Bool)):=
 if st<(t.L.length:Int) then
 bd (
  ix t.L st fun y=>
  bd (ng y.Path) fun rA=>
  if !rA then
  some true
  else
  ix t.L st fun y1=>
  if y1.Client<0 then
  some true
  else
  if (0:Int)≤0∧(0:Int)≤st∧st≤(t.L.length:Int) then
  ix t.L st fun y2=>
  bd (vz (List.drop (Int.toNat 0) (List.take (Int.toNat st) t.L)) y2) fun aX=>
  some aX
  else none:Option Bool) fun w1=>
 if w1 then
 some (.inr (.inr false))
 else
 some (.inl (IntKind.wrap .i64 (st+1)))
 else
 some (.inr (.inl ()))
noncomputable def uo (t:rj):Option Bool:=
 bd (Loop (sS t) 0) fun w=>
 match w with
 | .inl p1=>
  some (decide ((t.L.length:Int)≤200))
 | .inr p2=>
  some p2
noncomputable def sU (a:pj) (st:Int):Option (Int⊕(Unit⊕Bool)):=
 if st<(a.Seen.length:Int) then
 ix a.Seen st fun y=>
 bd (
  if y.Client<0 then
  some true
  else
  if (1000:Int)<y.Client then
  some true
  else
  if y.Seq<1 then
  some true
  else
  if (0:Int)<st then
  ix a.Seen (IntKind.wrap .i64 (st-1)) fun y1=>
  some (decide (y.Client≤y1.Client))
  else
  some false:Option Bool) fun w2=>
 if w2 then
 some (.inr (.inr false))
 else
 some (.inl (IntKind.wrap .i64 (st+1)))
 else
 some (.inr (.inl ()))
noncomputable def qN (a:pj):Option Bool:=
 bd (
  bd (uk a.Shelf) fun rA=>
  if !rA then
  some true
  else
  bd (ul a.br) fun aX=>
  if !aX then
  some true
  else
  bd (uo a.bg) fun da=>
  if !da then
  some true
  else
  some (decide ((50:Int)<(a.Seen.length:Int))):Option Bool) fun w=>
 if w then
 some false
 else
 bd (Loop (sU a) 0) fun w1=>
 match w1 with
 | .inl p1=>
  some true
 | .inr p2=>
  some p2
noncomputable def rm (rA:af):Option cn:=
 some (⟨rA.Client,rA.Seq,rA.E,rA.Value,rA.Version,rA.Names⟩:cn)
noncomputable def mh (lA:List af) (st:(List cn)×Int):Option (((List cn)×Int)⊕(List cn)):=
 if st.2<(lA.length:Int) then
 ix lA st.2 fun y=>
 bd (rm y) fun rA=>
 if (st.1.length+([rA]:List cn).length) *72≤2^46 then
 some (.inl (st.1++([rA]:List cn),IntKind.wrap .i64 (st.2+1)))
 else none
 else
 some (.inr st.1)
noncomputable def pq (lA:List af):Option (List cn):=
 bd (Loop (mh lA) (([]:List cn),0)) fun w=>
 some w
noncomputable def pu (a:ak) (st:(List eG)×Int×(List bU)×(List bI)×(List cn)×Int):Option (((List eG)×Int×(List bU)×(List bI)×(List cn)×Int)⊕((List eG)×Int×(List bU)×(List bI)×(List cn))):=
 if st.2.2.2.2.2<(a.Shelf.L.length:Int) then
 ix a.Shelf.L st.2.2.2.2.2 fun y=>
 if (st.1.length+([(⟨y.Path,y.Value,y.Version,y.bJ⟩:eG)]:List eG).length) *48≤2^46 then
 some (.inl (st.1++([(⟨y.Path,y.Value,y.Version,y.bJ⟩:eG)]:List eG),st.2.1,st.2.2.1,st.2.2.2.1,st.2.2.2.2.1,IntKind.wrap .i64 (st.2.2.2.2.2+1)))
 else none
 else
 some (.inr (st.1,st.2.1,st.2.2.1,st.2.2.2.1,st.2.2.2.2.1))
noncomputable def pv (a:ak) (ec:(List eG)×Int×(List bU)×(List bI)×(List cn)×Int):Option (((List eG)×Int×(List bU)×(List bI)×(List cn)×Int)⊕((List eG)×Int×(List bU)×(List bI)×(List cn))):=
 if ec.2.2.2.2.2<(a.br.L.length:Int) then
 ix a.br.L ec.2.2.2.2.2 fun y1=>
 if (ec.2.2.1.length+([(⟨y1.Id,y1.Span,y1.c9⟩:bU)]:List bU).length) *24≤2^46 then
 some (.inl (ec.1,ec.2.1,ec.2.2.1++([(⟨y1.Id,y1.Span,y1.c9⟩:bU)]:List bU),ec.2.2.2.1,ec.2.2.2.2.1,IntKind.wrap .i64 (ec.2.2.2.2.2+1)))
 else none
 else
 some (.inr (ec.1,ec.2.1,ec.2.2.1,ec.2.2.2.1,ec.2.2.2.2.1))
noncomputable def pw (a:ak) (dO:(List eG)×Int×(List bU)×(List bI)×(List cn)×Int):Option (((List eG)×Int×(List bU)×(List bI)×(List cn)×Int)⊕((List eG)×Int×(List bU)×(List bI)×(List cn))):=
 if dO.2.2.2.2.2<(a.bg.L.length:Int) then
 ix a.bg.L dO.2.2.2.2.2 fun y2=>
 if (dO.2.2.2.1.length+([(⟨y2.Path,y2.Client,y2.Kids⟩:bI)]:List bI).length) *32≤2^46 then
 some (.inl (dO.1,dO.2.1,dO.2.2.1,dO.2.2.2.1++([(⟨y2.Path,y2.Client,y2.Kids⟩:bI)]:List bI),dO.2.2.2.2.1,IntKind.wrap .i64 (dO.2.2.2.2.2+1)))
 else none
 else
 some (.inr (dO.1,dO.2.1,dO.2.2.1,dO.2.2.2.1,dO.2.2.2.2.1))
noncomputable def qO (a:ak):Option pj:=
 bd (pq a.Seen) fun rA=>
 bd (Loop (pu a) (([]:List eG),a.br.dK,([]:List bU),([]:List bI),rA,0)) fun w=>
 bd (Loop (pv a) (w.1,w.2.1,w.2.2.1,w.2.2.2.1,w.2.2.2.2,0)) fun w1=>
 bd (Loop (pw a) (w1.1,w1.2.1,w1.2.2.1,w1.2.2.2.1,w1.2.2.2.2,0)) fun w2=>
 some (⟨(⟨w2.1⟩:jU),(⟨w2.2.1,w2.2.2.1⟩:vv),(⟨w2.2.2.2.1⟩:rj),w2.2.2.2.2⟩:pj)
noncomputable def jV (o:au):Option au:=
 if o.Kind=1 then
 some (⟨o.Client,o.Seq,o.Kind,o.Path,o.Value,0,o.Session,0⟩:au)
 else
 bd (
  if o.Kind=2 then
  some (decide (o.Kind=2))
  else
  bd (
   if o.Kind=5 then
   some (decide (o.Kind=5))
   else
   bd (
    if o.Kind=10 then
    some (decide (o.Kind=10))
    else
    some (decide (o.Kind=11)):Option Bool) fun w2=>
   some w2:Option Bool) fun w1=>
  some w1:Option Bool) fun w=>
 if w then
 some (⟨o.Client,o.Seq,o.Kind,o.Path,([]:List UInt8),0,0,0⟩:au)
 else
 if o.Kind=3 then
 some (⟨o.Client,o.Seq,o.Kind,o.Path,o.Value,o.Version,0,0⟩:au)
 else
 if o.Kind=4 then
 some (⟨o.Client,o.Seq,o.Kind,o.Path,([]:List UInt8),o.Version,0,0⟩:au)
 else
 if o.Kind=6 then
 some (⟨o.Client,o.Seq,o.Kind,([]:List UInt8),([]:List UInt8),0,o.Session,o.Span⟩:au)
 else
 bd (
  if o.Kind=7 then
  some (decide (o.Kind=7))
  else
  some (decide (o.Kind=8)):Option Bool) fun w3=>
 if w3 then
 some (⟨o.Client,o.Seq,o.Kind,([]:List UInt8),([]:List UInt8),0,o.Session,0⟩:au)
 else
 if o.Kind=9 then
 some (⟨o.Client,o.Seq,o.Kind,([]:List UInt8),([]:List UInt8),0,0,o.Span⟩:au)
 else
 some (⟨o.Client,o.Seq,o.Kind,([]:List UInt8),([]:List UInt8),0,0,0⟩:au)
noncomputable def nh (o:au):Option Bool:=
 bd (
  if (0:Int)≤o.Client then
  if o.Client≤1000 then
  if (1:Int)≤o.Seq then
  some (decide (o.Seq≤1000000000))
  else
  some false
  else
  some false
  else
  some false:Option Bool) fun w=>
 bd (
  if w then
  if (0:Int)≤o.Kind then
  if o.Kind≤11 then
  if (o.Path.length:Int)≤100 then
  if (o.Value.length:Int)≤1000 then
  bd (jV o) fun rA=>
  some ((decide (o.Client=rA.Client))&&((decide (o.Seq=rA.Seq))&&((decide (o.Kind=rA.Kind))&&((decide (o.Path=rA.Path))&&((decide (o.Value=rA.Value))&&((decide (o.Version=rA.Version))&&((decide (o.Session=rA.Session))&&(decide (o.Span=rA.Span)))))))))
  else
  some false
  else
  some false
  else
  some false
  else
  some false
  else
  some false:Option Bool) fun w1=>
 some w1
noncomputable def nx (x:Int):Option Bool:=
 some (!decide (x=x))
noncomputable def jb (x:Int) (y:Int):Option Int:=
 bd (nx x) fun rA=>
 bd (nx y) fun aX=>
 if rA then
 if aX then
 some 0
 else
 some (-1)
 else
 if aX then
 some 1
 else
 if x<y then
 some (-1)
 else
 if y<x then
 some 1
 else
 some 0
noncomputable def cX (x:af) (dY:Int):Option Int:=
 bd (jb x.Client dY) fun rA=>
 some rA
noncomputable def fB (x:List af) (target:Int) (cmp:af→Int→Option Int) (st:Int×Int):Option ((Int×Int)⊕Int):=
 if st.1<st.2 then
 if (0:Int)≤1 then
 ix x (IntKind.wrap .i64 (Int.fdiv (IntKind.wrap .u64 (IntKind.wrap .i64 (st.1+st.2))) (2^min (Int.toNat 1) (IntKind.bits .u64)))) fun y=>
 bd (cmp y target) fun rA=>
 bd (
  if rA<0 then
  some (IntKind.wrap .i64 ((IntKind.wrap .i64 (Int.fdiv (IntKind.wrap .u64 (IntKind.wrap .i64 (st.1+st.2))) (2^min (Int.toNat 1) (IntKind.bits .u64))))+1),st.2)
  else
  some (st.1,IntKind.wrap .i64 (Int.fdiv (IntKind.wrap .u64 (IntKind.wrap .i64 (st.1+st.2))) (2^min (Int.toNat 1) (IntKind.bits .u64)))):Option (Int×Int)) fun w1=>
 some (.inl (w1.1,w1.2))
 else none
 else
 some (.inr st.1)
noncomputable def cJ (x:List af) (target:Int) (cmp:af→Int→Option Int):Option (Int×Bool):=
 bd (Loop (fB x target cmp) (0,(x.length:Int))) fun w=>
 bd (
  if w<(x.length:Int) then
  ix x w fun y1=>
  bd (cmp y1 target) fun aX=>
  some (w,decide (aX=0))
  else
  some (w,false):Option (Int×Bool)) fun w2=>
 some (w2.1,w2.2)
noncomputable def eY (rA:ak) (dY:Int):Option (Int×Bool):=
 bd (cJ rA.Seen dY cX) fun aX=>
 some (aX.1,aX.2)
noncomputable def mN (rA:ak) (dY:Int):Option (af×Bool):=
 bd (eY rA dY) fun aX=>
 if !aX.2 then
 some ((⟨0,0,0,([]:List UInt8),0,([]:List (List UInt8))⟩:af),false)
 else
 ix rA.Seen aX.1 fun y=>
 some (y,true)
noncomputable def jc (rA:ak) (o:au):Option (af×Bool):=
 bd (mN rA o.Client) fun aX=>
 bd (nh o) fun da=>
 bd (
  if !da then
  some (.inl (0,0,0,([]:List UInt8),0,([]:List (List UInt8)),o.Client,o.Seq,1,([]:List UInt8),0,([]:List (List UInt8))))
  else
  bd (
   if aX.2 then
   some (decide (aX.1.Seq=o.Seq))
   else
   some false:Option Bool) fun w1=>
  if w1 then
  some (.inr (aX.1.Client,aX.1.Seq,aX.1.E,aX.1.Value,aX.1.Version,aX.1.Names,true))
  else
  bd (
   if aX.2 then
   some (decide (o.Seq<aX.1.Seq))
   else
   some false:Option Bool) fun w2=>
  bd (
   if w2 then
   some (.inl (0,0,0,([]:List UInt8),0,([]:List (List UInt8)),o.Client,o.Seq,15,([]:List UInt8),0,([]:List (List UInt8))))
   else
   bd (
    if !aX.2 then
    some (decide ((50:Int)≤(rA.Seen.length:Int)))
    else
    some false:Option Bool) fun w4=>
   if w4 then
   some (.inl (0,0,0,([]:List UInt8),0,([]:List (List UInt8)),o.Client,o.Seq,9,([]:List UInt8),0,([]:List (List UInt8))))
   else
   some (.inr (o.Client,o.Seq,0,([]:List UInt8),0,([]:List (List UInt8)),false)):Option ((Int×Int×Int×(List UInt8)×Int×(List (List UInt8))×Int×Int×Int×(List UInt8)×Int×(List (List UInt8)))⊕(Int×Int×Int×(List UInt8)×Int×(List (List UInt8))×Bool))) fun w3=>
  match w3 with
  | .inl p2=>
   some (.inl (p2.1,p2.2.1,p2.2.2.1,p2.2.2.2.1,p2.2.2.2.2.1,p2.2.2.2.2.2.1,p2.2.2.2.2.2.2.1,p2.2.2.2.2.2.2.2.1,p2.2.2.2.2.2.2.2.2.1,p2.2.2.2.2.2.2.2.2.2.1,p2.2.2.2.2.2.2.2.2.2.2.1,p2.2.2.2.2.2.2.2.2.2.2.2))
  | .inr p3=>
   some (.inr (p3.1,p3.2.1,p3.2.2.1,p3.2.2.2.1,p3.2.2.2.2.1,p3.2.2.2.2.2.1,p3.2.2.2.2.2.2)):Option ((Int×Int×Int×(List UInt8)×Int×(List (List UInt8))×Int×Int×Int×(List UInt8)×Int×(List (List UInt8)))⊕(Int×Int×Int×(List UInt8)×Int×(List (List UInt8))×Bool))) fun w=>
 match w with
 | .inl p4=>
  some ((⟨p4.2.2.2.2.2.2.1,p4.2.2.2.2.2.2.2.1,p4.2.2.2.2.2.2.2.2.1,p4.2.2.2.2.2.2.2.2.2.1,p4.2.2.2.2.2.2.2.2.2.2.1,p4.2.2.2.2.2.2.2.2.2.2.2⟩:af),true)
 | .inr p5=>
  some ((⟨p5.1,p5.2.1,p5.2.2.1,p5.2.2.2.1,p5.2.2.2.2.1,p5.2.2.2.2.2.1⟩:af),p5.2.2.2.2.2.2)
noncomputable def mO (w:ai):Option (Unit×ai):=
 some ((),w)
noncomputable def di (x:av) (id:Int):Option Int:=
 bd (jb x.Id id) fun rA=>
 some rA
noncomputable def eS (x:List av) (target:Int) (cmp:av→Int→Option Int) (st:Int×Int):Option ((Int×Int)⊕Int):=
 if st.1<st.2 then
 if (0:Int)≤1 then
 ix x (IntKind.wrap .i64 (Int.fdiv (IntKind.wrap .u64 (IntKind.wrap .i64 (st.1+st.2))) (2^min (Int.toNat 1) (IntKind.bits .u64)))) fun y=>
 bd (cmp y target) fun rA=>
 bd (
  if rA<0 then
  some (IntKind.wrap .i64 ((IntKind.wrap .i64 (Int.fdiv (IntKind.wrap .u64 (IntKind.wrap .i64 (st.1+st.2))) (2^min (Int.toNat 1) (IntKind.bits .u64))))+1),st.2)
  else
  some (st.1,IntKind.wrap .i64 (Int.fdiv (IntKind.wrap .u64 (IntKind.wrap .i64 (st.1+st.2))) (2^min (Int.toNat 1) (IntKind.bits .u64)))):Option (Int×Int)) fun w1=>
 some (.inl (w1.1,w1.2))
 else none
 else
 some (.inr st.1)
noncomputable def cz (x:List av) (target:Int) (cmp:av→Int→Option Int):Option (Int×Bool):=
 bd (Loop (eS x target cmp) (0,(x.length:Int))) fun w=>
 bd (
  if w<(x.length:Int) then
  ix x w fun y1=>
  bd (cmp y1 target) fun aX=>
  some (w,decide (aX=0))
  else
  some (w,false):Option (Int×Bool)) fun w2=>
 some (w2.1,w2.2)
noncomputable def dX (b:aC) (id:Int):Option (Int×Bool):=
 bd (cz b.L id di) fun rA=>
 some (rA.1,rA.2)
noncomputable def uq (b:aC) (id:Int):Option Bool:=
 bd (dX b id) fun rA=>
 some rA.2
noncomputable def gK (sA:List UInt8) (dj:List UInt8):Option Bool:=
 bd (
  if (dj.length:Int)≤(sA.length:Int) then
  if (0:Int)≤0∧(0:Int)≤(dj.length:Int)∧(dj.length:Int)≤(sA.length:Int) then
  some (decide ((List.drop (Int.toNat 0) (List.take (Int.toNat (dj.length:Int)) sA))=dj))
  else none
  else
  some false:Option Bool) fun w=>
 some w
noncomputable def gM (sA:List UInt8) (dj:List UInt8):Option ((List UInt8)×Bool):=
 bd (gK sA dj) fun rA=>
 if !rA then
 some (sA,false)
 else
 if (0:Int)≤(dj.length:Int)∧(dj.length:Int)≤(sA.length:Int)∧(sA.length:Int)≤(sA.length:Int) then
 some (List.drop (Int.toNat (dj.length:Int)) (List.take (Int.toNat (sA.length:Int)) sA),true)
 else none
noncomputable def ig (sA:List UInt8) (dj:List UInt8):Option ((List UInt8)×Bool):=
 bd (gM sA dj) fun rA=>
 some (rA.1,rA.2)
noncomputable def gp (c:Int):Option Bool:=
 bd (A7 ([97,98,99,100,101,102,103,104,105,106,107,108,109,110,111,112,113,114,115,116,117,118,119,120,121,122,48,49,50,51,52,53,54,55,56,57,45,95]:List UInt8) c) fun rA=>
 some (!rA)
noncomputable def ik (f:Int→Option Bool) (C6:Bool) (st:(List MV)):Option ((List MV)⊕(Unit⊕Int)):=
 if G9 st then
 bd (f (xb st)) fun rA=>
 if rA=C6 then
 some (.inr (.inr (qi st)))
 else
 some (.inl (zP st))
 else
 some (.inr (.inl ()))
noncomputable def mC (sA:List UInt8) (f:Int→Option Bool) (C6:Bool):Option Int:=
 bd (Loop (ik f C6) ([.s sA,.i .i64 0]:List MV)) fun w=>
 match w with
 | .inl p1=>
  some (-1)
 | .inr p2=>
  some p2
noncomputable def kp (sA:List UInt8) (f:Int→Option Bool):Option Int:=
 bd (mC sA f true) fun rA=>
 some rA
noncomputable def fC (sA:List UInt8) (f:Int→Option Bool):Option Bool:=
 bd (kp sA f) fun rA=>
 some (decide ((0:Int)≤rA))
noncomputable def pz (sA:List UInt8):Option Bool:=
 bd (
  if !decide (sA=([]:List UInt8)) then
  if (sA.length:Int)≤30 then
  bd (IJ sA ([97,98,99,100,101,102,103,104,105,106,107,108,109,110,111,112,113,114,115,116,117,118,119,120,121,122,48,49,50,51,52,53,54,55,56,57,45,95]:List UInt8)) fun rA=>
  if rA=([]:List UInt8) then
  bd (fC sA gp) fun aX=>
  some (!aX)
  else
  some false
  else
  some false
  else
  some false:Option Bool) fun w=>
 some w
noncomputable def lr (sA:List UInt8):Option Bool:=
 bd (pz sA) fun rA=>
 some (!rA)
noncomputable def dR (sA:List (List UInt8)) (f:(List UInt8)→Option Bool) (st:Int):Option (Int⊕(Unit⊕Int)):=
 if st<(sA.length:Int) then
 ix sA st fun y=>
 bd (f y) fun rA=>
 if rA then
 some (.inr (.inr st))
 else
 some (.inl (IntKind.wrap .i64 (st+1)))
 else
 some (.inr (.inl ()))
noncomputable def ga (sA:List (List UInt8)) (f:(List UInt8)→Option Bool):Option Int:=
 bd (Loop (dR sA f) 0) fun w=>
 match w with
 | .inl p1=>
  some (-1)
 | .inr p2=>
  some p2
noncomputable def dE (sA:List (List UInt8)) (f:(List UInt8)→Option Bool):Option Bool:=
 bd (ga sA f) fun rA=>
 some (decide ((0:Int)≤rA))
noncomputable def gw (p:List UInt8):Option ((List (List UInt8))×Bool):=
 bd (ig p ([47]:List UInt8)) fun rA=>
 bd (
  if !rA.2 then
  some true
  else
  some (decide ((100:Int)<(p.length:Int))):Option Bool) fun w=>
 if w then
 some (([]:List (List UInt8)),false)
 else
 if rA.1=([]:List UInt8) then
 some (([]:List (List UInt8)),true)
 else
 bd (Kl rA.1 ([47]:List UInt8)) fun aX=>
 bd (
  if (aX.length:Int)≤8 then
  bd (dE aX lr) fun da=>
  some (aX,!da,aX)
  else
  some (aX,false,aX):Option ((List (List UInt8))×Bool×(List (List UInt8)))) fun w1=>
 some (w1.2.2,w1.2.1)
noncomputable def jW (x:List UInt8):Option Bool:=
 some (!decide (x=x))
noncomputable def il (x:List UInt8) (y:List UInt8):Option Int:=
 bd (jW x) fun rA=>
 bd (jW y) fun aX=>
 if rA then
 if aX then
 some 0
 else
 some (-1)
 else
 if aX then
 some 1
 else
 if Op.bytesLess x y then
 some (-1)
 else
 if !(Op.bytesLess x y||decide (x=y)) then
 some 1
 else
 some 0
noncomputable def eH (s1:List (List UInt8)) (s2:List (List UInt8)) (st:Int):Option (Int⊕(Unit⊕Int)):=
 if st<(s1.length:Int) then
 ix s1 st fun y=>
 if (s2.length:Int)≤st then
 some (.inr (.inr 1))
 else
 ix s2 st fun y1=>
 bd (il y y1) fun rA=>
 if !decide (rA=0) then
 some (.inr (.inr rA))
 else
 some (.inl (IntKind.wrap .i64 (st+1)))
 else
 some (.inr (.inl ()))
noncomputable def fD (s1:List (List UInt8)) (s2:List (List UInt8)):Option Int:=
 bd (Loop (eH s1 s2) 0) fun w=>
 match w with
 | .inl p1=>
  if (s1.length:Int)<(s2.length:Int) then
  some (-1)
  else
  some 0
 | .inr p2=>
  some p2
noncomputable def rn (p:List UInt8) (q:List UInt8):Option Bool:=
 bd (gw p) fun rA=>
 bd (gw q) fun aX=>
 bd (
  if rA.2 then
  if aX.2 then
  bd (fD rA.1 aX.1) fun da=>
  some (decide (da<0))
  else
  some false
  else
  some false:Option Bool) fun w=>
 some w
noncomputable def cg (n:ae) (p:List UInt8):Option Int:=
 if n.Path=p then
 some 0
 else
 bd (rn n.Path p) fun rA=>
 if rA then
 some (-1)
 else
 some 1
noncomputable def eT (x:List ae) (target:List UInt8) (cmp:ae→(List UInt8)→Option Int) (st:Int×Int):Option ((Int×Int)⊕Int):=
 if st.1<st.2 then
 if (0:Int)≤1 then
 ix x (IntKind.wrap .i64 (Int.fdiv (IntKind.wrap .u64 (IntKind.wrap .i64 (st.1+st.2))) (2^min (Int.toNat 1) (IntKind.bits .u64)))) fun y=>
 bd (cmp y target) fun rA=>
 bd (
  if rA<0 then
  some (IntKind.wrap .i64 ((IntKind.wrap .i64 (Int.fdiv (IntKind.wrap .u64 (IntKind.wrap .i64 (st.1+st.2))) (2^min (Int.toNat 1) (IntKind.bits .u64))))+1),st.2)
  else
  some (st.1,IntKind.wrap .i64 (Int.fdiv (IntKind.wrap .u64 (IntKind.wrap .i64 (st.1+st.2))) (2^min (Int.toNat 1) (IntKind.bits .u64)))):Option (Int×Int)) fun w1=>
 some (.inl (w1.1,w1.2))
 else none
 else
 some (.inr st.1)
noncomputable def dv (x:List ae) (target:List UInt8) (cmp:ae→(List UInt8)→Option Int):Option (Int×Bool):=
 bd (Loop (eT x target cmp) (0,(x.length:Int))) fun w=>
 bd (
  if w<(x.length:Int) then
  ix x w fun y1=>
  bd (cmp y1 target) fun aX=>
  some (w,decide (aX=0))
  else
  some (w,false):Option (Int×Bool)) fun w2=>
 some (w2.1,w2.2)
noncomputable def eg (sA:ax) (p:List UInt8):Option (Int×Bool):=
 bd (dv sA.L p cg) fun rA=>
 some (rA.1,rA.2)
noncomputable def jF (p:List UInt8):Option Bool:=
 bd (gw p) fun rA=>
 some rA.2
noncomputable def dL (sA:List UInt8) (c:Int) (st:Int):Option (Int⊕(Unit⊕Int)):=
 if (0:Int)≤st then
 if (0:Int)≤st∧st<(sA.length:Int) then
 if ((sA.getD (Int.toNat st) 0).toNat:Int)=c then
 some (.inr (.inr st))
 else
 some (.inl (IntKind.wrap .i64 (st-1)))
 else none
 else
 some (.inr (.inl ()))
noncomputable def ei (sA:List UInt8) (c:Int):Option Int:=
 bd (Loop (dL sA c) (IntKind.wrap .i64 ((sA.length:Int)-1))) fun w=>
 match w with
 | .inl p1=>
  some (-1)
 | .inr p2=>
  some p2
noncomputable def kP (sep:List UInt8) (st:Int×Int):Option ((Int×Int)⊕Int):=
 if (0:Int)≤st.2 then
 if (0:Int)≤st.2∧st.2<(sep.length:Int) then
 some (.inl (IntKind.wrap .u32 ((IntKind.wrap .u32 (st.1 *16777619))+(IntKind.wrap .u32 ((sep.getD (Int.toNat st.2) 0).toNat:Int))),IntKind.wrap .i64 (st.2-1)))
 else none
 else
 some (.inr st.1)
noncomputable def kQ (ec:Int×Int×Int):Option ((Int×Int×Int)⊕Int):=
 if (0:Int)<ec.2.2 then
 none
 else
 some (.inr ec.1)
noncomputable def iI (sep:List UInt8):Option (Int×Int):=
 bd (Loop (kP sep) (0,IntKind.wrap .i64 ((sep.length:Int)-1))) fun w=>
 bd (Loop kQ (1,16777619,(sep.length:Int))) fun w1=>
 some (w,w1)
noncomputable def gx (a:List UInt8) (a1:List UInt8) (st:Int×Int):Option ((Int×Int)⊕Int):=
 if (IntKind.wrap .i64 ((a.length:Int)-(a1.length:Int)))≤st.2 then
 if (0:Int)≤st.2∧st.2<(a.length:Int) then
 some (.inl (IntKind.wrap .u32 ((IntKind.wrap .u32 (st.1 *16777619))+(IntKind.wrap .u32 ((a.getD (Int.toNat st.2) 0).toNat:Int))),IntKind.wrap .i64 (st.2-1)))
 else none
 else
 some (.inr st.1)
noncomputable def gy (a:List UInt8) (a1:List UInt8) (rA:Int×Int) (ec:Int×Int):Option ((Int×Int)⊕(Unit⊕Int)):=
 if (0:Int)≤ec.2 then
 if (0:Int)≤ec.2∧ec.2<(a.length:Int) then
 if (0:Int)≤(IntKind.wrap .i64 (ec.2+(a1.length:Int)))∧(IntKind.wrap .i64 (ec.2+(a1.length:Int)))<(a.length:Int) then
 bd (
  if (IntKind.wrap .u32 ((IntKind.wrap .u32 ((IntKind.wrap .u32 (ec.1 *16777619))+(IntKind.wrap .u32 ((a.getD (Int.toNat ec.2) 0).toNat:Int))))-(IntKind.wrap .u32 (rA.2 *(IntKind.wrap .u32 ((a.getD (Int.toNat (IntKind.wrap .i64 (ec.2+(a1.length:Int)))) 0).toNat:Int))))))=rA.1 then
  if (0:Int)≤ec.2∧ec.2≤(IntKind.wrap .i64 (ec.2+(a1.length:Int)))∧(IntKind.wrap .i64 (ec.2+(a1.length:Int)))≤(a.length:Int) then
  some (decide ((List.drop (Int.toNat ec.2) (List.take (Int.toNat (IntKind.wrap .i64 (ec.2+(a1.length:Int)))) a))=a1))
  else none
  else
  some false:Option Bool) fun w3=>
 if w3 then
 some (.inr (.inr ec.2))
 else
 some (.inl (IntKind.wrap .u32 ((IntKind.wrap .u32 ((IntKind.wrap .u32 (ec.1 *16777619))+(IntKind.wrap .u32 ((a.getD (Int.toNat ec.2) 0).toNat:Int))))-(IntKind.wrap .u32 (rA.2 *(IntKind.wrap .u32 ((a.getD (Int.toNat (IntKind.wrap .i64 (ec.2+(a1.length:Int)))) 0).toNat:Int))))),IntKind.wrap .i64 (ec.2-1)))
 else none
 else none
 else
 some (.inr (.inl ()))
noncomputable def eI (a:List UInt8) (a1:List UInt8):Option Int:=
 bd (iI a1) fun rA=>
 bd (Loop (gx a a1) (0,IntKind.wrap .i64 ((a.length:Int)-1))) fun w=>
 bd (
  if w=rA.1 then
  if (0:Int)≤(IntKind.wrap .i64 ((a.length:Int)-(a1.length:Int)))∧(IntKind.wrap .i64 ((a.length:Int)-(a1.length:Int)))≤(a.length:Int)∧(a.length:Int)≤(a.length:Int) then
  some (decide ((List.drop (Int.toNat (IntKind.wrap .i64 ((a.length:Int)-(a1.length:Int)))) (List.take (Int.toNat (a.length:Int)) a))=a1))
  else none
  else
  some false:Option Bool) fun w1=>
 if w1 then
 some (IntKind.wrap .i64 ((a.length:Int)-(a1.length:Int)))
 else
 bd (Loop (gy a a1 rA) (w,IntKind.wrap .i64 ((IntKind.wrap .i64 ((a.length:Int)-(a1.length:Int)))-1))) fun w2=>
 match w2 with
 | .inl p2=>
  some (-1)
 | .inr p3=>
  some p3
noncomputable def im (sA:List UInt8) (substr:List UInt8):Option Int:=
 if (substr.length:Int)=0 then
 some (sA.length:Int)
 else
 if (substr.length:Int)=1 then
 if (0:Int)≤0∧(0:Int)<(substr.length:Int) then
 bd (ei sA ((substr.getD (Int.toNat 0) 0).toNat:Int)) fun rA=>
 some rA
 else none
 else
 if (substr.length:Int)=(sA.length:Int) then
 if substr=sA then
 some 0
 else
 some (-1)
 else
 if (sA.length:Int)<(substr.length:Int) then
 some (-1)
 else
 bd (eI sA substr) fun aX=>
 some aX
noncomputable def ni (p:List UInt8):Option ((List UInt8)×Int):=
 bd (jF p) fun rA=>
 if !rA then
 some (([]:List UInt8),13)
 else
 if p=([47]:List UInt8) then
 some (([]:List UInt8),6)
 else
 bd (im p ([47]:List UInt8)) fun aX=>
 if (0:Int)≤0∧(0:Int)≤(imax 1 aX)∧(imax 1 aX)≤(p.length:Int) then
 some (List.drop (Int.toNat 0) (List.take (Int.toNat (imax 1 aX)) p),0)
 else none
noncomputable def fQ (sA:ax) (p:List UInt8):Option (Int×Int):=
 bd (jF p) fun rA=>
 if !rA then
 some (0,13)
 else
 bd (eg sA p) fun aX=>
 if !aX.2 then
 some (0,6)
 else
 some (aX.1,0)
noncomputable def ot (sA:ax) (p:List UInt8):Option (ae×Int):=
 bd (fQ sA p) fun rA=>
 if !decide (rA.2=0) then
 some ((⟨([]:List UInt8),([]:List UInt8),0,0⟩:ae),rA.2)
 else
 ix sA.L rA.1 fun y=>
 some (y,0)
noncomputable def gz (c:List UInt8) (c1:Bool) (c2:ax) (c3:List UInt8) (c4:Int):Option Int:=
 bd (jF c) fun rA=>
 if !rA then
 some 13
 else
 if c1 then
 some 7
 else
 bd (ni c) fun aX=>
 bd (ot c2 aX.1) fun da=>
 if !decide (da.2=0) then
 some 6
 else
 if !decide (da.1.bJ=0) then
 some 10
 else
 if (1000:Int)<(c3.length:Int) then
 some 5
 else
 if c4<0 then
 some 1
 else
 if (200:Int)≤(c2.L.length:Int) then
 some 9
 else
 some 0
noncomputable def lu (sA:ax) (p:List UInt8) (value:List UInt8) (owner:Int):Option (ax×Int):=
 bd (eg sA p) fun rA=>
 bd (gz p rA.2 sA value owner) fun aX=>
 if !decide (aX=0) then
 some (sA,aX)
 else
 bd (jE 48 sA.L) fun da=>
 bd (qx 48 da rA.1 ([(⟨p,value,0,owner⟩:ae)]:List ae)) fun n0=>
 some ((⟨n0⟩:ax),0)
noncomputable def dw (w:ai) (kind:Int):Option (Unit×ai):=
 bd (
  if w.x.E=0 then
  if (w.l.length+([(⟨kind,w.o.Path⟩:aE)]:List aE).length) *24≤2^46 then
  some (w.r.Shelf.L,w.r.br.dK,w.r.br.L,w.r.bg.L,w.r.Seen,w.o.Client,w.o.Seq,w.o.Kind,w.o.Path,w.o.Value,w.o.Version,w.o.Session,w.o.Span,w.x.Client,w.x.Seq,w.x.E,w.x.Value,w.x.Version,w.x.Names,w.l++([(⟨kind,w.o.Path⟩:aE)]:List aE))
  else none
  else
  some (w.r.Shelf.L,w.r.br.dK,w.r.br.L,w.r.bg.L,w.r.Seen,w.o.Client,w.o.Seq,w.o.Kind,w.o.Path,w.o.Value,w.o.Version,w.o.Session,w.o.Span,w.x.Client,w.x.Seq,w.x.E,w.x.Value,w.x.Version,w.x.Names,w.l):Option ((List ae)×Int×(List av)×(List al)×(List af)×Int×Int×Int×(List UInt8)×(List UInt8)×Int×Int×Int×Int×Int×Int×(List UInt8)×Int×(List (List UInt8))×(List aE))) fun w1=>
 some ((),(⟨(⟨(⟨w1.1⟩:ax),(⟨w1.2.1,w1.2.2.1⟩:aC),(⟨w1.2.2.2.1⟩:bC),w1.2.2.2.2.1⟩:ak),(⟨w1.2.2.2.2.2.1,w1.2.2.2.2.2.2.1,w1.2.2.2.2.2.2.2.1,w1.2.2.2.2.2.2.2.2.1,w1.2.2.2.2.2.2.2.2.2.1,w1.2.2.2.2.2.2.2.2.2.2.1,w1.2.2.2.2.2.2.2.2.2.2.2.1,w1.2.2.2.2.2.2.2.2.2.2.2.2.1⟩:au),(⟨w1.2.2.2.2.2.2.2.2.2.2.2.2.2.1,w1.2.2.2.2.2.2.2.2.2.2.2.2.2.2.1,w1.2.2.2.2.2.2.2.2.2.2.2.2.2.2.2.1,w1.2.2.2.2.2.2.2.2.2.2.2.2.2.2.2.2.1,w1.2.2.2.2.2.2.2.2.2.2.2.2.2.2.2.2.2.1,w1.2.2.2.2.2.2.2.2.2.2.2.2.2.2.2.2.2.2.1⟩:af),w1.2.2.2.2.2.2.2.2.2.2.2.2.2.2.2.2.2.2.2⟩:ai))
noncomputable def iq (w:ai):Option (Unit×ai):=
 bd (
  if !decide (w.o.Session=0) then
  bd (uq w.r.br w.o.Session) fun rA=>
  some (!rA)
  else
  some false:Option Bool) fun w1=>
 if w1 then
 some ((),(⟨w.r,w.o,(⟨w.x.Client,w.x.Seq,14,w.x.Value,w.x.Version,w.x.Names⟩:af),w.l⟩:ai))
 else
 bd (lu w.r.Shelf w.o.Path w.o.Value w.o.Session) fun aX=>
 bd (dw (⟨(⟨aX.1,w.r.br,w.r.bg,w.r.Seen⟩:ak),w.o,(⟨w.x.Client,w.x.Seq,aX.2,w.x.Value,w.x.Version,w.x.Names⟩:af),w.l⟩:ai) 1) fun da=>
 some ((),da.2)
noncomputable def kR (w:ai):Option (Unit×ai):=
 bd (ot w.r.Shelf w.o.Path) fun rA=>
 some ((),(⟨w.r,w.o,(⟨w.x.Client,w.x.Seq,rA.2,rA.1.Value,rA.1.Version,w.x.Names⟩:af),w.l⟩:ai))
noncomputable def eh (sA:ax) (p:List UInt8) (version:Int):Option (Int×Int):=
 bd (fQ sA p) fun rA=>
 bd (
  if rA.2=0 then
  if !decide (version=(-1)) then
  ix sA.L rA.1 fun y=>
  some (!decide (version=y.Version))
  else
  some false
  else
  some false:Option Bool) fun w=>
 if w then
 some (rA.1,8)
 else
 some (rA.1,rA.2)
noncomputable def ur (sA:ax) (p:List UInt8) (value:List UInt8) (version:Int):Option (ax×Int):=
 bd (eh sA p version) fun rA=>
 if !decide (rA.2=0) then
 some (sA,rA.2)
 else
 if (1000:Int)<(value.length:Int) then
 some (sA,5)
 else
 ix sA.L rA.1 fun y=>
 if (1000000000:Int)≤y.Version then
 some (sA,9)
 else
 bd (jE 48 sA.L) fun aX=>
 ix aX rA.1 fun y1=>
 ix (aX.set (Int.toNat rA.1) (⟨y1.Path,value,y1.Version,y1.bJ⟩:ae)) rA.1 fun y2=>
 ix (aX.set (Int.toNat rA.1) (⟨y1.Path,value,y1.Version,y1.bJ⟩:ae)) rA.1 fun y3=>
 some ((⟨(aX.set (Int.toNat rA.1) (⟨y1.Path,value,y1.Version,y1.bJ⟩:ae)).set (Int.toNat rA.1) (⟨y3.Path,y3.Value,IntKind.wrap .i64 (y2.Version+1),y3.bJ⟩:ae)⟩:ax),0)
noncomputable def kS (w:ai):Option (Unit×ai):=
 bd (ur w.r.Shelf w.o.Path w.o.Value w.o.Version) fun rA=>
 bd (dw (⟨(⟨rA.1,w.r.br,w.r.bg,w.r.Seen⟩:ak),w.o,(⟨w.x.Client,w.x.Seq,rA.2,w.x.Value,w.x.Version,w.x.Names⟩:af),w.l⟩:ai) 2) fun aX=>
 bd (
  if aX.2.x.E=0 then
  bd (ot aX.2.r.Shelf aX.2.o.Path) fun da=>
  some (aX.2.r.Shelf.L,aX.2.r.br.dK,aX.2.r.br.L,aX.2.r.bg.L,aX.2.r.Seen,aX.2.o.Client,aX.2.o.Seq,aX.2.o.Kind,aX.2.o.Path,aX.2.o.Value,aX.2.o.Version,aX.2.o.Session,aX.2.o.Span,aX.2.x.Client,aX.2.x.Seq,aX.2.x.E,aX.2.x.Value,da.1.Version,aX.2.x.Names,aX.2.l)
  else
  some (aX.2.r.Shelf.L,aX.2.r.br.dK,aX.2.r.br.L,aX.2.r.bg.L,aX.2.r.Seen,aX.2.o.Client,aX.2.o.Seq,aX.2.o.Kind,aX.2.o.Path,aX.2.o.Value,aX.2.o.Version,aX.2.o.Session,aX.2.o.Span,aX.2.x.Client,aX.2.x.Seq,aX.2.x.E,aX.2.x.Value,aX.2.x.Version,aX.2.x.Names,aX.2.l):Option ((List ae)×Int×(List av)×(List al)×(List af)×Int×Int×Int×(List UInt8)×(List UInt8)×Int×Int×Int×Int×Int×Int×(List UInt8)×Int×(List (List UInt8))×(List aE))) fun w1=>
 some ((),(⟨(⟨(⟨w1.1⟩:ax),(⟨w1.2.1,w1.2.2.1⟩:aC),(⟨w1.2.2.2.1⟩:bC),w1.2.2.2.2.1⟩:ak),(⟨w1.2.2.2.2.2.1,w1.2.2.2.2.2.2.1,w1.2.2.2.2.2.2.2.1,w1.2.2.2.2.2.2.2.2.1,w1.2.2.2.2.2.2.2.2.2.1,w1.2.2.2.2.2.2.2.2.2.2.1,w1.2.2.2.2.2.2.2.2.2.2.2.1,w1.2.2.2.2.2.2.2.2.2.2.2.2.1⟩:au),(⟨w1.2.2.2.2.2.2.2.2.2.2.2.2.2.1,w1.2.2.2.2.2.2.2.2.2.2.2.2.2.2.1,w1.2.2.2.2.2.2.2.2.2.2.2.2.2.2.2.1,w1.2.2.2.2.2.2.2.2.2.2.2.2.2.2.2.2.1,w1.2.2.2.2.2.2.2.2.2.2.2.2.2.2.2.2.2.1,w1.2.2.2.2.2.2.2.2.2.2.2.2.2.2.2.2.2.2.1⟩:af),w1.2.2.2.2.2.2.2.2.2.2.2.2.2.2.2.2.2.2.2⟩:ai))
noncomputable def ir (s1:List (List UInt8)) (s2:List (List UInt8)) (st:Int):Option (Int⊕(Unit⊕Bool)):=
 if st<(s1.length:Int) then
 ix s1 st fun y=>
 ix s2 st fun y1=>
 if !decide (y=y1) then
 some (.inr (.inr false))
 else
 some (.inl (IntKind.wrap .i64 (st+1)))
 else
 some (.inr (.inl ()))
noncomputable def eZ (s1:List (List UInt8)) (s2:List (List UInt8)):Option Bool:=
 if !decide ((s1.length:Int)=(s2.length:Int)) then
 some false
 else
 bd (Loop (ir s1 s2) 0) fun w=>
 match w with
 | .inl p1=>
  some true
 | .inr p2=>
  some p2
noncomputable def mP (p:List UInt8) (q:List UInt8):Option Bool:=
 bd (gw p) fun rA=>
 bd (gw q) fun aX=>
 bd (
  if rA.2 then
  if aX.2 then
  if (rA.1.length:Int)<(aX.1.length:Int) then
  if (0:Int)≤0∧(0:Int)≤(rA.1.length:Int)∧(rA.1.length:Int)≤(aX.1.length:Int) then
  bd (eZ rA.1 (List.drop (Int.toNat 0) (List.take (Int.toNat (rA.1.length:Int)) aX.1))) fun da=>
  some da
  else none
  else
  some false
  else
  some false
  else
  some false:Option Bool) fun w=>
 some w
noncomputable def ny (sA:ax) (p:List UInt8) (version:Int):Option (ax×Int):=
 bd (eh sA p version) fun rA=>
 if p=([47]:List UInt8) then
 some (sA,13)
 else
 if !decide (rA.2=0) then
 some (sA,rA.2)
 else
 bd (
  if (IntKind.wrap .i64 (rA.1+1))<(sA.L.length:Int) then
  ix sA.L (IntKind.wrap .i64 (rA.1+1)) fun y=>
  bd (mP p y.Path) fun aX=>
  some aX
  else
  some false:Option Bool) fun w=>
 if w then
 some (sA,10)
 else
 bd (jE 48 sA.L) fun da=>
 bd (yw da rA.1 (IntKind.wrap .i64 (rA.1+1))) fun n0=>
 some ((⟨n0⟩:ax),0)
noncomputable def iu (w:ai):Option (Unit×ai):=
 bd (ny w.r.Shelf w.o.Path w.o.Version) fun rA=>
 bd (dw (⟨(⟨rA.1,w.r.br,w.r.bg,w.r.Seen⟩:ak),w.o,(⟨w.x.Client,w.x.Seq,rA.2,w.x.Value,w.x.Version,w.x.Names⟩:af),w.l⟩:ai) 3) fun aX=>
 some ((),aX.2)
noncomputable def ou (p:List UInt8):Option ((List (List UInt8))×Int):=
 bd (gw p) fun rA=>
 if !rA.2 then
 some (([]:List (List UInt8)),13)
 else
 some (rA.1,0)
noncomputable def nz (a:ax) (a1:List UInt8) (rA:Int×Int) (aX:(List (List UInt8))×Int) (st:(List (List UInt8))×Int):Option (((List (List UInt8))×Int)⊕(List (List UInt8))):=
 if st.2<((List.drop (Int.toNat (IntKind.wrap .i64 (rA.1+1))) (List.take (Int.toNat (a.L.length:Int)) a.L)).length:Int) then
 ix (List.drop (Int.toNat (IntKind.wrap .i64 (rA.1+1))) (List.take (Int.toNat (a.L.length:Int)) a.L)) st.2 fun y=>
 bd (mP a1 y.Path) fun da=>
 if !da then
 some (.inr st.1)
 else
 bd (ou y.Path) fun n0=>
 bd (
  if (n0.1.length:Int)=(IntKind.wrap .i64 ((aX.1.length:Int)+1)) then
  ix n0.1 (aX.1.length:Int) fun y1=>
  if (st.1.length+([y1]:List (List UInt8)).length) *16≤2^46 then
  some (st.1++([y1]:List (List UInt8)))
  else none
  else
  some st.1:Option (List (List UInt8))) fun w1=>
 some (.inl (w1,IntKind.wrap .i64 (st.2+1)))
 else
 some (.inr st.1)
noncomputable def rq (a:ax) (a1:List UInt8):Option ((List (List UInt8))×Int):=
 bd (fQ a a1) fun rA=>
 if !decide (rA.2=0) then
 some (([]:List (List UInt8)),rA.2)
 else
 bd (ou a1) fun aX=>
 if (0:Int)≤(IntKind.wrap .i64 (rA.1+1))∧(IntKind.wrap .i64 (rA.1+1))≤(a.L.length:Int)∧(a.L.length:Int)≤(a.L.length:Int) then
 bd (Loop (nz a a1 rA aX) (([]:List (List UInt8)),0)) fun w=>
 some (w,0)
 else none
noncomputable def jX (w:ai):Option (Unit×ai):=
 bd (rq w.r.Shelf w.o.Path) fun rA=>
 some ((),(⟨w.r,w.o,(⟨w.x.Client,w.x.Seq,rA.2,w.x.Value,w.x.Version,rA.1⟩:af),w.l⟩:ai))
noncomputable def rr (b:aC) (id:Int) (span:Int):Option (aC×Int):=
 bd (dX b id) fun rA=>
 bd (
  if id<1 then
  some true
  else
  if span<1 then
  some true
  else
  some (decide ((1000:Int)<span)):Option Bool) fun w=>
 if w then
 some (b,1)
 else
 if rA.2 then
 some (b,7)
 else
 if (50:Int)≤(b.L.length:Int) then
 some (b,9)
 else
 bd (jE 24 b.L) fun aX=>
 bd (qx 24 aX rA.1 ([(⟨id,span,IntKind.wrap .i64 (b.dK+span)⟩:av)]:List av)) fun da=>
 some ((⟨b.dK,da⟩:aC),0)
noncomputable def jY (w:ai):Option (Unit×ai):=
 bd (rr w.r.br w.o.Session w.o.Span) fun rA=>
 some ((),(⟨(⟨w.r.Shelf,rA.1,w.r.bg,w.r.Seen⟩:ak),w.o,(⟨w.x.Client,w.x.Seq,rA.2,w.x.Value,w.x.Version,w.x.Names⟩:af),w.l⟩:ai))
noncomputable def pA (b:aC) (id:Int):Option (aC×Int):=
 bd (dX b id) fun rA=>
 if !rA.2 then
 some (b,14)
 else
 bd (jE 24 b.L) fun aX=>
 ix aX rA.1 fun y=>
 ix aX rA.1 fun y1=>
 some ((⟨b.dK,aX.set (Int.toNat rA.1) (⟨y1.Id,y1.Span,IntKind.wrap .i64 (b.dK+y.Span)⟩:av)⟩:aC),0)
noncomputable def jd (w:ai):Option (Unit×ai):=
 bd (pA w.r.br w.o.Session) fun rA=>
 some ((),(⟨(⟨w.r.Shelf,rA.1,w.r.bg,w.r.Seen⟩:ak),w.o,(⟨w.x.Client,w.x.Seq,rA.2,w.x.Value,w.x.Version,w.x.Names⟩:af),w.l⟩:ai))
noncomputable def pB (b:aC) (id:Int):Option (aC×Int):=
 bd (dX b id) fun rA=>
 if !rA.2 then
 some (b,14)
 else
 bd (jE 24 b.L) fun aX=>
 bd (yw aX rA.1 (IntKind.wrap .i64 (rA.1+1))) fun da=>
 some ((⟨b.dK,da⟩:aC),0)
noncomputable def nA (sA:ax) (owner:Int) (st:(List (List UInt8))×(List ae)×Int):Option (((List (List UInt8))×(List ae)×Int)⊕((List (List UInt8))×(List ae))):=
 if st.2.2<(sA.L.length:Int) then
 ix sA.L st.2.2 fun y=>
 bd (
  if (0:Int)<owner then
  some (decide (y.bJ=owner))
  else
  some false:Option Bool) fun w1=>
 if w1 then
 if (st.1.length+([y.Path]:List (List UInt8)).length) *16≤2^46 then
 some (.inl (st.1++([y.Path]:List (List UInt8)),st.2.1,IntKind.wrap .i64 (st.2.2+1)))
 else none
 else
 if (st.2.1.length+([y]:List ae).length) *48≤2^46 then
 some (.inl (st.1,st.2.1++([y]:List ae),IntKind.wrap .i64 (st.2.2+1)))
 else none
 else
 some (.inr (st.1,st.2.1))
noncomputable def ru (sA:ax) (owner:Int):Option (ax×(List (List UInt8))):=
 bd (Loop (nA sA owner) (([]:List (List UInt8)),([]:List ae),0)) fun w=>
 some ((⟨w.2⟩:ax),w.1)
noncomputable def iv (rA:ax×(List (List UInt8))) (st:Int×(List ae)×Int×(List av)×(List al)×(List af)×Int×Int×Int×(List UInt8)×(List UInt8)×Int×Int×Int×Int×Int×Int×(List UInt8)×Int×(List (List UInt8))×(List aE)):Option ((Int×(List ae)×Int×(List av)×(List al)×(List af)×Int×Int×Int×(List UInt8)×(List UInt8)×Int×Int×Int×Int×Int×Int×(List UInt8)×Int×(List (List UInt8))×(List aE))⊕((List ae)×Int×(List av)×(List al)×(List af)×Int×Int×Int×(List UInt8)×(List UInt8)×Int×Int×Int×Int×Int×Int×(List UInt8)×Int×(List (List UInt8))×(List aE))):=
 if st.1<(rA.2.length:Int) then
 ix rA.2 st.1 fun y=>
 if (st.2.2.2.2.2.2.2.2.2.2.2.2.2.2.2.2.2.2.2.2.length+([(⟨3,y⟩:aE)]:List aE).length) *24≤2^46 then
 some (.inl (IntKind.wrap .i64 (st.1+1),st.2.1,st.2.2.1,st.2.2.2.1,st.2.2.2.2.1,st.2.2.2.2.2.1,st.2.2.2.2.2.2.1,st.2.2.2.2.2.2.2.1,st.2.2.2.2.2.2.2.2.1,st.2.2.2.2.2.2.2.2.2.1,st.2.2.2.2.2.2.2.2.2.2.1,st.2.2.2.2.2.2.2.2.2.2.2.1,st.2.2.2.2.2.2.2.2.2.2.2.2.1,st.2.2.2.2.2.2.2.2.2.2.2.2.2.1,st.2.2.2.2.2.2.2.2.2.2.2.2.2.2.1,st.2.2.2.2.2.2.2.2.2.2.2.2.2.2.2.1,st.2.2.2.2.2.2.2.2.2.2.2.2.2.2.2.2.1,st.2.2.2.2.2.2.2.2.2.2.2.2.2.2.2.2.2.1,st.2.2.2.2.2.2.2.2.2.2.2.2.2.2.2.2.2.2.1,st.2.2.2.2.2.2.2.2.2.2.2.2.2.2.2.2.2.2.2.1,st.2.2.2.2.2.2.2.2.2.2.2.2.2.2.2.2.2.2.2.2++([(⟨3,y⟩:aE)]:List aE)))
 else none
 else
 some (.inr (st.2.1,st.2.2.1,st.2.2.2.1,st.2.2.2.2.1,st.2.2.2.2.2.1,st.2.2.2.2.2.2.1,st.2.2.2.2.2.2.2.1,st.2.2.2.2.2.2.2.2.1,st.2.2.2.2.2.2.2.2.2.1,st.2.2.2.2.2.2.2.2.2.2.1,st.2.2.2.2.2.2.2.2.2.2.2.1,st.2.2.2.2.2.2.2.2.2.2.2.2.1,st.2.2.2.2.2.2.2.2.2.2.2.2.2.1,st.2.2.2.2.2.2.2.2.2.2.2.2.2.2.1,st.2.2.2.2.2.2.2.2.2.2.2.2.2.2.2.1,st.2.2.2.2.2.2.2.2.2.2.2.2.2.2.2.2.1,st.2.2.2.2.2.2.2.2.2.2.2.2.2.2.2.2.2.1,st.2.2.2.2.2.2.2.2.2.2.2.2.2.2.2.2.2.2.1,st.2.2.2.2.2.2.2.2.2.2.2.2.2.2.2.2.2.2.2.1,st.2.2.2.2.2.2.2.2.2.2.2.2.2.2.2.2.2.2.2.2))
noncomputable def ia (w:ai) (id:Int):Option (Unit×ai):=
 bd (ru w.r.Shelf id) fun rA=>
 bd (Loop (iv rA) (0,rA.1.L,w.r.br.dK,w.r.br.L,w.r.bg.L,w.r.Seen,w.o.Client,w.o.Seq,w.o.Kind,w.o.Path,w.o.Value,w.o.Version,w.o.Session,w.o.Span,w.x.Client,w.x.Seq,w.x.E,w.x.Value,w.x.Version,w.x.Names,w.l)) fun w1=>
 some ((),(⟨(⟨(⟨w1.1⟩:ax),(⟨w1.2.1,w1.2.2.1⟩:aC),(⟨w1.2.2.2.1⟩:bC),w1.2.2.2.2.1⟩:ak),(⟨w1.2.2.2.2.2.1,w1.2.2.2.2.2.2.1,w1.2.2.2.2.2.2.2.1,w1.2.2.2.2.2.2.2.2.1,w1.2.2.2.2.2.2.2.2.2.1,w1.2.2.2.2.2.2.2.2.2.2.1,w1.2.2.2.2.2.2.2.2.2.2.2.1,w1.2.2.2.2.2.2.2.2.2.2.2.2.1⟩:au),(⟨w1.2.2.2.2.2.2.2.2.2.2.2.2.2.1,w1.2.2.2.2.2.2.2.2.2.2.2.2.2.2.1,w1.2.2.2.2.2.2.2.2.2.2.2.2.2.2.2.1,w1.2.2.2.2.2.2.2.2.2.2.2.2.2.2.2.2.1,w1.2.2.2.2.2.2.2.2.2.2.2.2.2.2.2.2.2.1,w1.2.2.2.2.2.2.2.2.2.2.2.2.2.2.2.2.2.2.1⟩:af),w1.2.2.2.2.2.2.2.2.2.2.2.2.2.2.2.2.2.2.2⟩:ai))
noncomputable def je (w:ai):Option (Unit×ai):=
 bd (pB w.r.br w.o.Session) fun rA=>
 bd (
  if rA.2=0 then
  bd (ia (⟨(⟨w.r.Shelf,rA.1,w.r.bg,w.r.Seen⟩:ak),w.o,(⟨w.x.Client,w.x.Seq,rA.2,w.x.Value,w.x.Version,w.x.Names⟩:af),w.l⟩:ai) w.o.Session) fun aX=>
  some (aX.2.r.Shelf.L,aX.2.r.br.dK,aX.2.r.br.L,aX.2.r.bg.L,aX.2.r.Seen,aX.2.o.Client,aX.2.o.Seq,aX.2.o.Kind,aX.2.o.Path,aX.2.o.Value,aX.2.o.Version,aX.2.o.Session,aX.2.o.Span,aX.2.x.Client,aX.2.x.Seq,aX.2.x.E,aX.2.x.Value,aX.2.x.Version,aX.2.x.Names,aX.2.l)
  else
  some (w.r.Shelf.L,rA.1.dK,rA.1.L,w.r.bg.L,w.r.Seen,w.o.Client,w.o.Seq,w.o.Kind,w.o.Path,w.o.Value,w.o.Version,w.o.Session,w.o.Span,w.x.Client,w.x.Seq,rA.2,w.x.Value,w.x.Version,w.x.Names,w.l):Option ((List ae)×Int×(List av)×(List al)×(List af)×Int×Int×Int×(List UInt8)×(List UInt8)×Int×Int×Int×Int×Int×Int×(List UInt8)×Int×(List (List UInt8))×(List aE))) fun w1=>
 some ((),(⟨(⟨(⟨w1.1⟩:ax),(⟨w1.2.1,w1.2.2.1⟩:aC),(⟨w1.2.2.2.1⟩:bC),w1.2.2.2.2.1⟩:ak),(⟨w1.2.2.2.2.2.1,w1.2.2.2.2.2.2.1,w1.2.2.2.2.2.2.2.1,w1.2.2.2.2.2.2.2.2.1,w1.2.2.2.2.2.2.2.2.2.1,w1.2.2.2.2.2.2.2.2.2.2.1,w1.2.2.2.2.2.2.2.2.2.2.2.1,w1.2.2.2.2.2.2.2.2.2.2.2.2.1⟩:au),(⟨w1.2.2.2.2.2.2.2.2.2.2.2.2.2.1,w1.2.2.2.2.2.2.2.2.2.2.2.2.2.2.1,w1.2.2.2.2.2.2.2.2.2.2.2.2.2.2.2.1,w1.2.2.2.2.2.2.2.2.2.2.2.2.2.2.2.2.1,w1.2.2.2.2.2.2.2.2.2.2.2.2.2.2.2.2.2.1,w1.2.2.2.2.2.2.2.2.2.2.2.2.2.2.2.2.2.2.1⟩:af),w1.2.2.2.2.2.2.2.2.2.2.2.2.2.2.2.2.2.2.2⟩:ai))
noncomputable def nB (b:aC) (now:Int) (st:(List Int)×Int×(List av)×Int):Option (((List Int)×Int×(List av)×Int)⊕((List Int)×Int×(List av))):=
 if st.2.2.2<(b.L.length:Int) then
 ix b.L st.2.2.2 fun y=>
 if y.c9≤now then
 if (st.1.length+([y.Id]:List Int).length) *8≤2^46 then
 some (.inl (st.1++([y.Id]:List Int),st.2.1,st.2.2.1,IntKind.wrap .i64 (st.2.2.2+1)))
 else none
 else
 if (st.2.2.1.length+([y]:List av).length) *24≤2^46 then
 some (.inl (st.1,st.2.1,st.2.2.1++([y]:List av),IntKind.wrap .i64 (st.2.2.2+1)))
 else none
 else
 some (.inr (st.1,st.2.1,st.2.2.1))
noncomputable def rv (b:aC) (now:Int):Option (aC×(List Int)×Int):=
 if now<b.dK then
 some (b,([]:List Int),15)
 else
 if (1000000000:Int)<now then
 some (b,([]:List Int),5)
 else
 bd (Loop (nB b now) (([]:List Int),now,([]:List av),0)) fun w=>
 some ((⟨w.2.1,w.2.2⟩:aC),w.1,0)
noncomputable def iw (rA:aC×(List Int)×Int) (st:Int×(List ae)×Int×(List av)×(List al)×(List af)×Int×Int×Int×(List UInt8)×(List UInt8)×Int×Int×Int×Int×Int×Int×(List UInt8)×Int×(List (List UInt8))×(List aE)):Option ((Int×(List ae)×Int×(List av)×(List al)×(List af)×Int×Int×Int×(List UInt8)×(List UInt8)×Int×Int×Int×Int×Int×Int×(List UInt8)×Int×(List (List UInt8))×(List aE))⊕((List ae)×Int×(List av)×(List al)×(List af)×Int×Int×Int×(List UInt8)×(List UInt8)×Int×Int×Int×Int×Int×Int×(List UInt8)×Int×(List (List UInt8))×(List aE))):=
 if st.1<(rA.2.1.length:Int) then
 ix rA.2.1 st.1 fun y=>
 bd (ia (⟨(⟨(⟨st.2.1⟩:ax),(⟨st.2.2.1,st.2.2.2.1⟩:aC),(⟨st.2.2.2.2.1⟩:bC),st.2.2.2.2.2.1⟩:ak),(⟨st.2.2.2.2.2.2.1,st.2.2.2.2.2.2.2.1,st.2.2.2.2.2.2.2.2.1,st.2.2.2.2.2.2.2.2.2.1,st.2.2.2.2.2.2.2.2.2.2.1,st.2.2.2.2.2.2.2.2.2.2.2.1,st.2.2.2.2.2.2.2.2.2.2.2.2.1,st.2.2.2.2.2.2.2.2.2.2.2.2.2.1⟩:au),(⟨st.2.2.2.2.2.2.2.2.2.2.2.2.2.2.1,st.2.2.2.2.2.2.2.2.2.2.2.2.2.2.2.1,st.2.2.2.2.2.2.2.2.2.2.2.2.2.2.2.2.1,st.2.2.2.2.2.2.2.2.2.2.2.2.2.2.2.2.2.1,st.2.2.2.2.2.2.2.2.2.2.2.2.2.2.2.2.2.2.1,st.2.2.2.2.2.2.2.2.2.2.2.2.2.2.2.2.2.2.2.1⟩:af),st.2.2.2.2.2.2.2.2.2.2.2.2.2.2.2.2.2.2.2.2⟩:ai) y) fun aX=>
 some (.inl (IntKind.wrap .i64 (st.1+1),aX.2.r.Shelf.L,aX.2.r.br.dK,aX.2.r.br.L,aX.2.r.bg.L,aX.2.r.Seen,aX.2.o.Client,aX.2.o.Seq,aX.2.o.Kind,aX.2.o.Path,aX.2.o.Value,aX.2.o.Version,aX.2.o.Session,aX.2.o.Span,aX.2.x.Client,aX.2.x.Seq,aX.2.x.E,aX.2.x.Value,aX.2.x.Version,aX.2.x.Names,aX.2.l))
 else
 some (.inr (st.2.1,st.2.2.1,st.2.2.2.1,st.2.2.2.2.1,st.2.2.2.2.2.1,st.2.2.2.2.2.2.1,st.2.2.2.2.2.2.2.1,st.2.2.2.2.2.2.2.2.1,st.2.2.2.2.2.2.2.2.2.1,st.2.2.2.2.2.2.2.2.2.2.1,st.2.2.2.2.2.2.2.2.2.2.2.1,st.2.2.2.2.2.2.2.2.2.2.2.2.1,st.2.2.2.2.2.2.2.2.2.2.2.2.2.1,st.2.2.2.2.2.2.2.2.2.2.2.2.2.2.1,st.2.2.2.2.2.2.2.2.2.2.2.2.2.2.2.1,st.2.2.2.2.2.2.2.2.2.2.2.2.2.2.2.2.1,st.2.2.2.2.2.2.2.2.2.2.2.2.2.2.2.2.2.1,st.2.2.2.2.2.2.2.2.2.2.2.2.2.2.2.2.2.2.1,st.2.2.2.2.2.2.2.2.2.2.2.2.2.2.2.2.2.2.2.1,st.2.2.2.2.2.2.2.2.2.2.2.2.2.2.2.2.2.2.2.2))
noncomputable def jZ (w:ai):Option (Unit×ai):=
 bd (rv w.r.br w.o.Span) fun rA=>
 if !decide (rA.2.2=0) then
 some ((),(⟨w.r,w.o,(⟨w.x.Client,w.x.Seq,rA.2.2,w.x.Value,w.x.Version,w.x.Names⟩:af),w.l⟩:ai))
 else
 bd (Loop (iw rA) (0,w.r.Shelf.L,rA.1.dK,rA.1.L,w.r.bg.L,w.r.Seen,w.o.Client,w.o.Seq,w.o.Kind,w.o.Path,w.o.Value,w.o.Version,w.o.Session,w.o.Span,w.x.Client,w.x.Seq,rA.2.2,w.x.Value,rA.1.dK,w.x.Names,w.l)) fun w1=>
 some ((),(⟨(⟨(⟨w1.1⟩:ax),(⟨w1.2.1,w1.2.2.1⟩:aC),(⟨w1.2.2.2.1⟩:bC),w1.2.2.2.2.1⟩:ak),(⟨w1.2.2.2.2.2.1,w1.2.2.2.2.2.2.1,w1.2.2.2.2.2.2.2.1,w1.2.2.2.2.2.2.2.2.1,w1.2.2.2.2.2.2.2.2.2.1,w1.2.2.2.2.2.2.2.2.2.2.1,w1.2.2.2.2.2.2.2.2.2.2.2.1,w1.2.2.2.2.2.2.2.2.2.2.2.2.1⟩:au),(⟨w1.2.2.2.2.2.2.2.2.2.2.2.2.2.1,w1.2.2.2.2.2.2.2.2.2.2.2.2.2.2.1,w1.2.2.2.2.2.2.2.2.2.2.2.2.2.2.2.1,w1.2.2.2.2.2.2.2.2.2.2.2.2.2.2.2.2.1,w1.2.2.2.2.2.2.2.2.2.2.2.2.2.2.2.2.2.1,w1.2.2.2.2.2.2.2.2.2.2.2.2.2.2.2.2.2.2.1⟩:af),w1.2.2.2.2.2.2.2.2.2.2.2.2.2.2.2.2.2.2.2⟩:ai))
noncomputable def dS (sA:List al) (v:al) (st:Int):Option (Int⊕(Unit⊕Int)):=
 if st<(sA.length:Int) then
 ix sA st fun y=>
 if ((decide (v.Path=y.Path))&&((decide (v.Client=y.Client))&&(decide (v.Kids=y.Kids)))) then
 some (.inr (.inr st))
 else
 some (.inl (IntKind.wrap .i64 (st+1)))
 else
 some (.inr (.inl ()))
noncomputable def gd (sA:List al) (v:al):Option Int:=
 bd (Loop (dS sA v) 0) fun w=>
 match w with
 | .inl p1=>
  some (-1)
 | .inr p2=>
  some p2
noncomputable def dF (sA:List al) (v:al):Option Bool:=
 bd (gd sA v) fun rA=>
 some (decide ((0:Int)≤rA))
noncomputable def qP (t:bC) (w:al):Option (bC×Int):=
 bd (jF w.Path) fun rA=>
 if !rA then
 some (t,13)
 else
 if w.Client<0 then
 some (t,1)
 else
 bd (dF t.L w) fun aX=>
 if aX then
 some (t,0)
 else
 if (200:Int)≤(t.L.length:Int) then
 some (t,9)
 else
 bd (jE 32 t.L) fun da=>
 if (da.length+([w]:List al).length) *32≤2^46 then
 some ((⟨da++([w]:List al)⟩:bC),0)
 else none
noncomputable def jf (w:ai):Option (Unit×ai):=
 bd (qP w.r.bg (⟨w.o.Path,w.o.Client,decide (w.o.Kind=11)⟩:al)) fun rA=>
 some ((),(⟨(⟨w.r.Shelf,w.r.br,rA.1,w.r.Seen⟩:ak),w.o,(⟨w.x.Client,w.x.Seq,rA.2,w.x.Value,w.x.Version,w.x.Names⟩:af),w.l⟩:ai))
noncomputable def rz:Option (List Nat):=
 some ([(105:Nat),(106:Nat),(107:Nat),(108:Nat),(109:Nat),(110:Nat),(111:Nat),(112:Nat),(113:Nat),(114:Nat),(115:Nat),(115:Nat)]:List Nat)
noncomputable def mi (c:aE) (w:al):Option Bool:=
 bd (
  if c.Kind<1 then
  some true
  else
  if (3:Int)<c.Kind then
  some true
  else
  bd (jF c.Path) fun rA=>
  some (!rA):Option Bool) fun w1=>
 if w1 then
 some false
 else
 if !w.Kids then
 some (decide (c.Path=w.Path))
 else
 bd (ni c.Path) fun aX=>
 bd (
  if aX.2=0 then
  if !decide (c.Kind=2) then
  some (decide (aX.1=w.Path))
  else
  some false
  else
  some false:Option Bool) fun w2=>
 some w2
noncomputable def lz (w:al) (c:aE) (c1:List ba):Option (Bool×(List ba)):=
 bd (mi c w) fun rA=>
 bd (
  if rA then
  if (c1.length+([(⟨w,c⟩:ba)]:List ba).length) *56≤2^46 then
  some (c1++([(⟨w,c⟩:ba)]:List ba))
  else none
  else
  some c1:Option (List ba)) fun w1=>
 some (rA,w1)
noncomputable def nC (lA:List aE) (st:(List al)×(List ba)×Int):Option (((List al)×(List ba)×Int)⊕((List al)×(List ba))):=
 if st.2.2<(lA.length:Int) then
 ix lA st.2.2 fun y=>
 bd (A6 (fun u sA=>lz u y sA) st.2.1 st.1) fun aX=>
 some (.inl (aX.1,aX.2,IntKind.wrap .i64 (st.2.2+1)))
 else
 some (.inr (st.1,st.2.1))
noncomputable def rB (t:bC) (lA:List aE):Option (bC×(List ba)):=
 bd (jE 32 t.L) fun rA=>
 bd (Loop (nC lA) (rA,([]:List ba),0)) fun w=>
 some ((⟨w.1⟩:bC),w.2)
noncomputable def mj (k:Nat) (x0:ai):Option (Unit×ai):=
 if k=105 then mO x0 else if k=106 then iq x0 else if k=107 then kR x0 else if k=108 then kS x0 else if k=109 then iu x0 else if k=110 then jX x0 else if k=111 then jY x0 else if k=112 then jd x0 else if k=113 then je x0 else if k=114 then jZ x0 else if k=115 then jf x0 else none
noncomputable def iy (a:ak) (a1:au):Option (ak×af×(List ba)):=
 bd (jc a a1) fun rA=>
 if rA.2 then
 some (a,rA.1,([]:List ba))
 else
 bd (rz) fun aX=>
 ix aX a1.Kind fun y=>
 bd (mj y (⟨a,a1,rA.1,([]:List aE)⟩:ai)) fun da=>
 bd (rB da.2.r.bg da.2.l) fun n0=>
 bd (jE 72 a.Seen) fun A9=>
 bd (eY a a1.Client) fun K7=>
 bd (
  if K7.2 then
  ix A9 K7.1 fun y1=>
  some (da.2.r.Shelf.L,da.2.r.br.dK,da.2.r.br.L,n0.1.L,A9.set (Int.toNat K7.1) da.2.x,da.2.o.Client,da.2.o.Seq,da.2.o.Kind,da.2.o.Path,da.2.o.Value,da.2.o.Version,da.2.o.Session,da.2.o.Span,da.2.x.Client,da.2.x.Seq,da.2.x.E,da.2.x.Value,da.2.x.Version,da.2.x.Names,da.2.l)
  else
  bd (qx 72 A9 K7.1 ([da.2.x]:List af)) fun vA=>
  some (da.2.r.Shelf.L,da.2.r.br.dK,da.2.r.br.L,n0.1.L,vA,da.2.o.Client,da.2.o.Seq,da.2.o.Kind,da.2.o.Path,da.2.o.Value,da.2.o.Version,da.2.o.Session,da.2.o.Span,da.2.x.Client,da.2.x.Seq,da.2.x.E,da.2.x.Value,da.2.x.Version,da.2.x.Names,da.2.l):Option ((List ae)×Int×(List av)×(List al)×(List af)×Int×Int×Int×(List UInt8)×(List UInt8)×Int×Int×Int×Int×Int×Int×(List UInt8)×Int×(List (List UInt8))×(List aE))) fun w=>
 some ((⟨(⟨w.1⟩:ax),(⟨w.2.1,w.2.2.1⟩:aC),(⟨w.2.2.2.1⟩:bC),w.2.2.2.2.1⟩:ak),(⟨w.2.2.2.2.2.2.2.2.2.2.2.2.2.1,w.2.2.2.2.2.2.2.2.2.2.2.2.2.2.1,w.2.2.2.2.2.2.2.2.2.2.2.2.2.2.2.1,w.2.2.2.2.2.2.2.2.2.2.2.2.2.2.2.2.1,w.2.2.2.2.2.2.2.2.2.2.2.2.2.2.2.2.2.1,w.2.2.2.2.2.2.2.2.2.2.2.2.2.2.2.2.2.2.1⟩:af),n0.2)
noncomputable def Cg:Option ax:=
 some (⟨([(⟨([47]:List UInt8),([]:List UInt8),0,0⟩:ae)]:List ae)⟩:ax)
noncomputable def Ch:Option aC:=
 some (⟨0,([]:List av)⟩:aC)
noncomputable def yC:Option ak:=
 bd (Cg) fun rA=>
 bd (Ch) fun aX=>
 some (⟨rA,aX,(⟨([]:List al)⟩:bC),([]:List af)⟩:ak)
noncomputable def fM (s1:List ae) (s2:List ae) (st:Int):Option (Int⊕(Unit⊕Bool)):=
 if st<(s1.length:Int) then
 ix s1 st fun y=>
 ix s2 st fun y1=>
 if !((decide (y.Path=y1.Path))&&((decide (y.Value=y1.Value))&&((decide (y.Version=y1.Version))&&(decide (y.bJ=y1.bJ))))) then
 some (.inr (.inr false))
 else
 some (.inl (IntKind.wrap .i64 (st+1)))
 else
 some (.inr (.inl ()))
noncomputable def gO (s1:List ae) (s2:List ae):Option Bool:=
 if !decide ((s1.length:Int)=(s2.length:Int)) then
 some false
 else
 bd (Loop (fM s1 s2) 0) fun w=>
 match w with
 | .inl p1=>
  some true
 | .inr p2=>
  some p2
noncomputable def rC (a:ax) (b:ax):Option Bool:=
 bd (gO a.L b.L) fun rA=>
 some rA
noncomputable def dx (s1:List av) (s2:List av) (st:Int):Option (Int⊕(Unit⊕Bool)):=
 if st<(s1.length:Int) then
 ix s1 st fun y=>
 ix s2 st fun y1=>
 if !((decide (y.Id=y1.Id))&&((decide (y.Span=y1.Span))&&(decide (y.c9=y1.c9)))) then
 some (.inr (.inr false))
 else
 some (.inl (IntKind.wrap .i64 (st+1)))
 else
 some (.inr (.inl ()))
noncomputable def dU (s1:List av) (s2:List av):Option Bool:=
 if !decide ((s1.length:Int)=(s2.length:Int)) then
 some false
 else
 bd (Loop (dx s1 s2) 0) fun w=>
 match w with
 | .inl p1=>
  some true
 | .inr p2=>
  some p2
noncomputable def rD (a:aC) (b:aC):Option Bool:=
 bd (
  if a.dK=b.dK then
  bd (dU a.L b.L) fun rA=>
  some rA
  else
  some false:Option Bool) fun w=>
 some w
noncomputable def dV (s1:List al) (s2:List al) (st:Int):Option (Int⊕(Unit⊕Bool)):=
 if st<(s1.length:Int) then
 ix s1 st fun y=>
 ix s2 st fun y1=>
 if !((decide (y.Path=y1.Path))&&((decide (y.Client=y1.Client))&&(decide (y.Kids=y1.Kids)))) then
 some (.inr (.inr false))
 else
 some (.inl (IntKind.wrap .i64 (st+1)))
 else
 some (.inr (.inl ()))
noncomputable def eJ (s1:List al) (s2:List al):Option Bool:=
 if !decide ((s1.length:Int)=(s2.length:Int)) then
 some false
 else
 bd (Loop (dV s1 s2) 0) fun w=>
 match w with
 | .inl p1=>
  some true
 | .inr p2=>
  some p2
noncomputable def rE (a:bC) (b:bC):Option Bool:=
 bd (eJ a.L b.L) fun rA=>
 some rA
noncomputable def kT (a:af) (b:af):Option Bool:=
 bd (
  if a.Client=b.Client then
  if a.Seq=b.Seq then
  if a.E=b.E then
  if a.Value=b.Value then
  if a.Version=b.Version then
  bd (eZ a.Names b.Names) fun rA=>
  some rA
  else
  some false
  else
  some false
  else
  some false
  else
  some false
  else
  some false:Option Bool) fun w=>
 some w
noncomputable def bp (s1:List af) (s2:List af) (eq:af→af→Option Bool) (st:Int):Option (Int⊕(Unit⊕Bool)):=
 if st<(s1.length:Int) then
 ix s1 st fun y=>
 ix s2 st fun y1=>
 bd (eq y y1) fun rA=>
 if !rA then
 some (.inr (.inr false))
 else
 some (.inl (IntKind.wrap .i64 (st+1)))
 else
 some (.inr (.inl ()))
noncomputable def bx (s1:List af) (s2:List af) (eq:af→af→Option Bool):Option Bool:=
 if !decide ((s1.length:Int)=(s2.length:Int)) then
 some false
 else
 bd (Loop (bp s1 s2 eq) 0) fun w=>
 match w with
 | .inl p1=>
  some true
 | .inr p2=>
  some p2
noncomputable def kU (a:ak) (b:ak):Option Bool:=
 bd (
  bd (rC a.Shelf b.Shelf) fun rA=>
  if rA then
  bd (rD a.br b.br) fun aX=>
  if aX then
  bd (rE a.bg b.bg) fun da=>
  if da then
  bd (bx a.Seen b.Seen kT) fun n0=>
  some n0
  else
  some false
  else
  some false
  else
  some false:Option Bool) fun w=>
 some w
noncomputable def lB:Option Bool:=
 bd (yC) fun rA=>
 bd (iy rA (⟨1,1,1,([47,97]:List UInt8),([120]:List UInt8),0,0,0⟩:au)) fun aX=>
 bd (iy aX.1 (⟨1,1,1,([47,97]:List UInt8),([120]:List UInt8),0,0,0⟩:au)) fun da=>
 bd (mN da.1 1) fun n0=>
 bd (
  if aX.2.1.E=0 then
  if da.2.1.E=0 then
  if (aX.1.Shelf.L.length:Int)=2 then
  bd (kU aX.1 da.1) fun A9=>
  if A9 then
  if n0.2 then
  some (decide (n0.1.Seq=1))
  else
  some false
  else
  some false
  else
  some false
  else
  some false
  else
  some false:Option Bool) fun w=>
 some w
noncomputable def oV (a:List (List UInt8)) (b:List (List UInt8)) (st:Int):Option (Int⊕(Unit⊕Bool)):=
 if st<(a.length:Int) then
 ix a st fun y=>
 ix b st fun y1=>
 if !decide (y=y1) then
 some (.inr (.inr false))
 else
 some (.inl (IntKind.wrap .i64 (st+1)))
 else
 some (.inr (.inl ()))
noncomputable def pC (a:List (List UInt8)) (b:List (List UInt8)):Option Bool:=
 if !decide ((a.length:Int)=(b.length:Int)) then
 some false
 else
 bd (Loop (oV a b) 0) fun w=>
 match w with
 | .inl p1=>
  some true
 | .inr p2=>
  some p2
noncomputable def xB (a:cn) (b:cn):Option Bool:=
 bd (
  if a.Client=b.Client then
  if a.Seq=b.Seq then
  if a.E=b.E then
  if a.Value=b.Value then
  if a.Version=b.Version then
  bd (pC a.Names b.Names) fun rA=>
  some rA
  else
  some false
  else
  some false
  else
  some false
  else
  some false
  else
  some false:Option Bool) fun w=>
 some w
noncomputable def nD (lA:List au) (st:(List ae)×Int×(List av)×(List al)×(List af)×(List af)×(List ba)×Int):Option (((List ae)×Int×(List av)×(List al)×(List af)×(List af)×(List ba)×Int)⊕((List ae)×Int×(List av)×(List al)×(List af)×(List af)×(List ba))):=
 if st.2.2.2.2.2.2.2<(lA.length:Int) then
 ix lA st.2.2.2.2.2.2.2 fun y=>
 bd (iy (⟨(⟨st.1⟩:ax),(⟨st.2.1,st.2.2.1⟩:aC),(⟨st.2.2.2.1⟩:bC),st.2.2.2.2.1⟩:ak) y) fun vA=>
 if (st.2.2.2.2.2.1.length+([vA.2.1]:List af).length) *72≤2^46 then
 if (st.2.2.2.2.2.2.1.length+vA.2.2.length) *56≤2^46 then
 some (.inl (vA.1.Shelf.L,vA.1.br.dK,vA.1.br.L,vA.1.bg.L,vA.1.Seen,st.2.2.2.2.2.1++([vA.2.1]:List af),st.2.2.2.2.2.2.1++vA.2.2,IntKind.wrap .i64 (st.2.2.2.2.2.2.2+1)))
 else none
 else none
 else
 some (.inr (st.1,st.2.1,st.2.2.1,st.2.2.2.1,st.2.2.2.2.1,st.2.2.2.2.2.1,st.2.2.2.2.2.2.1))
noncomputable def rF (rA:ak) (lA:List au):Option (ak×(List af)×(List ba)):=
 bd (Loop (nD lA) (rA.Shelf.L,rA.br.dK,rA.br.L,rA.bg.L,rA.Seen,([]:List af),([]:List ba),0)) fun w=>
 some ((⟨(⟨w.1⟩:ax),(⟨w.2.1,w.2.2.1⟩:aC),(⟨w.2.2.2.1⟩:bC),w.2.2.2.2.1⟩:ak),w.2.2.2.2.2.1,w.2.2.2.2.2.2)
noncomputable def j0 (a1:au) (a2:List au) (st:Int):Option (Int⊕(Unit⊕Bool)):=
 if st<(a2.length:Int) then
 ix a2 st fun y=>
 if y.Client=a1.Client then
 bd (lB) fun YT=>
 some (.inr (.inr YT))
 else
 some (.inl (IntKind.wrap .i64 (st+1)))
 else
 some (.inr (.inl ()))
noncomputable def oW (a:ak) (a1:au) (a2:List au):Option Bool:=
 bd (
  bd (A8 a) fun rA=>
  if !rA then
  some true
  else
  bd (qM a2) fun aX=>
  if !aX then
  some true
  else
  bd (qM ([a1]:List au)) fun da=>
  if !da then
  some true
  else
  bd (qO a) fun n0=>
  bd (qN n0) fun A9=>
  some (!A9):Option Bool) fun w=>
 if w then
 bd (lB) fun K7=>
 some K7
 else
 bd (iy a a1) fun vA=>
 bd (qO vA.1) fun rA7=>
 bd (qN rA7) fun rA8=>
 if !rA8 then
 some false
 else
 bd (nh a1) fun rA9=>
 if !rA9 then
 bd (
  bd (lB) fun R3=>
  if R3 then
  if vA.2.1.E=1 then
  bd (kU vA.1 a) fun R4=>
  some R4
  else
  some false
  else
  some false:Option Bool) fun w1=>
 some w1
 else
 bd (mN vA.1 a1.Client) fun VA=>
 bd (
  if !VA.2 then
  some true
  else
  some (decide (VA.1.Seq<a1.Seq)):Option Bool) fun w2=>
 if w2 then
 bd (
  bd (lB) fun YU=>
  if YU then
  if vA.2.1.E=9 then
  bd (kU vA.1 a) fun YV=>
  some YV
  else
  some false
  else
  some false:Option Bool) fun w3=>
 some w3
 else
 bd (Loop (j0 a1 a2) 0) fun w4=>
 match w4 with
 | .inl p1=>
  bd (rF vA.1 a2) fun OM=>
  bd (iy OM.1 a1) fun Ky=>
  bd (
   bd (lB) fun YW=>
   if YW then
   bd (kU Ky.1 OM.1) fun YX=>
   if YX then
   if (Ky.2.2.length:Int)=0 then
   bd (rm vA.2.1) fun VB=>
   bd (rm Ky.2.1) fun VC=>
   bd (xB VB VC) fun YY=>
   if YY then
   some (decide (vA.2.1.Client=a1.Client))
   else
   some false
   else
   some false
   else
   some false
   else
   some false:Option Bool) fun w5=>
  some w5
 | .inr p2=>
  some p2
end Dn.S
