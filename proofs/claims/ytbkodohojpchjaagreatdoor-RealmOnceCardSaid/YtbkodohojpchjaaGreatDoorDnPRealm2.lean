import Derived.Test.YtbkodohojpchjaaGreatDoorDnPRealm
/-
  Realms: what an order does. Conditions: none.
-/
open Go Dn
set_option linter.unusedVariables false
set_option linter.unusedSimpArgs false
namespace Dn.S
theorem dy {α β:Type} {x y:Option α} {K:α→Option β} {z:Option β} (h:x=y) (h2:bd y K=z):bd x K=z:=h▸h2
def tO (k:Int) (w:ai):ai:=if w.x.E=0 then {w with l:=w.l++[⟨k,w.o.Path⟩]} else w
theorem As (w:ai) (k:Int) (hl:w.l.length≤2^20):dw w k=some ((),tO k w):=by
 unfold dw tO
 by_cases h:w.x.E=0
 ·rw [if_pos h,if_pos (by simp only [List.length_cons,List.length_nil];omega),aA,if_pos h]
 ·rw [if_neg h,aA,if_neg h]
def xZ (w:ai) (id:Int):ai:={w with r:={w.r with Shelf:=⟨(du w.r.Shelf.L id).1⟩},l:=w.l++(du w.r.Shelf.L id).2.map fun p=>⟨3,p⟩}
theorem CF (L:List ae) (id:Int):(du L id).1.length+(du L id).2.length=L.length:=by
 unfold du
 dsimp only
 rw [List.length_map]
 exact M0 _ _
theorem WL (w:ai) (id:Int):(xZ w id).l.length+(xZ w id).r.Shelf.L.length=w.l.length+w.r.Shelf.L.length:=by
 unfold xZ
 dsimp only
 have:=CF w.r.Shelf.L id
 rw [List.length_append,List.length_map]
 omega
theorem M7 (w:ai) (id:Int) (hl:w.l.length+w.r.Shelf.L.length≤2^20):ia w id=some ((),xZ w id):=by
 unfold ia
 have hlen:=CF w.r.Shelf.L id
 rw [drop_eq w.r.Shelf id (by omega),aA]
 have fW:Loop (iv (((⟨(du w.r.Shelf.L id).1⟩:ax),(du w.r.Shelf.L id).2))) (0,(du w.r.Shelf.L id).1,w.r.br.dK,w.r.br.L,w.r.bg.L,w.r.Seen,w.o.Client,w.o.Seq,w.o.Kind,w.o.Path,w.o.Value,w.o.Version,w.o.Session,w.o.Span,w.x.Client,w.x.Seq,w.x.E,w.x.Value,w.x.Version,w.x.Names,w.l)=
  some ((du w.r.Shelf.L id).1,w.r.br.dK,w.r.br.L,w.r.bg.L,w.r.Seen,w.o.Client,w.o.Seq,w.o.Kind,w.o.Path,w.o.Value,w.o.Version,w.o.Session,w.o.Span,w.x.Client,w.x.Seq,w.x.E,w.x.Value,w.x.Version,w.x.Names,w.l++(du w.r.Shelf.L id).2.map fun p=>(⟨3,p⟩:aE)):=by
  refine bu.eq (bu.count (fun k=>((k:Int),(du w.r.Shelf.L id).1,w.r.br.dK,w.r.br.L,w.r.bg.L,w.r.Seen,w.o.Client,w.o.Seq,w.o.Kind,w.o.Path,w.o.Value,w.o.Version,w.o.Session,w.o.Span,w.x.Client,w.x.Seq,w.x.E,w.x.Value,w.x.Version,w.x.Names,w.l++((du w.r.Shelf.L id).2.take k).map fun p=>(⟨3,p⟩:aE))) (du w.r.Shelf.L id).2.length (fun _=>True) (by simp) trivial (fun k hk _=> ?_) (fun _=> ?_))
  ·unfold iv
   dsimp only
   rw [if_pos (by omega),bt hk,if_pos (by simp only [List.length_append,List.length_map,List.length_take,List.length_cons,List.length_nil];omega),wrap64 (by omega) (by omega),uO hk]
   refine .mk ⟨?_,trivial⟩
   simp
  ·unfold iv
   dsimp only
   rw [if_neg (by omega),List.take_length]
   exact .mk rfl
 exact dy fW rfl
def li (w:ai) (ids:List Int):ai:=ids.foldl xZ w
theorem Jq (ids:List Int): ∀w,(li w ids).l.length+(li w ids).r.Shelf.L.length=w.l.length+w.r.Shelf.L.length:=by
 unfold li
 induction ids with
 |nil=>intro w;rfl
 |cons i ids ih=>intro w;rw [List.foldl_cons,ih,WL]
def ZW (w:ai):(List ae)×Int×(List av)×(List al)×(List af)×Int×Int×Int×(List UInt8)×(List UInt8)×Int×Int×Int×Int×Int×Int×(List UInt8)×Int×(List (List UInt8))×(List aE):=
 (w.r.Shelf.L,w.r.br.dK,w.r.br.L,w.r.bg.L,w.r.Seen,w.o.Client,w.o.Seq,w.o.Kind,w.o.Path,w.o.Value,w.o.Version,w.o.Session,w.o.Span,w.x.Client,w.x.Seq,w.x.E,w.x.Value,w.x.Version,w.x.Names,w.l)
theorem WM (w:ai) (p:aC×(List Int)×Int) (hl:w.l.length+w.r.Shelf.L.length≤2^20) (h2:p.2.1.length≤2^20):Loop (iw p) (0,ZW w)=some (ZW (li w p.2.1)):=by
 refine bu.eq (bu.count (fun k=>((k:Int),ZW (li w (p.2.1.take k)))) p.2.1.length (fun _=>True) (by simp [li]) trivial (fun k hk _=> ?_) (fun _=> ?_))
 ·have hd:=M7 (li w (p.2.1.take k)) p.2.1[k] (by rw [Jq];exact hl)
  have hs:li w (p.2.1.take (k+1))=xZ (li w (p.2.1.take k)) p.2.1[k]:=Ar hk
  rw [hs]
  unfold iw
  dsimp only
  rw [if_pos (by omega),bt hk]
  rw [wrap64 (by omega) (by omega)]
  refine .of (dy hd rfl) ⟨?_,trivial⟩
  rfl
 ·unfold iw
  dsimp only
  rw [if_neg (by omega),List.take_length]
  exact .mk rfl
def oM (w:ai) (p:List ae×Int):ai:={w with r:={w.r with Shelf:=⟨p.1⟩},x:={w.x with E:=p.2}}
def GL (w:ai) (p:aC×Int):ai:={w with r:={w.r with br:=p.1},x:={w.x with E:=p.2}}
def ag7 (w:ai) (e:Int):ai:={w with x:={w.x with E:=e}}
def yT (w:ai):ai:=if w.o.Session≠0∧ka lh w.r.br.L w.o.Session=false then ag7 w 14 else tO 1 (oM w (tg w.r.Shelf.L w.o.Path w.o.Value w.o.Session))
def ade (w:ai):ai:={w with x:={w.x with E:=(kl w.r.Shelf.L w.o.Path).2,Value:=(kl w.r.Shelf.L w.o.Path).1.Value,Version:=(kl w.r.Shelf.L w.o.Path).1.Version}}
def M8 (w:ai):ai:=if w.x.E=0 then {w with x:={w.x with Version:=(kl w.r.Shelf.L w.o.Path).1.Version}} else w
def SR (w:ai):ai:=M8 (tO 2 (oM w (BE w.r.Shelf.L w.o.Path w.o.Value w.o.Version)))
def Ea (w:ai):ai:=tO 3 (oM w (Pn w.r.Shelf.L w.o.Path w.o.Version))
def WN (w:ai):ai:={w with x:={w.x with E:=(GD w.r.Shelf.L w.o.Path).2,Names:=(GD w.r.Shelf.L w.o.Path).1}}
def WO (w:ai):ai:=GL w (Dp w.r.br w.o.Session w.o.Span,uP w.r.br w.o.Session w.o.Span)
def Ps (w:ai):ai:=GL w (CE w.r.br w.o.Session)
def CG (w:ai):ai:=if (r6 w.r.br w.o.Session).2=0 then xZ (GL w (r6 w.r.br w.o.Session)) w.o.Session else GL w (r6 w.r.br w.o.Session)
def ya (w:ai):ai:=⟨⟨w.r.Shelf,QR w.r.br w.o.Span,w.r.bg,w.r.Seen⟩,w.o,⟨w.x.Client,w.x.Seq,0,w.x.Value,w.o.Span,w.x.Names⟩,w.l⟩
def Jr (w:ai):ai:=if Dq w.r.br w.o.Span=0 then li (ya w) (zL w.r.br w.o.Span) else ag7 w (Dq w.r.br w.o.Span)
def tj (o:au):al:=⟨o.Path,o.Client,decide (o.Kind=11)⟩
def Pt (w:ai):ai:={w with r:={w.r with bg:=⟨(CD w.r.bg.L (tj w.o)).1⟩},x:={w.x with E:=(CD w.r.bg.L (tj w.o)).2}}
structure ek (r:ak):Prop where
 shelf:iW r.Shelf.L
 book:jn r.br
 table:CC r.bg.L
theorem Pu {w:ai} (h:ek w.r) (hl:w.l.length≤2^20):iq w=some ((),yT w):=by
 have hlen:=h.shelf.len
 unfold iq yT
 have aa8:(bd (lu w.r.Shelf w.o.Path w.o.Value w.o.Session) fun aX=>bd (dw (⟨(⟨aX.1,w.r.br,w.r.bg,w.r.Seen⟩:ak),w.o,(⟨w.x.Client,w.x.Seq,aX.2,w.x.Value,w.x.Version,w.x.Names⟩:af),w.l⟩:ai) 1) fun da=>some ((),da.2))=some ((),tO 1 (oM w (tg w.r.Shelf.L w.o.Path w.o.Value w.o.Session))):=by
  rw [SE h.shelf.ord (by omega),aA]
  exact dy (As (oM w (tg w.r.Shelf.L w.o.Path w.o.Value w.o.Session)) 1 hl) rfl
 by_cases hs:w.o.Session=0
 ·rw [decide_eq_true hs,if_neg (by decide),aA,if_neg (by decide),aa8,if_neg (fun hh=>hh.1 hs)]
 ·rw [decide_eq_false hs,if_pos (show (!false)=true from rfl),ada h.book,aA,aA]
  cases hh:ka lh w.r.br.L w.o.Session with
  |false=>rw [if_pos (show (!false)=true from rfl),if_pos ⟨hs,rfl⟩];rfl
  |true=>rw [if_neg (by decide),aa8,if_neg (fun hq=>by cases hq.2)]
theorem ZX {w:ai} (h:ek w.r):kR w=some ((),ade w):=by
 have hlen:=h.shelf.len
 unfold kR ade
 rw [get_eq h.shelf.ord (by omega),aA]
theorem ZY {w:ai} (h:ek w.r) (hl:w.l.length≤2^20):kS w=some ((),SR w):=by
 have hlen:=h.shelf.len
 unfold kS SR
 rw [ac7 h.shelf,aA]
 refine dy (As (oM w (BE w.r.Shelf.L w.o.Path w.o.Value w.o.Version)) 2 hl) ?_
 rw [aA]
 dsimp only
 have lq:iW (tO 2 (oM w (BE w.r.Shelf.L w.o.Path w.o.Value w.o.Version))).r.Shelf.L:=by
  have:(tO 2 (oM w (BE w.r.Shelf.L w.o.Path w.o.Value w.o.Version))).r.Shelf.L=(BE w.r.Shelf.L w.o.Path w.o.Value w.o.Version).1:=by unfold tO;split<;>rfl
  rw [this];exact QO h.shelf _ _ _
 generalize tO 2 (oM w (BE w.r.Shelf.L w.o.Path w.o.Value w.o.Version))=v at lq
 have qk:=lq.len
 unfold M8
 by_cases he:v.x.E=0
 ·rw [if_pos he,get_eq lq.ord (by omega),aA,aA,if_pos he]
 ·rw [if_neg he,aA,if_neg he]
theorem Pv {w:ai} (h:ek w.r) (hl:w.l.length≤2^20):iu w=some ((),Ea w):=by
 unfold iu Ea
 rw [del_eq h.shelf,aA]
 exact dy (As (oM w (Pn w.r.Shelf.L w.o.Path w.o.Version)) 3 hl) rfl
theorem WQ {w:ai} (h:ek w.r):jX w=some ((),WN w):=by
 have hlen:=h.shelf.len
 unfold jX WN
 rw [ZH h.shelf.ord (by omega),aA]
theorem WR {w:ai} (h:ek w.r):jY w=some ((),WO w):=by
 unfold jY WO
 rw [ZS h.book,aA];rfl
theorem SS {w:ai} (h:ek w.r):jd w=some ((),Ps w):=by
 unfold jd Ps
 rw [WI h.book,aA];rfl
theorem SU {w:ai} (h:ek w.r) (hl:w.l.length+w.r.Shelf.L.length≤2^20):je w=some ((),CG w):=by
 unfold je CG
 rw [WJ h.book,aA]
 by_cases he:(r6 w.r.br w.o.Session).2=0
 ·rw [if_pos he,if_pos he]
  have hd:=M7 (GL w (r6 w.r.br w.o.Session)) w.o.Session hl
  exact dy (y:=some (ZW (xZ (GL w (r6 w.r.br w.o.Session)) w.o.Session))) (dy hd rfl) rfl
 ·rw [if_neg he,if_neg he];rfl
theorem WS {w:ai} (h:ek w.r) (hl:w.l.length+w.r.Shelf.L.length≤2^20):jZ w=some ((),Jr w):=by
 have hlen:=h.book.len
 unfold jZ Jr
 rw [ZT h.book,aA]
 by_cases he:Dq w.r.br w.o.Span=0
 ·rw [if_pos he,if_pos he]
  dsimp only
  rw [decide_eq_true rfl,if_neg (by decide)]
  have hg:(zL w.r.br w.o.Span).length≤w.r.br.L.length:=by
   unfold zL;rw [List.length_map];exact List.length_filter_le _ _
  have ht:=WM (ya w) (QR w.r.br w.o.Span,zL w.r.br w.o.Span,0) hl (by dsimp only;omega)
  exact dy ht rfl
 ·rw [if_neg he,if_neg he]
  dsimp only
  rw [decide_eq_false he,if_pos (show (!false)=true from rfl)];rfl
theorem Js {w:ai} (h:ek w.r):jf w=some ((),Pt w):=by
 have hlen:=h.table.len
 unfold jf Pt
 rw [show qP w.r.bg (⟨w.o.Path,w.o.Client,decide (w.o.Kind=11)⟩:al)=some (⟨(CD w.r.bg.L (tj w.o)).1⟩,(CD w.r.bg.L (tj w.o)).2) from WE w.r.bg.L (tj w.o) (by omega),aA]
def Pw (w:ai):ai:=
 if w.o.Kind=0 then w else if w.o.Kind=1 then yT w else if w.o.Kind=2 then ade w else if w.o.Kind=3 then SR w else if w.o.Kind=4 then Ea w else if w.o.Kind=5 then WN w
 else if w.o.Kind=6 then WO w else if w.o.Kind=7 then Ps w else if w.o.Kind=8 then CG w else if w.o.Kind=9 then Jr w else Pt w
theorem ZZ {w:ai} (h:ek w.r) (hl:w.l.length+w.r.Shelf.L.length≤2^20) (hk:0≤w.o.Kind∧w.o.Kind≤11) {β:Type} (K:Unit×ai→Option β):
 (bd rz fun aX=>ix aX w.o.Kind fun y=>bd (mj y w) K)=K ((),Pw w):=by
 unfold rz
 rw [aA]
 obtain ⟨n,hn⟩: ∃n:Nat,w.o.Kind=(n:Int):=⟨w.o.Kind.toNat,by omega⟩
 have ag8:n<12:=by omega
 have BM:w.l.length≤2^20:=by omega
 unfold Pw
 rw [hn]
 rw [bt (by simpa using ag8)]
 unfold mj
 match n,ag8 with
 |0,_=>rfl
 |1,_=>exact dy (Pu h BM) rfl
 |2,_=>exact dy (ZX h) rfl
 |3,_=>exact dy (ZY h BM) rfl
 |4,_=>exact dy (Pv h BM) rfl
 |5,_=>exact dy (WQ h) rfl
 |6,_=>exact dy (WR h) rfl
 |7,_=>exact dy (SS h) rfl
 |8,_=>exact dy (SU h hl) rfl
 |9,_=>exact dy (WS h hl) rfl
 |10,_=>exact dy (Js h) rfl
 |11,_=>exact dy (Js h) rfl
end Dn.S
