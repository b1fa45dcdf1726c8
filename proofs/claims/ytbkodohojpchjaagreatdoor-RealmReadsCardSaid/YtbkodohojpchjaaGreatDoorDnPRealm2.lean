import Derived.Test.YtbkodohojpchjaaGreatDoorDnPRealm
/-
  Realms: what an order does. Conditions: none.
-/
open Go Dn
set_option linter.unusedVariables false
set_option linter.unusedSimpArgs false
namespace Dn.S
theorem dt {α β:Type} {x y:Option α} {K:α→Option β} {z:Option β} (h:x=y) (h2:bd y K=z):bd x K=z:=h▸h2
def qa (k:Int) (w:ai):ai:=if w.x.E=0 then {w with l:=w.l++[⟨k,w.o.Path⟩]} else w
theorem Aa (w:ai) (k:Int) (hl:w.l.length≤2^20):dq w k=some ((),qa k w):=by
 unfold dq qa
 by_cases h:w.x.E=0
 ·rw [if_pos h,if_pos (by simp only [List.length_cons,List.length_nil];omega),aC,if_pos h]
 ·rw [if_neg h,aC,if_neg h]
def xK (w:ai) (id:Int):ai:={w with r:={w.r with Shelf:=⟨(dn w.r.Shelf.L id).1⟩},l:=w.l++(dn w.r.Shelf.L id).2.map fun p=>⟨3,p⟩}
theorem Cu (L:List ae) (id:Int):(dn L id).1.length+(dn L id).2.length=L.length:=by
 unfold dn
 dsimp only
 rw [List.length_map]
 exact MG _ _
theorem Wi (w:ai) (id:Int):(xK w id).l.length+(xK w id).r.Shelf.L.length=w.l.length+w.r.Shelf.L.length:=by
 unfold xK
 dsimp only
 have:=Cu w.r.Shelf.L id
 rw [List.length_append,List.length_map]
 omega
theorem MN (w:ai) (id:Int) (hl:w.l.length+w.r.Shelf.L.length≤2^20):ib w id=some ((),xK w id):=by
 unfold ib
 have hlen:=Cu w.r.Shelf.L id
 rw [drop_eq w.r.Shelf id (by omega),aC]
 have fT:Loop (iy (((⟨(dn w.r.Shelf.L id).1⟩:ay),(dn w.r.Shelf.L id).2))) (0,(dn w.r.Shelf.L id).1,w.r.bt.dE,w.r.bt.L,w.r.bh.L,w.r.Seen,w.o.Client,w.o.Seq,w.o.Kind,w.o.Path,w.o.Value,w.o.Version,w.o.Session,w.o.Span,w.x.Client,w.x.Seq,w.x.E,w.x.Value,w.x.Version,w.x.Names,w.l)=
  some ((dn w.r.Shelf.L id).1,w.r.bt.dE,w.r.bt.L,w.r.bh.L,w.r.Seen,w.o.Client,w.o.Seq,w.o.Kind,w.o.Path,w.o.Value,w.o.Version,w.o.Session,w.o.Span,w.x.Client,w.x.Seq,w.x.E,w.x.Value,w.x.Version,w.x.Names,w.l++(dn w.r.Shelf.L id).2.map fun p=>(⟨3,p⟩:aF)):=by
  refine bq.eq (bq.count (fun k=>((k:Int),(dn w.r.Shelf.L id).1,w.r.bt.dE,w.r.bt.L,w.r.bh.L,w.r.Seen,w.o.Client,w.o.Seq,w.o.Kind,w.o.Path,w.o.Value,w.o.Version,w.o.Session,w.o.Span,w.x.Client,w.x.Seq,w.x.E,w.x.Value,w.x.Version,w.x.Names,w.l++((dn w.r.Shelf.L id).2.take k).map fun p=>(⟨3,p⟩:aF))) (dn w.r.Shelf.L id).2.length (fun _=>True) (by simp) trivial (fun k hk _=> ?_) (fun _=> ?_))
  ·unfold iy
   dsimp only
   rw [if_pos (by omega),bx hk,if_pos (by simp only [List.length_append,List.length_map,List.length_take,List.length_cons,List.length_nil];omega),wrap64 (by omega) (by omega),uD hk]
   refine .mk ⟨?_,trivial⟩
   simp
  ·unfold iy
   dsimp only
   rw [if_neg (by omega),List.take_length]
   exact .mk rfl
 exact dt fT rfl
def li (w:ai) (ids:List Int):ai:=ids.foldl xK w
theorem Jh (ids:List Int): ∀w,(li w ids).l.length+(li w ids).r.Shelf.L.length=w.l.length+w.r.Shelf.L.length:=by
 unfold li
 induction ids with
 |nil=>intro w;rfl
 |cons i ids ih=>intro w;rw [List.foldl_cons,ih,Wi]
def Zl (w:ai):(List ae)×Int×(List aw)×(List al)×(List af)×Int×Int×Int×(List UInt8)×(List UInt8)×Int×Int×Int×Int×Int×Int×(List UInt8)×Int×(List (List UInt8))×(List aF):=
 (w.r.Shelf.L,w.r.bt.dE,w.r.bt.L,w.r.bh.L,w.r.Seen,w.o.Client,w.o.Seq,w.o.Kind,w.o.Path,w.o.Value,w.o.Version,w.o.Session,w.o.Span,w.x.Client,w.x.Seq,w.x.E,w.x.Value,w.x.Version,w.x.Names,w.l)
theorem Wj (w:ai) (p:aD×(List Int)×Int) (hl:w.l.length+w.r.Shelf.L.length≤2^20) (h2:p.2.1.length≤2^20):Loop (iz p) (0,Zl w)=some (Zl (li w p.2.1)):=by
 refine bq.eq (bq.count (fun k=>((k:Int),Zl (li w (p.2.1.take k)))) p.2.1.length (fun _=>True) (by simp [li]) trivial (fun k hk _=> ?_) (fun _=> ?_))
 ·have hd:=MN (li w (p.2.1.take k)) p.2.1[k] (by rw [Jh];exact hl)
  have hs:li w (p.2.1.take (k+1))=xK (li w (p.2.1.take k)) p.2.1[k]:=z8 hk
  rw [hs]
  unfold iz
  dsimp only
  rw [if_pos (by omega),bx hk]
  rw [wrap64 (by omega) (by omega)]
  refine .of (dt hd rfl) ⟨?_,trivial⟩
  rfl
 ·unfold iz
  dsimp only
  rw [if_neg (by omega),List.take_length]
  exact .mk rfl
def lj (w:ai) (p:List ae×Int):ai:={w with r:={w.r with Shelf:=⟨p.1⟩},x:={w.x with E:=p.2}}
def GL (w:ai) (p:aD×Int):ai:={w with r:={w.r with bt:=p.1},x:={w.x with E:=p.2}}
def ag4 (w:ai) (e:Int):ai:={w with x:={w.x with E:=e}}
def Bw (w:ai):ai:=if w.o.Session≠0∧ki lh w.r.bt.L w.o.Session=false then ag4 w 14 else qa 1 (lj w (s5 w.r.Shelf.L w.o.Path w.o.Value w.o.Session))
def Wk (w:ai):ai:={w with x:={w.x with E:=(dI w.r.Shelf.L w.o.Path).2,Value:=(dI w.r.Shelf.L w.o.Path).1.Value,Version:=(dI w.r.Shelf.L w.o.Path).1.Version}}
def MO (w:ai):ai:=if w.x.E=0 then {w with x:={w.x with Version:=(dI w.r.Shelf.L w.o.Path).1.Version}} else w
def HM (w:ai):ai:=MO (qa 2 (lj w (gZ w.r.Shelf.L w.o.Path w.o.Value w.o.Version)))
def vR (w:ai):ai:=qa 3 (lj w (p0 w.r.Shelf.L w.o.Path w.o.Version))
def Wl (w:ai):ai:={w with x:={w.x with E:=(Qj w.r.Shelf.L w.o.Path).2,Names:=(Qj w.r.Shelf.L w.o.Path).1}}
def Wm (w:ai):ai:=GL w (De w.r.bt w.o.Session w.o.Span,uE w.r.bt w.o.Session w.o.Span)
def O4 (w:ai):ai:=GL w (Ct w.r.bt w.o.Session)
def GM (w:ai):ai:=if (rV w.r.bt w.o.Session).2=0 then xK (GL w (rV w.r.bt w.o.Session)) w.o.Session else GL w (rV w.r.bt w.o.Session)
def Ab (w:ai):ai:=⟨⟨w.r.Shelf,Qt w.r.bt w.o.Span,w.r.bh,w.r.Seen⟩,w.o,⟨w.x.Client,w.x.Seq,0,w.x.Value,w.o.Span,w.x.Names⟩,w.l⟩
def MP (w:ai):ai:=if Df w.r.bt w.o.Span=0 then li (Ab w) (Bv w.r.bt w.o.Span) else ag4 w (Df w.r.bt w.o.Span)
def s8 (o:av):al:=⟨o.Path,o.Client,decide (o.Kind=11)⟩
def O5 (w:ai):ai:={w with r:={w.r with bh:=⟨(Cs w.r.bh.L (s8 w.o)).1⟩},x:={w.x with E:=(Cs w.r.bh.L (s8 w.o)).2}}
structure eD (r:ak):Prop where
 shelf:gO r.Shelf.L
 book:jj r.bt
 table:Cr r.bh.L
theorem O6 {w:ai} (h:eD w.r) (hl:w.l.length≤2^20):iu w=some ((),Bw w):=by
 have hlen:=h.shelf.len
 unfold iu Bw
 have aaA:(bd (lz w.r.Shelf w.o.Path w.o.Value w.o.Session) fun aY=>bd (dq (⟨(⟨aY.1,w.r.bt,w.r.bh,w.r.Seen⟩:ak),w.o,(⟨w.x.Client,w.x.Seq,aY.2,w.x.Value,w.x.Version,w.x.Names⟩:af),w.l⟩:ai) 1) fun cX=>some ((),cX.2))=some ((),qa 1 (lj w (s5 w.r.Shelf.L w.o.Path w.o.Value w.o.Session))):=by
  rw [Sl h.shelf.ord (by omega),aC]
  exact dt (Aa (lj w (s5 w.r.Shelf.L w.o.Path w.o.Value w.o.Session)) 1 hl) rfl
 by_cases hs:w.o.Session=0
 ·rw [decide_eq_true hs,if_neg (by decide),aC,if_neg (by decide),aaA,if_neg (fun hh=>hh.1 hs)]
 ·rw [decide_eq_false hs,if_pos (show (!false)=true from rfl),acG h.book,aC,aC]
  cases hh:ki lh w.r.bt.L w.o.Session with
  |false=>rw [if_pos (show (!false)=true from rfl),if_pos ⟨hs,rfl⟩];rfl
  |true=>rw [if_neg (by decide),aaA,if_neg (fun hq=>by cases hq.2)]
theorem Zm {w:ai} (h:eD w.r):kR w=some ((),Wk w):=by
 have hlen:=h.shelf.len
 unfold kR Wk
 rw [get_eq h.shelf.ord (by omega),aC]
theorem Zn {w:ai} (h:eD w.r) (hl:w.l.length≤2^20):kS w=some ((),HM w):=by
 have hlen:=h.shelf.len
 unfold kS HM
 rw [acD h.shelf,aC]
 refine dt (Aa (lj w (gZ w.r.Shelf.L w.o.Path w.o.Value w.o.Version)) 2 hl) ?_
 rw [aC]
 dsimp only
 have lr:gO (qa 2 (lj w (gZ w.r.Shelf.L w.o.Path w.o.Value w.o.Version))).r.Shelf.L:=by
  have:(qa 2 (lj w (gZ w.r.Shelf.L w.o.Path w.o.Value w.o.Version))).r.Shelf.L=(gZ w.r.Shelf.L w.o.Path w.o.Value w.o.Version).1:=by unfold qa;split<;>rfl
  rw [this];exact DZ h.shelf _ _ _
 generalize qa 2 (lj w (gZ w.r.Shelf.L w.o.Path w.o.Value w.o.Version))=v at lr
 have qe:=lr.len
 unfold MO
 by_cases he:v.x.E=0
 ·rw [if_pos he,get_eq lr.ord (by omega),aC,aC,if_pos he]
 ·rw [if_neg he,aC,if_neg he]
theorem O7 {w:ai} (h:eD w.r) (hl:w.l.length≤2^20):iw w=some ((),vR w):=by
 unfold iw vR
 rw [del_eq h.shelf,aC]
 exact dt (Aa (lj w (p0 w.r.Shelf.L w.o.Path w.o.Version)) 3 hl) rfl
theorem Wn {w:ai} (h:eD w.r):jU w=some ((),Wl w):=by
 have hlen:=h.shelf.len
 unfold jU Wl
 rw [Y3 h.shelf.ord (by omega),aC]
theorem Wo {w:ai} (h:eD w.r):jV w=some ((),Wm w):=by
 unfold jV Wm
 rw [Zg h.book,aC];rfl
theorem Sx {w:ai} (h:eD w.r):jc w=some ((),O4 w):=by
 unfold jc O4
 rw [Wf h.book,aC];rfl
theorem Sy {w:ai} (h:eD w.r) (hl:w.l.length+w.r.Shelf.L.length≤2^20):jd w=some ((),GM w):=by
 unfold jd GM
 rw [Wg h.book,aC]
 by_cases he:(rV w.r.bt w.o.Session).2=0
 ·rw [if_pos he,if_pos he]
  have hd:=MN (GL w (rV w.r.bt w.o.Session)) w.o.Session hl
  exact dt (y:=some (Zl (xK (GL w (rV w.r.bt w.o.Session)) w.o.Session))) (dt hd rfl) rfl
 ·rw [if_neg he,if_neg he];rfl
theorem Wp {w:ai} (h:eD w.r) (hl:w.l.length+w.r.Shelf.L.length≤2^20):jW w=some ((),MP w):=by
 have hlen:=h.book.len
 unfold jW MP
 rw [Zh h.book,aC]
 by_cases he:Df w.r.bt w.o.Span=0
 ·rw [if_pos he,if_pos he]
  dsimp only
  rw [decide_eq_true rfl,if_neg (by decide)]
  have hg:(Bv w.r.bt w.o.Span).length≤w.r.bt.L.length:=by
   unfold Bv;rw [List.length_map];exact List.length_filter_le _ _
  have ht:=Wj (Ab w) (Qt w.r.bt w.o.Span,Bv w.r.bt w.o.Span,0) hl (by dsimp only;omega)
  exact dt ht rfl
 ·rw [if_neg he,if_neg he]
  dsimp only
  rw [decide_eq_false he,if_pos (show (!false)=true from rfl)];rfl
theorem Ji {w:ai} (h:eD w.r):je w=some ((),O5 w):=by
 have hlen:=h.table.len
 unfold je O5
 rw [show qG w.r.bh (⟨w.o.Path,w.o.Client,decide (w.o.Kind=11)⟩:al)=some (⟨(Cs w.r.bh.L (s8 w.o)).1⟩,(Cs w.r.bh.L (s8 w.o)).2) from Wc w.r.bh.L (s8 w.o) (by omega),aC]
def O8 (w:ai):ai:=
 if w.o.Kind=0 then w else if w.o.Kind=1 then Bw w else if w.o.Kind=2 then Wk w else if w.o.Kind=3 then HM w else if w.o.Kind=4 then vR w else if w.o.Kind=5 then Wl w
 else if w.o.Kind=6 then Wm w else if w.o.Kind=7 then O4 w else if w.o.Kind=8 then GM w else if w.o.Kind=9 then MP w else O5 w
theorem Zo {w:ai} (h:eD w.r) (hl:w.l.length+w.r.Shelf.L.length≤2^20) (hk:0≤w.o.Kind∧w.o.Kind≤11) {β:Type} (K:Unit×ai→Option β):
 (bd rh fun aY=>ix aY w.o.Kind fun y=>bd (mj y w) K)=K ((),O8 w):=by
 unfold rh
 rw [aC]
 obtain ⟨n,hn⟩: ∃n:Nat,w.o.Kind=(n:Int):=⟨w.o.Kind.toNat,by omega⟩
 have ag5:n<12:=by omega
 have DQ:w.l.length≤2^20:=by omega
 unfold O8
 rw [hn]
 rw [bx (by simpa using ag5)]
 unfold mj
 match n,ag5 with
 |0,_=>rfl
 |1,_=>exact dt (O6 h DQ) rfl
 |2,_=>exact dt (Zm h) rfl
 |3,_=>exact dt (Zn h DQ) rfl
 |4,_=>exact dt (O7 h DQ) rfl
 |5,_=>exact dt (Wn h) rfl
 |6,_=>exact dt (Wo h) rfl
 |7,_=>exact dt (Sx h) rfl
 |8,_=>exact dt (Sy h hl) rfl
 |9,_=>exact dt (Wp h hl) rfl
 |10,_=>exact dt (Ji h) rfl
 |11,_=>exact dt (Ji h) rfl
end Dn.S
