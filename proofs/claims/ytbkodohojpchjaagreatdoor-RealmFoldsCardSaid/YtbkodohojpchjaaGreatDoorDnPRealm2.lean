import Derived.Test.YtbkodohojpchjaaGreatDoorDnPRealm
/-
  Realms: what an order does. Conditions: none.
-/
set_option linter.unusedVariables false
set_option linter.unusedSimpArgs false
open List renaming length_map→c9,length_append→sh,length_cons→AI,take_length→AS,length_nil→AT
open Go Dn
namespace Dn.S
theorem aQ {α β:Type}{x y:Option α}{K:α->Option β}{z:Option β}(h:x=y)(h2:bd y K=z):bd x K=z:=h▸h2
def sd (k:Int)(w:aj):aj:=if w.x.E=0 then {w with l:=w.l++[⟨k,w.o.Path⟩]} else w
theorem CT (w:aj)(k:Int)(hl:w.l.length<=2^20):ee w k=some ((),sd k w):=by
 unfold ee sd;by_cases h:w.x.E=0
 ·rw [if_pos h,if_pos (by simp only [AI,AT];omega),av,if_pos h]
 ·rw [if_neg h,av,if_neg h]
def mW (w:aj)(id:Int):aj:={w with r:={w.r with Shelf:=⟨(cG w.r.Shelf.L id).1⟩},l:=w.l++(cG w.r.Shelf.L id).2.map λp=>⟨3,p⟩}
theorem BA (L:List ah)(id:Int):(cG L id).1.length+(cG L id).2.length=L.length:=by unfold cG;dsimp only;rw [c9];exact Rn _ _
theorem abM (w:aj)(id:Int):(mW w id).l.length+(mW w id).r.Shelf.L.length=w.l.length+w.r.Shelf.L.length:=by unfold mW;dsimp only;have:=BA w.r.Shelf.L id;rw [sh,c9];omega
theorem Rv (w:aj)(id:Int)(hl:w.l.length+w.r.Shelf.L.length<=2^20):ji w id=some ((),mW w id):=by
 unfold ji;have hlen:=BA w.r.Shelf.L id;rw [drop_eq w.r.Shelf id (by omega),av];have cw:Loop (jv (((⟨(cG w.r.Shelf.L id).1⟩:aD),(cG w.r.Shelf.L id).2))) (0,(cG w.r.Shelf.L id).1,w.r.aL.cI,w.r.aL.L,w.r.aS.L,w.r.Seen,w.o.Client,w.o.Seq,w.o.Kind,w.o.Path,w.o.Value,w.o.Version,w.o.Session,w.o.Span,w.x.Client,w.x.Seq,w.x.E,w.x.Value,w.x.Version,w.x.Names,w.l)= some ((cG w.r.Shelf.L id).1,w.r.aL.cI,w.r.aL.L,w.r.aS.L,w.r.Seen,w.o.Client,w.o.Seq,w.o.Kind,w.o.Path,w.o.Value,w.o.Version,w.o.Session,w.o.Span,w.x.Client,w.x.Seq,w.x.E,w.x.Value,w.x.Version,w.x.Names,w.l++(cG w.r.Shelf.L id).2.map λp=>(⟨3,p⟩:aG)):=by
  refine aO.eq (aO.count (λk=>((k:Int),(cG w.r.Shelf.L id).1,w.r.aL.cI,w.r.aL.L,w.r.aS.L,w.r.Seen,w.o.Client,w.o.Seq,w.o.Kind,w.o.Path,w.o.Value,w.o.Version,w.o.Session,w.o.Span,w.x.Client,w.x.Seq,w.x.E,w.x.Value,w.x.Version,w.x.Names,w.l++((cG w.r.Shelf.L id).2.take k).map λp=>(⟨3,p⟩:aG))) (cG w.r.Shelf.L id).2.length (λ_=>True) (by simp) trivial (λk hk _=> ?_) (λ_=> ?_))
  ·unfold jv;dsimp only;rw [if_pos (by omega),ba hk,if_pos (by simp only [sh,c9,List.length_take,AI,AT];omega),wrap64 (by omega) (by omega),ta hk];refine .mk ⟨?_,trivial⟩;simp
  ·unfold jv;dsimp only;rw [if_neg (by omega),AS];exact .mk rfl
 exact aQ cw rfl
def fD (w:aj)(ids:List Int):aj:=ids.foldl mW w
theorem FK (ids:List Int): ∀w,(fD w ids).l.length+(fD w ids).r.Shelf.L.length=w.l.length+w.r.Shelf.L.length:=by
 unfold fD;induction ids with
 |nil=>intro w;rfl
 |cons i ids ih=>intro w;rw [List.foldl_cons,ih,abM]
def afc (w:aj):(List ah)×Int×(List aE)×(List aq)×(List ai)×Int×Int×Int×(List UInt8)×(List UInt8)×Int×Int×Int×Int×Int×Int×(List UInt8)×Int×(List (List UInt8))×(List aG):=(w.r.Shelf.L,w.r.aL.cI,w.r.aL.L,w.r.aS.L,w.r.Seen,w.o.Client,w.o.Seq,w.o.Kind,w.o.Path,w.o.Value,w.o.Version,w.o.Session,w.o.Span,w.x.Client,w.x.Seq,w.x.E,w.x.Value,w.x.Version,w.x.Names,w.l)
theorem abN (w:aj)(p:aK×(List Int)×Int)(hl:w.l.length+w.r.Shelf.L.length<=2^20)(h2:p.2.1.length<=2^20):Loop (jx p) (0,afc w)=some (afc (fD w p.2.1)):=by
 refine aO.eq (aO.count (λk=>((k:Int),afc (fD w (p.2.1.take k)))) p.2.1.length (λ_=>True) (by simp [fD]) trivial (λk hk _=> ?_) (λ_=> ?_))
 ·have hd:=Rv (fD w (p.2.1.take k)) p.2.1[k] (by rw [FK];exact hl);have hs:fD w (p.2.1.take (k+1))=mW (fD w (p.2.1.take k)) p.2.1[k]:=qB hk;rw [hs];unfold jx;dsimp only;rw [if_pos (by omega),ba hk];rw [wrap64 (by omega) (by omega)];refine .of (aQ hd rfl) ⟨?_,trivial⟩;rfl
 ·unfold jx;dsimp only;rw [if_neg (by omega),AS];exact .mk rfl
def lu (w:aj)(p:List ah×Int):aj:={w with r:={w.r with Shelf:=⟨p.1⟩},x:={w.x with E:=p.2}}
def qa (w:aj)(p:aK×Int):aj:={w with r:={w.r with aL:=p.1},x:={w.x with E:=p.2}}
def amE (w:aj)(e:Int):aj:={w with x:={w.x with E:=e}}
def yO (w:aj):aj:=if w.o.Session≠0/\fP fC w.r.aL.L w.o.Session=false then amE w 14 else sd 1 (lu w (jT w.r.Shelf.L w.o.Path w.o.Value w.o.Session))
def aiV (w:aj):aj:={w with x:={w.x with E:=(en w.r.Shelf.L w.o.Path).2,Value:=(en w.r.Shelf.L w.o.Path).1.Value,Version:=(en w.r.Shelf.L w.o.Path).1.Version}}
def MN (w:aj):aj:=if w.x.E=0 then {w with x:={w.x with Version:=(en w.r.Shelf.L w.o.Path).1.Version}} else w
def Rw (w:aj):aj:=MN (sd 2 (lu w (xm w.r.Shelf.L w.o.Path w.o.Value w.o.Version)))
def EI (w:aj):aj:=sd 3 (lu w (yN w.r.Shelf.L w.o.Path w.o.Version))
def abO (w:aj):aj:={w with x:={w.x with E:=(nD w.r.Shelf.L w.o.Path).2,Names:=(nD w.r.Shelf.L w.o.Path).1}}
def VH (w:aj):aj:=qa w (AN w.r.aL w.o.Session w.o.Span,su w.r.aL w.o.Session w.o.Span)
def OR (w:aj):aj:=qa w (qC w.r.aL w.o.Session)
def AO (w:aj):aj:=if (di w.r.aL w.o.Session).2=0 then mW (qa w (di w.r.aL w.o.Session)) w.o.Session else qa w (di w.r.aL w.o.Session)
def uv (w:aj):aj:=⟨⟨w.r.Shelf,Kp w.r.aL w.o.Span,w.r.aS,w.r.Seen⟩,w.o,⟨w.x.Client,w.x.Seq,0,w.x.Value,w.o.Span,w.x.Names⟩,w.l⟩
def GF (w:aj):aj:=if pZ w.r.aL w.o.Span=0 then fD (uv w) (p0 w.r.aL w.o.Span) else amE w (pZ w.r.aL w.o.Span)
def iF (o:ar):aq:=⟨o.Path,o.Client,decide (o.Kind=11)⟩
def OS (w:aj):aj:={w with r:={w.r with aS:=⟨(rO w.r.aS.L (iF w.o)).1⟩},x:={w.x with E:=(rO w.r.aS.L (iF w.o)).2}}
structure eH (r:ap):Prop where
 shelf:ga r.Shelf.L
 book:jN r.aL
 table:Kn r.aS.L
theorem TW {w:aj}(h:eH w.r)(hl:w.l.length<=2^20):jr w=some ((),yO w):=by
 have hlen:=h.shelf.len;unfold jr yO;have agz:(bd (mI w.r.Shelf w.o.Path w.o.Value w.o.Session) λaT=>bd (ee (⟨(⟨aT.1,w.r.aL,w.r.aS,w.r.Seen⟩:ap),w.o,(⟨w.x.Client,w.x.Seq,aT.2,w.x.Value,w.x.Version,w.x.Names⟩:ai),w.l⟩:aj) 1) λcf=>some ((),cf.2))=some ((),sd 1 (lu w (jT w.r.Shelf.L w.o.Path w.o.Value w.o.Session))):=by rw [Xr h.shelf.ord (by omega),av];exact aQ (CT (lu w (jT w.r.Shelf.L w.o.Path w.o.Value w.o.Session)) 1 hl) rfl
 by_cases hs:w.o.Session=0
 ·rw [decide_eq_true hs,if_neg (by decide),av,if_neg (by decide),agz,if_neg (λhh=>hh.1 hs)]
 ·rw [decide_eq_false hs,if_pos (show (!false)=true from rfl),aiS h.book,av,av];cases hh:fP fC w.r.aL.L w.o.Session with
  |false=>rw [if_pos (show (!false)=true from rfl),if_pos ⟨hs,rfl⟩];rfl
  |true=>rw [if_neg (by decide),agz,if_neg (λhq=>by cases hq.2)]
theorem afd {w:aj}(h:eH w.r):mc w=some ((),aiV w):=by have hlen:=h.shelf.len;unfold mc aiV;rw [get_eq h.shelf.ord (by omega),av]
theorem afe {w:aj}(h:eH w.r)(hl:w.l.length<=2^20):mf w=some ((),Rw w):=by
 have hlen:=h.shelf.len;unfold mf Rw;rw [aiQ h.shelf,av];refine aQ (CT (lu w (xm w.r.Shelf.L w.o.Path w.o.Value w.o.Version)) 2 hl) ?_;rw [av];dsimp only;have mR:ga (sd 2 (lu w (xm w.r.Shelf.L w.o.Path w.o.Value w.o.Version))).r.Shelf.L:=by
  have:(sd 2 (lu w (xm w.r.Shelf.L w.o.Path w.o.Value w.o.Version))).r.Shelf.L=(xm w.r.Shelf.L w.o.Path w.o.Value w.o.Version).1:=by unfold sd;split<;>rfl
  rw [this];exact OM h.shelf _ _ _
 generalize sd 2 (lu w (xm w.r.Shelf.L w.o.Path w.o.Value w.o.Version))=v at mR;have rT:=mR.len;unfold MN;by_cases he:v.x.E=0
 ·rw [if_pos he,get_eq mR.ord (by omega),av,av,if_pos he]
 ·rw [if_neg he,av,if_neg he]
theorem TX {w:aj}(h:eH w.r)(hl:w.l.length<=2^20):ju w=some ((),EI w):=by unfold ju EI;rw [del_eq h.shelf,av];exact aQ (CT (lu w (yN w.r.Shelf.L w.o.Path w.o.Version)) 3 hl) rfl
theorem abP {w:aj}(h:eH w.r):kW w=some ((),abO w):=by have hlen:=h.shelf.len;unfold kW abO;rw [aeW h.shelf.ord (by omega),av]
theorem abQ {w:aj}(h:eH w.r):kX w=some ((),VH w):=by unfold kX VH;rw [ae8 h.book,av];rfl
theorem XG {w:aj}(h:eH w.r):j6 w=some ((),OR w):=by unfold j6 OR;rw [abJ h.book,av];rfl
theorem XH {w:aj}(h:eH w.r)(hl:w.l.length+w.r.Shelf.L.length<=2^20):j7 w=some ((),AO w):=by
 unfold j7 AO;rw [abK h.book,av];by_cases he:(di w.r.aL w.o.Session).2=0
 ·rw [if_pos he,if_pos he];have hd:=Rv (qa w (di w.r.aL w.o.Session)) w.o.Session hl;exact aQ (y:=some (afc (mW (qa w (di w.r.aL w.o.Session)) w.o.Session))) (aQ hd rfl) rfl
 ·rw [if_neg he,if_neg he];rfl
theorem abR {w:aj}(h:eH w.r)(hl:w.l.length+w.r.Shelf.L.length<=2^20):kY w=some ((),GF w):=by
 have hlen:=h.book.len;unfold kY GF;rw [ae9 h.book,av];by_cases he:pZ w.r.aL w.o.Span=0
 ·rw [if_pos he,if_pos he];dsimp only;rw [decide_eq_true rfl,if_neg (by decide)];have hg:(p0 w.r.aL w.o.Span).length<=w.r.aL.L.length:=by unfold p0;rw [c9];exact List.length_filter_le _ _
  have ht:=abN (uv w) (Kp w.r.aL w.o.Span,p0 w.r.aL w.o.Span,0) hl (by dsimp only;omega);exact aQ ht rfl
 ·rw [if_neg he,if_neg he];dsimp only;rw [decide_eq_false he,if_pos (show (!false)=true from rfl)];rfl
theorem MO {w:aj}(h:eH w.r):j8 w=some ((),OS w):=by have hlen:=h.table.len;unfold j8 OS;rw [show sZ w.r.aS (⟨w.o.Path,w.o.Client,decide (w.o.Kind=11)⟩:aq)=some (⟨(rO w.r.aS.L (iF w.o)).1⟩,(rO w.r.aS.L (iF w.o)).2) from abH w.r.aS.L (iF w.o) (by omega),av]
def AP (w:aj):aj:=if w.o.Kind=0 then w else if w.o.Kind=1 then yO w else if w.o.Kind=2 then aiV w else if w.o.Kind=3 then Rw w else if w.o.Kind=4 then EI w else if w.o.Kind=5 then abO w
 else if w.o.Kind=6 then VH w else if w.o.Kind=7 then OR w else if w.o.Kind=8 then AO w else if w.o.Kind=9 then GF w else OS w
theorem aff {w:aj}(h:eH w.r)(hl:w.l.length+w.r.Shelf.L.length<=2^20)(hk:0<=w.o.Kind/\w.o.Kind<=11) {β:Type}(K:Unit×aj->Option β): (bd tz λaT=>ix aT w.o.Kind λy=>bd (nt y w) K)=K ((),AP w):=by
 unfold tz;rw [av];obtain ⟨n,hn⟩: ∃n:Nat,w.o.Kind=(n:Int):=⟨w.o.Kind.toNat,by omega⟩
 have amF:n<12:=by omega
 have A3:w.l.length<=2^20:=by omega
 unfold AP;rw [hn];rw [ba (by simpa using amF)];unfold nt;match n,amF with
 |0,_=>rfl
 |1,_=>exact aQ (TW h A3) rfl
 |2,_=>exact aQ (afd h) rfl
 |3,_=>exact aQ (afe h A3) rfl
 |4,_=>exact aQ (TX h A3) rfl
 |5,_=>exact aQ (abP h) rfl
 |6,_=>exact aQ (abQ h) rfl
 |7,_=>exact aQ (XG h) rfl
 |8,_=>exact aQ (XH h hl) rfl
 |9,_=>exact aQ (abR h hl) rfl
 |10,_=>exact aQ (MO h) rfl
 |11,_=>exact aQ (MO h) rfl
end Dn.S
