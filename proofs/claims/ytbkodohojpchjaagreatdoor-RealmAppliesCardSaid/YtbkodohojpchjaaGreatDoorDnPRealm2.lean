import Derived.Test.YtbkodohojpchjaaGreatDoorDnPRealm
/-
  Realms: what an order does. Conditions: none.
-/
set_option linter.unusedVariables false
set_option linter.unusedSimpArgs false
open List renaming length_map→c8,length_append→sh,length_cons→AI,take_length→AS,length_nil→AT
open Go Dn
namespace Dn.S
theorem aX {α β:Type}{x y:Option α}{K:α->Option β}{z:Option β}(h:x=y)(h2:bd y K=z):bd x K=z:=h▸h2
def r6 (k:Int)(w:ai):ai:=if w.x.E=0 then {w with l:=w.l++[⟨k,w.o.Path⟩]} else w
theorem Db (w:ai)(k:Int)(hl:w.l.length<=2^20):ee w k=some ((),r6 k w):=by
 unfold ee r6;by_cases h:w.x.E=0
 ·rw [if_pos h,if_pos (by simp only [AI,AT];omega),al,if_pos h]
 ·rw [if_neg h,al,if_neg h]
def mZ (w:ai)(id:Int):ai:={w with r:={w.r with Shelf:=⟨(cH w.r.Shelf.L id).1⟩},l:=w.l++(cH w.r.Shelf.L id).2.map λp=>⟨3,p⟩}
theorem BS (L:List af)(id:Int):(cH L id).1.length+(cH L id).2.length=L.length:=by unfold cH;dsimp only;rw [c8];exact Ru _ _
theorem ab7 (w:ai)(id:Int):(mZ w id).l.length+(mZ w id).r.Shelf.L.length=w.l.length+w.r.Shelf.L.length:=by unfold mZ;dsimp only;have:=BS w.r.Shelf.L id;rw [sh,c8];omega
theorem RE (w:ai)(id:Int)(hl:w.l.length+w.r.Shelf.L.length<=2^20):jh w id=some ((),mZ w id):=by
 unfold jh;have hlen:=BS w.r.Shelf.L id;rw [drop_eq w.r.Shelf id (by omega),al];have cV:Loop (ju (((⟨(cH w.r.Shelf.L id).1⟩:aA),(cH w.r.Shelf.L id).2))) (0,(cH w.r.Shelf.L id).1,w.r.aN.ct,w.r.aN.L,w.r.aR.L,w.r.Seen,w.o.Client,w.o.Seq,w.o.Kind,w.o.Path,w.o.Value,w.o.Version,w.o.Session,w.o.Span,w.x.Client,w.x.Seq,w.x.E,w.x.Value,w.x.Version,w.x.Names,w.l)= some ((cH w.r.Shelf.L id).1,w.r.aN.ct,w.r.aN.L,w.r.aR.L,w.r.Seen,w.o.Client,w.o.Seq,w.o.Kind,w.o.Path,w.o.Value,w.o.Version,w.o.Session,w.o.Span,w.x.Client,w.x.Seq,w.x.E,w.x.Value,w.x.Version,w.x.Names,w.l++(cH w.r.Shelf.L id).2.map λp=>(⟨3,p⟩:aF)):=by
  refine aM.eq (aM.count (λk=>((k:Int),(cH w.r.Shelf.L id).1,w.r.aN.ct,w.r.aN.L,w.r.aR.L,w.r.Seen,w.o.Client,w.o.Seq,w.o.Kind,w.o.Path,w.o.Value,w.o.Version,w.o.Session,w.o.Span,w.x.Client,w.x.Seq,w.x.E,w.x.Value,w.x.Version,w.x.Names,w.l++((cH w.r.Shelf.L id).2.take k).map λp=>(⟨3,p⟩:aF))) (cH w.r.Shelf.L id).2.length (λ_=>True) (by simp) trivial (λk hk _=> ?_) (λ_=> ?_))
  ·unfold ju;dsimp only;rw [if_pos (by omega),aP hk,if_pos (by simp only [sh,c8,List.length_take,AI,AT];omega),wrap64 (by omega) (by omega),ta hk];refine .mk ⟨?_,trivial⟩;simp
  ·unfold ju;dsimp only;rw [if_neg (by omega),AS];exact .mk rfl
 exact aX cV rfl
def fE (w:ai)(ids:List Int):ai:=ids.foldl mZ w
theorem FQ (ids:List Int): ∀w,(fE w ids).l.length+(fE w ids).r.Shelf.L.length=w.l.length+w.r.Shelf.L.length:=by
 unfold fE;induction ids with
 |nil=>intro w;rfl
 |cons i ids ih=>intro w;rw [List.foldl_cons,ih,ab7]
def afm (w:ai):(List af)×Int×(List aC)×(List aq)×(List aj)×Int×Int×Int×(List UInt8)×(List UInt8)×Int×Int×Int×Int×Int×Int×(List UInt8)×Int×(List (List UInt8))×(List aF):=(w.r.Shelf.L,w.r.aN.ct,w.r.aN.L,w.r.aR.L,w.r.Seen,w.o.Client,w.o.Seq,w.o.Kind,w.o.Path,w.o.Value,w.o.Version,w.o.Session,w.o.Span,w.x.Client,w.x.Seq,w.x.E,w.x.Value,w.x.Version,w.x.Names,w.l)
theorem ab8 (w:ai)(p:aK×(List Int)×Int)(hl:w.l.length+w.r.Shelf.L.length<=2^20)(h2:p.2.1.length<=2^20):Loop (jv p) (0,afm w)=some (afm (fE w p.2.1)):=by
 refine aM.eq (aM.count (λk=>((k:Int),afm (fE w (p.2.1.take k)))) p.2.1.length (λ_=>True) (by simp [fE]) trivial (λk hk _=> ?_) (λ_=> ?_))
 ·have hd:=RE (fE w (p.2.1.take k)) p.2.1[k] (by rw [FQ];exact hl);have hs:fE w (p.2.1.take (k+1))=mZ (fE w (p.2.1.take k)) p.2.1[k]:=y8 hk;rw [hs];unfold jv;dsimp only;rw [if_pos (by omega),aP hk];rw [wrap64 (by omega) (by omega)];refine .of (aX hd rfl) ⟨?_,trivial⟩;rfl
 ·unfold jv;dsimp only;rw [if_neg (by omega),AS];exact .mk rfl
def lp (w:ai)(p:List af×Int):ai:={w with r:={w.r with Shelf:=⟨p.1⟩},x:={w.x with E:=p.2}}
def p0 (w:ai)(p:aK×Int):ai:={w with r:={w.r with aN:=p.1},x:={w.x with E:=p.2}}
def amW (w:ai)(e:Int):ai:={w with x:={w.x with E:=e}}
def y9 (w:ai):ai:=if w.o.Session≠0/\fR fD w.r.aN.L w.o.Session=false then amW w 14 else r6 1 (lp w (jT w.r.Shelf.L w.o.Path w.o.Value w.o.Session))
def ai8 (w:ai):ai:={w with x:={w.x with E:=(eo w.r.Shelf.L w.o.Path).2,Value:=(eo w.r.Shelf.L w.o.Path).1.Value,Version:=(eo w.r.Shelf.L w.o.Path).1.Version}}
def M1 (w:ai):ai:=if w.x.E=0 then {w with x:={w.x with Version:=(eo w.r.Shelf.L w.o.Path).1.Version}} else w
def RF (w:ai):ai:=M1 (r6 2 (lp w (xx w.r.Shelf.L w.o.Path w.o.Value w.o.Version)))
def EQ (w:ai):ai:=r6 3 (lp w (yZ w.r.Shelf.L w.o.Path w.o.Version))
def ab9 (w:ai):ai:={w with x:={w.x with E:=(nI w.r.Shelf.L w.o.Path).2,Names:=(nI w.r.Shelf.L w.o.Path).1}}
def VY (w:ai):ai:=p0 w (A7 w.r.aN w.o.Session w.o.Span,sd w.r.aN w.o.Session w.o.Span)
def OU (w:ai):ai:=p0 w (qw w.r.aN w.o.Session)
def A8 (w:ai):ai:=if (di w.r.aN w.o.Session).2=0 then mZ (p0 w (di w.r.aN w.o.Session)) w.o.Session else p0 w (di w.r.aN w.o.Session)
def ux (w:ai):ai:=⟨⟨w.r.Shelf,Km w.r.aN w.o.Span,w.r.aR,w.r.Seen⟩,w.o,⟨w.x.Client,w.x.Seq,0,w.x.Value,w.o.Span,w.x.Names⟩,w.l⟩
def GG (w:ai):ai:=if pY w.r.aN w.o.Span=0 then fE (ux w) (pZ w.r.aN w.o.Span) else amW w (pY w.r.aN w.o.Span)
def iF (o:aB):aq:=⟨o.Path,o.Client,decide (o.Kind=11)⟩
def OV (w:ai):ai:={w with r:={w.r with aR:=⟨(rJ w.r.aR.L (iF w.o)).1⟩},x:={w.x with E:=(rJ w.r.aR.L (iF w.o)).2}}
structure eF (r:au):Prop where
 shelf:fN r.Shelf.L
 book:iD r.aN
 table:FP r.aR.L
theorem Ug {w:ai}(h:eF w.r)(hl:w.l.length<=2^20):jq w=some ((),y9 w):=by
 have hlen:=h.shelf.len;unfold jq y9;have agL:(bd (mL w.r.Shelf w.o.Path w.o.Value w.o.Session) λaT=>bd (ee (⟨(⟨aT.1,w.r.aN,w.r.aR,w.r.Seen⟩:au),w.o,(⟨w.x.Client,w.x.Seq,aT.2,w.x.Value,w.x.Version,w.x.Names⟩:aj),w.l⟩:ai) 1) λca=>some ((),ca.2))=some ((),r6 1 (lp w (jT w.r.Shelf.L w.o.Path w.o.Value w.o.Session))):=by rw [XL h.shelf.ord (by omega),al];exact aX (Db (lp w (jT w.r.Shelf.L w.o.Path w.o.Value w.o.Session)) 1 hl) rfl
 by_cases hs:w.o.Session=0
 ·rw [decide_eq_true hs,if_neg (by decide),al,if_neg (by decide),agL,if_neg (λhh=>hh.1 hs)]
 ·rw [decide_eq_false hs,if_pos (show (!false)=true from rfl),ai5 h.book,al,al];cases hh:fR fD w.r.aN.L w.o.Session with
  |false=>rw [if_pos (show (!false)=true from rfl),if_pos ⟨hs,rfl⟩];rfl
  |true=>rw [if_neg (by decide),agL,if_neg (λhq=>by cases hq.2)]
theorem afn {w:ai}(h:eF w.r):mg w=some ((),ai8 w):=by have hlen:=h.shelf.len;unfold mg ai8;rw [get_eq h.shelf.ord (by omega),al]
theorem afo {w:ai}(h:eF w.r)(hl:w.l.length<=2^20):mh w=some ((),RF w):=by
 have hlen:=h.shelf.len;unfold mh RF;rw [ai3 h.shelf,al];refine aX (Db (lp w (xx w.r.Shelf.L w.o.Path w.o.Value w.o.Version)) 2 hl) ?_;rw [al];dsimp only;have kJ:fN (r6 2 (lp w (xx w.r.Shelf.L w.o.Path w.o.Value w.o.Version))).r.Shelf.L:=by
  have:(r6 2 (lp w (xx w.r.Shelf.L w.o.Path w.o.Value w.o.Version))).r.Shelf.L=(xx w.r.Shelf.L w.o.Path w.o.Value w.o.Version).1:=by unfold r6;split<;>rfl
  rw [this];exact OP h.shelf _ _ _
 generalize r6 2 (lp w (xx w.r.Shelf.L w.o.Path w.o.Value w.o.Version))=v at kJ;have rO:=kJ.len;unfold M1;by_cases he:v.x.E=0
 ·rw [if_pos he,get_eq kJ.ord (by omega),al,al,if_pos he]
 ·rw [if_neg he,al,if_neg he]
theorem Uh {w:ai}(h:eF w.r)(hl:w.l.length<=2^20):jt w=some ((),EQ w):=by unfold jt EQ;rw [del_eq h.shelf,al];exact aX (Db (lp w (yZ w.r.Shelf.L w.o.Path w.o.Version)) 3 hl) rfl
theorem aca {w:ai}(h:eF w.r):kN w=some ((),ab9 w):=by have hlen:=h.shelf.len;unfold kN ab9;rw [ae6 h.shelf.ord (by omega),al]
theorem acb {w:ai}(h:eF w.r):kO w=some ((),VY w):=by unfold kO VY;rw [afi h.book,al];rfl
theorem XZ {w:ai}(h:eF w.r):j6 w=some ((),OU w):=by unfold j6 OU;rw [ab4 h.book,al];rfl
theorem X0 {w:ai}(h:eF w.r)(hl:w.l.length+w.r.Shelf.L.length<=2^20):j7 w=some ((),A8 w):=by
 unfold j7 A8;rw [ab5 h.book,al];by_cases he:(di w.r.aN w.o.Session).2=0
 ·rw [if_pos he,if_pos he];have hd:=RE (p0 w (di w.r.aN w.o.Session)) w.o.Session hl;exact aX (y:=some (afm (mZ (p0 w (di w.r.aN w.o.Session)) w.o.Session))) (aX hd rfl) rfl
 ·rw [if_neg he,if_neg he];rfl
theorem acd {w:ai}(h:eF w.r)(hl:w.l.length+w.r.Shelf.L.length<=2^20):kP w=some ((),GG w):=by
 have hlen:=h.book.len;unfold kP GG;rw [afj h.book,al];by_cases he:pY w.r.aN w.o.Span=0
 ·rw [if_pos he,if_pos he];dsimp only;rw [decide_eq_true rfl,if_neg (by decide)];have hg:(pZ w.r.aN w.o.Span).length<=w.r.aN.L.length:=by unfold pZ;rw [c8];exact List.length_filter_le _ _
  have ht:=ab8 (ux w) (Km w.r.aN w.o.Span,pZ w.r.aN w.o.Span,0) hl (by dsimp only;omega);exact aX ht rfl
 ·rw [if_neg he,if_neg he];dsimp only;rw [decide_eq_false he,if_pos (show (!false)=true from rfl)];rfl
theorem M2 {w:ai}(h:eF w.r):j8 w=some ((),OV w):=by have hlen:=h.table.len;unfold j8 OV;rw [show s5 w.r.aR (⟨w.o.Path,w.o.Client,decide (w.o.Kind=11)⟩:aq)=some (⟨(rJ w.r.aR.L (iF w.o)).1⟩,(rJ w.r.aR.L (iF w.o)).2) from ab2 w.r.aR.L (iF w.o) (by omega),al]
def A9 (w:ai):ai:=if w.o.Kind=0 then w else if w.o.Kind=1 then y9 w else if w.o.Kind=2 then ai8 w else if w.o.Kind=3 then RF w else if w.o.Kind=4 then EQ w else if w.o.Kind=5 then ab9 w
 else if w.o.Kind=6 then VY w else if w.o.Kind=7 then OU w else if w.o.Kind=8 then A8 w else if w.o.Kind=9 then GG w else OV w
theorem afp {w:ai}(h:eF w.r)(hl:w.l.length+w.r.Shelf.L.length<=2^20)(hk:0<=w.o.Kind/\w.o.Kind<=11) {β:Type}(K:Unit×ai->Option β): (bd tz λaT=>ix aT w.o.Kind λy=>bd (nx y w) K)=K ((),A9 w):=by
 unfold tz;rw [al];obtain ⟨n,hn⟩: ∃n:Nat,w.o.Kind=(n:Int):=⟨w.o.Kind.toNat,by omega⟩
 have amX:n<12:=by omega
 have Bh:w.l.length<=2^20:=by omega
 unfold A9;rw [hn];rw [aP (by simpa using amX)];unfold nx;match n,amX with
 |0,_=>rfl
 |1,_=>exact aX (Ug h Bh) rfl
 |2,_=>exact aX (afn h) rfl
 |3,_=>exact aX (afo h Bh) rfl
 |4,_=>exact aX (Uh h Bh) rfl
 |5,_=>exact aX (aca h) rfl
 |6,_=>exact aX (acb h) rfl
 |7,_=>exact aX (XZ h) rfl
 |8,_=>exact aX (X0 h hl) rfl
 |9,_=>exact aX (acd h hl) rfl
 |10,_=>exact aX (M2 h) rfl
 |11,_=>exact aX (M2 h) rfl
end Dn.S
