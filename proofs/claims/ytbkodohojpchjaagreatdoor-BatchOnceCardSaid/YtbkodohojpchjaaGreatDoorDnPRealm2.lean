import Derived.Test.YtbkodohojpchjaaGreatDoorDnPRealm
/- Realms: what an order does. Conditions: none. -/
set_option linter.unusedVariables false
set_option linter.unusedSimpArgs false
open List renaming length_map→bN,length_append→sh,length_cons→AI,take_length→AS,length_nil→AT
open Go Dn
namespace Dn.S
theorem dZ {α β:Type}{x y:Option α}{K:α->Option β}{z:Option β}(h:x=y)(h2:bd y K=z):bd x K=z:=h▸h2
def vY (k:Int)(w:ah):ah:=if w.x.E=0 then {w with l:=w.l++[⟨k,w.o.Path⟩]} else w
theorem Cw (w:ah)(k:Int)(hl:w.l.length<=2^20):dy w k=some ((),vY k w):=by
 unfold dy vY;by_cases h:w.x.E=0
 ·rw [if_pos h,if_pos (by simp only [AI,AT];omega),az,if_pos h]
 ·rw [if_neg h,az,if_neg h]
def Ax (w:ah)(id:Int):ah:={w with r:={w.r with Shelf:=⟨(dv w.r.Shelf.L id).1⟩},l:=w.l++(dv w.r.Shelf.L id).2.map λp=>⟨3,p⟩}
theorem EY (L:List af)(id:Int):(dv L id).1.length+(dv L id).2.length=L.length:=by unfold dv;dsimp only;rw [bN];exact QI _ _
theorem abh (w:ah)(id:Int):(Ax w id).l.length+(Ax w id).r.Shelf.L.length=w.l.length+w.r.Shelf.L.length:=by unfold Ax;dsimp only;have:=EY w.r.Shelf.L id;rw [sh,bN];omega
theorem QN (w:ah)(id:Int)(hl:w.l.length+w.r.Shelf.L.length<=2^20):iW w id=some ((),Ax w id):=by
 unfold iW;have hlen:=EY w.r.Shelf.L id;rw [drop_eq w.r.Shelf id (by omega),az];have ke:Loop (jn (((⟨(dv w.r.Shelf.L id).1⟩:aC),(dv w.r.Shelf.L id).2))) (0,(dv w.r.Shelf.L id).1,w.r.ca.iT,w.r.ca.L,w.r.bJ.L,w.r.Seen,w.o.Client,w.o.Seq,w.o.Kind,w.o.Path,w.o.Value,w.o.Version,w.o.Session,w.o.Span,w.x.Client,w.x.Seq,w.x.E,w.x.Value,w.x.Version,w.x.Names,w.l)= some ((dv w.r.Shelf.L id).1,w.r.ca.iT,w.r.ca.L,w.r.bJ.L,w.r.Seen,w.o.Client,w.o.Seq,w.o.Kind,w.o.Path,w.o.Value,w.o.Version,w.o.Session,w.o.Span,w.x.Client,w.x.Seq,w.x.E,w.x.Value,w.x.Version,w.x.Names,w.l++(dv w.r.Shelf.L id).2.map λp=>(⟨3,p⟩:aD)):=by
  refine bG.eq (bG.count (λk=>((k:Int),(dv w.r.Shelf.L id).1,w.r.ca.iT,w.r.ca.L,w.r.bJ.L,w.r.Seen,w.o.Client,w.o.Seq,w.o.Kind,w.o.Path,w.o.Value,w.o.Version,w.o.Session,w.o.Span,w.x.Client,w.x.Seq,w.x.E,w.x.Value,w.x.Version,w.x.Names,w.l++((dv w.r.Shelf.L id).2.take k).map λp=>(⟨3,p⟩:aD))) (dv w.r.Shelf.L id).2.length (λ_=>True) (by simp) trivial (λk hk _=> ?_) (λ_=> ?_))
  ·unfold jn;dsimp only;rw [if_pos (by omega),b7 hk,if_pos (by simp only [sh,bN,List.length_take,AI,AT];omega),wrap64 (by omega) (by omega),WT hk];refine .mk ⟨?_,trivial⟩;simp
  ·unfold jn;dsimp only;rw [if_neg (by omega),AS];exact .mk rfl
 exact dZ ke rfl
def mz (w:ah)(ids:List Int):ah:=ids.foldl Ax w
theorem MO (ids:List Int): ∀w,(mz w ids).l.length+(mz w ids).r.Shelf.L.length=w.l.length+w.r.Shelf.L.length:=by
 unfold mz;induction ids with
 |nil=>intro w;rfl
 |cons i ids ih=>intro w;rw [List.foldl_cons,ih,abh]
def aeE (w:ah):(List af)×Int×(List aw)×(List ar)×(List ae)×Int×Int×Int×(List UInt8)×(List UInt8)×Int×Int×Int×Int×Int×Int×(List UInt8)×Int×(List (List UInt8))×(List aD):=(w.r.Shelf.L,w.r.ca.iT,w.r.ca.L,w.r.bJ.L,w.r.Seen,w.o.Client,w.o.Seq,w.o.Kind,w.o.Path,w.o.Value,w.o.Version,w.o.Session,w.o.Span,w.x.Client,w.x.Seq,w.x.E,w.x.Value,w.x.Version,w.x.Names,w.l)
theorem abi (w:ah)(p:aF×(List Int)×Int)(hl:w.l.length+w.r.Shelf.L.length<=2^20)(h2:p.2.1.length<=2^20):Loop (jo p) (0,aeE w)=some (aeE (mz w p.2.1)):=by
 refine bG.eq (bG.count (λk=>((k:Int),aeE (mz w (p.2.1.take k)))) p.2.1.length (λ_=>True) (by simp [mz]) trivial (λk hk _=> ?_) (λ_=> ?_))
 ·have hd:=QN (mz w (p.2.1.take k)) p.2.1[k] (by rw [MO];exact hl);have hs:mz w (p.2.1.take (k+1))=Ax (mz w (p.2.1.take k)) p.2.1[k]:=Cv hk;rw [hs];unfold jo;dsimp only;rw [if_pos (by omega),b7 hk];rw [wrap64 (by omega) (by omega)];refine .of (dZ hd rfl) ⟨?_,trivial⟩;rfl
 ·unfold jo;dsimp only;rw [if_neg (by omega),AS];exact .mk rfl
def ql (w:ah)(p:List af×Int):ah:={w with r:={w.r with Shelf:=⟨p.1⟩},x:={w.x with E:=p.2}}
def JZ (w:ah)(p:aF×Int):ah:={w with r:={w.r with ca:=p.1},x:={w.x with E:=p.2}}
def amh (w:ah)(e:Int):ah:={w with x:={w.x with E:=e}}
def Bc (w:ah):ah:=if w.o.Session≠0/\kY mw w.r.ca.L w.o.Session=false then amh w 14 else vY 1 (ql w (vi w.r.Shelf.L w.o.Path w.o.Value w.o.Session))
def ahZ (w:ah):ah:={w with x:={w.x with E:=(lq w.r.Shelf.L w.o.Path).2,Value:=(lq w.r.Shelf.L w.o.Path).1.Value,Version:=(lq w.r.Shelf.L w.o.Path).1.Version}}
def QO (w:ah):ah:=if w.x.E=0 then {w with x:={w.x with Version:=(lq w.r.Shelf.L w.o.Path).1.Version}} else w
def WY (w:ah):ah:=QO (vY 2 (ql w (DR w.r.Shelf.L w.o.Path w.o.Value w.o.Version)))
def GZ (w:ah):ah:=vY 3 (ql w (Ot w.r.Shelf.L w.o.Path w.o.Version))
def abj (w:ah):ah:={w with x:={w.x with E:=(JT w.r.Shelf.L w.o.Path).2,Names:=(JT w.r.Shelf.L w.o.Path).1}}
def abk (w:ah):ah:=JZ w (F5 w.r.ca w.o.Session w.o.Span,wX w.r.ca w.o.Session w.o.Span)
def S1 (w:ah):ah:=JZ w (EX w.r.ca w.o.Session)
def EZ (w:ah):ah:=if (uk w.r.ca w.o.Session).2=0 then Ax (JZ w (uk w.r.ca w.o.Session)) w.o.Session else JZ w (uk w.r.ca w.o.Session)
def Ay (w:ah):ah:=⟨⟨w.r.Shelf,UU w.r.ca w.o.Span,w.r.bJ,w.r.Seen⟩,w.o,⟨w.x.Client,w.x.Seq,0,w.x.Value,w.o.Span,w.x.Names⟩,w.l⟩
def MP (w:ah):ah:=if F6 w.r.ca w.o.Span=0 then mz (Ay w) (BS w.r.ca w.o.Span) else amh w (F6 w.r.ca w.o.Span)
def vk (o:aa):ar:=⟨o.Path,o.Client,decide (o.Kind=11)⟩
def S2 (w:ah):ah:={w with r:={w.r with bJ:=⟨(EW w.r.bJ.L (vk w.o)).1⟩},x:={w.x with E:=(EW w.r.bJ.L (vk w.o)).2}}
structure eA (r:al):Prop where
 shelf:kL r.Shelf.L
 book:my r.ca
 table:JX r.bJ.L
theorem S3 {w:ah}(h:eA w.r)(hl:w.l.length<=2^20):jj w=some ((),Bc w):=by
 have hlen:=h.shelf.len;unfold jj Bc;have afU:(bd (mE w.r.Shelf w.o.Path w.o.Value w.o.Session) λaY=>bd (dy (⟨(⟨aY.1,w.r.ca,w.r.bJ,w.r.Seen⟩:al),w.o,(⟨w.x.Client,w.x.Seq,aY.2,w.x.Value,w.x.Version,w.x.Names⟩:ae),w.l⟩:ah) 1) λda=>some ((),da.2))=some ((),vY 1 (ql w (vi w.r.Shelf.L w.o.Path w.o.Value w.o.Session))):=by rw [WL h.shelf.ord (by omega),az];exact dZ (Cw (ql w (vi w.r.Shelf.L w.o.Path w.o.Value w.o.Session)) 1 hl) rfl
 by_cases hs:w.o.Session=0
 ·rw [decide_eq_true hs,if_neg (by decide),az,if_neg (by decide),afU,if_neg (λhh=>hh.1 hs)]
 ·rw [decide_eq_false hs,if_pos (show (!false)=true from rfl),ahX h.book,az,az];cases hh:kY mw w.r.ca.L w.o.Session with
  |false=>rw [if_pos (show (!false)=true from rfl),if_pos ⟨hs,rfl⟩];rfl
  |true=>rw [if_neg (by decide),afU,if_neg (λhq=>by cases hq.2)]
theorem aeF {w:ah}(h:eA w.r):lZ w=some ((),ahZ w):=by have hlen:=h.shelf.len;unfold lZ ahZ;rw [get_eq h.shelf.ord (by omega),az]
theorem aeG {w:ah}(h:eA w.r)(hl:w.l.length<=2^20):ma w=some ((),WY w):=by
 have hlen:=h.shelf.len;unfold ma WY;rw [ahV h.shelf,az];refine dZ (Cw (ql w (DR w.r.Shelf.L w.o.Path w.o.Value w.o.Version)) 2 hl) ?_;rw [az];dsimp only;have oT:kL (vY 2 (ql w (DR w.r.Shelf.L w.o.Path w.o.Value w.o.Version))).r.Shelf.L:=by
  have:(vY 2 (ql w (DR w.r.Shelf.L w.o.Path w.o.Value w.o.Version))).r.Shelf.L=(DR w.r.Shelf.L w.o.Path w.o.Value w.o.Version).1:=by unfold vY;split<;>rfl
  rw [this];exact UR h.shelf _ _ _
 generalize vY 2 (ql w (DR w.r.Shelf.L w.o.Path w.o.Value w.o.Version))=v at oT;have pI:=oT.len;unfold QO;by_cases he:v.x.E=0
 ·rw [if_pos he,get_eq oT.ord (by omega),az,az,if_pos he]
 ·rw [if_neg he,az,if_neg he]
theorem S4 {w:ah}(h:eA w.r)(hl:w.l.length<=2^20):jm w=some ((),GZ w):=by unfold jm GZ;rw [del_eq h.shelf,az];exact dZ (Cw (ql w (Ot w.r.Shelf.L w.o.Path w.o.Version)) 3 hl) rfl
theorem abl {w:ah}(h:eA w.r):kR w=some ((),abj w):=by have hlen:=h.shelf.len;unfold kR abj;rw [aes h.shelf.ord (by omega),az]
theorem abm {w:ah}(h:eA w.r):kS w=some ((),abk w):=by unfold kS abk;rw [aeA h.book,az];rfl
theorem WZ {w:ah}(h:eA w.r):j0 w=some ((),S1 w):=by unfold j0 S1;rw [abe h.book,az];rfl
theorem W9 {w:ah}(h:eA w.r)(hl:w.l.length+w.r.Shelf.L.length<=2^20):j6 w=some ((),EZ w):=by
 unfold j6 EZ;rw [abf h.book,az];by_cases he:(uk w.r.ca w.o.Session).2=0
 ·rw [if_pos he,if_pos he];have hd:=QN (JZ w (uk w.r.ca w.o.Session)) w.o.Session hl;exact dZ (y:=some (aeE (Ax (JZ w (uk w.r.ca w.o.Session)) w.o.Session))) (dZ hd rfl) rfl
 ·rw [if_neg he,if_neg he];rfl
theorem abn {w:ah}(h:eA w.r)(hl:w.l.length+w.r.Shelf.L.length<=2^20):kT w=some ((),MP w):=by
 have hlen:=h.book.len;unfold kT MP;rw [aeB h.book,az];by_cases he:F6 w.r.ca w.o.Span=0
 ·rw [if_pos he,if_pos he];dsimp only;rw [decide_eq_true rfl,if_neg (by decide)];have hg:(BS w.r.ca w.o.Span).length<=w.r.ca.L.length:=by unfold BS;rw [bN];exact List.length_filter_le _ _
  have ht:=abi (Ay w) (UU w.r.ca w.o.Span,BS w.r.ca w.o.Span,0) hl (by dsimp only;omega);exact dZ ht rfl
 ·rw [if_neg he,if_neg he];dsimp only;rw [decide_eq_false he,if_pos (show (!false)=true from rfl)];rfl
theorem MQ {w:ah}(h:eA w.r):j7 w=some ((),S2 w):=by have hlen:=h.table.len;unfold j7 S2;rw [show sB w.r.bJ (⟨w.o.Path,w.o.Client,decide (w.o.Kind=11)⟩:ar)=some (⟨(EW w.r.bJ.L (vk w.o)).1⟩,(EW w.r.bJ.L (vk w.o)).2) from abb w.r.bJ.L (vk w.o) (by omega),az]
def S5 (w:ah):ah:=if w.o.Kind=0 then w else if w.o.Kind=1 then Bc w else if w.o.Kind=2 then ahZ w else if w.o.Kind=3 then WY w else if w.o.Kind=4 then GZ w else if w.o.Kind=5 then abj w
 else if w.o.Kind=6 then abk w else if w.o.Kind=7 then S1 w else if w.o.Kind=8 then EZ w else if w.o.Kind=9 then MP w else S2 w
theorem aeH {w:ah}(h:eA w.r)(hl:w.l.length+w.r.Shelf.L.length<=2^20)(hk:0<=w.o.Kind/\w.o.Kind<=11) {β:Type}(K:Unit×ah->Option β): (bd td λaY=>ix aY w.o.Kind λy=>bd (nu y w) K)=K ((),S5 w):=by
 unfold td;rw [az];obtain ⟨n,hn⟩: ∃n:Nat,w.o.Kind=(n:Int):=⟨w.o.Kind.toNat,by omega⟩
 have ami:n<12:=by omega
 have CE:w.l.length<=2^20:=by omega
 unfold S5;rw [hn];rw [b7 (by simpa using ami)];unfold nu;match n,ami with
 |0,_=>rfl
 |1,_=>exact dZ (S3 h CE) rfl
 |2,_=>exact dZ (aeF h) rfl
 |3,_=>exact dZ (aeG h CE) rfl
 |4,_=>exact dZ (S4 h CE) rfl
 |5,_=>exact dZ (abl h) rfl
 |6,_=>exact dZ (abm h) rfl
 |7,_=>exact dZ (WZ h) rfl
 |8,_=>exact dZ (W9 h hl) rfl
 |9,_=>exact dZ (abn h hl) rfl
 |10,_=>exact dZ (MQ h) rfl
 |11,_=>exact dZ (MQ h) rfl
end Dn.S
