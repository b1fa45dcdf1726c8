import Derived.Test.YtbkodohojpchjaaGreatDoorDnPRealm9
/-
  Realms as the document's: an order. Conditions: none.
-/
set_option linter.unusedVariables false
set_option linter.unusedSimpArgs false
open List renaming take_length→c9
open Go Dn
namespace Dn.S
def qD (o:ar):dJ:=⟨o.Client,o.Seq,o.Kind,o.Path,o.Value,o.Version,o.Session,o.Span⟩
theorem ab3 (s:List UInt8)(c:Int)(hs:s.length<2^40):iz s c=some (s.any λb=>decide ((b.toNat:Int)=c)):=by
 unfold iz;have cw:aO (Loop (z8 s c) 0) λx=>(x= .inl ()/\s.any (λb=>decide ((b.toNat:Int)=c))=false)\/(x= .inr true/\s.any (λb=>decide ((b.toNat:Int)=c))=true):=by
  refine aO.count (λk=>(k:Int)) s.length (λk=> ∀j (hj:j<s.length),j<k->((s[j]).toNat:Int)≠c) rfl (λj hj h=>by omega) (λk hk hp=> ?_) (λhp=> ?_)
  ·unfold z8;rw [if_pos (by omega),if_pos (by omega),Int.toNat_natCast,List.getD_eq_getElem?_getD,List.getElem?_eq_getElem hk,Option.getD_some];by_cases he:((s[k]).toNat:Int)=c
   ·rw [if_pos he];exact .mk (.inr ⟨rfl,List.any_eq_true.2 ⟨s[k],List.getElem_mem hk,decide_eq_true he⟩⟩)
   ·rw [if_neg he,wrap64 (by omega) (by omega)];refine .mk ⟨by omega,λj hj ZN=> ?_⟩;by_cases Ly:j=k
    ·subst Ly;exact he
    ·exact hp j hj (by omega)
  ·unfold z8;rw [if_neg (by omega)];refine .mk (.inl ⟨rfl,?_⟩);rw [List.any_eq_false];intro x hx;obtain ⟨j,hj,rfl⟩:=List.mem_iff_getElem.1 hx;simpa using hp j hj hj
 obtain ⟨x,hx,h|h⟩:=cw
 ·rw [hx,h.1,h.2];rfl
 ·rw [hx,h.1,h.2];rfl
theorem nR (o:ar)(k:Int)(u:List UInt8)(hu:z7 k=some u)(hl:u.length<2^40)(hk:o.Kind=k){v:ar}(hv:bO o=some v)(h:((decide (o.Client=v.Client))&&((decide (o.Seq=v.Seq))&&((decide (o.Kind=v.Kind))&&((decide (o.Path=v.Path))&&((decide (o.Value=v.Value))&&((decide (o.Version=v.Version))&&((decide (o.Session=v.Session))&&(decide (o.Span=v.Span)))))))))= (((u.any λb=>decide ((b.toNat:Int)=112))||decide (o.Path=[]))&&(((u.any λb=>decide ((b.toNat:Int)=118))||decide (o.Value=[]))&&(((u.any λb=>decide ((b.toNat:Int)=110))||decide (o.Version=0))&& (((u.any λb=>decide ((b.toNat:Int)=115))||decide (o.Session=0))&&((u.any λb=>decide ((b.toNat:Int)=116))||decide (o.Span=0))))))): (bd (z7 o.Kind) λrA=>bd (bd (iz rA 112) λaT=>if aT then bd (iz rA 118) λcf=>if cf then some true else some (decide (o.Value=([]:List UInt8))) else if o.Path=([]:List UInt8) then bd (iz rA 118) λfH=>if fH then some true else some (decide (o.Value=([]:List UInt8))) else some false:Option Bool) λw1=>
  bd (if w1 then bd (iz rA 110) λn0=>if n0 then bd (iz rA 115) λqn=>if qn then bd (iz rA 116) λmT=>if mT then some true else some (decide (o.Span=0)) else if o.Session=0 then bd (iz rA 116) λEO=>if EO then some true else some (decide (o.Span=0)) else some false
   else if o.Version=0 then bd (iz rA 115) λKU=>if KU then bd (iz rA 116) λKV=>if KV then some true else some (decide (o.Span=0)) else if o.Session=0 then bd (iz rA 116) λwJ=>if wJ then some true else some (decide (o.Span=0)) else some false else some false else some false:Option Bool) λw2=>some w2)=
 bd (bO o) λrA=>some ((decide (o.Client=rA.Client))&&((decide (o.Seq=rA.Seq))&&((decide (o.Kind=rA.Kind))&&((decide (o.Path=rA.Path))&&((decide (o.Value=rA.Value))&&((decide (o.Version=rA.Version))&&((decide (o.Session=rA.Session))&&(decide (o.Span=rA.Span))))))))):=by
 rw [hv,av,h,hk,hu,av];simp only [ab3 u _ hl,av];generalize (u.any λb=>decide ((b.toNat:Int)=112))=p1;generalize (u.any λb=>decide ((b.toNat:Int)=118))=p2;generalize (u.any λb=>decide ((b.toNat:Int)=110))=p3;generalize (u.any λb=>decide ((b.toNat:Int)=115))=p4;generalize (u.any λb=>decide ((b.toNat:Int)=116))=p5;by_cases q1:o.Path=[]<;>by_cases q3:o.Version=0<;>by_cases q4:o.Session=0<;>cases p1<;>cases p2<;>cases p3<;>cases p4<;>cases p5<;>simp [q1,q3,q4];all_goals (by_cases q2:o.Value=[]<;>simp [q2])
theorem XM (o:ar):DA (qD o)=some (FL o):=by
 rw [<-Rx];unfold DA mG;show (bd (if o.Client<0 then some true else if (1000:Int)<o.Client then some true else if o.Seq<1 then some true else if (1000000000:Int)<o.Seq then some true else if o.Kind<0 then some true else if (11:Int)<o.Kind then some true else if (100:Int)<(o.Path.length:Int) then some true else some (decide ((1000:Int)<(o.Value.length:Int)))) λw=>if w then some false else _)=_;by_cases h1:o.Client<0
 ·rw [if_pos h1,av,if_pos rfl,if_neg (by omega),av,if_neg (by decide),av]
 rw [if_neg h1,if_pos (show (0:Int)<=o.Client by omega)];by_cases h2:(1000:Int)<o.Client
 ·rw [if_pos h2,av,if_pos rfl,if_neg (by omega),av,if_neg (by decide),av]
 rw [if_neg h2,if_pos (show o.Client<=1000 by omega)];by_cases h3:o.Seq<1
 ·rw [if_pos h3,av,if_pos rfl,if_neg (by omega),av,if_neg (by decide),av]
 rw [if_neg h3,if_pos (show (1:Int)<=o.Seq by omega),av];by_cases h4:(1000000000:Int)<o.Seq
 ·rw [if_pos h4,av,if_pos rfl,decide_eq_false (by omega),if_neg (by decide),av]
 rw [if_neg h4,decide_eq_true (show o.Seq<=1000000000 by omega),if_pos (show true=true from rfl)];by_cases h5:o.Kind<0
 ·rw [if_pos h5,av,if_pos rfl,if_neg (by omega),av]
 rw [if_neg h5,if_pos (show (0:Int)<=o.Kind by omega)];by_cases h6:(11:Int)<o.Kind
 ·rw [if_pos h6,av,if_pos rfl,if_neg (by omega),av]
 rw [if_neg h6,if_pos (show o.Kind<=11 by omega)];by_cases h7:(100:Int)<(o.Path.length:Int)
 ·rw [if_pos h7,av,if_pos rfl,if_neg (by omega),av]
 rw [if_neg h7,av,if_pos (show (o.Path.length:Int)<=100 by omega)];by_cases h8:(1000:Int)<(o.Value.length:Int)
 ·rw [decide_eq_true h8,if_pos rfl,if_neg (by omega),av]
 rw [decide_eq_false h8,if_neg (by decide),if_pos (show (o.Value.length:Int)<=1000 by omega)];refine Eq.trans ?_ (Gz _).symm;have hk:o.Kind=0\/o.Kind=1\/o.Kind=2\/o.Kind=3\/o.Kind=4\/o.Kind=5\/o.Kind=6\/o.Kind=7\/o.Kind=8\/o.Kind=9\/o.Kind=10\/o.Kind=11:=by omega
 rcases hk with h|h|h|h|h|h|h|h|h|h|h|h
 ·exact nR o _ [] rfl (by decide) h (v:=⟨o.Client,o.Seq,o.Kind,[],[],0,0,0⟩) (by unfold bO;rw [h];rfl) (by simp)
 ·exact nR o _ [112,118,115] rfl (by decide) h (v:=⟨o.Client,o.Seq,o.Kind,o.Path,o.Value,0,o.Session,0⟩) (by unfold bO;rw [h];rfl) (by simp)
 ·exact nR o _ [112] rfl (by decide) h (v:=⟨o.Client,o.Seq,o.Kind,o.Path,[],0,0,0⟩) (by unfold bO;rw [h];rfl) (by simp)
 ·exact nR o _ [112,118,110] rfl (by decide) h (v:=⟨o.Client,o.Seq,o.Kind,o.Path,o.Value,o.Version,0,0⟩) (by unfold bO;rw [h];rfl) (by simp)
 ·exact nR o _ [112,110] rfl (by decide) h (v:=⟨o.Client,o.Seq,o.Kind,o.Path,[],o.Version,0,0⟩) (by unfold bO;rw [h];rfl) (by simp)
 ·exact nR o _ [112] rfl (by decide) h (v:=⟨o.Client,o.Seq,o.Kind,o.Path,[],0,0,0⟩) (by unfold bO;rw [h];rfl) (by simp)
 ·exact nR o _ [115,116] rfl (by decide) h (v:=⟨o.Client,o.Seq,o.Kind,[],[],0,o.Session,o.Span⟩) (by unfold bO;rw [h];rfl) (by simp)
 ·exact nR o _ [115] rfl (by decide) h (v:=⟨o.Client,o.Seq,o.Kind,[],[],0,o.Session,0⟩) (by unfold bO;rw [h];rfl) (by simp)
 ·exact nR o _ [115] rfl (by decide) h (v:=⟨o.Client,o.Seq,o.Kind,[],[],0,o.Session,0⟩) (by unfold bO;rw [h];rfl) (by simp)
 ·exact nR o _ [116] rfl (by decide) h (v:=⟨o.Client,o.Seq,o.Kind,[],[],0,0,o.Span⟩) (by unfold bO;rw [h];rfl) (by simp)
 ·exact nR o _ [112] rfl (by decide) h (v:=⟨o.Client,o.Seq,o.Kind,o.Path,[],0,0,0⟩) (by unfold bO;rw [h];rfl) (by simp)
 ·exact nR o _ [112] rfl (by decide) h (v:=⟨o.Client,o.Seq,o.Kind,o.Path,[],0,0,0⟩) (by unfold bO;rw [h];rfl) (by simp)
theorem GH (ids:List Int)(w:aj)(hs:w.l.length+w.r.Shelf.L.length<=2^20)(hi:ids.length<=2^20)(h0:w.l=[]): s6 (dp w.r.Shelf) ids=some (dp (fD w ids).r.Shelf,(fD w ids).l.map HJ):=by
 unfold s6;have cw:Loop (rn ids) ((dp w.r.Shelf).L,([]:List bq),0)=some ((dp (fD w ids).r.Shelf).L,(fD w ids).l.map HJ):=by
  refine aO.eq (aO.count (λk=>((dp (fD w (ids.take k)).r.Shelf).L,(fD w (ids.take k)).l.map HJ,(k:Int))) ids.length (λ_=>True) (by simp [fD,h0]) trivial (λk hk _=> ?_) (λ_=> ?_))
  ·have hd:fD w (ids.take (k+1))=mW (fD w (ids.take k)) ids[k]:=qB hk;have hl:=FK (ids.take k) w;rw [hd];generalize fD w (ids.take k)=v at hl;unfold rn;dsimp only;rw [if_pos (by omega),ba hk];have LQ:=BA v.r.Shelf.L ids[k];have ZU:wP (⟨(dp v.r.Shelf).L⟩:bE) ids[k]=some (dp ⟨(cG v.r.Shelf.L ids[k]).1⟩,(cG v.r.Shelf.L ids[k]).2):=TS v.r.Shelf ids[k] (by omega);rw [ZU,av];have hL1:Loop (rm (dp ⟨(cG v.r.Shelf.L ids[k]).1⟩,(cG v.r.Shelf.L ids[k]).2)) (v.l.map HJ,0)=some (v.l.map HJ++(cG v.r.Shelf.L ids[k]).2.map λp=>(⟨3,p⟩:bq)):=by
    refine aO.eq (aO.count (λj=>(v.l.map HJ++((cG v.r.Shelf.L ids[k]).2.take j).map λp=>(⟨3,p⟩:bq),(j:Int))) (cG v.r.Shelf.L ids[k]).2.length (λ_=>True) (by simp) trivial (λj hj _=> ?_) (λ_=> ?_))
    ·unfold rm;dsimp only;rw [if_pos (by omega),ba hj,if_pos (by simp only [List.length_append,List.length_map,List.length_take,List.length_cons,List.length_nil];omega),wrap64 (by omega) (by omega),ta hj];refine .mk ⟨?_,trivial⟩;simp
    ·unfold rm;dsimp only;rw [if_neg (by omega),c9];exact .mk rfl
   rw [hL1,av,wrap64 (by omega) (by omega)];refine .mk ⟨?_,trivial⟩;unfold mW;simp only [List.map_append,List.map_map];rfl
  ·unfold rn;dsimp only;rw [if_neg (by omega),c9];exact .mk rfl
 rw [cw,av]
def Kw (x:ai):aw:=⟨0,0,x.E,x.Value,x.Version,x.Names⟩
theorem agC (w:aj)(k:Int)(h:w.l=[]):(sd k w).l=if w.x.E=0 then [⟨k,w.o.Path⟩] else []:=by
 unfold sd;split
 ·rw [h];rfl
 ·exact h
def AU (o:ar)(E kind:Int):List aG:=if E=0/\0<kind then [⟨kind,o.Path⟩] else []
theorem mA {r:ap}(o:ar)(s:List ah)(E version kind:Int)(value:List UInt8)(names:List (List UInt8)){X:Option ((List aP)×Int×(List al)×(List aF)×(List aw)×Int×Int×Int×(List UInt8)×Int×(List (List UInt8))×Int)}(hX:X=some (s.map toR,r.aL.cI,r.aL.L.map oK,r.aS.L.map sb,r.Seen.map kh,0,0,E,value,version,names,kind)): (bd X λw=>bd (if w.2.2.2.2.2.2.2.1=0 then some (decide ((0:Int)<w.2.2.2.2.2.2.2.2.2.2.2)) else some false:Option Bool) λw8=>
  if w8 then some ((⟨(⟨w.1⟩:bE),(⟨w.2.1,w.2.2.1⟩:cD),(⟨w.2.2.2.1⟩:eo),w.2.2.2.2.1⟩:bM),(⟨w.2.2.2.2.2.1,w.2.2.2.2.2.2.1,w.2.2.2.2.2.2.2.1,w.2.2.2.2.2.2.2.2.1,w.2.2.2.2.2.2.2.2.2.1,w.2.2.2.2.2.2.2.2.2.2.1⟩:aw),([(⟨w.2.2.2.2.2.2.2.2.2.2.2,(qD o).Path⟩:bq)]:List bq))
  else some ((⟨(⟨w.1⟩:bE),(⟨w.2.1,w.2.2.1⟩:cD),(⟨w.2.2.2.1⟩:eo),w.2.2.2.2.1⟩:bM),(⟨w.2.2.2.2.2.1,w.2.2.2.2.2.2.1,w.2.2.2.2.2.2.2.1,w.2.2.2.2.2.2.2.2.1,w.2.2.2.2.2.2.2.2.2.1,w.2.2.2.2.2.2.2.2.2.2.1⟩:aw),([]:List bq)))=
 some (gK {r with Shelf:=⟨s⟩},⟨0,0,E,value,version,names⟩,(AU o E kind).map HJ):=by
 rw [hX,av];dsimp only;unfold AU;by_cases h1:E=0
 ·rw [if_pos h1,av];by_cases h2:0<kind
  ·rw [decide_eq_true h2,if_pos rfl,if_pos ⟨h1,h2⟩];rfl
  ·rw [decide_eq_false h2,if_neg (by decide),if_neg (λhh=>h2 hh.2)];rfl
 ·rw [if_neg h1,av,if_neg (by decide),if_neg (λhh=>h1 hh.1)];rfl
theorem Kx {r:ap}(h:eH r){o:ar}(hk:1<=o.Kind/\o.Kind<=5): ov (gK r) (qD o)=some (gK (AP ⟨r,o,cY o 0,[]⟩).r,Kw (AP ⟨r,o,cY o 0,[]⟩).x,(AP ⟨r,o,cY o 0,[]⟩).l.map HJ):=by
 have hlen:=h.shelf.len;have EN:o.Kind=1\/o.Kind=2\/o.Kind=3\/o.Kind=4\/o.Kind=5:=by omega
 unfold ov AP;rcases EN with hk|hk|hk|hk|hk
 ·
  have hb:(if !decide ((qD o).Session=0) then if (qD o).Session<0 then some true else bd (qO (gK r).aL (qD o).Session) λrA=>some (!rA) else some false:Option Bool)=some (decide (o.Session≠0/\fP fC r.aL.L o.Session=false)):=by
   show (if !decide (o.Session=0) then if o.Session<0 then some true else bd (qO (Kv r.aL) o.Session) λrA=>some (!rA) else some false:Option Bool)=_;by_cases h0:o.Session=0
   ·rw [decide_eq_true h0,if_neg (by decide),decide_eq_false (λhh=>hh.1 h0)]
   ·rw [decide_eq_false h0,if_pos (show (!false)=true from rfl)];by_cases hn:o.Session<0
    ·have hno:fP fC r.aL.L o.Session=false:=by rw [Bool.eq_false_iff];intro hh;obtain ⟨y,hy,he⟩:=pH.1 hh;have:=(h.book.all y hy).1;have he:y.Id=o.Session:=he;omega
     rw [if_pos hn,decide_eq_true ⟨h0,hno⟩]
    ·have Sv:=h.book.len;rw [if_neg hn,BC (by omega),av];cases fP fC r.aL.L o.Session with
     |true=>rw [decide_eq_false (λhh=>by cases hh.2)];rfl
     |false=>rw [decide_eq_true ⟨h0,rfl⟩];rfl
  rw [if_pos (show (qD o).Kind=1 from hk),hb,if_neg (show¬o.Kind=0 by omega),if_pos hk];unfold yO;dsimp only;by_cases hs:o.Session≠0/\fP fC r.aL.L o.Session=false
  ·rw [if_pos hs,decide_eq_true hs];exact mA o r.Shelf.L 14 0 1 [] [] rfl
  ·rw [if_neg hs,decide_eq_false hs];have hc:=OL h.shelf o.Path o.Value o.Session;refine (mA o (jT r.Shelf.L o.Path o.Value o.Session).1 (jT r.Shelf.L o.Path o.Value o.Session).2 0 1 [] [] (aQ (y:=some ((jT r.Shelf.L o.Path o.Value o.Session).1.map toR,r.aL.cI,r.aL.L.map oK,r.aS.L.map sb,r.Seen.map kh,0,0,(jT r.Shelf.L o.Path o.Value o.Session).2,[],0,[])) (aQ hc rfl) rfl)).trans ?_;rw [agB,MP,agC _ _ rfl];unfold AU;by_cases he:(jT r.Shelf.L o.Path o.Value o.Session).2=0
   ·rw [if_pos ⟨he,by decide⟩,if_pos (show (lu _ _).x.E=0 from he)];rfl
   ·rw [if_neg (λhh=>he hh.1),if_neg (show¬(lu _ _).x.E=0 from he)];rfl
 ·rw [if_neg (show¬(qD o).Kind=1 by show¬o.Kind=1;omega),if_pos (show (qD o).Kind=2 from hk),if_neg (show¬o.Kind=0 by omega),if_neg (show¬o.Kind=1 by omega),if_pos hk];have hg:=xl (s:=r.Shelf) (by omega) o.Path;exact mA o r.Shelf.L (en r.Shelf.L o.Path).2 (en r.Shelf.L o.Path).1.Version 0 (en r.Shelf.L o.Path).1.Value [] (aQ (y:=some (r.Shelf.L.map toR,r.aL.cI,r.aL.L.map oK,r.aS.L.map sb,r.Seen.map kh,0,0,(en r.Shelf.L o.Path).2,(en r.Shelf.L o.Path).1.Value,(en r.Shelf.L o.Path).1.Version,[],0)) (aQ hg rfl) rfl)|>.trans (by unfold AU;rw [if_neg (λhh=>by omega)];rfl)
 ·rw [if_neg (show¬(qD o).Kind=1 by show¬o.Kind=1;omega),if_neg (show¬(qD o).Kind=2 by show¬o.Kind=2;omega),if_pos (show (qD o).Kind=3 from hk),if_neg (show¬o.Kind=0 by omega),if_neg (show¬o.Kind=1 by omega),if_neg (show¬o.Kind=2 by omega),if_pos hk];have hs:=Xv h.shelf o.Path o.Value o.Version;have mR:=OM h.shelf o.Path o.Value o.Version;have amJ:=mR.len;have hg:=xl (s:=⟨(xm r.Shelf.L o.Path o.Value o.Version).1⟩) (show (xm r.Shelf.L o.Path o.Value o.Version).1.length<2^40 by omega) o.Path;generalize hP:xm r.Shelf.L o.Path o.Value o.Version=Q at hs mR amJ hg;obtain ⟨s,E⟩:=Q;have Su:Rw ⟨r,o,cY o 0,[]⟩=⟨{r with Shelf:=⟨s⟩},o,⟨o.Client,o.Seq,E,[],if E=0 then (en s o.Path).1.Version else 0,[]⟩,if E=0 then [⟨2,o.Path⟩] else []⟩:=by
   unfold Rw sd lu MN;dsimp only;rw [hP];dsimp only;by_cases he:E=0
   ·subst he;rfl
   ·simp only [if_neg he];rfl
  rw [Su];by_cases he:E=0
  ·refine (mA o s E (en s o.Path).1.Version 2 [] [] (aQ (y:=some (s.map toR,r.aL.cI,r.aL.L.map oK,r.aS.L.map sb,r.Seen.map kh,0,0,E,[],(en s o.Path).1.Version,[],2)) (aQ (y:=some (s.map toR,r.aL.cI,r.aL.L.map oK,r.aS.L.map sb,r.Seen.map kh,0,0,E,[],(en s o.Path).1.Version,[],2)) (aQ hs ?_) rfl) rfl)).trans ?_
   ·refine aQ (y:=some (0,0,E,[],(en s o.Path).1.Version,[])) ?_ rfl;rw [if_pos (show (dp ⟨s⟩,E).2=0 from he)];exact aQ hg rfl
   ·unfold AU;rw [if_pos ⟨he,by decide⟩,if_pos he,if_pos he];rfl
  ·refine (mA o s E 0 2 [] [] (aQ (y:=some (s.map toR,r.aL.cI,r.aL.L.map oK,r.aS.L.map sb,r.Seen.map kh,0,0,E,[],0,[],2)) (aQ (y:=some (s.map toR,r.aL.cI,r.aL.L.map oK,r.aS.L.map sb,r.Seen.map kh,0,0,E,[],0,[],2)) (aQ hs ?_) rfl) rfl)).trans ?_
   ·refine aQ (y:=some (0,0,E,[],0,[])) ?_ rfl;rw [if_neg (show¬(dp ⟨s⟩,E).2=0 from he)]
   ·unfold AU;rw [if_neg (λhh=>he hh.1),if_neg he,if_neg he];rfl
 ·rw [if_neg (show¬(qD o).Kind=1 by show¬o.Kind=1;omega),if_neg (show¬(qD o).Kind=2 by show¬o.Kind=2;omega),if_neg (show¬(qD o).Kind=3 by show¬o.Kind=3;omega),if_pos (show (qD o).Kind=4 from hk),if_neg (show¬o.Kind=0 by omega),if_neg (show¬o.Kind=1 by omega),if_neg (show¬o.Kind=2 by omega),if_neg (show¬o.Kind=3 by omega),if_pos hk];have hd:=Xw h.shelf o.Path o.Version;unfold EI;rw [agB,MP,agC _ _ rfl];dsimp only;refine (mA o (yN r.Shelf.L o.Path o.Version).1 (yN r.Shelf.L o.Path o.Version).2 0 3 [] [] (aQ (y:=some ((yN r.Shelf.L o.Path o.Version).1.map toR,r.aL.cI,r.aL.L.map oK,r.aS.L.map sb,r.Seen.map kh,0,0,(yN r.Shelf.L o.Path o.Version).2,[],0,[],3)) (aQ (y:=some ((yN r.Shelf.L o.Path o.Version).1.map toR,r.aL.cI,r.aL.L.map oK,r.aS.L.map sb,r.Seen.map kh,0,0,(yN r.Shelf.L o.Path o.Version).2,[],0,[],3)) (aQ (y:=some ((yN r.Shelf.L o.Path o.Version).1.map toR,r.aL.cI,r.aL.L.map oK,r.aS.L.map sb,r.Seen.map kh,0,0,(yN r.Shelf.L o.Path o.Version).2,[],0,[],3)) (aQ hd rfl) rfl) rfl) rfl)).trans ?_;unfold AU;by_cases he:(yN r.Shelf.L o.Path o.Version).2=0
  ·rw [if_pos ⟨he,by decide⟩,if_pos (show (lu _ _).x.E=0 from he)];rfl
  ·rw [if_neg (λhh=>he hh.1),if_neg (show¬(lu _ _).x.E=0 from he)];rfl
 ·rw [if_neg (show¬(qD o).Kind=1 by show¬o.Kind=1;omega),if_neg (show¬(qD o).Kind=2 by show¬o.Kind=2;omega),if_neg (show¬(qD o).Kind=3 by show¬o.Kind=3;omega),if_neg (show¬(qD o).Kind=4 by show¬o.Kind=4;omega),if_pos (show (qD o).Kind=5 from hk),if_neg (show¬o.Kind=0 by omega),if_neg (show¬o.Kind=1 by omega),if_neg (show¬o.Kind=2 by omega),if_neg (show¬o.Kind=3 by omega),if_neg (show¬o.Kind=4 by omega),if_pos hk];have hl:=TJ (s:=r.Shelf) h.shelf.ord (by omega) o.Path;refine (mA o r.Shelf.L (nD r.Shelf.L o.Path).2 0 0 [] (nD r.Shelf.L o.Path).1 (aQ (y:=some (r.Shelf.L.map toR,r.aL.cI,r.aL.L.map oK,r.aS.L.map sb,r.Seen.map kh,0,0,(nD r.Shelf.L o.Path).2,[],0,(nD r.Shelf.L o.Path).1,0)) (aQ (y:=some (r.Shelf.L.map toR,r.aL.cI,r.aL.L.map oK,r.aS.L.map sb,r.Seen.map kh,0,0,(nD r.Shelf.L o.Path).2,[],0,(nD r.Shelf.L o.Path).1,0)) (aQ (y:=some (r.Shelf.L.map toR,r.aL.cI,r.aL.L.map oK,r.aS.L.map sb,r.Seen.map kh,0,0,(nD r.Shelf.L o.Path).2,[],0,(nD r.Shelf.L o.Path).1,0)) (aQ (y:=some (0,0,(nD r.Shelf.L o.Path).2,[],0,(nD r.Shelf.L o.Path).1)) (aQ hl rfl) rfl) rfl) rfl) rfl)).trans ?_;unfold AU;rw [if_neg (λhh=>by omega)];rfl
end Dn.S
