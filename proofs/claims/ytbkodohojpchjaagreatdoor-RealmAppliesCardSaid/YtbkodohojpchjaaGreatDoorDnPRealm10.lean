import Derived.Test.YtbkodohojpchjaaGreatDoorDnPRealm9
/-
  Realms as the document's: an order. Conditions: none.
-/
set_option linter.unusedVariables false
set_option linter.unusedSimpArgs false
open List renaming take_length→c8
open Go Dn
namespace Dn.S
def tc (o:aB):jZ:=⟨o.Client,o.Seq,o.Kind,o.Path,o.Value,o.Version,o.Session,o.Span⟩
theorem acv (s:List UInt8)(c:Int)(hs:s.length<2^40):iy s c=some (s.any λb=>decide ((b.toNat:Int)=c)):=by
 unfold iy;have cV:aM (Loop (Al s c) 0) λx=>(x= .inl ()/\s.any (λb=>decide ((b.toNat:Int)=c))=false)\/(x= .inr true/\s.any (λb=>decide ((b.toNat:Int)=c))=true):=by
  refine aM.count (λk=>(k:Int)) s.length (λk=> ∀j (hj:j<s.length),j<k->((s[j]).toNat:Int)≠c) rfl (λj hj h=>by omega) (λk hk hp=> ?_) (λhp=> ?_)
  ·unfold Al;rw [if_pos (by omega),if_pos (by omega),Int.toNat_natCast,List.getD_eq_getElem?_getD,List.getElem?_eq_getElem hk,Option.getD_some];by_cases he:((s[k]).toNat:Int)=c
   ·rw [if_pos he];exact .mk (.inr ⟨rfl,List.any_eq_true.2 ⟨s[k],List.getElem_mem hk,decide_eq_true he⟩⟩)
   ·rw [if_neg he,wrap64 (by omega) (by omega)];refine .mk ⟨by omega,λj hj WM=> ?_⟩;by_cases Kz:j=k
    ·subst Kz;exact he
    ·exact hp j hj (by omega)
  ·unfold Al;rw [if_neg (by omega)];refine .mk (.inl ⟨rfl,?_⟩);rw [List.any_eq_false];intro x hx;obtain ⟨j,hj,rfl⟩:=List.mem_iff_getElem.1 hx;simpa using hp j hj hj
 obtain ⟨x,hx,h|h⟩:=cV
 ·rw [hx,h.1,h.2];rfl
 ·rw [hx,h.1,h.2];rfl
theorem nY (o:aB)(k:Int)(u:List UInt8)(hu:Ak k=some u)(hl:u.length<2^40)(hk:o.Kind=k){v:aB}(hv:bP o=some v)(h:((decide (o.Client=v.Client))&&((decide (o.Seq=v.Seq))&&((decide (o.Kind=v.Kind))&&((decide (o.Path=v.Path))&&((decide (o.Value=v.Value))&&((decide (o.Version=v.Version))&&((decide (o.Session=v.Session))&&(decide (o.Span=v.Span)))))))))= (((u.any λb=>decide ((b.toNat:Int)=112))||decide (o.Path=[]))&&(((u.any λb=>decide ((b.toNat:Int)=118))||decide (o.Value=[]))&&(((u.any λb=>decide ((b.toNat:Int)=110))||decide (o.Version=0))&& (((u.any λb=>decide ((b.toNat:Int)=115))||decide (o.Session=0))&&((u.any λb=>decide ((b.toNat:Int)=116))||decide (o.Span=0))))))): (bd (Ak o.Kind) λrA=>bd (bd (iy rA 112) λaT=>if aT then bd (iy rA 118) λca=>if ca then some true else some (decide (o.Value=([]:List UInt8))) else if o.Path=([]:List UInt8) then bd (iy rA 118) λgO=>if gO then some true else some (decide (o.Value=([]:List UInt8))) else some false:Option Bool) λw1=>
  bd (if w1 then bd (iy rA 110) λoP=>if oP then bd (iy rA 115) λrR=>if rR then bd (iy rA 116) λzg=>if zg then some true else some (decide (o.Span=0)) else if o.Session=0 then bd (iy rA 116) λHq=>if Hq then some true else some (decide (o.Span=0)) else some false
   else if o.Version=0 then bd (iy rA 115) λKB=>if KB then bd (iy rA 116) λR9=>if R9 then some true else some (decide (o.Span=0)) else if o.Session=0 then bd (iy rA 116) λAm=>if Am then some true else some (decide (o.Span=0)) else some false else some false else some false:Option Bool) λw2=>some w2)=
 bd (bP o) λrA=>some ((decide (o.Client=rA.Client))&&((decide (o.Seq=rA.Seq))&&((decide (o.Kind=rA.Kind))&&((decide (o.Path=rA.Path))&&((decide (o.Value=rA.Value))&&((decide (o.Version=rA.Version))&&((decide (o.Session=rA.Session))&&(decide (o.Span=rA.Span))))))))):=by
 rw [hv,al,h,hk,hu,al];simp only [acv u _ hl,al];generalize (u.any λb=>decide ((b.toNat:Int)=112))=p1;generalize (u.any λb=>decide ((b.toNat:Int)=118))=p2;generalize (u.any λb=>decide ((b.toNat:Int)=110))=p3;generalize (u.any λb=>decide ((b.toNat:Int)=115))=p4;generalize (u.any λb=>decide ((b.toNat:Int)=116))=p5;by_cases q1:o.Path=[]<;>by_cases q3:o.Version=0<;>by_cases q4:o.Session=0<;>cases p1<;>cases p2<;>cases p3<;>cases p4<;>cases p5<;>simp [q1,q3,q4];all_goals (by_cases q2:o.Value=[]<;>simp [q2])
theorem X5 (o:aB):DS (tc o)=some (FR o):=by
 rw [<-RG];unfold DS mJ;show (bd (if o.Client<0 then some true else if (1000:Int)<o.Client then some true else if o.Seq<1 then some true else if (1000000000:Int)<o.Seq then some true else if o.Kind<0 then some true else if (11:Int)<o.Kind then some true else if (100:Int)<(o.Path.length:Int) then some true else some (decide ((1000:Int)<(o.Value.length:Int)))) λw=>if w then some false else _)=_;by_cases h1:o.Client<0
 ·rw [if_pos h1,al,if_pos rfl,if_neg (by omega),al,if_neg (by decide),al]
 rw [if_neg h1,if_pos (show (0:Int)<=o.Client by omega)];by_cases h2:(1000:Int)<o.Client
 ·rw [if_pos h2,al,if_pos rfl,if_neg (by omega),al,if_neg (by decide),al]
 rw [if_neg h2,if_pos (show o.Client<=1000 by omega)];by_cases h3:o.Seq<1
 ·rw [if_pos h3,al,if_pos rfl,if_neg (by omega),al,if_neg (by decide),al]
 rw [if_neg h3,if_pos (show (1:Int)<=o.Seq by omega),al];by_cases h4:(1000000000:Int)<o.Seq
 ·rw [if_pos h4,al,if_pos rfl,decide_eq_false (by omega),if_neg (by decide),al]
 rw [if_neg h4,decide_eq_true (show o.Seq<=1000000000 by omega),if_pos (show true=true from rfl)];by_cases h5:o.Kind<0
 ·rw [if_pos h5,al,if_pos rfl,if_neg (by omega),al]
 rw [if_neg h5,if_pos (show (0:Int)<=o.Kind by omega)];by_cases h6:(11:Int)<o.Kind
 ·rw [if_pos h6,al,if_pos rfl,if_neg (by omega),al]
 rw [if_neg h6,if_pos (show o.Kind<=11 by omega)];by_cases h7:(100:Int)<(o.Path.length:Int)
 ·rw [if_pos h7,al,if_pos rfl,if_neg (by omega),al]
 rw [if_neg h7,al,if_pos (show (o.Path.length:Int)<=100 by omega)];by_cases h8:(1000:Int)<(o.Value.length:Int)
 ·rw [decide_eq_true h8,if_pos rfl,if_neg (by omega),al]
 rw [decide_eq_false h8,if_neg (by decide),if_pos (show (o.Value.length:Int)<=1000 by omega)];refine Eq.trans ?_ (GC _).symm;have hk:o.Kind=0\/o.Kind=1\/o.Kind=2\/o.Kind=3\/o.Kind=4\/o.Kind=5\/o.Kind=6\/o.Kind=7\/o.Kind=8\/o.Kind=9\/o.Kind=10\/o.Kind=11:=by omega
 rcases hk with h|h|h|h|h|h|h|h|h|h|h|h
 ·exact nY o _ [] rfl (by decide) h (v:=⟨o.Client,o.Seq,o.Kind,[],[],0,0,0⟩) (by unfold bP;rw [h];rfl) (by simp)
 ·exact nY o _ [112,118,115] rfl (by decide) h (v:=⟨o.Client,o.Seq,o.Kind,o.Path,o.Value,0,o.Session,0⟩) (by unfold bP;rw [h];rfl) (by simp)
 ·exact nY o _ [112] rfl (by decide) h (v:=⟨o.Client,o.Seq,o.Kind,o.Path,[],0,0,0⟩) (by unfold bP;rw [h];rfl) (by simp)
 ·exact nY o _ [112,118,110] rfl (by decide) h (v:=⟨o.Client,o.Seq,o.Kind,o.Path,o.Value,o.Version,0,0⟩) (by unfold bP;rw [h];rfl) (by simp)
 ·exact nY o _ [112,110] rfl (by decide) h (v:=⟨o.Client,o.Seq,o.Kind,o.Path,[],o.Version,0,0⟩) (by unfold bP;rw [h];rfl) (by simp)
 ·exact nY o _ [112] rfl (by decide) h (v:=⟨o.Client,o.Seq,o.Kind,o.Path,[],0,0,0⟩) (by unfold bP;rw [h];rfl) (by simp)
 ·exact nY o _ [115,116] rfl (by decide) h (v:=⟨o.Client,o.Seq,o.Kind,[],[],0,o.Session,o.Span⟩) (by unfold bP;rw [h];rfl) (by simp)
 ·exact nY o _ [115] rfl (by decide) h (v:=⟨o.Client,o.Seq,o.Kind,[],[],0,o.Session,0⟩) (by unfold bP;rw [h];rfl) (by simp)
 ·exact nY o _ [115] rfl (by decide) h (v:=⟨o.Client,o.Seq,o.Kind,[],[],0,o.Session,0⟩) (by unfold bP;rw [h];rfl) (by simp)
 ·exact nY o _ [116] rfl (by decide) h (v:=⟨o.Client,o.Seq,o.Kind,[],[],0,0,o.Span⟩) (by unfold bP;rw [h];rfl) (by simp)
 ·exact nY o _ [112] rfl (by decide) h (v:=⟨o.Client,o.Seq,o.Kind,o.Path,[],0,0,0⟩) (by unfold bP;rw [h];rfl) (by simp)
 ·exact nY o _ [112] rfl (by decide) h (v:=⟨o.Client,o.Seq,o.Kind,o.Path,[],0,0,0⟩) (by unfold bP;rw [h];rfl) (by simp)
theorem GI (ids:List Int)(w:ai)(hs:w.l.length+w.r.Shelf.L.length<=2^20)(hi:ids.length<=2^20)(h0:w.l=[]): s7 (ch w.r.Shelf) ids=some (ch (fE w ids).r.Shelf,(fE w ids).l.map HE):=by
 unfold s7;have cV:Loop (rk ids) ((ch w.r.Shelf).L,([]:List bq),0)=some ((ch (fE w ids).r.Shelf).L,(fE w ids).l.map HE):=by
  refine aM.eq (aM.count (λk=>((ch (fE w (ids.take k)).r.Shelf).L,(fE w (ids.take k)).l.map HE,(k:Int))) ids.length (λ_=>True) (by simp [fE,h0]) trivial (λk hk _=> ?_) (λ_=> ?_))
  ·have hd:fE w (ids.take (k+1))=mZ (fE w (ids.take k)) ids[k]:=y8 hk;have hl:=FQ (ids.take k) w;rw [hd];generalize fE w (ids.take k)=v at hl;unfold rk;dsimp only;rw [if_pos (by omega),aP hk];have LW:=BS v.r.Shelf.L ids[k];have hdr:wZ (⟨(ch v.r.Shelf).L⟩:bE) ids[k]=some (ch ⟨(cH v.r.Shelf.L ids[k]).1⟩,(cH v.r.Shelf.L ids[k]).2):=Uc v.r.Shelf ids[k] (by omega);rw [hdr,al];have hL1:Loop (rj (ch ⟨(cH v.r.Shelf.L ids[k]).1⟩,(cH v.r.Shelf.L ids[k]).2)) (v.l.map HE,0)=some (v.l.map HE++(cH v.r.Shelf.L ids[k]).2.map λp=>(⟨3,p⟩:bq)):=by
    refine aM.eq (aM.count (λj=>(v.l.map HE++((cH v.r.Shelf.L ids[k]).2.take j).map λp=>(⟨3,p⟩:bq),(j:Int))) (cH v.r.Shelf.L ids[k]).2.length (λ_=>True) (by simp) trivial (λj hj _=> ?_) (λ_=> ?_))
    ·unfold rj;dsimp only;rw [if_pos (by omega),aP hj,if_pos (by simp only [List.length_append,List.length_map,List.length_take,List.length_cons,List.length_nil];omega),wrap64 (by omega) (by omega),ta hj];refine .mk ⟨?_,trivial⟩;simp
    ·unfold rj;dsimp only;rw [if_neg (by omega),c8];exact .mk rfl
   rw [hL1,al,wrap64 (by omega) (by omega)];refine .mk ⟨?_,trivial⟩;unfold mZ;simp only [List.map_append,List.map_map];rfl
  ·unfold rk;dsimp only;rw [if_neg (by omega),c8];exact .mk rfl
 rw [cV,al]
def Kt (x:aj):aD:=⟨0,0,x.E,x.Value,x.Version,x.Names⟩
theorem agN (w:ai)(k:Int)(h:w.l=[]):(r6 k w).l=if w.x.E=0 then [⟨k,w.o.Path⟩] else []:=by
 unfold r6;split
 ·rw [h];rfl
 ·exact h
def Ba (o:aB)(E kind:Int):List aF:=if E=0/\0<kind then [⟨kind,o.Path⟩] else []
theorem mF {r:au}(o:aB)(s:List af)(E version kind:Int)(value:List UInt8)(names:List (List UInt8)){X:Option ((List aY)×Int×(List ar)×(List aL)×(List aD)×Int×Int×Int×(List UInt8)×Int×(List (List UInt8))×Int)}(hX:X=some (s.map toR,r.aN.ct,r.aN.L.map jM,r.aR.L.map ol,r.Seen.map jR,0,0,E,value,version,names,kind)): (bd X λw=>bd (if w.2.2.2.2.2.2.2.1=0 then some (decide ((0:Int)<w.2.2.2.2.2.2.2.2.2.2.2)) else some false:Option Bool) λw8=>
  if w8 then some ((⟨(⟨w.1⟩:bE),(⟨w.2.1,w.2.2.1⟩:cJ),(⟨w.2.2.2.1⟩:eK),w.2.2.2.2.1⟩:b6),(⟨w.2.2.2.2.2.1,w.2.2.2.2.2.2.1,w.2.2.2.2.2.2.2.1,w.2.2.2.2.2.2.2.2.1,w.2.2.2.2.2.2.2.2.2.1,w.2.2.2.2.2.2.2.2.2.2.1⟩:aD),([(⟨w.2.2.2.2.2.2.2.2.2.2.2,(tc o).Path⟩:bq)]:List bq))
  else some ((⟨(⟨w.1⟩:bE),(⟨w.2.1,w.2.2.1⟩:cJ),(⟨w.2.2.2.1⟩:eK),w.2.2.2.2.1⟩:b6),(⟨w.2.2.2.2.2.1,w.2.2.2.2.2.2.1,w.2.2.2.2.2.2.2.1,w.2.2.2.2.2.2.2.2.1,w.2.2.2.2.2.2.2.2.2.1,w.2.2.2.2.2.2.2.2.2.2.1⟩:aD),([]:List bq)))=
 some (dV {r with Shelf:=⟨s⟩},⟨0,0,E,value,version,names⟩,(Ba o E kind).map HE):=by
 rw [hX,al];dsimp only;unfold Ba;by_cases h1:E=0
 ·rw [if_pos h1,al];by_cases h2:0<kind
  ·rw [decide_eq_true h2,if_pos rfl,if_pos ⟨h1,h2⟩];rfl
  ·rw [decide_eq_false h2,if_neg (by decide),if_neg (λhh=>h2 hh.2)];rfl
 ·rw [if_neg h1,al,if_neg (by decide),if_neg (λhh=>h1 hh.1)];rfl
theorem Ku {r:au}(h:eF r){o:aB}(hk:1<=o.Kind/\o.Kind<=5): oJ (dV r) (tc o)=some (dV (A9 ⟨r,o,cX o 0,[]⟩).r,Kt (A9 ⟨r,o,cX o 0,[]⟩).x,(A9 ⟨r,o,cX o 0,[]⟩).l.map HE):=by
 have hlen:=h.shelf.len;have CM:o.Kind=1\/o.Kind=2\/o.Kind=3\/o.Kind=4\/o.Kind=5:=by omega
 unfold oJ A9;rcases CM with hk|hk|hk|hk|hk
 ·
  have hb:(if !decide ((tc o).Session=0) then if (tc o).Session<0 then some true else bd (qH (dV r).aN (tc o).Session) λrA=>some (!rA) else some false:Option Bool)=some (decide (o.Session≠0/\fR fD r.aN.L o.Session=false)):=by
   show (if !decide (o.Session=0) then if o.Session<0 then some true else bd (qH (Ks r.aN) o.Session) λrA=>some (!rA) else some false:Option Bool)=_;by_cases h0:o.Session=0
   ·rw [decide_eq_true h0,if_neg (by decide),decide_eq_false (λhh=>hh.1 h0)]
   ·rw [decide_eq_false h0,if_pos (show (!false)=true from rfl)];by_cases hn:o.Session<0
    ·have R6:fR fD r.aN.L o.Session=false:=by rw [Bool.eq_false_iff];intro hh;obtain ⟨y,hy,he⟩:=pK.1 hh;have:=(h.book.all y hy).1;have he:y.Id=o.Session:=he;omega
     rw [if_pos hn,decide_eq_true ⟨h0,R6⟩]
    ·have SK:=h.book.len;rw [if_neg hn,BU (by omega),al];cases fR fD r.aN.L o.Session with
     |true=>rw [decide_eq_false (λhh=>by cases hh.2)];rfl
     |false=>rw [decide_eq_true ⟨h0,rfl⟩];rfl
  rw [if_pos (show (tc o).Kind=1 from hk),hb,if_neg (show¬o.Kind=0 by omega),if_pos hk];unfold y9;dsimp only;by_cases hs:o.Session≠0/\fR fD r.aN.L o.Session=false
  ·rw [if_pos hs,decide_eq_true hs];exact mF o r.Shelf.L 14 0 1 [] [] rfl
  ·rw [if_neg hs,decide_eq_false hs];have hc:=OO h.shelf o.Path o.Value o.Session;refine (mF o (jT r.Shelf.L o.Path o.Value o.Session).1 (jT r.Shelf.L o.Path o.Value o.Session).2 0 1 [] [] (aX (y:=some ((jT r.Shelf.L o.Path o.Value o.Session).1.map toR,r.aN.ct,r.aN.L.map jM,r.aR.L.map ol,r.Seen.map jR,0,0,(jT r.Shelf.L o.Path o.Value o.Session).2,[],0,[])) (aX hc rfl) rfl)).trans ?_;rw [agM,M3,agN _ _ rfl];unfold Ba;by_cases he:(jT r.Shelf.L o.Path o.Value o.Session).2=0
   ·rw [if_pos ⟨he,by decide⟩,if_pos (show (lp _ _).x.E=0 from he)];rfl
   ·rw [if_neg (λhh=>he hh.1),if_neg (show¬(lp _ _).x.E=0 from he)];rfl
 ·rw [if_neg (show¬(tc o).Kind=1 by show¬o.Kind=1;omega),if_pos (show (tc o).Kind=2 from hk),if_neg (show¬o.Kind=0 by omega),if_neg (show¬o.Kind=1 by omega),if_pos hk];have hg:=xw (s:=r.Shelf) (by omega) o.Path;exact mF o r.Shelf.L (eo r.Shelf.L o.Path).2 (eo r.Shelf.L o.Path).1.Version 0 (eo r.Shelf.L o.Path).1.Value [] (aX (y:=some (r.Shelf.L.map toR,r.aN.ct,r.aN.L.map jM,r.aR.L.map ol,r.Seen.map jR,0,0,(eo r.Shelf.L o.Path).2,(eo r.Shelf.L o.Path).1.Value,(eo r.Shelf.L o.Path).1.Version,[],0)) (aX hg rfl) rfl)|>.trans (by unfold Ba;rw [if_neg (λhh=>by omega)];rfl)
 ·rw [if_neg (show¬(tc o).Kind=1 by show¬o.Kind=1;omega),if_neg (show¬(tc o).Kind=2 by show¬o.Kind=2;omega),if_pos (show (tc o).Kind=3 from hk),if_neg (show¬o.Kind=0 by omega),if_neg (show¬o.Kind=1 by omega),if_neg (show¬o.Kind=2 by omega),if_pos hk];have hs:=XP h.shelf o.Path o.Value o.Version;have kJ:=OP h.shelf o.Path o.Value o.Version;have amZ:=kJ.len;have hg:=xw (s:=⟨(xx r.Shelf.L o.Path o.Value o.Version).1⟩) (show (xx r.Shelf.L o.Path o.Value o.Version).1.length<2^40 by omega) o.Path;generalize hP:xx r.Shelf.L o.Path o.Value o.Version=Q at hs kJ amZ hg;obtain ⟨s,E⟩:=Q;have SJ:RF ⟨r,o,cX o 0,[]⟩=⟨{r with Shelf:=⟨s⟩},o,⟨o.Client,o.Seq,E,[],if E=0 then (eo s o.Path).1.Version else 0,[]⟩,if E=0 then [⟨2,o.Path⟩] else []⟩:=by
   unfold RF r6 lp M1;dsimp only;rw [hP];dsimp only;by_cases he:E=0
   ·subst he;rfl
   ·simp only [if_neg he];rfl
  rw [SJ];by_cases he:E=0
  ·refine (mF o s E (eo s o.Path).1.Version 2 [] [] (aX (y:=some (s.map toR,r.aN.ct,r.aN.L.map jM,r.aR.L.map ol,r.Seen.map jR,0,0,E,[],(eo s o.Path).1.Version,[],2)) (aX (y:=some (s.map toR,r.aN.ct,r.aN.L.map jM,r.aR.L.map ol,r.Seen.map jR,0,0,E,[],(eo s o.Path).1.Version,[],2)) (aX hs ?_) rfl) rfl)).trans ?_
   ·refine aX (y:=some (0,0,E,[],(eo s o.Path).1.Version,[])) ?_ rfl;rw [if_pos (show (ch ⟨s⟩,E).2=0 from he)];exact aX hg rfl
   ·unfold Ba;rw [if_pos ⟨he,by decide⟩,if_pos he,if_pos he];rfl
  ·refine (mF o s E 0 2 [] [] (aX (y:=some (s.map toR,r.aN.ct,r.aN.L.map jM,r.aR.L.map ol,r.Seen.map jR,0,0,E,[],0,[],2)) (aX (y:=some (s.map toR,r.aN.ct,r.aN.L.map jM,r.aR.L.map ol,r.Seen.map jR,0,0,E,[],0,[],2)) (aX hs ?_) rfl) rfl)).trans ?_
   ·refine aX (y:=some (0,0,E,[],0,[])) ?_ rfl;rw [if_neg (show¬(ch ⟨s⟩,E).2=0 from he)]
   ·unfold Ba;rw [if_neg (λhh=>he hh.1),if_neg he,if_neg he];rfl
 ·rw [if_neg (show¬(tc o).Kind=1 by show¬o.Kind=1;omega),if_neg (show¬(tc o).Kind=2 by show¬o.Kind=2;omega),if_neg (show¬(tc o).Kind=3 by show¬o.Kind=3;omega),if_pos (show (tc o).Kind=4 from hk),if_neg (show¬o.Kind=0 by omega),if_neg (show¬o.Kind=1 by omega),if_neg (show¬o.Kind=2 by omega),if_neg (show¬o.Kind=3 by omega),if_pos hk];have hd:=XQ h.shelf o.Path o.Version;unfold EQ;rw [agM,M3,agN _ _ rfl];dsimp only;refine (mF o (yZ r.Shelf.L o.Path o.Version).1 (yZ r.Shelf.L o.Path o.Version).2 0 3 [] [] (aX (y:=some ((yZ r.Shelf.L o.Path o.Version).1.map toR,r.aN.ct,r.aN.L.map jM,r.aR.L.map ol,r.Seen.map jR,0,0,(yZ r.Shelf.L o.Path o.Version).2,[],0,[],3)) (aX (y:=some ((yZ r.Shelf.L o.Path o.Version).1.map toR,r.aN.ct,r.aN.L.map jM,r.aR.L.map ol,r.Seen.map jR,0,0,(yZ r.Shelf.L o.Path o.Version).2,[],0,[],3)) (aX (y:=some ((yZ r.Shelf.L o.Path o.Version).1.map toR,r.aN.ct,r.aN.L.map jM,r.aR.L.map ol,r.Seen.map jR,0,0,(yZ r.Shelf.L o.Path o.Version).2,[],0,[],3)) (aX hd rfl) rfl) rfl) rfl)).trans ?_;unfold Ba;by_cases he:(yZ r.Shelf.L o.Path o.Version).2=0
  ·rw [if_pos ⟨he,by decide⟩,if_pos (show (lp _ _).x.E=0 from he)];rfl
  ·rw [if_neg (λhh=>he hh.1),if_neg (show¬(lp _ _).x.E=0 from he)];rfl
 ·rw [if_neg (show¬(tc o).Kind=1 by show¬o.Kind=1;omega),if_neg (show¬(tc o).Kind=2 by show¬o.Kind=2;omega),if_neg (show¬(tc o).Kind=3 by show¬o.Kind=3;omega),if_neg (show¬(tc o).Kind=4 by show¬o.Kind=4;omega),if_pos (show (tc o).Kind=5 from hk),if_neg (show¬o.Kind=0 by omega),if_neg (show¬o.Kind=1 by omega),if_neg (show¬o.Kind=2 by omega),if_neg (show¬o.Kind=3 by omega),if_neg (show¬o.Kind=4 by omega),if_pos hk];have hl:=T8 (s:=r.Shelf) h.shelf.ord (by omega) o.Path;refine (mF o r.Shelf.L (nI r.Shelf.L o.Path).2 0 0 [] (nI r.Shelf.L o.Path).1 (aX (y:=some (r.Shelf.L.map toR,r.aN.ct,r.aN.L.map jM,r.aR.L.map ol,r.Seen.map jR,0,0,(nI r.Shelf.L o.Path).2,[],0,(nI r.Shelf.L o.Path).1,0)) (aX (y:=some (r.Shelf.L.map toR,r.aN.ct,r.aN.L.map jM,r.aR.L.map ol,r.Seen.map jR,0,0,(nI r.Shelf.L o.Path).2,[],0,(nI r.Shelf.L o.Path).1,0)) (aX (y:=some (r.Shelf.L.map toR,r.aN.ct,r.aN.L.map jM,r.aR.L.map ol,r.Seen.map jR,0,0,(nI r.Shelf.L o.Path).2,[],0,(nI r.Shelf.L o.Path).1,0)) (aX (y:=some (0,0,(nI r.Shelf.L o.Path).2,[],0,(nI r.Shelf.L o.Path).1)) (aX hl rfl) rfl) rfl) rfl) rfl)).trans ?_;unfold Ba;rw [if_neg (λhh=>by omega)];rfl
end Dn.S
