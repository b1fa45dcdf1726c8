import Derived.Test.YtcnjocpgklmjjaaGreatDoorDnE
import Derived.KernelRfl
/- What Go functions come to, on plain values. Conditions: none. -/
open Go.IntKind renaming wrap→bD,bits→aeY,signed→afH
open BitVec renaming ofInt→sh,allOnes→af2
open Int renaming toNat→AI,toNat_natCast→IN,tmod_eq_emod_of_nonneg→ab2,tmod→ags,fdiv→agG
open List renaming length_map→AS,length_append→AT,getElem?_eq_getElem→By,getElem_mem→BY,append_assoc→IT,take_length→No,getElem_map→OF,replicate→ad1,take_add_one→aec,drop→aft,take→afu,nil_append→afv,length_take→afx,length_drop→afy,drop_append_of_le_length→afz,getD_eq_getElem?_getD→afA,length_cons→afB,take_of_length_le→afD,map_append→afE,mem_filter→afF,length_replicate→afG,drop_drop→afI,mem_singleton→afK,not_mem_nil→afL,mem_cons→agu
open Go.Lit renaming int→ac4
open Bool renaming false_eq_true→ad5,not_true→afJ,not_false→afT
open Nat renaming le_refl→afw,zero_le→afN,le_trans→agx
open Go renaming maxLen→afC
set_option linter.all false
open Go Dn
namespace Dn.S
noncomputable section
def ot (o:aa):aJ:=⟨o.Client,o.Seq,o.Kind,o.Path,o.Value,o.Version,o.Session,o.Span⟩
def ajV (s:List UInt8)(c:Int)(hs:s.length<2^40):iL s c=some (s.any λb=>decide ((b.toNat:Int)=c)):=by
 unfold iL;have dR:aM (Loop (Hy s c) 0) λx=>(x= .inl ()/\s.any (λb=>decide ((b.toNat:Int)=c))=false)\/(x= .inr true/\s.any (λb=>decide ((b.toNat:Int)=c))=true):=by
  refine aM.count (λk=>(k:Int)) s.length (λk=> ∀j (hj:j<s.length),j<k->((s[j]).toNat:Int)≠c) rfl (λj hj h=>aab) (λk hk hp=> ?_) (λhp=> ?_)
  .unfold Hy;rw [if_pos aab,if_pos aab,IN,afA,By hk,Option.getD_some];by_cases he:((s[k]).toNat:Int)=c
   .rw [if_pos he];exact .mk (by grind)
   .rw [if_neg he,wrap64 aab aab];refine .mk ⟨aab,λj hj hjk=> ?_⟩;by_cases Ta:j=k
    .subst Ta;exact he
    .exact hp j hj aab
  .unfold Hy;rw [if_neg aab];refine .mk (.inl ⟨rfl,?_⟩);grind [List.any_eq_false,List.mem_iff_getElem]
 obtain ⟨x,hx,h|h⟩:=dR;all_goals simp_all
def pB (o:aa)(k:Int)(u:List UInt8)(hu:CQ k=some u)(hl:u.length<2^40)(hk:o.Kind=k){v:aa}(hv:bw o=some v)(h:((decide (o.Client=v.Client))&&((decide (o.Seq=v.Seq))&&((decide (o.Kind=v.Kind))&&((decide (o.Path=v.Path))&&((decide (o.Value=v.Value))&&((decide (o.Version=v.Version))&&((decide (o.Session=v.Session))&&(decide (o.Span=v.Span)))))))))= (((u.any λb=>decide ((b.toNat:Int)=112))||decide (o.Path=[]))&&(((u.any λb=>decide ((b.toNat:Int)=118))||decide (o.Value=[]))&&(((u.any λb=>decide ((b.toNat:Int)=110))||decide (o.Version=0))&& (((u.any λb=>decide ((b.toNat:Int)=115))||decide (o.Session=0))&&((u.any λb=>decide ((b.toNat:Int)=116))||decide (o.Span=0))))))): (bd (CQ o.Kind) λrA=>bd (bd (iL rA 112) λaO=>if aO then bd (iL rA 118) λbK=>if bK then some true else some (decide (o.Value=([]:List UInt8))) else if o.Path=([]:List UInt8) then bd (iL rA 118) λgQ=>if gQ then some true else some (decide (o.Value=([]:List UInt8))) else some false:Option Bool) λw1=>
  bd (if w1 then bd (iL rA 110) λn6=>if n6 then bd (iL rA 115) λrH=>if rH then bd (iL rA 116) λn7=>if n7 then some true else some (decide (o.Span=0)) else if o.Session=0 then bd (iL rA 116) λBN=>if BN then some true else some (decide (o.Span=0)) else some false
   else if o.Version=0 then bd (iL rA 115) λHz=>if Hz then bd (iL rA 116) λQq=>if Qq then some true else some (decide (o.Span=0)) else if o.Session=0 then bd (iL rA 116) λB6=>if B6 then some true else some (decide (o.Span=0)) else some false else some false else some false:Option Bool) λw2=>some w2)=
 bd (bw o) λrA=>some ((decide (o.Client=rA.Client))&&((decide (o.Seq=rA.Seq))&&((decide (o.Kind=rA.Kind))&&((decide (o.Path=rA.Path))&&((decide (o.Value=rA.Value))&&((decide (o.Version=rA.Version))&&((decide (o.Session=rA.Session))&&(decide (o.Span=rA.Span))))))))):=by
 rw [hv,ak,h,hk,hu,ak];simp only [ajV u _ hl,ak];generalize (u.any λb=>decide ((b.toNat:Int)=112))=p1;generalize (u.any λb=>decide ((b.toNat:Int)=118))=p2;generalize (u.any λb=>decide ((b.toNat:Int)=110))=p3;generalize (u.any λb=>decide ((b.toNat:Int)=115))=p4;generalize (u.any λb=>decide ((b.toNat:Int)=116))=p5;by_cases q1:o.Path=[]<;>by_cases q3:o.Version=0<;>by_cases q4:o.Session=0<;>cases p1<;>cases p2<;>cases p3<;>cases p4<;>cases p5<;>simp [q1,q3,q4];all_goals grind
theorem Ku (o:aa):yb (ot o)=some (GR o):=by
 rw [<-IC];unfold yb dK;show (bd (if o.Client<0 then some true else if (1000:Int)<o.Client then some true else if o.Seq<1 then some true else if (1000000000:Int)<o.Seq then some true else if o.Kind<0 then some true else if (11:Int)<o.Kind then some true else if (100:Int)<(o.Path.length:Int) then some true else some (decide ((1000:Int)<(o.Value.length:Int)))) λw=>if w then some false else _)=_;by_cases h1:o.Client<0
 .rw [if_pos h1,ak,if_pos rfl,if_neg aab,ak,if_neg abq,ak]
 rw [if_neg h1,if_pos (show (0:Int)<=o.Client by omega)];by_cases h2:(1000:Int)<o.Client
 .rw [if_pos h2,ak,if_pos rfl,if_neg aab,ak,if_neg abq,ak]
 rw [if_neg h2,if_pos (show o.Client<=1000 by omega)];by_cases h3:o.Seq<1
 .rw [if_pos h3,ak,if_pos rfl,if_neg aab,ak,if_neg abq,ak]
 rw [if_neg h3,if_pos (show (1:Int)<=o.Seq by omega),ak];by_cases h4:(1000000000:Int)<o.Seq
 .rw [if_pos h4,ak,if_pos rfl,decide_eq_false aab,if_neg abq,ak]
 rw [if_neg h4,decide_eq_true (show o.Seq<=1000000000 by omega),if_pos (show true=true from rfl)];by_cases h5:o.Kind<0
 .rw [if_pos h5,ak,if_pos rfl,if_neg aab,ak]
 rw [if_neg h5,if_pos (show (0:Int)<=o.Kind by omega)];by_cases h6:(11:Int)<o.Kind
 .rw [if_pos h6,ak,if_pos rfl,if_neg aab,ak]
 rw [if_neg h6,if_pos (show o.Kind<=11 by omega)];by_cases h7:(100:Int)<(o.Path.length:Int)
 .rw [if_pos h7,ak,if_pos rfl,if_neg aab,ak]
 rw [if_neg h7,ak,if_pos (show (o.Path.length:Int)<=100 by omega)];by_cases h8:(1000:Int)<(o.Value.length:Int)
 .rw [decide_eq_true h8,if_pos rfl,if_neg aab,ak]
 rw [decide_eq_false h8,if_neg abq,if_pos (show (o.Value.length:Int)<=1000 by omega)];refine Eq.trans ?_ (Se _).symm;have hk:o.Kind=0\/o.Kind=1\/o.Kind=2\/o.Kind=3\/o.Kind=4\/o.Kind=5\/o.Kind=6\/o.Kind=7\/o.Kind=8\/o.Kind=9\/o.Kind=10\/o.Kind=11:=aab
 rcases hk with h|h|h|h|h|h|h|h|h|h|h|h
 .exact pB o _ [] rfl abq h (v:=⟨o.Client,o.Seq,o.Kind,[],[],0,0,0⟩) (by simp_all [bw]) abu
 .exact pB o _ [112,118,115] rfl abq h (v:=⟨o.Client,o.Seq,o.Kind,o.Path,o.Value,0,o.Session,0⟩) (by grind [bw]) abu
 .exact pB o _ [112] rfl abq h (v:=⟨o.Client,o.Seq,o.Kind,o.Path,[],0,0,0⟩) (by simp_all [bw]) abu
 .exact pB o _ [112,118,110] rfl abq h (v:=⟨o.Client,o.Seq,o.Kind,o.Path,o.Value,o.Version,0,0⟩) (by simp_all [bw]) abu
 .exact pB o _ [112,110] rfl abq h (v:=⟨o.Client,o.Seq,o.Kind,o.Path,[],o.Version,0,0⟩) (by simp_all [bw]) abu
 .exact pB o _ [112] rfl abq h (v:=⟨o.Client,o.Seq,o.Kind,o.Path,[],0,0,0⟩) (by simp_all [bw]) abu
 .exact pB o _ [115,116] rfl abq h (v:=⟨o.Client,o.Seq,o.Kind,[],[],0,o.Session,o.Span⟩) (by simp_all [bw]) abu
 .exact pB o _ [115] rfl abq h (v:=⟨o.Client,o.Seq,o.Kind,[],[],0,o.Session,0⟩) (by simp_all [bw]) abu
 .exact pB o _ [115] rfl abq h (v:=⟨o.Client,o.Seq,o.Kind,[],[],0,o.Session,0⟩) (by simp_all [bw]) abu
 .exact pB o _ [116] rfl abq h (v:=⟨o.Client,o.Seq,o.Kind,[],[],0,0,o.Span⟩) (by simp_all [bw]) abu
 .exact pB o _ [112] rfl abq h (v:=⟨o.Client,o.Seq,o.Kind,o.Path,[],0,0,0⟩) (by simp_all [bw]) abu
 .exact pB o _ [112] rfl abq h (v:=⟨o.Client,o.Seq,o.Kind,o.Path,[],0,0,0⟩) (by simp_all [bw]) abu
def Ll (ids:List Int)(w:af)(hs:w.l.length+w.r.Shelf.L.length<=2^20)(hi:ids.length<=2^20)(h0:w.l=[]): vD (c9 w.r.Shelf) ids=some (c9 (eU w ids).r.Shelf,(eU w ids).l.map MI):=by
 unfold vD;have dR:Loop (tU ids) ((c9 w.r.Shelf).L,([]:List bh),0)=some ((c9 (eU w ids).r.Shelf).L,(eU w ids).l.map MI):=by
  refine aM.eq (aM.count (λk=>((c9 (eU w (ids.take k)).r.Shelf).L,(eU w (ids.take k)).l.map MI,(k:Int))) ids.length (λ_=>True) (by simp [eU,h0]) trivial (λk hk _=> ?_) (λ_=> ?_))
  .have hd:eU w (ids.take (k+1))=oK (eU w (ids.take k)) ids[k]:=sW hk;have hl:=Kt (ids.take k) w;rw [hd];generalize eU w (ids.take k)=v at hl;unfold tU;dsimp only;rw [if_pos aab,aI hk];have VO:=EG v.r.Shelf.L ids[k];have hdr:zw (⟨(c9 v.r.Shelf).L⟩:bm) ids[k]=some (c9 ⟨(cb v.r.Shelf.L ids[k]).1⟩,(cb v.r.Shelf.L ids[k]).2):=aaW v.r.Shelf ids[k] aab;rw [hdr,ak];have hL1:Loop (tT (c9 ⟨(cb v.r.Shelf.L ids[k]).1⟩,(cb v.r.Shelf.L ids[k]).2)) (v.l.map MI,0)=some (v.l.map MI++(cb v.r.Shelf.L ids[k]).2.map λp=>(⟨3,p⟩:bh)):=by
    refine aM.eq (aM.count (λj=>(v.l.map MI++((cb v.r.Shelf.L ids[k]).2.take j).map λp=>(⟨3,p⟩:bh),(j:Int))) (cb v.r.Shelf.L ids[k]).2.length (λ_=>True) abu trivial (λj hj _=> ?_) (λ_=> ?_))
    .unfold tT;dsimp only;rw [if_pos aab,aI hj,if_pos (by grind),wrap64 aab aab,Kr hj];refine .mk ⟨?_,trivial⟩;simp
    .unfold tT;dsimp only;rw [if_neg aab,No];exact .mk rfl
   rw [hL1,ak,wrap64 aab aab];refine .mk ⟨?_,trivial⟩;unfold oK;simp only [afE,List.map_map];rfl
  .unfold tU;dsimp only;rw [if_neg aab,No];exact .mk rfl
 simp_all
def SO (x:ah):ay:=⟨0,0,x.E,x.Value,x.Version,x.Names⟩
def api (w:af)(k:Int)(h:w.l=[]):(sX k w).l=if w.x.E=0 then [⟨k,w.o.Path⟩] else []:=by grind [sX]
def DL (o:aa)(E kind:Int):List az:=if E=0/\0<kind then [⟨kind,o.Path⟩] else []
def nZ {r:aj}(o:aa)(s:List ab)(E version kind:Int)(value:List UInt8)(names:List (List UInt8)){X:Option (abS)}(hX:X=some (s.map toR,r.aE.eh,r.aE.L.map rJ,r.aD.L.map uu,r.Seen.map lk,0,0,E,value,version,names,kind)): (bd X λw=>bd (if w.2.2.2.2.2.2.2.1=0 then some (decide ((0:Int)<w.2.2.2.2.2.2.2.2.2.2.2)) else some false:Option Bool) λw8=>
  if w8 then some ((⟨(⟨w.1⟩:bm),(⟨w.2.1,w.2.2.1⟩:cg),(⟨w.2.2.2.1⟩:dS),w.2.2.2.2.1⟩:bu),(⟨w.2.2.2.2.2.1,w.2.2.2.2.2.2.1,w.2.2.2.2.2.2.2.1,w.2.2.2.2.2.2.2.2.1,w.2.2.2.2.2.2.2.2.2.1,w.2.2.2.2.2.2.2.2.2.2.1⟩:ay),([(⟨w.2.2.2.2.2.2.2.2.2.2.2,(ot o).Path⟩:bh)]:List bh))
  else some ((⟨(⟨w.1⟩:bm),(⟨w.2.1,w.2.2.1⟩:cg),(⟨w.2.2.2.1⟩:dS),w.2.2.2.2.1⟩:bu),(⟨w.2.2.2.2.2.1,w.2.2.2.2.2.2.1,w.2.2.2.2.2.2.2.1,w.2.2.2.2.2.2.2.2.1,w.2.2.2.2.2.2.2.2.2.1,w.2.2.2.2.2.2.2.2.2.2.1⟩:ay),([]:List bh)))=
 some (bV {r with Shelf:=⟨s⟩},⟨0,0,E,value,version,names⟩,(DL o E kind).map MI):=by
 rw [hX,ak];unfold DL;by_cases h1:E=0
 .rw [if_pos h1,ak];by_cases h2:0<kind
  .rw [decide_eq_true h2,if_pos rfl,if_pos ⟨h1,h2⟩];rfl
  .rw [decide_eq_false h2,if_neg abq,if_neg (λhh=>h2 hh.2)];rfl
 .rw [if_neg h1,ak,if_neg abq,if_neg (λhh=>h1 hh.1)];rfl
theorem aba {r:aj}(h:dN r){o:aa}(hk:1<=o.Kind/\o.Kind<=5): p0 (bV r) (ot o)=some (bV (BW ⟨r,o,cO o 0,[]⟩).r,SO (BW ⟨r,o,cO o 0,[]⟩).x,(BW ⟨r,o,cO o 0,[]⟩).l.map MI):=by
 have hlen:=h.shelf.len;have Lw:o.Kind=1\/o.Kind=2\/o.Kind=3\/o.Kind=4\/o.Kind=5:=aab
 unfold p0 BW;rcases Lw with hk|hk|hk|hk|hk
 .
  have hb:(if !decide ((ot o).Session=0) then if (ot o).Session<0 then some true else bd (td (bV r).aE (ot o).Session) λrA=>some (!rA) else some false:Option Bool)=some (decide (o.Session≠0/\gh fK r.aE.L o.Session=false)):=by
   show (if !decide (o.Session=0) then if o.Session<0 then some true else bd (td (VB r.aE) o.Session) λrA=>some (!rA) else some false:Option Bool)=_;by_cases h0:o.Session=0
   .grind
   .by_cases hn:o.Session<0
    .have hno:gh fK r.aE.L o.Session=false:=by rw [Bool.eq_false_iff];intro hh;obtain ⟨y,hy,he⟩:=qx.1 hh;have:=(h.book.all y hy).1;have he:y.Id=o.Session:=he;omega
     grind
    .have KG:=h.book.len;rw [if_neg hn,EI aab,ak];simp_all
  rw [if_pos (by grind [ot]),hb,if_neg (by grind),if_pos hk];unfold yw;by_cases hs:o.Session≠0/\gh fK r.aE.L o.Session=false
  .rw [if_pos hs,decide_eq_true hs];exact nZ o r.Shelf.L 14 0 1 [] [] rfl
  .rw [if_neg hs,decide_eq_false hs];have hc:=Vs h.shelf o.Path o.Value o.Session;refine (nZ o (ic r.Shelf.L o.Path o.Value o.Session).1 (ic r.Shelf.L o.Path o.Value o.Session).2 0 1 [] [] (aK (y:=some ((ic r.Shelf.L o.Path o.Value o.Session).1.map toR,r.aE.eh,r.aE.L.map rJ,r.aD.L.map uu,r.Seen.map lk,0,0,(ic r.Shelf.L o.Path o.Value o.Session).2,[],0,[])) (aK hc rfl) rfl)).trans ?_;rw [SL,IF,api _ _ rfl];unfold DL;by_cases he:(ic r.Shelf.L o.Path o.Value o.Session).2=0
   .rw [if_pos ⟨he,abq⟩,if_pos (by grind [lj])];rfl
   .rw [if_neg (λhh=>he hh.1),if_neg (by grind [lj])];rfl
 .rw [if_neg (show¬(ot o).Kind=1 by show¬o.Kind=1;omega),if_pos (by grind [ot]),if_neg (by grind),if_neg (by grind),if_pos hk];have hg:=zZ (s:=r.Shelf) aab o.Path;exact nZ o r.Shelf.L (ea r.Shelf.L o.Path).2 (ea r.Shelf.L o.Path).1.Version 0 (ea r.Shelf.L o.Path).1.Value [] (aK (y:=some (r.Shelf.L.map toR,r.aE.eh,r.aE.L.map rJ,r.aD.L.map uu,r.Seen.map lk,0,0,(ea r.Shelf.L o.Path).2,(ea r.Shelf.L o.Path).1.Value,(ea r.Shelf.L o.Path).1.Version,[],0)) (aK hg rfl) rfl)|>.trans (by unfold DL;rw [if_neg (λhh=>aab)];rfl)
 .rw [if_neg (show¬(ot o).Kind=1 by show¬o.Kind=1;omega),if_neg (show¬(ot o).Kind=2 by show¬o.Kind=2;omega),if_pos (by grind [ot]),if_neg (by grind),if_neg (by grind),if_neg (by grind),if_pos hk];have hs:=aeT h.shelf o.Path o.Value o.Version;have pF:=MH h.shelf o.Path o.Value o.Version;have awN:=pF.len;have hg:=zZ (s:=⟨(uN r.Shelf.L o.Path o.Value o.Version).1⟩) (by grind) o.Path;generalize hP:uN r.Shelf.L o.Path o.Value o.Version=Q at hs pF awN hg;have ⟨s,E⟩:=Q;have agL:Vx ⟨r,o,cO o 0,[]⟩=⟨{r with Shelf:=⟨s⟩},o,⟨o.Client,o.Seq,E,[],if E=0 then (ea s o.Path).1.Version else 0,[]⟩,if E=0 then [⟨2,o.Path⟩] else []⟩:=by
   unfold Vx sX lj Qa;dsimp only;rw [hP];dsimp only;by_cases he:E=0
   .subst he;rfl
   .simp only [if_neg he];rfl
  rw [agL];by_cases he:E=0
  .refine (nZ o s E (ea s o.Path).1.Version 2 [] [] (aK (y:=some (s.map toR,r.aE.eh,r.aE.L.map rJ,r.aD.L.map uu,r.Seen.map lk,0,0,E,[],(ea s o.Path).1.Version,[],2)) (aK (y:=some (s.map toR,r.aE.eh,r.aE.L.map rJ,r.aD.L.map uu,r.Seen.map lk,0,0,E,[],(ea s o.Path).1.Version,[],2)) (aK hs ?_) rfl) rfl)).trans ?_
   .refine aK (y:=some (0,0,E,[],(ea s o.Path).1.Version,[])) ?_ rfl;rw [if_pos (by grind)];exact aK hg rfl
   .unfold DL;rw [if_pos ⟨he,abq⟩,if_pos he,if_pos he];rfl
  .refine (nZ o s E 0 2 [] [] (aK (y:=some (s.map toR,r.aE.eh,r.aE.L.map rJ,r.aD.L.map uu,r.Seen.map lk,0,0,E,[],0,[],2)) (aK (y:=some (s.map toR,r.aE.eh,r.aE.L.map rJ,r.aD.L.map uu,r.Seen.map lk,0,0,E,[],0,[],2)) (aK hs ?_) rfl) rfl)).trans ?_
   .refine aK (y:=some (0,0,E,[],0,[])) ?_ rfl;grind
   .unfold DL;rw [if_neg (λhh=>he hh.1),if_neg he,if_neg he];rfl
 .rw [if_neg (show¬(ot o).Kind=1 by show¬o.Kind=1;omega),if_neg (show¬(ot o).Kind=2 by show¬o.Kind=2;omega),if_neg (show¬(ot o).Kind=3 by show¬o.Kind=3;omega),if_pos (by grind [ot]),if_neg (by grind),if_neg (by grind),if_neg (by grind),if_neg (by grind),if_pos hk];have hd:=aeU h.shelf o.Path o.Version;unfold EH;rw [SL,IF,api _ _ rfl];refine (nZ o (uy r.Shelf.L o.Path o.Version).1 (uy r.Shelf.L o.Path o.Version).2 0 3 [] [] (aK (y:=some ((uy r.Shelf.L o.Path o.Version).1.map toR,r.aE.eh,r.aE.L.map rJ,r.aD.L.map uu,r.Seen.map lk,0,0,(uy r.Shelf.L o.Path o.Version).2,[],0,[],3)) (aK (y:=some ((uy r.Shelf.L o.Path o.Version).1.map toR,r.aE.eh,r.aE.L.map rJ,r.aD.L.map uu,r.Seen.map lk,0,0,(uy r.Shelf.L o.Path o.Version).2,[],0,[],3)) (aK (y:=some ((uy r.Shelf.L o.Path o.Version).1.map toR,r.aE.eh,r.aE.L.map rJ,r.aD.L.map uu,r.Seen.map lk,0,0,(uy r.Shelf.L o.Path o.Version).2,[],0,[],3)) (aK hd rfl) rfl) rfl) rfl)).trans ?_;unfold DL;by_cases he:(uy r.Shelf.L o.Path o.Version).2=0
  .rw [if_pos ⟨he,abq⟩,if_pos (by grind [lj])];rfl
  .rw [if_neg (λhh=>he hh.1),if_neg (by grind [lj])];rfl
 .rw [if_neg (show¬(ot o).Kind=1 by show¬o.Kind=1;omega),if_neg (show¬(ot o).Kind=2 by show¬o.Kind=2;omega),if_neg (show¬(ot o).Kind=3 by show¬o.Kind=3;omega),if_neg (show¬(ot o).Kind=4 by show¬o.Kind=4;omega),if_pos (by grind [ot]),if_neg (by grind),if_neg (by grind),if_neg (by grind),if_neg (by grind),if_neg (by grind),if_pos hk];have hl:=aaQ (s:=r.Shelf) h.shelf.ord aab o.Path;refine (nZ o r.Shelf.L (mQ r.Shelf.L o.Path).2 0 0 [] (mQ r.Shelf.L o.Path).1 (aK (y:=some (r.Shelf.L.map toR,r.aE.eh,r.aE.L.map rJ,r.aD.L.map uu,r.Seen.map lk,0,0,(mQ r.Shelf.L o.Path).2,[],0,(mQ r.Shelf.L o.Path).1,0)) (aK (y:=some (r.Shelf.L.map toR,r.aE.eh,r.aE.L.map rJ,r.aD.L.map uu,r.Seen.map lk,0,0,(mQ r.Shelf.L o.Path).2,[],0,(mQ r.Shelf.L o.Path).1,0)) (aK (y:=some (r.Shelf.L.map toR,r.aE.eh,r.aE.L.map rJ,r.aD.L.map uu,r.Seen.map lk,0,0,(mQ r.Shelf.L o.Path).2,[],0,(mQ r.Shelf.L o.Path).1,0)) (aK (y:=some (0,0,(mQ r.Shelf.L o.Path).2,[],0,(mQ r.Shelf.L o.Path).1)) (aK hl rfl) rfl) rfl) rfl) rfl)).trans ?_;unfold DL;rw [if_neg (λhh=>aab)];rfl
abbrev apj:=abG
def rD (r:aj)(E version:Int)(l:List az):apj:=(r.Shelf.L.map toR,r.aE.eh,r.aE.L.map rJ,r.aD.L.map uu,r.Seen.map lk,0,0,E,[],version,[],l.map MI)
def ur (r:aj)(E version:Int)(l:List az){X:Option apj}(hX:X=some (rD r E version l)): (bd X λw4=>some ((⟨(⟨w4.1⟩:bm),(⟨w4.2.1,w4.2.2.1⟩:cg),(⟨w4.2.2.2.1⟩:dS),w4.2.2.2.2.1⟩:bu),(⟨w4.2.2.2.2.2.1,w4.2.2.2.2.2.2.1,w4.2.2.2.2.2.2.2.1,w4.2.2.2.2.2.2.2.2.1,w4.2.2.2.2.2.2.2.2.2.1,w4.2.2.2.2.2.2.2.2.2.2.1⟩:ay),w4.2.2.2.2.2.2.2.2.2.2.2))= some (bV r,⟨0,0,E,[],version,[]⟩,l.map MI):=by rw [hX,ak];rfl
theorem anI {r:aj}(h:dN r){o:aa}(hk:0<=o.Kind/\o.Kind<=11): zx (bV r) (ot o)=some (bV (BW ⟨r,o,cO o 0,[]⟩).r,SO (BW ⟨r,o,cO o 0,[]⟩).x,(BW ⟨r,o,cO o 0,[]⟩).l.map MI):=by
 have hlen:=h.shelf.len;have KG:=h.book.len;have htl:=h.table.len;by_cases NX:1<=o.Kind/\o.Kind<=5
 .unfold zx;grind [p0,bV,ot,aba,ak]
 have hg: ∀k:Int,k≠1->k≠2->k≠3->k≠4->k≠5->(if k=1 then some (decide (k=1)) else bd (if k=2 then some (decide (k=2)) else bd (if k=3 then some (decide (k=3)) else bd (if k=4 then some (decide (k=4)) else some (decide (k=5)):Option Bool) λw3=>some w3:Option Bool) λw2=>some w2:Option Bool) λw1=>some w1:Option Bool)=some false:=by intro k h1 h2 h3 h4 h5;rw [if_neg h1,if_neg h2,if_neg h3,if_neg h4,decide_eq_false h5];rfl
 refine aK (hg o.Kind aab aab aab aab aab) ?_;have n: ∀k:Int,o.Kind≠k-> ¬(ot o).Kind=k:=λk hh=>hh;have Lw:o.Kind=0\/o.Kind=6\/o.Kind=7\/o.Kind=8\/o.Kind=9\/o.Kind=10\/o.Kind=11:=aab
 rcases Lw with hk|hk|hk|hk|hk|hk
 .have hd:BW ⟨r,o,cO o 0,[]⟩=⟨r,o,cO o 0,[]⟩:=by unfold BW;rw [if_pos hk]
  rw [hd];rw [if_neg (n 6 aab),if_neg (n 7 aab),if_neg (n 8 aab),if_neg (n 9 aab),if_neg (n 10 aab),decide_eq_false (n 11 aab),ak,if_neg (by grind)];exact ur r 0 0 [] rfl
 .have hd:BW ⟨r,o,cO o 0,[]⟩=acK ⟨r,o,cO o 0,[]⟩:=by unfold BW;simp only [hk];rfl
  rw [hd,if_pos (by grind)];exact ur {r with aE:=BV r.aE o.Session o.Span} (rV r.aE o.Session o.Span) 0 [] (aK (aa7 h.book o.Session o.Span) rfl)
 .have hd:BW ⟨r,o,cO o 0,[]⟩=Vy ⟨r,o,cO o 0,[]⟩:=by unfold BW;simp only [hk];rfl
  rw [hd,if_neg (n 6 aab),if_pos (by grind)];exact ur {r with aE:=(nY r.aE o.Session).1} (nY r.aE o.Session).2 0 [] (aK (y:=some (rD {r with aE:=(nY r.aE o.Session).1} (nY r.aE o.Session).2 0 [])) (aK (YI h.book o.Session) rfl) rfl)
 .have hd:BW ⟨r,o,cO o 0,[]⟩=BJ ⟨r,o,cO o 0,[]⟩:=by unfold BW;simp only [hk];rfl
  rw [hd,if_neg (n 6 aab),if_neg (n 7 aab),if_pos (by grind)];unfold BJ;have hc:=YJ h.book o.Session;by_cases hz:(cW r.aE o.Session).2=0
  .rw [if_pos hz];have hdr:=Ll [o.Session] (uP ⟨r,o,cO o 0,[]⟩ (cW r.aE o.Session)) (by show 0+r.Shelf.L.length<=_;omega) abu rfl;refine (ur (oK (uP ⟨r,o,cO o 0,[]⟩ (cW r.aE o.Session)) o.Session).r (cW r.aE o.Session).2 0 (oK (uP ⟨r,o,cO o 0,[]⟩ (cW r.aE o.Session)) o.Session).l (aK (y:=some (rD (oK (uP ⟨r,o,cO o 0,[]⟩ (cW r.aE o.Session)) o.Session).r (cW r.aE o.Session).2 0 (oK (uP ⟨r,o,cO o 0,[]⟩ (cW r.aE o.Session)) o.Session).l)) (aK (y:=some (rD (oK (uP ⟨r,o,cO o 0,[]⟩ (cW r.aE o.Session)) o.Session).r (cW r.aE o.Session).2 0 (oK (uP ⟨r,o,cO o 0,[]⟩ (cW r.aE o.Session)) o.Session).l)) (aK hc ?_) rfl) rfl)).trans rfl;refine aK (y:=some ((oK (uP ⟨r,o,cO o 0,[]⟩ (cW r.aE o.Session)) o.Session).r.Shelf.L.map toR,(cW r.aE o.Session).1.eh,(cW r.aE o.Session).1.L.map rJ,r.aD.L.map uu,r.Seen.map lk,(oK (uP ⟨r,o,cO o 0,[]⟩ (cW r.aE o.Session)) o.Session).l.map MI)) ?_ rfl;rw [if_pos (by grind)];exact aK hdr rfl
  .rw [if_neg hz];refine (ur {r with aE:=(cW r.aE o.Session).1} (cW r.aE o.Session).2 0 [] (aK (y:=some (rD {r with aE:=(cW r.aE o.Session).1} (cW r.aE o.Session).2 0 [])) (aK (y:=some (rD {r with aE:=(cW r.aE o.Session).1} (cW r.aE o.Session).2 0 [])) (aK hc ?_) rfl) rfl)).trans rfl;refine aK (y:=some (r.Shelf.L.map toR,(cW r.aE o.Session).1.eh,(cW r.aE o.Session).1.L.map rJ,r.aD.L.map uu,r.Seen.map lk,[])) ?_ rfl;rw [if_neg (by grind)];rfl
 .have hd:BW ⟨r,o,cO o 0,[]⟩=IA ⟨r,o,cO o 0,[]⟩:=by unfold BW;simp only [hk];rfl
  rw [hd,if_neg (n 6 aab),if_neg (n 7 aab),if_neg (n 8 aab),if_pos (by grind)];unfold IA;have ht:=aa8 h.book o.Span;by_cases hz:rC r.aE o.Span=0
  .rw [if_pos hz] at ht⊢;have hgl:(rW r.aE o.Span).length<=r.aE.L.length:=by unfold rW;rw [AS];exact List.length_filter_le _ _
   have hdr:=Ll (rW r.aE o.Span) (uO ⟨r,o,cO o 0,[]⟩) (by show 0+r.Shelf.L.length<=_;omega) aab rfl;have ⟨d1,d2,d3,d4,d5,d6⟩:=uq (rW r.aE o.Span) (v:=uO ⟨r,o,cO o 0,[]⟩) (lQ h (Iz h.book hz));generalize eU (uO ⟨r,o,cO o 0,[]⟩) (rW r.aE o.Span)=v at hdr d1 d2 d3 d4 d5 d6;have hv:(v.r.Shelf.L.map toR,o.Span,(SJ r.aE o.Span).L.map rJ,r.aD.L.map uu,r.Seen.map lk,(0:Int),(0:Int),(0:Int),([]:List UInt8),o.Span,([]:List (List UInt8)),v.l.map MI)=rD v.r 0 o.Span v.l:=by unfold rD;rw [d5,d6,d4];rfl
   refine (ur v.r 0 o.Span v.l (aK (y:=some (rD v.r 0 o.Span v.l)) (aK (y:=some (rD v.r 0 o.Span v.l)) (aK (y:=some (rD v.r 0 o.Span v.l)) (aK ht ?_) rfl) rfl) rfl)).trans ?_
   .refine aK (y:=some (rD v.r 0 o.Span v.l)) ?_ rfl;rw [if_pos (by grind),<-hv];exact aK hdr rfl
   .rw [d3];rfl
  .rw [if_neg hz] at ht⊢;refine (ur r (rC r.aE o.Span) 0 [] (aK (y:=some (rD r (rC r.aE o.Span) 0 [])) (aK (y:=some (rD r (rC r.aE o.Span) 0 [])) (aK (y:=some (rD r (rC r.aE o.Span) 0 [])) (aK ht ?_) rfl) rfl) rfl)).trans rfl;refine aK (y:=some (rD r (rC r.aE o.Span) 0 [])) ?_ rfl;rw [if_neg (by grind)];rfl
 .have hd:BW ⟨r,o,cO o 0,[]⟩=Vz ⟨r,o,cO o 0,[]⟩:=by unfold BW;rw [if_neg (by grind),if_neg (by grind),if_neg (by grind),if_neg (by grind),if_neg (by grind),if_neg (by grind),if_neg (by grind),if_neg (by grind),if_neg (by grind),if_neg (by grind)]
  rw [hd,if_neg (n 6 aab),if_neg (n 7 aab),if_neg (n 8 aab),if_neg (n 9 aab)];have hw:(if (ot o).Kind=10 then some (decide ((ot o).Kind=10)) else some (decide ((ot o).Kind=11)):Option Bool)=some true:=by
   rcases hk with hk|hk
   .grind
   .grind
  have ha:=ae2 r.aD.L (ig o) aab;refine (ur {r with aD:=⟨(ql r.aD.L (ig o)).1⟩} (ql r.aD.L (ig o)).2 0 [] (aK (y:=some (rD {r with aD:=⟨(ql r.aD.L (ig o)).1⟩} (ql r.aD.L (ig o)).2 0 [])) (aK (y:=some (rD {r with aD:=⟨(ql r.aD.L (ig o)).1⟩} (ql r.aD.L (ig o)).2 0 [])) (aK (y:=some (rD {r with aD:=⟨(ql r.aD.L (ig o)).1⟩} (ql r.aD.L (ig o)).2 0 [])) (aK hw ?_) rfl) rfl) rfl)).trans rfl;exact aK (y:=some (r.Shelf.L.map toR,r.aE.eh,r.aE.L.map rJ,(ql r.aD.L (ig o)).1.map uu,r.Seen.map lk,0,0,(ql r.aD.L (ig o)).2,[],0,[])) (aK ha rfl) rfl
theorem YK {r:aj}(h:dw r)(o:aa):zy (bV r) (ot o)=some (bV (cK r o).1,lk (cK r o).2.1,(cK r o).2.2.map plE):=by
 have rK:(bV r).Seen.length=r.Seen.length:=AS ..;unfold zy cK ek;rw [Ku,ak];cases hm:GR o with
 |false=>rfl
 |true=>
 rw [if_neg (show¬(!true)=true by decide),if_neg (show¬true=false by decide),show wz (bV r) (ot o).Client=_ from Qd h o.Client,ak];have NO:ek r.Seen o=(cO o 0,false)->(bd (zx (bV r) (ot o)) λbK=>bd (wG bK.1.aD bK.2.2) λgQ=>bd (wH (bV r).Seen (⟨(ot o).Client,(ot o).Seq,bK.2.1.E,bK.2.1.Value,bK.2.1.Version,bK.2.1.Names⟩:ay)) λn6=>
  some ((⟨bK.1.Shelf,bK.1.aE,gQ.1,n6⟩:bu),(⟨(ot o).Client,(ot o).Seq,bK.2.1.E,bK.2.1.Value,bK.2.1.Version,bK.2.1.Names⟩:ay),gQ.2))=
  some (bV ⟨(fC r o).r.Shelf,(fC r o).r.aE,⟨(iD (fC r o).r.aD.L (fC r o).l).1⟩,BX r.Seen o.Client (fC r o).x⟩,lk (fC r o).x,(iD (fC r o).r.aD.L (fC r o).l).2.map plE):=by
  intro hkn;have hp:=MK hm;have hw:fC r o=BW ⟨r,o,cO o 0,[]⟩:=by unfold fC;rw [hkn]
  have hd:DK ⟨r,o,cO o 0,[]⟩ (fC r o):=by rw [hw];exact (by grind [YC,cO,h.todN])
  have hxc:(fC r o).x.Client=o.Client:=hd.eT;have hxs:(fC r o).x.Seq=o.Seq:=hd.seq;have hll:=hd.len;have htl:=hd.table.len;rw [anI h.todN hp.2.2.1,ak,<-hw];generalize fC r o=v at hxc hxs hll htl;have hx:(⟨(ot o).Client,(ot o).Seq,(SO v.x).E,(SO v.x).Value,(SO v.x).Version,(SO v.x).Names⟩:ay)=lk v.x:=by show (⟨o.Client,o.Seq,v.x.E,v.x.Value,v.x.Version,v.x.Names⟩:ay)=⟨v.x.Client,v.x.Seq,v.x.E,v.x.Value,v.x.Version,v.x.Names⟩;rw [hxc,hxs]
  have hll:v.l.length<=250:=by simpa using hll
  dsimp only;rw [show wG (bV v.r).aD (v.l.map MI)=_ from aaZ v.r.aD.L v.l aab aab,ak,hx,show wH (bV r).Seen (lk v.x)=_ from aa9 h hxc,ak];rfl
 cases hl:(eM r.Seen o.Client).2 with
 |true=>
  rw [if_pos rfl,if_pos rfl,ak];by_cases h1:(eM r.Seen o.Client).1.Seq=o.Seq
  .rw [decide_eq_true (show (lk (eM r.Seen o.Client).1).Seq=(ot o).Seq from h1),if_pos rfl,if_pos h1];rfl
  .rw [decide_eq_false (show¬(lk (eM r.Seen o.Client).1).Seq=(ot o).Seq from h1),if_neg (show¬false=true by decide),if_neg h1,if_pos rfl,ak];by_cases h2:o.Seq<(eM r.Seen o.Client).1.Seq
   .rw [decide_eq_true (show (ot o).Seq<(lk (eM r.Seen o.Client).1).Seq from h2),if_pos rfl,if_pos h2];rfl
   .rw [decide_eq_false (show¬(ot o).Seq<(lk (eM r.Seen o.Client).1).Seq from h2),if_neg (by grind),if_neg h2,if_neg (by grind),ak,if_neg (by grind)];rw [NO (by grind [Lk]),if_neg (by grind)]
 |false=>
  rw [if_neg (show¬false=true by decide),ak,if_neg (show¬false=true by decide),if_neg (show¬false=true by decide),ak,if_neg (show¬false=true by decide),if_pos (show (!false)=true from rfl),ak,if_neg (show¬false=true by decide)];by_cases h3:50<=r.Seen.length
  .rw [decide_eq_true (show (50:Int)<=((bV r).Seen.length:Int) by omega),if_pos rfl,if_pos h3];rfl
  .rw [decide_eq_false (show¬(50:Int)<=((bV r).Seen.length:Int) by omega),if_neg (show¬false=true by decide),if_neg h3,NO (Lk hm (.inl ⟨hl,aab⟩)),if_neg (show¬false=true by decide)]
theorem SP {x:Int}(h0:0<=x)(h1:x<256):isByte x=true:=by grind [isByte,decide_eq_true,UInt8.toNat_ofNat']
structure Byt (l:List Int) (N:Nat):Prop where
 len:l.length<=N
 all:l.all isByte=true
def Byt.app {l m:List Int}{N M:Nat}(h:Byt l N)(h2:Byt m M):Byt (l++m) (N+M):=⟨by grind [AT,h.len,h2.len],by rw [List.all_append,h.all,h2.all];rfl⟩
theorem Byt.one {x:Int}(h0:0<=x)(h1:x<256):Byt [x] 1:=⟨abu,by grind [SP]⟩
def Byt.le {l:List Int}{N M:Nat}(h:Byt l N)(hm:N<=M):Byt l M:=⟨agx h.len hm,h.all⟩
def Byt.str (s:List UInt8):Byt (sq s) s.length:=⟨by simp_all [sq,AS,afw],by unfold sq;rw [List.all_map,List.all_eq_true];intro b _;have:=UInt8.toNat_lt b;grind [SP]⟩
def sY (y:ah):Prop:=y.Value.length<=1100/\y.Names.length<=1000/\ ∀s∈y.Names,s.length<=1000
def GS (r:aj):Prop:= ∀y∈r.Seen,sY y
def afd {L:List ab}(h:eP L)(p:List UInt8):(ea L p).1.Value.length<=1000:=by
 rcases SH h.ord p with ⟨n,hn,_,he⟩|⟨_,he⟩
 .rw [he];exact (h.xx n hn).1
 .rw [he];exact afN _
def abb {L:List ab}(h:eP L)(p:List UInt8):(mQ L p).1.length<=1000/\ ∀s∈(mQ L p).1,s.length<=1000:=by
 have hl:=aeM L p;have:=h.len;refine ⟨aab,λs hs=> ?_⟩;unfold mQ at hs;split at hs
 .rename_i hf;have ⟨hp,_⟩:=MG hf;obtain ⟨n,hn,rfl⟩:=List.mem_map.1 hs;have ⟨YU,Me⟩:=afF.1 hn;have:=aeJ (ajs (h.ord.1 n YU) hp Me).1;omega
 .cases hs
def ajX {w:af}(hp:dN w.r)(h:sY w.x):sY (BW w).x:=by
 have mk: ∀(x:ah) (e v:Int),sY x->sY {x with E:=e,Version:=v}:=λx e v hx=>hx;unfold BW;split
 .exact h
 split
 .unfold yw;split
  .exact h
  .rw [IF];exact h
 split
 .exact ⟨agx (afd hp.shelf w.o.Path) aab,h.2⟩
 split
 .unfold Vx Qa;split
  .exact mk _ _ _ (by rw [IF];exact h)
  .rw [IF];exact h
 split
 .unfold EH;rw [IF];exact h
 split
 .exact ⟨h.1,abb hp.shelf w.o.Path⟩
 split
 .exact h
 split
 .exact h
 split
 .unfold BJ;split<;>exact h
 split
 .unfold IA;split
  .rename_i he;have ⟨h1,h2,h3,h4,h5,h6⟩:=uq (rW w.r.aE w.o.Span) (v:=uO w) (lQ hp (Iz hp.book he));rw [h3];exact h
  .exact h
 .exact h
theorem DM (o:aa)(e:Int):sY (cO o e):=⟨afN _,afN _,λs hs=>by cases hs⟩
def YL {r:aj}(h:dw r)(hn:GS r)(o:aa):GS (cK r o).1/\sY (cK r o).2.1:=by
 have hkn:sY (ek r.Seen o).1:=by
  unfold ek;split
  .exact DM o 1
  split
  .rename_i hl;split
   .exact hn _ (ajT h.inc hl).1
   grind [DM]
  .grind [DM]
 unfold cK;cases hk:(ek r.Seen o).2 with
 |true=>grind
 |false=>
  have ⟨hm,B1,I7,xO⟩:=z6 hk;have hd:DK ⟨r,o,(ek r.Seen o).1,[]⟩ (fC r o):=YC (w:=⟨r,o,(ek r.Seen o).1,[]⟩) h.todN;have hxc:(fC r o).x.Client=o.Client:=by rw [hd.eT,B1];rfl
  have hx:sY (fC r o).x:=ajX (w:=⟨r,o,(ek r.Seen o).1,[]⟩) h.todN hkn;refine ⟨λy hy=> ?_,hx⟩;rcases (YE h.inc hxc y).1 hy with rfl|⟨hy,_⟩
  .exact hx
  .exact hn y hy
def afe {r:aj}(h:dw r)(o:aa):(cK r o).2.2.length<=200:=by have:=h.table.len;rcases (ID h o).2.2 with h|⟨h,_⟩;all_goals grind
def SQ (l:List aa): ∀(r:aj) (a:List ah) (b:List aY),l.foldl qd (r,a,b)=((cP r l).1,a++(cP r l).2.1,b++(cP r l).2.2):=by
 unfold cP;induction l with
 |nil=>grind
 |cons o l ih=>grind [qd,IT]
def Qe {r:aj}(h:dw r)(l:List aa):dw (cP r l).1/\(cP r l).2.1.length=l.length/\(cP r l).2.2.length<=200 *l.length:=by have ⟨h1,h2,h3,h4⟩:=SM l (st:=(r,[],[])) h;have h3:(cP r l).2.1.length=0+l.length:=h3;have h4:(cP r l).2.2.length<=0+200 *l.length:=h4;exact ⟨h2,aab,aab⟩
def Qf (l:List aa): ∀{r:aj},dw r->GS r->GS (cP r l).1/\ ∀y∈(cP r l).2.1,sY y:=by
 induction l with
 |nil=>intro r h hs;exact ⟨hs,λy hy=>by cases hy⟩
 |cons o l ih=>
  intro r h hs;have ⟨t1,t2⟩:=YL h hs o;have ⟨i1,i2⟩:=ih (Qc h o) t1;have hf:cP r (o::l)=((cP (cK r o).1 l).1,[(cK r o).2.1]++(cP (cK r o).1 l).2.1,(cK r o).2.2++(cP (cK r o).1 l).2.2):=by have h1:qd (r,[],[]) o=((cK r o).1,[(cK r o).2.1],(cK r o).2.2):=rfl;show l.foldl qd (qd (r,[],[]) o)=_;rw [h1,SQ]
  grind
def aff (s:aj×List ah×List aY)(k:Int):abT:=(s.1.Shelf.L.map toR,s.1.aE.eh,s.1.aE.L.map rJ,s.1.aD.L.map uu,s.1.Seen.map lk,s.2.1.map lk,s.2.2.map plE,k)
def Qg {r:aj}(h:dw r)(l:List aa)(hl:l.length<=1000):CW (bV r) (l.map ot)=some (bV (cP r l).1,(cP r l).2.1.map lk,(cP r l).2.2.map plE):=by
 have hll:(l.map ot).length=l.length:=AS ..;have dR:Loop (wI (l.map ot)) (aff (r,[],[]) 0)=some ((cP r l).1.Shelf.L.map toR,(cP r l).1.aE.eh,(cP r l).1.aE.L.map rJ,(cP r l).1.aD.L.map uu,(cP r l).1.Seen.map lk,(cP r l).2.1.map lk,(cP r l).2.2.map plE):=by
  refine aM.eq (aM.count (λk=>aff (cP r (l.take k)) (k:Int)) l.length (λ_=>True) rfl trivial (λk hk _=> ?_) (λ_=> ?_))
  .have hs:cP r (l.take (k+1))=qd (cP r (l.take k)) l[k]:=sW hk;rw [hs];have ⟨h2,h3,h4⟩:=Qe h (l.take k);generalize cP r (l.take k)=s at h2 h3 h4;have ha:=YK h2 l[k];have Ql:=afe h2 l[k];unfold wI aff;dsimp only;rw [if_pos aab,aI aab,OF];refine aM.of (a:=Sum.inl (aff (qd s l[k]) ((k+1:Nat):Int))) (aK ha ?_) ?_;rotate_left
   .exact ⟨rfl,trivial⟩
   rw [ak,if_pos (by grind),if_pos (by grind),wrap64 aab aab];unfold aff qd;simp only [afE,List.map_cons,List.map_nil];rfl
  .unfold wI aff;dsimp only;rw [if_neg aab,No];exact .mk rfl
 exact aK dR rfl
def afg:GS aa2:=λy hy=>by cases hy
def ajY (o:aa):yb (ot o)=some (decide (yR o)):=by rw [Ku,<-IC,acv]
def abc (many:Nat)(hm:many<=100): ∀(k:Nat) (b out:List Int),uj b->b.length<2^40->out.length+k=many-> aM (Loop (sC (many:Int)) (b,out,(out.length:Int))) λw=>(∃l r,oR k b=some (l,r)/\w= .inl (r,out++l))\/(oR k b=none/\ ∃e,e≠0/\w= .inr ([],[],e)):=by
 intro k;induction k with
 |zero=>intro b out hb hl e;refine ⟨_,kc ?_,.inl ⟨[],b,rfl,rfl⟩⟩;simp_all [sC,if_neg,List.append_nil]
 |succ k ih=>
  intro b out hb hl e;have jP:sC (many:Int) (b,out,(out.length:Int))=match uk b with|some (n,r)=>some (.inl (r,out++[n],((out++[n]).length:Int)))|none=>some (.inr (.inr ([],[],PR b))):=by
   unfold sC;simp only;rw [if_pos aab,Rn hb hl,ak];cases uk b with
   |none=>simp only [vt,decide_false,afT,if_true]
   |some p=>simp only [decide_true,afJ,ad5,if_false];rw [if_pos (by grind),wrap64 aab aab];simp
  rw [oR];cases ht:uk b with
  |none=>rw [ht] at jP;exact ⟨_,kc jP,.inr ⟨rfl,_,vt b,rfl⟩⟩
  |some p=>have ⟨n,r⟩:=p;rw [ht] at jP;have hr:=GL ht;have ⟨w,ew,hw⟩:=ih r (out++[n]) (GI hb ht).2.2 aab (by grind);refine ⟨w,mg jP ew,?_⟩;grind
def abd {b:List Int}(hb:uj b)(hl:b.length<2^40):aM (CX b) λr=>(∃o rest,eI b=some (o,rest)/\((yR o/\r=(ot o,rest,0))\/(¬yR o/\r.2.2≠0)))\/(eI b=none/\r.2.2≠0):=by
 unfold CX HD eI;have ⟨w,ew,hw⟩:=abc 6 abq 6 b [] hb hl rfl;rw [show ((([]:List Int).length:Nat):Int)=0 from rfl] at ew;rw [show ((6:Nat):Int)=6 from rfl] at ew;rw [ew,ak];rcases hw with ⟨l,r,h1,rfl⟩|⟨h1,e,he,rfl⟩;rotate_left
 .rw [h1];simp only [ak];rw [if_pos (by simp [he])];exact .mk (.inr ⟨trivial,he⟩)
 have ⟨_,hlen,_,hbr,hlr⟩:=Lc 6 hb h1;obtain ⟨c,s,k,v,se,sp,rfl⟩: ∃c s k v e p,l=[c,s,k,v,e,p]:=by
  match l,hlen with
  |[c,s,k,v,e,p],_=>grind
 rw [h1];simp only [ak,afv];rw [if_neg abu,show (100:Int)=((100:Nat):Int) from rfl,DH hbr aab abq,ak];rcases Kj r 100 with ⟨x,r2,t2,g2⟩|⟨t2,e,he,g2⟩;rotate_left
 .rw [g2,t2,if_pos (by simp [he])];exact .mk (.inr ⟨rfl,he⟩)
 have B3:=(BF hbr t2).2.2;have xO:=PV t2;rw [g2,t2,if_neg abu,show (1000:Int)=((1000:Nat):Int) from rfl,DH B3 aab abq,ak];rcases Kj r2 1000 with ⟨y,r3,t3,g3⟩|⟨t3,e,he,g3⟩;rotate_left
 .simp only [t3];rw [g3,if_pos (by simp [he])];exact .mk (.inr ⟨trivial,he⟩)
 rw [g3,if_neg abu];have ix6: ∀(K:Int->Int->Int->Int->Int->Int->Option (aJ×List Int×Int)),(ix [c,s,k,v,se,sp] 0 λy=>ix [c,s,k,v,se,sp] 1 λy1=>ix [c,s,k,v,se,sp] 2 λy2=>ix [c,s,k,v,se,sp] 3 λy3=>ix [c,s,k,v,se,sp] 4 λy4=>ix [c,s,k,v,se,sp] 5 λy5=>K y y1 y2 y3 y4 y5)=K c s k v se sp:=λK=>rfl;rw [ix6,show (⟨c,s,k,x,y,v,se,sp⟩:aJ)=ot ⟨c,s,k,x,y,v,se,sp⟩ from rfl,ajY,ak];by_cases hm:yR ⟨c,s,k,x,y,v,se,sp⟩
 .rw [decide_eq_true hm,if_neg abu];exact .mk (by grind)
 .rw [decide_eq_false hm,if_pos abu];exact .mk (by grind)
def asi {rA:Int×List Int×Int}{n:Nat}(hn:rA.1=(n:Int))(aAU:n<=10): ∀(m:Nat) (out:List aJ) (r:List Int),uj r->r.length<2^40->out.length+m=n-> Loop (oh rA) (r,out,(out.length:Int))=some (match sS m r with|some (l,r')=> .inl (r',out++l.map ot)|none=> .inr ([],3)):=by
 intro m;induction m with
 |zero=>simp_all [kc,oh,if_neg,sS]
 |succ m ih=>
  intro out r hb hl e;have ⟨x,ex,hx⟩:=abd hb hl;have jP:oh rA (r,out,(out.length:Int))=if x.2.2=0 then some (.inl (x.2.1,out++[x.1],((out++[x.1]).length:Int))) else some (.inr (.inr ([],3))):=by
   unfold oh;simp only;rw [if_pos (by grind),ex,ak];by_cases he:x.2.2=0
   .rw [if_neg (by simp [he]),if_pos he,if_pos (by grind),sQ];congr 4;grind
   .grind
  rw [sS];rcases hx with ⟨o,rest,t0,⟨hm,rfl⟩|⟨hm,he⟩⟩|⟨t0,he⟩
  .refine mg jP ?_;have ⟨b2,l2⟩:=PZ hb t0;grind
  all_goals simp_all [if_neg,kc]
def afh (s:List UInt8)(hs:s.length<2^40):aM (jY s) λp=>wL s=some (p.1.map ot,p.2):=by
 rw [SC s hs];refine .mk ?_;have hb:=PQ s;have hl:(sq s).length<2^40:=by rw [DG];exact hs
 unfold wL;rw [GK hb hl,ak];unfold tkB;cases ht:mO (sq s) with
 |none=>simp_all [vt,decide_false,afT,if_true,ak]
 |some p=>
  have ⟨n,r⟩:=p;have ⟨e1,n1,b1⟩:=lO hb ht;simp only [decide_true,afJ,ad5,if_false,ak];by_cases Hi:10<n
  .grind
  rw [decide_eq_false aab,if_neg abu,if_neg Hi];have:=asi (rA:=((n:Int),r,0)) (n:=n) rfl aab n [] r b1 (by grind) abu;rw [show ((([]:List aJ).length:Nat):Int)=0 from rfl] at this;rw [this,ak];cases sS n r with
  |none=>rfl
  |some q=>
   have ⟨l,r'⟩:=q;cases r' with
   |nil=>rfl
   |cons y r'=>grind
def Qh {σ τ ρ ρ':Type}{f:σ->Option (Sum σ ρ)}{g:τ->Option (Sum τ ρ')}(R:σ->τ->Prop)(Q:ρ->ρ'->Prop) (μ:σ->Nat)(h: ∀s t,R s t->(∃s' t',f s=some (.inl s')/\g t=some (.inl t')/\R s' t'/\μ s'<μ s)\/(∃r r',f s=some (.inr r)/\g t=some (.inr r')/\Q r r')){s:σ}{t:τ}(hs:R s t): ∃r r',Loop f s=some r/\Loop g t=some r'/\Q r r':=by
 have key: ∀k s t,R s t->μ s<k-> ∃n r r',iter f n s=some r/\iter g n t=some r'/\Q r r':=by
  intro k;induction k with
  |zero=>grind
  |succ k ih=>
   intro s t hs hk;rcases h s t hs with ⟨s',t',e1,e2,hr,hm⟩|⟨r,r',e1,e2,hq⟩
   .have ⟨n,r,r',i1,i2,hq⟩:=ih s' t' hr aab;exact ⟨n+1,r,r',by grind [iter],by grind [iter],hq⟩
   .exact ⟨1,r,r',by grind [iter],by grind [iter],hq⟩
 have ⟨n,r,r',i1,i2,hq⟩:=key _ s t hs (Nat.lt_succ_self _);grind [dI]
theorem w32 (x:Int):bD .u32 x=x%4294967296:=by simp [bD,aeY,afH]
def ofB (x:BitVec 32):sh 32 (bD .u32 (x.toNat:Int))=x:=by grind [w32,BitVec.eq_of_toNat_eq,x.isLt,BitVec.toNat_ofInt]
theorem ajZ (x y:Int):Ch .u32 x y=Ch .u32 y x:=by grind [Ch,BitVec.or_comm]
def awO (e f g:Int):ca .u32 g (eX .u32 e (ca .u32 f g))=Ch .u32 (eX .u32 e f) (eX .u32 (ca .u32 e 4294967295) g):=by
 have h1:sh 32 (4294967295:Int)=af2 32:=abq
 show bD .u32 ((sh 32 g^^^sh 32 (bD .u32 ((sh 32 e&&&sh 32 (bD .u32 ((sh 32 f^^^sh 32 g).toNat:Int))).toNat:Int))).toNat:Int)=bD .u32 ((sh 32 (bD .u32 ((sh 32 e&&&sh 32 f).toNat:Int))|||sh 32 (bD .u32 ((sh 32 (bD .u32 ((sh 32 e^^^sh 32 4294967295).toNat:Int))&&&sh 32 g).toNat:Int))).toNat:Int);rw [ofB,ofB,ofB,ofB,ofB,h1];have:(sh 32 g^^^sh 32 e&&&(sh 32 f^^^sh 32 g))=(sh 32 e&&&sh 32 f|||(sh 32 e^^^af2 32)&&&sh 32 g):=by ext i hi;simp only [BitVec.getElem_xor,BitVec.getElem_and,BitVec.getElem_or,BitVec.getElem_allOnes];generalize (sh 32 e)[i]=a;generalize (sh 32 f)[i]=b;generalize (sh 32 g)[i]=c;cases a<;>cases b<;>cases c<;>rfl
 rw [this]
def asj (a b c:Int):ca .u32 (ca .u32 (eX .u32 a b) (eX .u32 a c)) (eX .u32 b c)=Ch .u32 (Ch .u32 (eX .u32 a b) (eX .u32 a c)) (eX .u32 b c):=by
 show bD .u32 ((sh 32 (bD .u32 ((sh 32 (bD .u32 ((sh 32 a&&&sh 32 b).toNat:Int))^^^sh 32 (bD .u32 ((sh 32 a&&&sh 32 c).toNat:Int))).toNat:Int))^^^sh 32 (bD .u32 ((sh 32 b&&&sh 32 c).toNat:Int))).toNat:Int)=bD .u32 ((sh 32 (bD .u32 ((sh 32 (bD .u32 ((sh 32 a&&&sh 32 b).toNat:Int))|||sh 32 (bD .u32 ((sh 32 a&&&sh 32 c).toNat:Int))).toNat:Int))|||sh 32 (bD .u32 ((sh 32 b&&&sh 32 c).toNat:Int))).toNat:Int);simp only [ofB];have:((sh 32 a&&&sh 32 b^^^sh 32 a&&&sh 32 c)^^^sh 32 b&&&sh 32 c)=((sh 32 a&&&sh 32 b|||sh 32 a&&&sh 32 c)|||sh 32 b&&&sh 32 c):=by ext i hi;simp only [BitVec.getElem_xor,BitVec.getElem_and,BitVec.getElem_or];generalize (sh 32 a)[i]=a;generalize (sh 32 b)[i]=b;generalize (sh 32 c)[i]=c;cases a<;>cases b<;>cases c<;>rfl
 rw [this]
def L7 (x:Int)(k:Nat):Int:=Ch .u32 (agG x (2^min k (aeY .u32))) (bD .u32 (x *2^min (AI (bD .i64 (32-(k:Int)))) (aeY .u32)))
def mh (x:Int)(k:Nat)(hk:k<=32):b9 x (k:Int)=some (L7 x k):=by
 have h:(0:Int)<=bD .i64 (32-(k:Int)):=by rw [dH aab aab];omega
 simp_all [b9,if_pos,IN,L7]
def tl (x:Int)(k:Nat)(hk:1<=k/\k<=31):cB x (k:Int)=some (L7 x k):=by
 have key: ∀k:Fin 32,1<=k.val->eX .u64 (bD .u64 (bD .i64 (0-(k.val:Int)))) 31=32-(k.val:Int):=by decide+kernel
 have e:=key ⟨k,aab⟩ hk.1;unfold cB mI;rw [e];have e2:bD .u64 (32-(32-(k:Int)))=(k:Int):=by
  have:bD .u64 (32-(32-(k:Int)))=(32-(32-(k:Int)))%18446744073709551616:=by simp [bD,aeY,afH]
  rw [this];omega
 rw [e2,if_pos (by grind),if_pos (by grind)];show some _=some _;grind [ajZ,L7,dH]
def anJ (x:Int):b9 x 2=some (L7 x 2):=mh x 2 abq
def anK (x:Int):b9 x 6=some (L7 x 6):=mh x 6 abq
def anL (x:Int):b9 x 7=some (L7 x 7):=mh x 7 abq
def aj0 (x:Int):b9 x 11=some (L7 x 11):=mh x 11 abq
def aj1 (x:Int):b9 x 13=some (L7 x 13):=mh x 13 abq
def aj2 (x:Int):b9 x 17=some (L7 x 17):=mh x 17 abq
def aj3 (x:Int):b9 x 18=some (L7 x 18):=mh x 18 abq
def aj4 (x:Int):b9 x 19=some (L7 x 19):=mh x 19 abq
def aj5 (x:Int):b9 x 22=some (L7 x 22):=mh x 22 abq
def aj6 (x:Int):b9 x 25=some (L7 x 25):=mh x 25 abq
def awP (x:Int):cB x 2=some (L7 x 2):=tl x 2 abq
def awQ (x:Int):cB x 6=some (L7 x 6):=tl x 6 abq
def awR (x:Int):cB x 7=some (L7 x 7):=tl x 7 abq
def asl (x:Int):cB x 11=some (L7 x 11):=tl x 11 abq
def asm (x:Int):cB x 13=some (L7 x 13):=tl x 13 abq
def asn (x:Int):cB x 17=some (L7 x 17):=tl x 17 abq
def aso (x:Int):cB x 18=some (L7 x 18):=tl x 18 abq
def asp (x:Int):cB x 19=some (L7 x 19):=tl x 19 abq
def asq (x:Int):cB x 22=some (L7 x 22):=tl x 22 abq
def asr (x:Int):cB x 25=some (L7 x 25):=tl x 25 abq
def ass (w:List Int)(i:Nat)(hi:16<=i/\i<64):kQ (w,(i:Int))=jm (w,(i:Int))/\ ∃v,jm (w,(i:Int))=some (.inl (w.set i v,((i+1:Nat):Int))):=by
 have e1:bD .i64 ((i:Int)-15)=(i:Int)-15:=(by grind [dH])
 have e2:bD .i64 ((i:Int)-2)=(i:Int)-2:=(by grind [dH])
 have e3:bD .i64 ((i:Int)-16)=(i:Int)-16:=(by grind [dH])
 have e4:bD .i64 ((i:Int)-7)=(i:Int)-7:=(by grind [dH])
 have e5:bD .i64 ((i:Int)+1)=((i+1:Nat):Int):=by rw [dH aab aab];omega
 simp only [jm,kQ,e1,e2,e3,e4,e5,awR,aso,asn,asp,anL,aj3,aj2,aj4,bd,IN];repeat rw [if_pos aab]
 refine ⟨?_,⟨_,rfl⟩⟩;congr 4;grind [w32,List.getD,ca,L7]
def VC {R:Type}(b:List Int)(i j:Nat)(m:Nat)(hm:b.length<=m)(K:Int->Option R):ix (aft i (afu m b)) (j:Int) K=ix b ((i+j:Nat):Int) K:=by simp only [ix,IN,List.getElem?_drop];grind
def ast (b w:List Int)(i:Nat)(hi:i<16)(hb:b.length=64):kP b (w,(i:Int))=jk b (w,(i:Int))/\ ∃v,jk b (w,(i:Int))=some (.inl (w.set i v,((i+1:Nat):Int))):=by
 have e1:bD .i64 (4 *(i:Int))=((4 *i:Nat):Int):=by rw [dH aab aab];omega
 have e2:bD .i64 (((4 *i:Nat):Int)+1)=((4 *i+1:Nat):Int):=by rw [dH aab aab];omega
 have e3:bD .i64 (((4 *i:Nat):Int)+2)=((4 *i+2:Nat):Int):=by rw [dH aab aab];omega
 have e4:bD .i64 (((4 *i:Nat):Int)+3)=((4 *i+3:Nat):Int):=by rw [dH aab aab];omega
 have e5:bD .i64 ((i:Int)+1)=((i+1:Nat):Int):=by rw [dH aab aab];omega
 have c0 (K:Int->Option (((List Int)×Int)⊕(List Int))):ix b ((4 *i:Nat):Int) K=K (b[4 *i]' aab):=aI aab K;have c1 (K:Int->Option (((List Int)×Int)⊕(List Int))):ix b ((4 *i+1:Nat):Int) K=K (b[4 *i+1]' aab):=aI aab K;have c2 (K:Int->Option (((List Int)×Int)⊕(List Int))):ix b ((4 *i+2:Nat):Int) K=K (b[4 *i+2]' aab):=aI aab K;have c3 (K:Int->Option (((List Int)×Int)⊕(List Int))):ix b ((4 *i+3:Nat):Int) K=K (b[4 *i+3]' aab):=aI aab K;have d0 (K:Int->Option Int):ix (aft (4 *i) (afu b.length b)) 0 K=K (b[4 *i]' aab):=by rw [show (0:Int)=((0:Nat):Int) from rfl,VC _ _ _ _ (afw _)];exact aI aab K
 have d1 (K:Int->Option Int):ix (aft (4 *i) (afu b.length b)) 1 K=K (b[4 *i+1]' aab):=by rw [show (1:Int)=((1:Nat):Int) from rfl,VC _ _ _ _ (afw _)];exact aI aab K
 have d2 (K:Int->Option Int):ix (aft (4 *i) (afu b.length b)) 2 K=K (b[4 *i+2]' aab):=by rw [show (2:Int)=((2:Nat):Int) from rfl,VC _ _ _ _ (afw _)];exact aI aab K
 have d3 (K:Int->Option Int):ix (aft (4 *i) (afu b.length b)) 3 K=K (b[4 *i+3]' aab):=by rw [show (3:Int)=((3:Nat):Int) from rfl,VC _ _ _ _ (afw _)];exact aI aab K
 simp only [jk,kP,e1,e2,e3,e4,e5,c0,c1,c2,c3,HE,IN,d0,d1,d2,d3];simp;grind
def aj7 (b:List Int)(hb:b.length=64): ∃w,ol b=some w/\qN b=some (w,0):=by
 obtain ⟨w,w',h1,h2,rfl,hw⟩:=Qh (f:=jk b) (g:=kP b) (λs t=>s=t/\ ∃i:Nat,s.2=i/\i<=16) (λr r'=>r=r'/\True) (λs=>(16-s.2).toNat) (λs t h=>by
  have ⟨rfl,i,hi,hi2⟩:=h;have ⟨s,j⟩:=s;obtain rfl:j=(i:Int):=hi;by_cases c:i<16
  .have ⟨q,v,e⟩:=ast b s i c hb;rw [q,e];exact .inl ⟨_,_,rfl,rfl,⟨rfl,i+1,rfl,aab⟩,by grind⟩
  .refine .inr ⟨s,s,?_,?_,rfl,trivial⟩
   .simp only [jk];grind
   .simp only [kP];grind) (s:=(zA 62,0)) (t:=(zA 62,0)) (by grind)
 obtain ⟨u,u',g1,g2,rfl,hu⟩:=Qh (f:=jm) (g:=kQ) (λs t=>s=t/\ ∃i:Nat,s.2=i/\16<=i/\i<=64) (λr r'=>r=r'/\True) (λs=>(64-s.2).toNat) (λs t h=>by
  have ⟨rfl,i,hi,hi2⟩:=h;have ⟨s,j⟩:=s;obtain rfl:j=(i:Int):=hi;by_cases c:i<64
  .have ⟨q,v,e⟩:=ass s i ⟨hi2.1,c⟩;rw [q,e];exact .inl ⟨_,_,rfl,rfl,⟨rfl,i+1,rfl,aab⟩,by grind⟩
  .refine .inr ⟨s,s,?_,?_,rfl,trivial⟩
   .simp only [jm];grind
   .simp only [kQ];grind) (s:=(w,16)) (t:=(w,16)) ⟨rfl,16,rfl,aab⟩
 grind [ol,bd,qN]
abbrev Oct:=ack
def asu (w:Oct):List Int:=[w.1,w.2.1,w.2.2.1,w.2.2.2.1,w.2.2.2.2.1,w.2.2.2.2.2.1,w.2.2.2.2.2.2.1,w.2.2.2.2.2.2.2]
def aj8 (W C:List Int)(a b c d e f g h:Int)(i:Nat)(hi:i<64): ∃a' e',iT W C (a,b,c,d,e,f,g,h,(i:Int))=some (.inl (a',a,b,c,e',e,f,g,((i+1:Nat):Int)))/\ nG (W,0) C ([a,b,c,d,e,f,g,h],(i:Int))=some (.inl ([a',a,b,c,e',e,f,g],((i+1:Nat):Int))):=by
 have e5:bD .i64 ((i:Int)+1)=((i+1:Nat):Int):=by rw [dH aab aab];omega
 have p64:(0:Int)<=(i:Int)/\(i:Int)<64:=aab
 have p:(i:Int)<64:=aab
 simp only [iT,nG,if_pos p,if_pos p64,e5,awQ,asl,asr,awP,asm,asq,anK,aj0,aj6,anJ,aj1,aj5,bd,awO,asj];simp_all
def afi (W C:List Int)(a b c d e f g h:Int): ∃w:Oct,Loop (iT W C) (a,b,c,d,e,f,g,h,0)=some w/\Loop (nG (W,0) C) ([a,b,c,d,e,f,g,h],0)=some (asu w):=by
 obtain ⟨w,w',h1,h2,rfl⟩:=Qh (f:=iT W C) (g:=nG (W,0) C) (λs t=> ∃(a b c d e f g h:Int) (i:Nat),i<=64/\s=(a,b,c,d,e,f,g,h,(i:Int))/\t=([a,b,c,d,e,f,g,h],(i:Int))) (λr r'=>r'=asu r) (λs=>(64-s.2.2.2.2.2.2.2.2).toNat) (λs t hR=>by
   obtain ⟨a,b,c,d,e,f,g,h,i,hi,rfl,rfl⟩:=hR;by_cases hc:i<64
   .have ⟨a',e',q1,q2⟩:=aj8 W C a b c d e f g h i hc;exact .inl ⟨_,_,q1,q2,⟨a',a,b,c,e',e,f,g,i+1,hc,rfl,rfl⟩,by grind⟩
   .refine .inr ⟨(a,b,c,d,e,f,g,h),[a,b,c,d,e,f,g,h],?_,?_,rfl⟩
    .simp only [iT];grind
    .simp only [nG];grind) (s:=(a,b,c,d,e,f,g,h,0)) (t:=([a,b,c,d,e,f,g,h],0)) ⟨a,b,c,d,e,f,g,h,0,aab,rfl,rfl⟩
 grind
theorem anM (a0 a1 a2 a3 a4 a5 a6 a7 b0 b1 b2 b3 b4 b5 b6 b7:Int):Loop (C3 (b0,b1,b2,b3,b4,b5,b6,b7)) (0,[a0,a1,a2,a3,a4,a5,a6,a7])= some [bD .u32 (a0+b0),bD .u32 (a1+b1),bD .u32 (a2+b2),bD .u32 (a3+b3),bD .u32 (a4+b4),bD .u32 (a5+b5),bD .u32 (a6+b6),bD .u32 (a7+b7)]:=dI (n:=9) abs
theorem aj9 (l:List Int)(n:Int)(a0 a1 a2 a3 a4 a5 a6 a7 b0 b1 b2 b3 b4 b5 b6 b7:Int):Loop (AW (b0,b1,b2,b3,b4,b5,b6,b7)) (0,[a0,a1,a2,a3,a4,a5,a6,a7],l,n)= some ([bD .u32 (a0+b0),bD .u32 (a1+b1),bD .u32 (a2+b2),bD .u32 (a3+b3),bD .u32 (a4+b4),bD .u32 (a5+b5),bD .u32 (a6+b6),bD .u32 (a7+b7)],l,n):=dI (n:=9) abs
theorem anN (a0 a1 a2 a3 a4 a5 a6 a7 b0 b1 b2 b3 b4 b5 b6 b7:Int):Loop (CZ [a0,a1,a2,a3,a4,a5,a6,a7]) ([b0,b1,b2,b3,b4,b5,b6,b7],0)= some [bD .u32 (b0+a0),bD .u32 (b1+a1),bD .u32 (b2+a2),bD .u32 (b3+a3),bD .u32 (b4+a4),bD .u32 (b5+a5),bD .u32 (b6+a6),bD .u32 (b7+a7)]:=dI (n:=9) abs
def olr:AV=iT:=rfl
def wd (a:List Int):Prop:=a.length=8/\ ∀x∈a,0<=x/\x<4294967296
theorem aka {a x:List Int}(ha:a.length=8)(hx:x.length=64): ∃s,wd s/\sE a x=some (s,0)/\vF a x=some ((),s)/\ ∀left long,sG ⟨a,left,long⟩ x=some ((),⟨s,left,long⟩):=by
 have ⟨W,hw1,hw2⟩:=aj7 x hx;obtain ⟨a0,a1,a2,a3,a4,a5,a6,a7,rfl⟩: ∃a0 a1 a2 a3 a4 a5 a6 a7,a=[a0,a1,a2,a3,a4,a5,a6,a7]:=by
  match a,ha with
  |[a0,a1,a2,a3,a4,a5,a6,a7],_=>grind
 have ⟨C,hC⟩: ∃C,zD=some C:=⟨_,rfl⟩
 have hC':AN=some C:=hC;have ⟨⟨b0,b1,b2,b3,b4,b5,b6,b7⟩,g1,g2⟩:=afi W C a0 a1 a2 a3 a4 a5 a6 a7;refine ⟨[bD .u32 (a0+b0),bD .u32 (a1+b1),bD .u32 (a2+b2),bD .u32 (a3+b3),bD .u32 (a4+b4),bD .u32 (a5+b5),bD .u32 (a6+b6),bD .u32 (a7+b7)],⟨rfl,?_⟩,?_,?_,?_⟩
 .intro y hy;simp only [w32,agu,afL,or_false] at hy;omega
 .grind [sE,bd,asu,anN,Int.add_comm]
 .unfold vF;simp only [bd];have g1':=g1;change Loop (iT W C) ([a0,a1,a2,a3,a4,a5,a6,a7].getD (AI 0) 0,[a0,a1,a2,a3,a4,a5,a6,a7].getD (AI 1) 0,[a0,a1,a2,a3,a4,a5,a6,a7].getD (AI 2) 0,[a0,a1,a2,a3,a4,a5,a6,a7].getD (AI 3) 0,[a0,a1,a2,a3,a4,a5,a6,a7].getD (AI 4) 0,[a0,a1,a2,a3,a4,a5,a6,a7].getD (AI 5) 0,[a0,a1,a2,a3,a4,a5,a6,a7].getD (AI 6) 0,[a0,a1,a2,a3,a4,a5,a6,a7].getD (AI 7) 0,0)=_ at g1';grind [anM]
 .unfold sG;simp only [bd];rw [hC,olr];have g1':=g1;change Loop (iT W C) ([a0,a1,a2,a3,a4,a5,a6,a7].getD (AI 0) 0,[a0,a1,a2,a3,a4,a5,a6,a7].getD (AI 1) 0,[a0,a1,a2,a3,a4,a5,a6,a7].getD (AI 2) 0,[a0,a1,a2,a3,a4,a5,a6,a7].getD (AI 3) 0,[a0,a1,a2,a3,a4,a5,a6,a7].getD (AI 4) 0,[a0,a1,a2,a3,a4,a5,a6,a7].getD (AI 5) 0,[a0,a1,a2,a3,a4,a5,a6,a7].getD (AI 6) 0,[a0,a1,a2,a3,a4,a5,a6,a7].getD (AI 7) 0,0)=_ at g1';grind [aj9]
def awS {σ ρ:Type}{body:σ->Option (Sum σ ρ)}{s:σ}{r:ρ}(h:Loop body s=some r): ∃n,iter body n s=some r:=by
 unfold Loop oT at h;split at h
 .grind
 .split at h;all_goals grind
def afj {σ ρ:Type}{body:σ->Option (Sum σ ρ)}{s:σ}{r:ρ}(h:body s=some (.inr r)):Loop body s=some r:=dI (n:=1) (by grind [iter])
def z7 {σ ρ:Type}{body:σ->Option (Sum σ ρ)} {s s':σ}{r:ρ}(h:body s=some (.inl s'))(h2:Loop body s'=some r):Loop body s=some r:=by have ⟨n,hn⟩:=awS h2;exact dI (n:=n+1) (by grind [iter])
def bg (a x:List Int):List Int:=match sE a x with|some (s,_)=>s|none=>a
def VD {a x:List Int}(ha:a.length=8)(hx:x.length=64):wd (bg a x)/\sE a x=some (bg a x,0)/\vF a x=some ((),bg a x)/\ ∀left long,sG ⟨a,left,long⟩ x=some ((),⟨bg a x,left,long⟩):=by grind [aka,bg]
def IX:Nat->List Int->List Int->List Int
 |0,a,_=>a
 |n+1,a,x=>IX n (bg a (x.take 64)) (x.drop 64)
def ML: ∀(n:Nat) (a x:List Int),a.length=8->64 *n<=x.length->(IX n a x).length=8/\(0<n->wd (IX n a x))
 |0,a,x,ha,_=>⟨ha,(by grind)⟩
 |n+1,a,x,ha,hx=>by
  have hw:=(VD ha (x:=x.take 64) (by rw [afx];omega)).1;have ⟨h1,h2⟩:=ML n (bg a (x.take 64)) (x.drop 64) hw.1 (by grind);refine ⟨h1,λ_=> ?_⟩;cases n with
  |zero=>exact hw
  |succ n=>exact h2 aab
def acN: ∀(k j:Nat) (a x:List Int),IX (k+j) a x=IX j (IX k a x) (x.drop (64 *k))
 |0,j,a,x=>by simp [IX]
 |k+1,j,a,x=>by rw [show k+1+j=(k+j)+1 by omega];show IX (k+j) (bg a (x.take 64)) (x.drop 64)=IX j (IX k (bg a (x.take 64)) (x.drop 64)) (x.drop (64 *(k+1)));rw [acN k j,afI];grind
def acO: ∀(k:Nat) (a b p:List Int),64 *k<=b.length->IX k a (b++p)=IX k a b
 |0,a,b,p,_=>rfl
 |k+1,a,b,p,h=>by show IX k (bg a ((b++p).take 64)) ((b++p).drop 64)=IX k (bg a (b.take 64)) (b.drop 64);rw [List.take_append_of_le_length aab,afz aab,acO k _ _ _ (by grind)]
def apk {b p:List Int}{m:Nat}(hT:(([]++b)++p).length=64 *m)(hm:64 *m<2^50): ∀(d i:Nat) (a:List Int),i+d=m->a.length=8->Loop (sF b p) (a,((64 *i:Nat):Int))=some (IX d a ((([]++b)++p).drop (64 *i)))
 |0,i,a,hi,ha=>by refine afj ?_;unfold sF;rw [if_neg (by grind)];rfl
 |d+1,i,a,hi,ha=>by
  have hx:(((([]:List Int)++b)++p).drop (64 *i)).length=64 *(d+1):=by rw [afy,hT];omega
  have e1:bD .i64 (((64 *i:Nat):Int)+64)=((64 *(i+1):Nat):Int):=by rw [dH aab aab];omega
  have hk:=VD ha (x:=((([]++b)++p).drop (64 *i)).take 64) (by rw [afx];omega);have ex:aft (AI ((64 *i:Nat):Int)) (afu (AI ((64 *(i+1):Nat):Int)) ((([]:List Int)++b)++p))=((([]++b)++p).drop (64 *i)).take 64:=by rw [IN,IN,List.drop_take];congr 1;omega
  refine z7 (s':=(bg a (((([]++b)++p).drop (64 *i)).take 64),((64 *(i+1):Nat):Int))) ?_ ?_
  .unfold sF;rw [if_pos (by grind)];rw [e1,if_pos (by grind),ex,hk.2.1];rfl
  .rw [apk hT hm d (i+1) _ aab hk.1.1];grind [IX,afI]
def awT: ∀(k:Nat) (a l:List Int) (n:Int),l.length/64=k->l.length<2^50->a.length=8->Loop kR (a,l,n)=some (IX k a l,l.drop (64 *k),n)
 |0,a,l,n,hk,hl,ha=>by refine afj ?_;unfold kR;rw [if_neg (by grind)];simp [IX]
 |k+1,a,l,n,hk,hl,ha=>by
  have h:=VD ha (x:=l.take 64) (by rw [afx];omega);have e1:aft (AI 0) (afu (AI 64) l)=l.take 64:=abu
  have e2:aft (AI 64) (afu (AI (l.length:Int)) l)=l.drop 64:=by rw [IN,afD (afw _)];rfl
  refine z7 (s':=(bg a (l.take 64),l.drop 64,n)) ?_ ?_
  .unfold kR;dsimp only;rw [if_pos aab,if_pos aab,e1,h.2.2.2];simp only [bd];rw [if_pos aab,e2]
  .rw [awT k _ _ _ (by rw [afy];omega) (by rw [afy];omega) h.1.1];grind [IX,afI]
def awU: ∀(m:Nat) (a l:List Int),l.length=64 *m->m<2^50->a.length=8->Loop nJ (a,l)=some (IX m a l)
 |0,a,l,hl,hm,ha=>by refine afj ?_;unfold nJ;rw [if_neg (by grind)];rfl
 |m+1,a,l,hl,hm,ha=>by
  have h:=VD ha (x:=l.take 64) (by rw [afx];omega);have e1:aft (AI 0) (afu (AI 64) l)=l.take 64:=abu
  have e2:aft (AI 64) (afu (AI (l.length:Int)) l)=l.drop 64:=by rw [IN,afD (afw _)];rfl
  refine z7 (s':=(bg a (l.take 64),l.drop 64)) ?_ ?_
  .unfold nJ;dsimp only;rw [if_pos aab,if_pos aab,e1,h.2.2.1];simp only [bd];rw [if_pos aab,e2]
  .rw [awU m _ _ (by rw [afy];omega) aab h.1.1];rfl
def YM (q:Int):Nat->List Int
 |0=>[]
 |k+1=>bD .u8 (agG q (2^min (8 *k) (aeY .u64)))::YM q k
theorem vz (q:Int): ∀k,(YM q k).length=k
 |0=>rfl
 |k+1=>by simp [YM,vz q k]
def akb (q:Int): ∀(k:Nat) (o:List Int),k<=8->o.length+k<2^46->Loop (sD q) (o,(k:Int)-1)=some (o++YM q k)
 |0,o,_,_=>by simp_all [afj,sD,if_neg,YM]
 |k+1,o,hk,ho=>by
  have e2:bD .i64 (8 *(k:Int))=((8 *k:Nat):Int):=by rw [dH aab aab];omega
  have e3:bD .i64 ((k:Int)-1)=(k:Int)-1:=(by grind [dH])
  refine z7 (s':=(o++[bD .u8 (agG q (2^min (8 *k) (aeY .u64)))],(k:Int)-1)) ?_ ?_
  .unfold sD;grind
  .rw [akb q k _ aab (by grind)];simp [YM]
def acP (q:Int)(k:Nat)(o:List Int)(hk:k<=8)(ho:o.length+k<2^46):zE o q (k:Int)=some (o++YM q k):=by unfold zE;rw [dH (x:=(k:Int)-1) aab aab,akb q k o hk ho];rfl
def Kv (n:Nat):Nat:=(119-n%64)%64
def lng (n:Nat):Int:=bD .u64 ((bD .u64 (imax (n:Int) 0)) *8)
def xv (n:Nat):List Int:=(128::ad1 (Kv n) 0)++YM (lng n) 8
theorem Qi (n:Nat):(xv n).length=9+Kv n:=by grind [xv,vz]
def acQ (n:Nat):(n+(xv n).length)%64=0:=by grind [Qi,Kv]
def IH (n:Nat):imax (n:Int) 0=(n:Int):=by simp_all [imax,if_neg]
def afk (n:Nat)(hn:n<2^50):HF (n:Int)=some (xv n):=by
 have e0:ags (n:Int) 64=((n%64:Nat):Int):=by rw [ab2 aab];omega
 have e1:bD .i64 (119-((n%64:Nat):Int))=((119-n%64:Nat):Int):=by rw [dH aab aab];omega
 have e2:ags ((119-n%64:Nat):Int) 64=((Kv n:Nat):Int):=by rw [ab2 aab];unfold Kv;omega
 have hz:Kv n<64:=by unfold Kv;omega
 have e3:bD .i64 (1+((Kv n:Nat):Int))=((Kv n+1:Nat):Int):=by rw [dH aab aab];omega
 have e4:bD .i64 (((Kv n+1:Nat):Int)+8)=((Kv n+9:Nat):Int):=by rw [dH aab aab];omega
 have eq:bD .u64 (bD .u64 (n:Int) *8)=lng n:=by rw [lng,IH]
 unfold HF;rw [IH,e0,e1,e2,e3,e4,eq,if_pos abq,if_pos abq,if_pos aab];rw [show (8:Int)=((8:Nat):Int) from rfl,acP (lng n) 8 _ aab (by grind)];rfl
def YN (n:Nat)(hn:n<2^50): ∀(d j:Nat),j+d=Kv n->Loop (zF (n:Int)) (128::ad1 j 0)=some (128::ad1 (Kv n) 0)
 |0,j,hj=>by
  refine afj ?_;have hz:Kv n<64:=by unfold Kv;omega
  have e:ags (bD .i64 (bD .i64 ((n:Int)+(((128:Int)::ad1 (Kv n) 0).length:Int))+8)) 64=0:=by simp only [afB,afG];rw [dH (x:=(n:Int)+_) aab aab,dH aab aab,ab2 aab];unfold Kv;omega
  simp_all [zF,IH,if_pos,if_neg]
 |d+1,j,hj=>by
  have hz:Kv n<64:=by unfold Kv;omega
  have e: ¬ags (bD .i64 (bD .i64 ((n:Int)+(((128:Int)::ad1 j 0).length:Int))+8)) 64=0:=by simp only [afB,afG];rw [dH (x:=(n:Int)+_) aab aab,dH aab aab,ab2 aab];unfold Kv at *;omega
  refine z7 (s':=128::ad1 (j+1) 0) ?_ (YN n hn d (j+1) aab);unfold zF;rw [IH,if_pos abq,if_pos (by simpa using e),if_pos (by grind)];grind [List.replicate_succ']
def afl (n:Nat)(hn:n<2^50):HG (n:Int)=some (xv n):=by
 unfold HG;rw [show ([128]:List Int)=128::ad1 0 0 from rfl,YN n hn (Kv n) 0 aab];simp;have hz:Kv n<64:=by unfold Kv;omega
 rw [show Js (n:Int)=sD (lng n) from rfl,show (7:Int)=((8:Nat):Int)-1 from rfl,akb (lng n) 8 _ aab (by grind)];rfl
def akc (w:List Int):List Int:=YM (w.getD 0 0) 4++(YM (w.getD 1 0) 4++(YM (w.getD 2 0) 4++(YM (w.getD 3 0) 4++(YM (w.getD 4 0) 4++(YM (w.getD 5 0) 4++(YM (w.getD 6 0) 4++YM (w.getD 7 0) 4))))))
theorem anO (b0 b1 b2 b3 b4 b5 b6 b7:Int):Loop (Eh [b0,b1,b2,b3,b4,b5,b6,b7]) (zA 30,0)=some (akc [b0,b1,b2,b3,b4,b5,b6,b7]):=dI (n:=33) abs
def aA5 {x:Int}(h:0<=x/\x<4294967296):bD .u64 x=x:=by grind [bD,aeY,afH]
def anP {w:List Int}(hw:wd w):Loop (kS w) ([],0)=some (akc w):=by
 have g (i:Nat):bD .u64 (w.getD i 0)=w.getD i 0:=by
  rw [afA];cases h:w[i]? with
  |none=>rfl
  |some y=>exact aA5 (hw.2 y (List.mem_of_getElem? h))
 have st (i:Nat) (hi:i<8) (o:List Int) (ho:o.length<=32):kS w (o,(i:Int))=some (.inl (o++YM (w.getD i 0) 4,((i+1:Nat):Int))):=by
  have e5:bD .i64 ((i:Int)+1)=((i+1:Nat):Int):=by rw [dH aab aab];omega
  unfold kS;dsimp only;rw [if_pos aab,if_pos aab,IN,g,show (4:Int)=((4:Nat):Int) from rfl,acP _ 4 _ aab aab,e5];rfl
 refine z7 (st 0 aab [] abu) ?_;refine z7 (st 1 aab _ (by simp [vz])) ?_;refine z7 (st 2 aab _ (by simp [vz])) ?_;refine z7 (st 3 aab _ (by simp [vz])) ?_;refine z7 (st 4 aab _ (by simp [vz])) ?_;refine z7 (st 5 aab _ (by simp [vz])) ?_;refine z7 (st 6 aab _ (by simp [vz])) ?_;refine z7 (st 7 aab _ (by simp [vz])) ?_;refine afj ?_;unfold kS;rw [if_neg aab];simp only [akc,IT,afv]
def oS:List Int:=[1779033703,3144134277,1013904242,2773480762,1359893119,2600822924,528734635,1541459225]
def akd (b:List Int):List Int:=akc (IX ((b.length+(xv b.length).length)/64) oS (b++xv b.length))
def ake {w:List Int}(h:w.length=8):Loop (Eh w) (zA 30,0)=some (akc w):=by
 match w,h with
 |[b0,b1,b2,b3,b4,b5,b6,b7],_=>grind [anO]
def afm {b:List Int}(hb:b.length<2^45):HH b=some (akd b):=by
 have hz:Kv b.length<64:=by unfold Kv;omega
 have hp:=Qi b.length;have hm:=acQ b.length;unfold akd;have ⟨m,hM⟩: ∃m,(b.length+(xv b.length).length)/64=m:=⟨_,rfl⟩
 have hT:((([]:List Int)++b)++xv b.length).length=64 *m:=by simp only [afv,AT];omega
 have hL:Loop (sF b (xv b.length)) (oS,0)=some (IX m oS (b++xv b.length)):=apk hT aab m 0 oS aab rfl;have hw:wd (IX m oS (b++xv b.length)):=(ML m oS _ rfl (by grind)).2 aab;have hO:=ake hw.1;have h1:(([]:List Int).length+b.length) *1<=2^46:=by simp only [List.length_nil];omega
 have h2:((([]:List Int)++b).length+(xv b.length).length) *1<=2^46:=by simp only [afv];omega
 unfold HH;rw [if_pos h1,afl _ aab];show (if ((([]:List Int)++b).length+(xv b.length).length) *1<=2^46 then bd (Loop (sF b (xv b.length)) (oS,0)) λw=>bd (Loop (Eh w) (zA 30,0)) λw1=>some w1 else none)=_;simp_all
def afn {b:List Int}(hb:b.length<2^45):HI b=some (akd b):=by
 have hz:Kv b.length<64:=by unfold Kv;omega
 have hp:=Qi b.length;have hm:=acQ b.length;have hk:64 *(b.length/64)<=b.length:=aab
 have h1:=ML (b.length/64) oS b rfl hk;have hW:nI ⟨oS,[],0⟩ b=some ((),⟨IX (b.length/64) oS b,b.drop (64 *(b.length/64)),(b.length:Int)⟩):=by unfold nI;rw [if_pos (by grind)];dsimp only;rw [dH (x:=0+(b.length:Int)) aab aab,afv,Int.zero_add,awT (b.length/64) oS b _ rfl aab rfl];rfl
 unfold HI;rw [show Eg=some oS from rfl];simp;rw [hW];simp;have hM: ∃j,(b.length+(xv b.length).length)/64=b.length/64+j/\(b.drop (64 *(b.length/64))++xv b.length).length=64 *j/\0<j:=⟨(b.length+(xv b.length).length)/64-b.length/64,aab,by grind,aab⟩
 have ⟨j,hj,M7,hj0⟩:=hM;have e:IX j (IX (b.length/64) oS b) (b.drop (64 *(b.length/64))++xv b.length)=IX ((b.length+(xv b.length).length)/64) oS (b++xv b.length):=by rw [hj,acN,acO _ _ _ _ hk,afz hk]
 have hw:wd (IX ((b.length+(xv b.length).length)/64) oS (b++xv b.length)):=(ML _ oS _ rfl (by grind)).2 aab;unfold vf;rw [if_pos ⟨rfl,rfl⟩,afk _ aab];simp only [bd];rw [if_pos (by grind),awU j _ _ M7 aab h1.1,e];dsimp only;rw [anP hw];rfl
def Kw (l:List aa):l.map acz=l.map ot:=rfl
theorem jH {n:Int}(h:0<=n/\n<=2000000000):i64 n:=by grind [i64]
theorem BZ:i64 0:=jH abq
theorem akf:i64 14:=jH abq
structure VE (r:aj):Prop where
 owner: ∀n∈r.Shelf.L,i64 n.dt
 id: ∀x∈r.aE.L,i64 x.Id
 cl: ∀x∈r.aD.L,i64 x.Client
def Rs (y:ah):Prop:=i64 y.Client/\i64 y.Seq/\i64 y.E/\i64 y.Version
def abe (r:aj):Prop:=VE r/\ ∀y∈r.Seen,Rs y
theorem VF (L:List ab)(p:List UInt8):i64 (bR L p).2:=by grind [aju,jH]
def asv (L:List ab)(p:List UInt8):i64 (ea L p).2:=by grind [ea,BZ,VF]
def anQ (L:List ab)(p:List UInt8):i64 (mQ L p).2:=by grind [mQ,BZ,VF]
theorem acR (L:List ab)(p:List UInt8)(v:Int):i64 (lr L p v):=by grind [lr,jH,VF]
def afo (L:List ab)(p v:List UInt8)(o:Int):i64 (ic L p v o).2:=by grind [i64,dM,jH,ic,BZ]
def asw (L:List ab)(p v:List UInt8)(o:Int):i64 (uN L p v o).2:=by grind [i64,QL,jH,acR,uN,BZ]
def asx (L:List ab)(p:List UInt8)(o:Int):i64 (uy L p o).2:=by grind [i64,Yu,jH,acR,uy,BZ]
def anR (b:aA)(id span:Int):i64 (rV b id span):=by grind [rV,jH]
def akg (b:aA)(id:Int):i64 (nY b id).2:=by grind [nY,BZ,akf]
def YO (b:aA)(id:Int):i64 (cW b id).2:=by grind [cW,BZ,akf]
def anS (b:aA)(now:Int):i64 (rC b now):=by grind [rC,jH]
def asy (L:List aq)(w:aq):i64 (ql L w).2:=by grind [ql,BZ,jH]
def acS {L:List ab}(h:eP L)(p:List UInt8):i64 (ea L p).1.Version:=by
 rcases SH h.ord p with ⟨n,hn,_,he⟩|⟨_,he⟩
 .have:=h.xx n hn;grind [jH]
 .rw [he];exact BZ
def EJ {r:aj}(h:VE r){L:List ab}(hL: ∀n∈L,i64 n.dt):VE {r with Shelf:=⟨L⟩}:=⟨hL,h.id,h.cl⟩
def IJ {r:aj}(h:VE r){b:aA}(hb: ∀x∈b.L,i64 x.Id):VE {r with aE:=b}:=⟨h.owner,hb,h.cl⟩
def rE {x:ah}(h:Rs x){e:Int}(he:i64 e):Rs {x with E:=e}:=⟨h.1,h.2.1,he,h.2.2.2⟩
def akh {b:aA}{id:Int}{x:aB}(hx:x∈(nY b id).1.L): ∃y∈b.L,y.Id=x.Id:=by unfold nY at hx;grind
def asz {w:af}(hp:dN w.r)(h:VE w.r)(ho:PW w.o)(hx:Rs w.x):VE (BW w).r/\Rs (BW w).x:=by
 have oc:i64 w.o.Client:=ho _ (by simp [Kk]);have os:i64 w.o.Session:=ho _ (by simp [Kk]);have op:i64 w.o.Span:=ho _ (by simp [Kk]);unfold BW;split
 .grind
 split
 .unfold yw;split
  .exact ⟨h,rE hx (jH abq)⟩
  .rw [SL,IF];refine ⟨EJ h λn hn=> ?_,rE hx (afo _ _ _ _)⟩;rcases aa3 hn with hn|hn
   .exact h.owner n hn
   grind
 split
 .exact ⟨h,hx.1,hx.2.1,asv _ _,acS hp.shelf _⟩
 split
 .unfold Vx Qa;have hs:VE (sX 2 (lj w (uN w.r.Shelf.L w.o.Path w.o.Value w.o.Version))).r/\Rs (sX 2 (lj w (uN w.r.Shelf.L w.o.Path w.o.Value w.o.Version))).x:=by rw [SL,IF];refine ⟨EJ h λn hn=> ?_,rE hx (asw _ _ _ _)⟩;obtain ⟨m,hm,he⟩:=afb hp.shelf hn;rw [<-he];exact h.owner m hm
  have hsh:eP (sX 2 (lj w (uN w.r.Shelf.L w.o.Path w.o.Value w.o.Version))).r.Shelf.L:=by rw [SL];exact MH hp.shelf _ _ _
  split
  .exact ⟨hs.1,hs.2.1,hs.2.2.1,hs.2.2.2.1,acS hsh _⟩
  .exact hs
 split
 .unfold EH;rw [SL,IF];exact ⟨EJ h λn hn=>h.owner n (anE hn),rE hx (asx _ _ _)⟩
 split
 .exact ⟨h,rE (x:={w.x with Names:=(mQ w.r.Shelf.L w.o.Path).1}) hx (anQ _ _)⟩
 split
 .refine ⟨IJ h λx hx=> ?_,rE hx (anR _ _ _)⟩;unfold BV at hx;split at hx
  .rcases MJ.1 hx with hx|rfl
   .exact h.id x hx
   .exact os
  .exact h.id x hx
 split
 .refine ⟨IJ h λx hx=> ?_,rE hx (akg _ _)⟩;have ⟨y,hy,e⟩:=akh hx;rw [<-e];exact h.id y hy
 split
 .have hc: ∀x∈(cW w.r.aE w.o.Session).1.L,i64 x.Id:=λx hx=>by
   unfold cW at hx;split at hx
   .exact h.id x ((Vw _ _).subset hx)
   .exact h.id x hx
  unfold BJ;split
  .exact ⟨EJ (IJ h hc) λn hn=>h.owner n (YD.1 hn).1,rE hx (YO _ _)⟩
  .exact ⟨IJ h hc,rE hx (YO _ _)⟩
 split
 .unfold IA;split
  .rename_i he;have ⟨h1,h2,h3,h4,h5,h6⟩:=uq (rW w.r.aE w.o.Span) (v:=uO w) (lQ hp (Iz hp.book he));refine ⟨⟨λn hn=> ?_,?_,?_⟩,?_⟩
   .have k1:n∈w.r.Shelf.L:=((afc _).1 hn).1;exact h.owner n k1
   .rw [h5];intro x hx;exact h.id x (afF.1 hx).1
   .rw [h6];exact h.cl
   .rw [h3];exact ⟨hx.1,hx.2.1,BZ,op⟩
  .exact ⟨h,rE hx (anS _ _)⟩
 .refine ⟨⟨h.owner,h.id,λx hx=> ?_⟩,rE hx (asy _ _)⟩;have hx:x∈(ql w.r.aD.L (ig w.o)).1:=hx;unfold ql at hx;repeat' split at hx
  all_goals first|exact h.cl x hx|(rcases List.mem_append.1 hx with hx|hx;exact h.cl x hx;rw [afK.1 hx];exact oc)
def afp {r:aj}(h:dw r)(hn:abe r){o:aa}(ho:PW o):abe (cK r o).1:=by
 unfold cK;cases hk:(ek r.Seen o).2 with
 |true=>exact hn
 |false=>
  have ⟨hm,B1,I7,xO⟩:=z6 hk;have hd:DK ⟨r,o,(ek r.Seen o).1,[]⟩ (fC r o):=YC (w:=⟨r,o,(ek r.Seen o).1,[]⟩) h.todN;have hxc:(fC r o).x.Client=o.Client:=by rw [hd.eT,B1];rfl
  have hx:VE (fC r o).r/\Rs (fC r o).x:=asz (w:=⟨r,o,(ek r.Seen o).1,[]⟩) h.todN hn.1 ho (by rw [B1];exact ⟨ho o.Client (by simp [Kk]),ho o.Seq (by simp [Kk]),BZ,BZ⟩);refine ⟨⟨hx.1.owner,hx.1.id,λx hm=> ?_⟩,λy hy=> ?_⟩
  .rw [Vv] at hm;exact hx.1.cl x (afF.1 hm).1
  .rcases (YE h.inc hxc y).1 hy with rfl|⟨hy,_⟩
   .exact hx.2
   .exact hn.2 y hy
def YP (l:List aa)(hl: ∀o∈l,PW o): ∀{r:aj},dw r->abe r->abe (cP r l).1:=by
 induction l with
 |nil=>intro r h hs;exact hs
 |cons o l ih=>
  intro r h hs;have i1:=ih (λx hx=>hl x (by simp [hx])) (Qc h o) (afp h hs (hl o abu));have hf:cP r (o::l)=((cP (cK r o).1 l).1,[(cK r o).2.1]++(cP (cK r o).1 l).2.1,(cK r o).2.2++(cP (cK r o).1 l).2.2):=by have h1:qd (r,[],[]) o=((cK r o).1,[(cK r o).2.1],(cK r o).2.2):=rfl;show l.foldl qd (qd (r,[],[]) o)=_;rw [h1,SQ]
  rw [hf];exact i1
def anT:abe aa2:=by refine ⟨⟨λn hn=> ?_,(λx hx=>by cases hx),(λx hx=>by cases hx)⟩,(λx hx=>by cases hx)⟩;rw [afK.1 hn];grind [jH]
def ik {α:Type}(g:α->List Int)(L:List α):List Int:=(L.map g).flatten
def sZ {α:Type}{g:α->List Int}{c:Nat}: ∀{L:List α},(∀x∈L,(g x).length<=c)->(ik g L).length<=c *L.length:=by
 intro L;induction L with
 |nil=>grind [ik]
 |cons x L ih=>have:ik g (x::L)=g x++ik g L:=rfl;grind [AT,afB,Nat.mul_succ]
theorem SR {α:Type}(g:α->List Int)(L M:List α):ik g (L++M)=ik g L++ik g M:=by grind [ik]
def FP {α:Type}{f:List Int×Int->Option ((List Int×Int)⊕List Int)}{b:List Int}(L:List α)(g:α->List Int)(c N:Nat)(hg: ∀x∈L,(g x).length<=c)(hb:b.length<=N)(step: ∀(b':List Int)(k:Nat)(hk:k<L.length),b'.length<=N+c *L.length->f (b',(k:Int))=some (.inl (b'++g L[k],((k+1:Nat):Int))))(fin: ∀b',f (b',(L.length:Int))=some (.inr b')):Loop f (b,0)=some (b++ik g L):=by
 refine aM.eq (aM.count (λk=>(b++ik g (L.take k),(k:Int))) L.length (λ_=>True) (by simp [ik]) trivial (λk hk _=> ?_) (λ_=> ?_))
 .have h1:=sZ (g:=g) (c:=c) (L:=L.take k) (by grind);have h2:=Nat.mul_le_mul_left c (Nat.min_le_right k L.length);rw [step _ k hk (by grind)];refine .mk ⟨?_,trivial⟩;grind [aec,By,SR,IT,ik]
 .rw [fin,No];exact .mk rfl
theorem Qj {b l:List Int}(hb:b.length<=2^43)(hl:l.length<=100)(h: ∀n∈l,i64 n):cF ⟨b⟩ l=some ((),⟨b++li l⟩):=by
 unfold cF;have:Loop (iB l) (0,b)=some (b++li l):=by
  refine aM.eq (aM.count (λk=>((k:Int),b++li (l.take k))) l.length (λ_=>True) (by simp [li]) trivial (λk hk _=> ?_) (λ_=> ?_))
  .have h2:=vK (l.take k);unfold iB;rw [if_pos aab,aI hk,Sz (by grind) (by grind),ak,wrap64 aab aab];refine .mk ⟨?_,trivial⟩;grind [aec,By,SB,IT,li]
  .unfold iB;rw [if_neg aab,No];exact .mk rfl
 simp_all
def aki {b:List Int}{l:List (List UInt8)}(hb:b.length<=2^43)(hl:l.length<=100)(h: ∀s∈l,s.length<=100000):ga ⟨b⟩ l=some ((),⟨b++ik lh l⟩):=by
 have hc: ∀s∈l,(lh s).length<=200000:=(by grind [fp])
 unfold ga;have:Loop (jZ l) (0,b)=some (b++ik lh l):=by
  refine aM.eq (aM.count (λk=>((k:Int),b++ik lh (l.take k))) l.length (λ_=>True) (by simp [ik]) trivial (λk hk _=> ?_) (λ_=> ?_))
  .have h2:=sZ (g:=lh) (c:=200000) (L:=l.take k) (by grind);unfold jZ;rw [if_pos aab,aI hk,xr (by grind) (by grind),ak,wrap64 aab aab];refine .mk ⟨?_,trivial⟩;grind [aec,By,SR,IT,ik]
  .unfold jZ;rw [if_neg aab,No];exact .mk rfl
 simp_all
def Qk (l:List (List UInt8)):List Int:=Rk l.length++ik lh l
def afq {l:List (List UInt8)}(hl:l.length<=1000)(h: ∀s∈l,s.length<=1000):(Qk l).length<=2^21:=by have h1:=xq l.length;have h2:=tk l.length;have h3:=sZ (g:=lh) (c:=1009) (L:=l) (by grind [fp]);grind [Qk,AT]
def abf {b:List Int}(hb:b.length<=2^42){l:List (List UInt8)}(hl:l.length<=1000)(h: ∀s∈l,s.length<=1000):wN b l=some (b++Qk l):=by
 have h1:=xq l.length;have h2:=tk l.length;unfold wN Qk;rw [show bD .u64 (l.length:Int)=((l.length:Nat):Int) by grind [sQ],Ki aab aab,ak,FP l lh 1009 (2^42+9) (by grind [fp]) (by grind) (λb' k hk EM=> ?_) λb'=> ?_,ak,IT]
 .unfold AM;dsimp only;rw [if_pos aab,aI hk,xr aab (by grind),ak,wrap64 aab aab];rfl
 simp_all [AM,if_neg]
def abg {b:List Int}(hb:b.length<=2^42){l:List (List UInt8)}(hl:l.length<=1000)(h: ∀s∈l,s.length<=1000):C1 b l=some (b++Qk l):=by
 have h1:=xq l.length;have h2:=tk l.length;unfold C1 Qk;rw [show bD .u64 (l.length:Int)=((l.length:Nat):Int) by grind [sQ],EC aab aab,ak,FP l lh 1009 (2^42+9) (by grind [fp]) (by grind) (λb' k hk EM=> ?_) λb'=> ?_,ak,IT]
 .unfold F4;dsimp only;rw [if_pos aab,aI hk,xt aab (by grind),ak,wrap64 aab aab];rfl
 simp_all [F4,if_neg]
def Kx (y:ah):List Int:=[y.Client,y.Seq,y.E,y.Version]
def L8 (y:ah):List Int:=li (Kx y)++lh y.Value++Qk y.Names
theorem Rs.all {y:ah}(h:Rs y): ∀n∈Kx y,i64 n:=by have ⟨h1,h2,h3,h4⟩:=h;simp_all [Kx,agu,afL,or_false]
def akj {y:ah}(h:sY y):(L8 y).length<=2^22:=by have ⟨h1,h2,h3⟩:=h;have q1:=vK (Kx y);have q2:=fp y.Value;have q3:=afq h2 h3;have q4:(Kx y).length=4:=rfl;grind [L8,AT]
def Lm {b:List Int}(hb:b.length<=2^41){y:ah}(h:sY y)(hn:Rs y):nF b y=some (b++L8 y)/\qQ b (lk y)=some (b++L8 y):=by
 have ⟨h1,h2,h3⟩:=h;have q1:=vK (Kx y);have q2:=fp y.Value;have q4:(Kx y).length=4:=rfl;have e1:sB b (Kx y)=some (b++li (Kx y)):=(by grind [PX,hn.all])
 have e2:Loop (nH (lk y)) (b,0)=some (b++li (Kx y)):=by
  refine FP (Kx y) qk 9 (2^41) (λn _=>fT n) hb (λb' k hk EM=> ?_) λb'=> ?_
  .unfold nH;dsimp only;rw [show ([(lk y).Client,(lk y).Seq,(lk y).E,(lk y).Version]:List Int)=Kx y from rfl,if_pos aab,aI hk,ia aab (hn.all _ (BY hk)),ak,wrap64 aab aab];rfl
  .unfold nH;grind
 constructor
 .unfold nF;rw [show ([y.Client,y.Seq,y.E,y.Version]:List Int)=Kx y from rfl,e1,ak,xr (by grind) aab,ak,abf (by grind) h2 h3,ak];grind [L8,IT]
 .unfold qQ;rw [e2,ak,show (lk y).Value=y.Value from rfl,show (lk y).Names=y.Names from rfl,xt (by grind) aab,ak,abg (by grind) h2 h3,ak];grind [L8,IT]
def VG (n:ab):List Int:=lh n.Path++lh n.Value++qk n.Version++qk n.dt
def VH (x:aB):List Int:=qk x.Id++qk x.Span++qk x.kG
def VI (b:Bool):Int:=if b then 1 else 0
def VJ (w:aq):List Int:=lh w.Path++qk w.Client++qk (VI w.Kids)
def VK (r:aj):List Int:=qk (r.Shelf.L.length:Int)++ik VG r.Shelf.L++qk r.aE.eh++qk (r.aE.L.length:Int)++ik VH r.aE.L++qk (r.aD.L.length:Int)++ik VJ r.aD.L++qk (r.Seen.length:Int)++ik L8 r.Seen
theorem afr {r:aj}(h:dw r)(hs:GS r)(hn:abe r):wO r=some (VK r)/\C2 (bV r)=some (VK r)/\(VK r).length<=2^32:=by
 have l1:=h.shelf.len;have l2:=h.book.len;have l3:=h.table.len;have l4:=h.few;have anv:=h.book.now;have i0: ∀n:Nat,n<=1000->i64 (n:Int):=(by grind [jH])
 have nd: ∀n∈r.Shelf.L,n.Path.length<=1000/\n.Value.length<=1000/\i64 n.Version/\i64 n.dt:=λn hm=>by have p1:=(cN (h.shelf.ord.1 n hm)).1;have p2:=h.shelf.xx n hm;exact ⟨aab,p2.1,jH aab,hn.1.owner n hm⟩
 have sd: ∀x∈r.aE.L,i64 x.Id/\i64 x.Span/\i64 x.kG:=λx hm=>by have p2:=h.book.all x hm;exact ⟨hn.1.id x hm,jH aab,jH aab⟩
 have wd': ∀x∈r.aD.L,x.Path.length<=1000/\i64 x.Client/\i64 (VI x.Kids):=λx hm=>by have p1:=(cN (h.table.all x hm).1).1;exact ⟨aab,hn.1.cl x hm,by grind [VI,jH]⟩
 have g1: ∀n∈r.Shelf.L,(VG n).length<=3000:=λn hm=>by have:=fp n.Path;have:=fp n.Value;have:=fT n.Version;have:=fT n.dt;grind [VG,AT]
 have g2: ∀x∈r.aE.L,(VH x).length<=3000:=λx hm=>by have:=fT x.Id;have:=fT x.Span;have:=fT x.kG;grind [VH,AT]
 have g3: ∀x∈r.aD.L,(VJ x).length<=3000:=λx hm=>by have:=fp x.Path;have:=fT x.Client;have:=fT (VI x.Kids);grind [VJ,AT]
 have g4: ∀y∈r.Seen,(L8 y).length<=2^22:=λy hm=>akj (hs y hm);have f1:=sZ g1;have f2:=sZ g2;have f3:=sZ g3;have f4:=sZ g4;have k1:=fT (r.Shelf.L.length:Int);have k2:=fT r.aE.eh;have k3:=fT (r.aE.L.length:Int);have k4:=fT (r.aD.L.length:Int);have k5:=fT (r.Seen.length:Int);have hlen:(VK r).length<=2^32:=by unfold VK;simp only [AT];omega
 have one: ∀n:Int,li [n]=qk n:=λn=>by simp [li]
 have two: ∀n m:Int,li [n,m]=qk n++qk m:=(by simp_all)
 have thr: ∀n m k:Int,li [n,m,k]=qk n++qk m++qk k:=(by simp_all)
 have fl1: ∀s:List UInt8,ik lh [s]=lh s:=λs=>by simp [ik]
 have fl2: ∀s t:List UInt8,ik lh [s,t]=lh s++lh t:=(by grind [ik])
 refine ⟨?_,?_,hlen⟩
 .have L1: ∀{b:List Int},b.length<=2^34->Loop (qJ r) (b,0)=some (b++ik VG r.Shelf.L):=λ{b} hb=>by
   refine FP r.Shelf.L VG 3000 (2^34) g1 hb (λb' k hk EM=> ?_) λb'=> ?_
   .have ⟨n1,n2,n3,n4⟩:=nd _ (BY hk);unfold qJ;dsimp only;rw [if_pos aab,aI hk,aki aab abu (by simp;omega),ak];grind [Qj,AT,ak,wrap64,VG]
   simp_all [qJ,if_neg]
  have L2: ∀{b:List Int},b.length<=2^34->Loop (qK r) (b,0)=some (b++ik VH r.aE.L):=λ{b} hb=>by
   refine FP r.aE.L VH 3000 (2^34) g2 hb (λb' k hk EM=> ?_) λb'=> ?_
   .unfold qK;dsimp only;rw [if_pos aab,aI hk,Qj aab abu (by grind),ak,thr,wrap64 aab aab];simp [VH]
   simp_all [qK,if_neg]
  have L3: ∀{b:List Int},b.length<=2^34->Loop (qL r) (b,0)=some (b++ik VJ r.aD.L):=λ{b} hb=>by
   refine FP r.aD.L VJ 3000 (2^34) g3 hb (λb' k hk EM=> ?_) λb'=> ?_
   .have ⟨n1,n2,n3⟩:=wd' _ (BY hk);have q1:=fp r.aD.L[k].Path;have hfl:wM r.aD.L[k].Kids=some (VI r.aD.L[k].Kids):=by unfold wM VI;split<;>rfl
    unfold qL;dsimp only;rw [if_pos aab,aI hk,aki aab abu (by simp;omega),ak,hfl,ak];rw [fl1,Qj (by grind) abu (by simp [n2,n3]),ak,two,wrap64 aab aab];simp [VJ]
   simp_all [qL,if_neg]
  have L4: ∀{b:List Int},b.length<=2^34->Loop (qM r) (b,0)=some (b++ik L8 r.Seen):=λ{b} hb=>by
   refine FP r.Seen L8 (2^22) (2^34) g4 hb (λb' k hk EM=> ?_) λb'=> ?_
   .unfold qM;dsimp only;rw [if_pos aab,aI hk,(Lm aab (hs _ (BY hk)) (hn.2 _ (BY hk))).1,ak,wrap64 aab aab];rfl
   simp_all [qM,if_neg]
  unfold wO;rw [Qj abu abu (by grind),ak,one];dsimp only;rw [L1 (by grind),ak,Qj (by grind) abu (by grind [jH]),ak,two];dsimp only;rw [L2 (by grind),ak,Qj (by grind) abu (by grind),ak,one];dsimp only;rw [L3 (by grind),ak,Qj (by grind) abu (by grind),ak,one];rw [L4 (by grind),ak];simp [VK]
 .have L1: ∀{b:List Int},b.length<=2^34->Loop (AP (bV r)) (b,0)=some (b++ik VG r.Shelf.L):=λ{b} hb=>by
   refine FP r.Shelf.L VG 3000 (2^34) g1 hb (λb' k hk EM=> ?_) λb'=> ?_
   .have ⟨n1,n2,n3,n4⟩:=nd _ (BY hk);have q1:=fp r.Shelf.L[k].Path;have q2:=fp r.Shelf.L[k].Value;have q3:=fT r.Shelf.L[k].Version;have hk':k<(bV r).Shelf.L.length:=by show k<(r.Shelf.L.map toR).length;rw [AS];exact hk
    have e:(bV r).Shelf.L[k]=toR r.Shelf.L[k]:=OF ..;unfold AP;rw [if_pos aab,aI hk',e];dsimp only [toR];rw [xt aab aab,ak,xt (by grind) aab,ak,ia (by grind) n3,ak,ia (by grind) n4,ak,wrap64 aab aab];simp [VG]
   .unfold AP;rw [if_neg (by show¬(r.Shelf.L.length:Int)<((r.Shelf.L.map toR).length:Int);grind)]
  have L2: ∀{b:List Int},b.length<=2^34->Loop (AQ (bV r)) (b,0)=some (b++ik VH r.aE.L):=λ{b} hb=>by
   refine FP r.aE.L VH 3000 (2^34) g2 hb (λb' k hk EM=> ?_) λb'=> ?_
   .have ⟨n1,n2,n3⟩:=sd _ (BY hk);have q1:=fT r.aE.L[k].Id;have q2:=fT r.aE.L[k].Span;have hk':k<(bV r).aE.L.length:=by show k<(r.aE.L.map rJ).length;rw [AS];exact hk
    have e:(bV r).aE.L[k]=rJ r.aE.L[k]:=OF ..;unfold AQ;rw [if_pos aab,aI hk',e];dsimp only [rJ];rw [ia aab n1,ak,ia (by grind) n2,ak,ia (by grind) n3,ak,wrap64 aab aab];simp [VH]
   .unfold AQ;rw [if_neg (by show¬(r.aE.L.length:Int)<((r.aE.L.map rJ).length:Int);grind)]
  have L3: ∀{b:List Int},b.length<=2^34->Loop (AR (bV r)) (b,0)=some (b++ik VJ r.aD.L):=λ{b} hb=>by
   refine FP r.aD.L VJ 3000 (2^34) g3 hb (λb' k hk EM=> ?_) λb'=> ?_
   .have ⟨n1,n2,n3⟩:=wd' _ (BY hk);have q1:=fp r.aD.L[k].Path;have q2:=fT r.aD.L[k].Client;have hk':k<(bV r).aD.L.length:=by show k<(r.aD.L.map uu).length;rw [AS];exact hk
    have e:(bV r).aD.L[k]=uu r.aD.L[k]:=OF ..;unfold AR;rw [if_pos aab,aI hk',e];dsimp only [uu];rw [xt aab aab,ak,ia (by grind) n2,ak];rw [show VJ r.aD.L[k]=lh r.aD.L[k].Path++qk r.aD.L[k].Client++qk (VI r.aD.L[k].Kids) from rfl];by_cases hkd:r.aD.L[k].Kids=true
    .have Lw:VI r.aD.L[k].Kids=1:=if_pos hkd;rw [Lw];simp only [hkd,if_true];rw [ia (by grind) (jH abq),ak,ak,wrap64 aab aab];simp
    .have Lw:VI r.aD.L[k].Kids=0:=if_neg hkd;rw [Lw];simp only [hkd,ad5,if_false];rw [ia (by grind) (jH abq),ak,ak,wrap64 aab aab];simp
   .unfold AR;rw [if_neg (by show¬(r.aD.L.length:Int)<((r.aD.L.map uu).length:Int);grind)]
  have L4: ∀{b:List Int},b.length<=2^34->Loop (AU (bV r)) (b,0)=some (b++ik L8 r.Seen):=λ{b} hb=>by
   refine FP r.Seen L8 (2^22) (2^34) g4 hb (λb' k hk EM=> ?_) λb'=> ?_
   .have hk':k<(bV r).Seen.length:=by show k<(r.Seen.map lk).length;rw [AS];exact hk
    have e:(bV r).Seen[k]=lk r.Seen[k]:=OF ..;unfold AU;dsimp only;rw [if_pos aab,aI hk',e,(Lm aab (hs _ (BY hk)) (hn.2 _ (BY hk))).2,ak,wrap64 aab aab];rfl
   .unfold AU;rw [if_neg (by show¬(r.Seen.length:Int)<((r.Seen.map lk).length:Int);grind)]
  have n1:((bV r).Shelf.L.length:Int)=(r.Shelf.L.length:Int):=by show ((r.Shelf.L.map toR).length:Int)=_;rw [AS]
  have n2:((bV r).aE.L.length:Int)=(r.aE.L.length:Int):=by show ((r.aE.L.map rJ).length:Int)=_;rw [AS]
  have n3:((bV r).aD.L.length:Int)=(r.aD.L.length:Int):=by show ((r.aD.L.map uu).length:Int)=_;rw [AS]
  have n4:((bV r).Seen.length:Int)=(r.Seen.length:Int):=by show ((r.Seen.map lk).length:Int)=_;rw [AS]
  unfold C2;rw [n1,n2,n3,n4,show (bV r).aE.eh=r.aE.eh from rfl,ia abu (i0 _ aab),ak,L1 (by grind),ak,ia (by grind) (jH aab),ak,ia (by grind) (i0 _ aab),ak,L2 (by grind),ak,ia (by grind) (i0 _ aab),ak,L3 (by grind),ak,ia (by grind) (i0 _ aab),ak,L4 (by grind),ak];simp [VK]
def Ln {r:aj}(h:dw r)(hs:GS r)(hn:abe r):qR r=some (akd (VK r))/\wP (bV r)=some (akd (VK r)):=by have ⟨h1,h2,h3⟩:=afr h hs hn;unfold qR wP;rw [h1,h2,ak,ak,afn aab,afm aab];simp_all
def Rt (out:List aa)(c:Int):Bool:=out.any λu=>decide (u.Client=c)
def Ru (r:aj)(o:aa):Bool:=GR o&&(!(eM r.Seen o.Client).2||decide ((eM r.Seen o.Client).1.Seq<o.Seq))
def lu (r:aj)(out:List aa)(o:aa):List aa:=if out.length<10/\Rt out o.Client=false/\Ru r o=true then out++[o] else out
def acT (r:aj)(l:List aa):List aa:=l.foldl (lu r) []
theorem afs {r:aj}{out:List aa}{o:aa}(h:out.length<=10):(lu r out o).length<=10:=by grind [lu,AT,List.length_singleton]
def Ky {r:aj}(l:List aa): ∀{out:List aa},out.length<=10->(l.foldl (lu r) out).length<=10:=by
 induction l with
 |nil=>grind
 |cons o l ih=>grind [afs]
def abh {r:aj}(l:List aa): ∀{out:List aa},out.length=10->l.foldl (lu r) out=out:=by
 induction l with
 |nil=>grind
 |cons o l ih=>simp_all [List.foldl_cons,lu,if_neg]
def SS {α β:Type}(f:β->α->β)(b:β){l:List α}{k:Nat}(hk:k<l.length):(l.take (k+1)).foldl f b=f ((l.take k).foldl f b) l[k]:=by grind [aec,By]
def asA (out:List aa)(y:aa)(hl:out.length<=1000):ef out (λu=>jK u y)=some (Rt out y.Client):=by
 refine aM.eq (aM.bd (P:=λk=>decide ((0:Int)<=k)=Rt out y.Client) ?_ λk hk=> .mk hk);refine aM.bd (P:=λw=>match w with| .inl _=> ∀u∈out,u.Client≠y.Client| .inr k=>0<=k/\ ∃u∈out,u.Client=y.Client) ?_ ?_
 .refine aM.loop (λst=> ∃i:Nat,st=(i:Int)/\i<=out.length/\ ∀u∈out.take i,u.Client≠y.Client) (λst=>out.length-st.toNat) (by grind) ?_;rintro st ⟨i,rfl,h1,h2⟩;unfold ir;by_cases dX:i<out.length;rotate_left
  .rw [if_neg aab];refine .mk ?_;grind
  rw [if_pos aab,aI dX];unfold jK;rw [ak];by_cases hc:out[i].Client=y.Client
  .rw [decide_eq_true hc,if_pos rfl];exact .mk (by grind)
  .rw [decide_eq_false hc,if_neg abu,wrap64 aab aab];refine .mk ⟨⟨i+1,abu,aab,λu hu=> ?_⟩,aab⟩;grind [aec,By]
 .rintro (_|k) h
  .refine .mk ?_;have:Rt out y.Client=false:=List.any_eq_false.2 (by grind);grind
  .refine .mk ?_;have:Rt out y.Client=true:=List.any_eq_true.2 (by grind);grind
def apl (s0:List aa×Int)(w:List aa):(List aa×Int)⊕List aa->Prop
 | .inl s'=>s'=s0/\True
 | .inr r'=>r'=w
def apm (r:aj)(l:List aa)(k:Nat):(List aJ×Int)⊕List aJ->Prop
 | .inl s'=>(∃k:Nat,k<=l.length/\s'=(((l.take k).foldl (lu r) []).map ot,(k:Int)))/\l.length-s'.2.toNat<l.length-(k:Int).toNat
 | .inr r'=>r'=(l.foldl (lu r) []).map ot
def anU {r:aj}(h:dw r)(l:List aa)(hl:l.length<=1000):oZ r l=some (acT r l):=by
 refine aM.eq (aM.bd (P:=λw=>w=l.foldl (lu r) []) ?_ λw hw=> .mk hw);refine aM.count (λk=>((l.take k).foldl (lu r) [],(k:Int))) l.length (λ_=>True) rfl trivial (λk hk _=> ?_) (λ_=> ?_)
 .rw [SS _ _ hk];have hlen:=Ky (r:=r) (l.take k) (out:=[]) abu;generalize (l.take k).foldl (lu r) []=out at hlen;unfold pu;rw [if_pos aab,aI hk,acL h,ak,asA out _ aab,ak,IC,wrap64 aab aab];have step: ∀{X:Option Bool} {b:Bool},X=some b->(b=true↔out.length<10/\Rt out l[k].Client=false/\Ru r l[k]=true)->aM (bd X λw1=>bd (if w1 then if (out.length+([l[k]]:List aa).length) *80<=2^46 then some (out++([l[k]]:List aa)) else none else some out:Option (List aa)) λw2=>(some (.inl (w2,((k:Int)+1))):Option ((List aa×Int)⊕List aa))) (apl ((lu r out l[k],((k+1:Nat):Int)):List aa×Int) (l.foldl (lu r) [])):=by
   rintro X b rfl hb;rw [ak];cases b with
   |true=>rw [if_pos rfl,if_pos (by grind),ak];exact .mk ⟨by rw [lu,if_pos (hb.1 rfl)];rfl,trivial⟩
   |false=>exact .mk ⟨by simp_all [lu,if_neg],trivial⟩
  refine aM.imp (P:=apl (lu r out l[k],((k+1:Nat):Int)) (l.foldl (lu r) [])) ?_ λx hx=>by cases x<;>exact hx
  cases hh:Rt out l[k].Client with
  |true=>grind
  |false=>
  cases hm:GR l[k] with
  |false=>simp_all [if_pos,ak,if_neg,Ru]
  |true=>
  cases xO:(eM r.Seen l[k].Client).2 with
  |false=>
   refine step (b:=decide ((out.length:Int)<10)) ?_ ?_
   .simp_all
   grind [Ru]
  |true=>
  by_cases hs:(eM r.Seen l[k].Client).1.Seq<l[k].Seq
  .refine step (b:=decide ((out.length:Int)<10)) ?_ ?_
   .simp_all
   grind [Ru]
  .refine step (b:=false) ?_ ?_
   .rw [if_pos abq,ak,if_pos rfl,if_neg abq,if_neg hs]
   grind [Ru]
 .unfold pu;rw [if_neg aab,No];exact .mk rfl
def akk {r:aj}(h:dw r)(o:aa):zC (bV r) (ot o)=some (Ru r o):=by
 unfold zC Ru;rw [show (ot o).Client=o.Client from rfl,Qd h,ak,Ku,ak];cases GR o with
 |false=>rfl
 |true=>
  cases (eM r.Seen o.Client).2 with
  |false=>rfl
  |true=>rfl
def abi {r:aj}(h:dw r)(l:List aa)(hl:l.length<=1000):ua (bV r) (l.map ot)=some ((acT r l).map ot):=by
 refine aM.eq (aM.bd (P:=λw=>w=(l.foldl (lu r) []).map ot) ?_ λw hw=> .mk hw);refine aM.loop (λst=> ∃k:Nat,k<=l.length/\st=(((l.take k).foldl (lu r) []).map ot,(k:Int))) (λst=>l.length-st.2.toNat) ⟨0,aab,rfl⟩ ?_;rintro st ⟨k,hk0,rfl⟩;have hlen:=Ky (r:=r) (l.take k) (out:=[]) abu;have apn:l.foldl (lu r) []=(l.drop k).foldl (lu r) ((l.take k).foldl (lu r) []):=by rw [<-List.foldl_append,List.take_append_drop]
 unfold Fx;by_cases hk:k<l.length;rotate_left
 .rw [if_neg (by grind),ak,if_neg abq];refine .mk ?_;grind
 rw [if_pos (by grind),ak];have hft:=SS (lu r) [] hk;generalize (l.take k).foldl (lu r) []=out at hlen apn hft⊢;by_cases Hi:out.length<10;rotate_left
 .rw [decide_eq_false (by grind),if_neg abq];refine .mk ?_;rw [apn,abh _ aab]
 rw [decide_eq_true (by grind),if_pos rfl];have hkm:k<(l.map ot).length:=by rw [AS];exact hk
 have mq:(l.map ot)[k]=ot l[k]:=OF ..;have Am:Loop (th (l.map ot) (out.map ot,(k:Int))) (false,0)=some (Rt out l[k].Client):=by
  rw [ah6 (out.map ot).length (λj=>((out.map ot)[j]?).any λu=>decide (u.Client=l[k].Client)) (λb=>b) (λj b hj=> ?_) λb=> ?_,adU]
  .rw [List.any_map];rfl
  .unfold th;dsimp only;rw [if_pos aab,By hj,wrap64 aab (by grind)];cases b with
   |true=>simp_all
   |false=>rw [if_neg abq,aI hj,aI hkm,mq,ak];simp [ot]
  .simp_all [th,if_neg]
 rw [Am,ak,wrap64 aab aab];have fin: ∀{X:Option Bool} {b:Bool},X=some b->(b=true↔Rt out l[k].Client=false/\Ru r l[k]=true)->aM (bd X λw4=>bd (if w4 then ix (l.map ot) (k:Int) λy3=>if ((out.map ot).length+([y3]:List aJ).length) *80<=2^46 then some (out.map ot++([y3]:List aJ)) else none else some (out.map ot):Option (List aJ)) λw5=>(some (.inl (w5,((k:Int)+1))):Option ((List aJ×Int)⊕List aJ))) (apm r l k):=by
  rintro X b rfl hb;rw [ak];cases b with
  |true=>rw [if_pos rfl,aI hkm,mq,if_pos (by grind),ak];refine .mk ⟨⟨k+1,hk,?_⟩,aab⟩;rw [hft,lu,if_pos ⟨Hi,hb.1 rfl⟩,afE];rfl
  |false=>refine .mk ⟨⟨k+1,hk,?_⟩,aab⟩;simp_all [lu,if_neg]
 refine aM.imp (P:=apm r l k) ?_ λx hx=>by cases x<;>exact hx
 cases hh:Rt out l[k].Client with
 |true=>grind
 |false=>refine fin (b:=Ru r l[k]) ?_ (by simp [hh]);simp_all [if_pos,aI,akk]
def abj {r:aj}(h:dw r){s:List UInt8}(hs:s.length<2^40): ∃l e,jY s=some (l,e)/\((e≠0/\pY r s=some (r,[],e)/\vE (bV r) s=some (bV r,[],e))\/ (e=0/\l.length<=10/\(∀o∈l,PW o)/\pY r s=some ((cP r l).1,(cP r l).2.1,0)/\vE (bV r) s=some (bV (cP r l).1,(cP r l).2.1.map lk,0))):=by
 have ⟨⟨l,e⟩,e1,e2⟩:=afh s hs;unfold pY vE;rw [e1,e2,ak,ak];by_cases he:e=0
 .subst he;have ⟨d1,d2,d3,d4⟩:=Yi hs e1;rw [decide_eq_true rfl,if_neg abq,if_neg abq,YF h l aab,ak,Qg h l aab,ak];grind
 grind
def akl (x y:aj){a:List ah}(h: ∀z∈a,sY z)(hl:a.length<=1000)(e:Int):Loop (kT (x,a,e) (bV y,a.map lk,e)) 0=some (.inl ()):=by
 refine aM.eq (aM.count (λk=>(k:Int)) a.length (λ_=>True) rfl trivial (λk hk _=> ?_) (λ_=> ?_))
 .have hkm:k<(a.map lk).length:=by rw [AS];exact hk
  have mq:(a.map lk)[k]=lk a[k]:=OF ..;unfold kT;dsimp only;rw [if_pos aab];simp only [aI hk];rw [aI hkm,mq,show (⟨a[k].Client,a[k].Seq,a[k].E,a[k].Value,a[k].Version,a[k].Names⟩:ay)=lk a[k] from rfl,VA _ (by have:=(h _ (BY hk)).2.1;omega),ak,if_neg abq,wrap64 aab aab];exact .mk ⟨aab,trivial⟩
 .unfold kT;dsimp only;rw [if_neg aab];exact .mk rfl
def Rv (hA:zn=some true)(a a1:List aa)(a2:List UInt8)(hw: ∀y∈a,((ac4 .i64 y.Client).wf=true)/\((ac4 .i64 y.Seq).wf=true)/\((ac4 .i64 y.Kind).wf=true)/\(y.Path.length<=afC)/\(y.Value.length<=afC)/\((ac4 .i64 y.Version).wf=true)/\((ac4 .i64 y.Session).wf=true)/\((ac4 .i64 y.Span).wf=true)):nK a a1 a2=some true:=by
 have hN: ∀o∈a,PW o:=ar9 hw;unfold nK;rw [hA];have ⟨b,eb,hb⟩:=acy a;have ⟨b',eb',EM⟩:=acy a1;rw [eb,ak];cases b with
 |false=>simp
 |true=>
 have hl:=hb rfl;rw [eb'];cases b' with
 |false=>simp
 |true=>
 have I7:=EM rfl;simp only [afJ,ad5,if_false,ak];by_cases h6:(6000:Int)<(a2.length:Int)
 .grind
 rw [decide_eq_false h6];simp only [ad5,if_false];rw [ajQ,ak,YF FZ a aab,ak,show Mn=some (bV aa2) from rfl,ak,ajk (l:=a) aab,ak,Kw,Qg FZ a aab,ak];have ⟨g1,g2,g3⟩:=Qe FZ a;have ⟨s1,s2⟩:=Qf a FZ afg;have n1:=YP a hN FZ anT;generalize (cP aa2 a).1=r at g1 s1 n1⊢;have hwl:(acT r a1).length<=10:=Ky a1 abu;have aCL: ∀{X:Option Bool},(bd (bd (oZ r a1) λB6=>bd (yf B6) λUm=>bd (yf a1) λQN=>bd (ua (bV r) QN) λUn=>bd (zB Um Un) λXt=>some (!Xt)) λw1=>if w1 then some false else X)=X:=by intro X;rw [anU g1 a1 aab,ak,ajk (l:=acT r a1) aab,ak,ajk (l:=a1) aab,ak,Kw,Kw,abi g1 a1 aab,ak,ar7 (by grind),ak,ak,if_neg abq]
 have ⟨l,e,e1,hc⟩:=abj g1 (s:=a2) aab;rcases hc with ⟨he,p1,p2⟩|⟨rfl,q1,q2,p1,p2⟩
 .have hT:=akl r r (a:=[]) (λz hz=>by cases hz) abu e;have ⟨d1,d2⟩:=Ln g1 s1 n1;simp_all
 .have ⟨g1',g2',g3'⟩:=Qe g1 l;have ⟨s1',s2'⟩:=Qf l g1 s1;have n1':=YP l q2 g1 n1;have hT:=akl (cP r l).1 (cP r l).1 (a:=(cP r l).2.1) s2' aab 0;simp_all [Ln,ak,if_true,decide_true]
def akm:zn=some true:=rfl
def Rw (a a1:List aa)(a2:List UInt8)(hw: ∀y∈a,((ac4 .i64 y.Client).wf=true)/\((ac4 .i64 y.Seq).wf=true)/\((ac4 .i64 y.Kind).wf=true)/\(y.Path.length<=afC)/\(y.Value.length<=afC)/\((ac4 .i64 y.Version).wf=true)/\((ac4 .i64 y.Session).wf=true)/\((ac4 .i64 y.Span).wf=true))(hw1: ∀y∈a1,((ac4 .i64 y.Client).wf=true)/\((ac4 .i64 y.Seq).wf=true)/\((ac4 .i64 y.Kind).wf=true)/\(y.Path.length<=afC)/\(y.Value.length<=afC)/\((ac4 .i64 y.Version).wf=true)/\((ac4 .i64 y.Session).wf=true)/\((ac4 .i64 y.Span).wf=true)):nK a a1 a2=some true:=Rv akm a a1 a2 hw
end
end Dn.S
