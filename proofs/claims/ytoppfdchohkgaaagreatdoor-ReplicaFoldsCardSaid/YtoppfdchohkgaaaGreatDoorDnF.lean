import Derived.Test.YtoppfdchohkgaaaGreatDoorDnE
import Derived.Laws.RangeString
/- What Go functions come to, on plain values. Conditions: none. -/
open List renaming getElem?_eq_getElem→bo,mem_iff_getElem→sh,getElem_mem→AI,take_append_drop→AS,length_map→AT,take_length→IN,mem_singleton→OF,findIdx?_eq_some_iff_getElem→aa0,length_take→ab3,pairwise_iff_getElem→adZ,all_eq_true→ad0,length_drop→ad1,dropLast_eq_take→ad2,length_cons→ad4,getElem_map→ad5,length_append→ad8,length_filter_le→ad9,mem_of_mem_take→aeb,take_add_one→aec,takeWhile_append_dropWhile→aee,length_nil→aeg,getElem_drop→aei,getD_eq_getElem?_getD→aen,drop_eq_getElem_cons→aev,length_set→aey,getElem_cons_succ→aeF,pairwise_append→ae1,mem_append→ae8,map_eq_nil_iff→ae9,filter_sublist→afa,pairwise_cons→afj,mem_take_iff_getElem→afn,mem_or_eq_of_mem_set→afo,foldl_append→afA,filter_eq_nil_iff→afK,append_nil→afS,mem_filter→aga,mem_range→agt,length_dropLast→agv,mem_of_mem_drop→ahe,drop→ahn,take→aho,flatMap_append→ahp,take_succ_cons→ahq,drop_zero→ahA,range→ahF,mem_map→ahI
open Bool renaming and_eq_true→BY,false_eq_true→ad3,true_and→aed,or_eq_true→aef,eq_false_iff→aeh,not_true→aeY,not_false→afh,and_true→ahr,false_and→ahw
open Go.Op renaming bytesLess→IT
open Go.IntKind renaming wrap→No
open Int renaming toNat_natCast→ad6,toNat→ad7
open List.Pairwise renaming sublist→aea
open Nat renaming zero_le→aeo,le_trans→aer,lt_trichotomy→aeP,le_refl→afw,ble_eq_true_of_le→agc,add_sub_cancel→ahs
open Go.Lit renaming int→aex
open ByteArray renaming getElem_eq_getElem_data→aez
open Go.Lib renaming indexByte→aeU,trimS→ahG
open List.cons renaming injEq→ae3
open Option.some renaming injEq→afu
open UInt8 renaming toNat_inj→afR
open Go renaming maxLen→ahl
set_option linter.all false
open Go Dn
namespace Dn.S
noncomputable section
theorem ak3 {n:Int}(h:(aex .i64 n).wf=true):i64 n:=by grind [abB,i64]
def ak4 {a:List ab}(hw: ∀y∈a,((aex .i64 y.Client).wf=true)/\((aex .i64 y.Seq).wf=true)/\((aex .i64 y.Kind).wf=true)/\(y.Path.length<=ahl)/\(y.Value.length<=ahl)/\((aex .i64 y.Version).wf=true)/\((aex .i64 y.Session).wf=true)/\((aex .i64 y.Span).wf=true)): ∀o∈a,GB o:=by intro o ho n hn;simp only [M1,List.mem_cons,List.not_mem_nil,or_false] at hn;grind [ak3]
def letters:List UInt8:=[97,98,99,100,101,102,103,104,105,106,107,108,109,110,111,112,113,114,115,116,117,118,119,120,121,122,48,49,50,51,52,53,54,55,56,57,45,95]
def mY (b:UInt8):Bool:=letters.contains b
def mi (s:List UInt8):Bool:=decide (s≠[])&&(decide (s.length<=30)&&s.all mY)
theorem adf {b:UInt8}(h:mY b=true):b.toNat<128:=by
 have hm:b∈letters:=by simpa [mY] using h
 have: ∀x∈letters,x.toNat<128:=aaD
 grind
def Y7 (l:List UInt8)(c:UInt8):0<=aeU l c↔c∈l:=by
 induction l with
 |nil=>simp [aeU]
 |cons b l ih=>unfold aeU;grind
def Sl {b:UInt8}(h:mY b=true):gp (b.toNat:Int)=some false:=by
 have dh:=adf h;have hm:b∈letters:=by simpa [mY] using h
 unfold gp Ex;have h1:decide ((0:Int)<=(b.toNat:Int)/\(b.toNat:Int)<128)=true:=(by grind)
 have h2:((b.toNat:Int)).toNat.toUInt8=b:=aaS
 rw [h1,h2];have h3:decide (0<=aeU letters b)=true:=decide_eq_true ((Y7 _ _).2 hm);simp;grind [decide,aeU,letters]
def contains_eq {s:List UInt8}(h:s.all mY=true)(hl:s.length<2^60):fa s gp=some false:=by
 have jx:Loop (iF gp true) ([.s s,.i .i64 0]:List MV)=some (.inl ()):=by
  refine bg.eq (bg.count (λk=>([.s s,.i .i64 (k:Int)]:List MV)) s.length (λ_=>True) rfl trivial (λk hk _=> ?_) (λ_=> ?_))
  .have hb:mY s[k]=true:=(by grind)
   have hd:Utf8.decode (⟨s.toArray⟩:ByteArray) k=(s[k].toNat,1):=by have:=decode_ascii (⟨s.toArray⟩:ByteArray) k (by grind [ByteArray.size]) (by grind [aez,adf]);simpa [aez] using this
   unfold iF;have h1:L7 ([.s s,.i .i64 (k:Int)]:List MV)=true:=by simp [L7,sJ,itS,hk]
   have h2:CA ([.s s,.i .i64 (k:Int)]:List MV)=(s[k].toNat:Int):=by simp [CA,sJ,itS,hd]
   have h3:CB ([.s s,.i .i64 (k:Int)]:List MV)=[.s s,.i .i64 ((k+1:Nat):Int)]:=by simp [CB,sJ,itS,hd]
   rw [if_pos h1,h2,Sl hb,av,if_neg aaD,h3];exact .mk ⟨rfl,trivial⟩
  .unfold iF;have h1:L7 ([.s s,.i .i64 (s.length:Int)]:List MV)=false:=by simp [L7,sJ,itS]
   rw [if_neg (by grind)];exact .mk rfl
 simp_all [fa,lc,np]
def Oa (s:List UInt8):ahG s letters=[]↔s.all mY=true:=by
 unfold ahG Lib.trimLeftS Lib.trimRightS;have hd: ∀l:List UInt8,l.dropWhile (letters.contains ·)=[]↔l.all mY=true:=by
  intro l;induction l with
  |nil=>simp
  |cons a l ih=>
   cases ha:letters.contains a with
   |true=>simp_all [mY,aed,if_true]
   |false=>simp_all [mY,ahw,if_neg]
 have hid: ∀l:List UInt8,(l.dropWhile (letters.contains ·)).all mY=true↔l.all mY=true:=by
  intro l;induction l with
  |nil=>simp
  |cons a l ih=>
   simp only [List.dropWhile_cons];cases ha:letters.contains a with
   |true=>simp_all [if_true,List.all_cons,mY,aed]
   |false=>simp [ha]
 grind
def Y8 (s:List UInt8):qT s=some (mi s):=by
 unfold qT;rw [NR];by_cases h0:s=[]
 .simp [h0,mi]
 .simp_all;by_cases hl:s.length<=30
  .rw [if_pos aah];have fj:1<=s.length:=by cases s with|nil=>grind|cons=>simp
   have ht:NS s letters=some (ahG s letters):=by
    unfold NS;have e1:Nat.ble 1 s.length=true:=(by simp_all)
    have e2:Nat.ble s.length (2^46)=true:=agc aah;rw [e1,e2];rfl
   show bd (NS s letters) _=_;rw [ht,av];by_cases ha:s.all mY=true
   .rw [if_pos ((Oa s).2 ha),contains_eq ha aah,av];grind [mi]
   simp_all [if_neg,Oa,mi]
  .rw [if_neg aah];simp [mi,hl]
def adg (b:UInt8):mY b=decide ((97<=b.toNat/\b.toNat<=122)\/(48<=b.toNat/\b.toNat<=57)\/b.toNat=45\/b.toNat=95):=by
 have key: ∀n,n<256->mY (UInt8.ofNat n)=decide ((97<=n/\n<=122)\/(48<=n/\n<=57)\/n=45\/n=95):=by decide+kernel
 have:=key b.toNat b.toNat_lt;simp_all
def P7 (s:List UInt8)(hl:s.length<2^60):tC s=some (mi s):=by
 have ⟨r,e,hr⟩:=qM (body:=sd s) s.length (λk=>mY (s.getD k 0)=true) false (λk hk _=>by
  have hc: ∀(b:UInt8) (K:Bool->Option (Int⊕(Unit⊕Bool))),bd (if (97:Int)<=(b.toNat:Int) then
   if (b.toNat:Int)<=122 then
   some true
   else
   if (48:Int)<=(b.toNat:Int) then
   if (b.toNat:Int)<=57 then
   some true
   else
   if (b.toNat:Int)=45 then
   some true
   else
   some (decide ((b.toNat:Int)=95))
   else
   if (b.toNat:Int)=45 then
   some true
   else
   some (decide ((b.toNat:Int)=95))
   else
   if (48:Int)<=(b.toNat:Int) then
   if (b.toNat:Int)<=57 then
   some true
   else
   if (b.toNat:Int)=45 then
   some true
   else
   some (decide ((b.toNat:Int)=95))
   else
   if (b.toNat:Int)=45 then
   some true
   else
   some (decide ((b.toNat:Int)=95)):Option Bool) K=K (mY b):=by
   intro b K;rw [adg];generalize b.toNat=n;repeat' split
   all_goals rw [av]
   all_goals congr 1
   all_goals grind
  unfold sd;rw [if_pos aah,if_pos ⟨aah,aah⟩,hc,ad6];constructor
  .grind [wrap64]
  grind) (by
  simp_all [sd,if_neg])
 unfold tC;rw [e,av];have rV:(∀k,k<s.length->mY (s.getD k 0)=true)↔s.all mY=true:=by
  rw [ad0];constructor
  .grind [sh,bo]
  .grind
 rcases hr with ⟨rfl,h⟩|⟨rfl,k,hk,h⟩
 .have h:=rV.1 h;simp;by_cases h0:s=[]
  .grind [mi]
  .have fj:1<=s.length:=by cases s with|nil=>grind|cons=>simp
   rw [if_pos aah];simp only [mi,h0,ne_eq,not_false_eq_true,decide_true,h,ahr,aed,afu,decide_eq_decide];omega
 .grind [mi]
section
variable {c:UInt8}
theorem sE (l:List UInt8):bJ c l≠[]:=by
 cases l with
 |nil=>simp [bJ]
 |cons x l=>grind [bJ]
theorem mj (l:List UInt8):bJ c (c::l)=[]::bJ c l:=by simp [bJ]
def fg {x:UInt8}(h:x≠c)(l:List UInt8): ∃p r,bJ c l=p::r/\bJ c (x::l)=(x::p)::r:=by
 cases hs:bJ c l with
 |nil=>grind [absurd,sE]
 |cons p r=>exact ⟨p,r,rfl,by grind [bJ]⟩
theorem Dy (l:List UInt8):(bJ c l).flatMap (c::·)=c::l:=by
 induction l with
 |nil=>rfl
 |cons x l ih=>
  by_cases h:x=c
  .grind [mj]
  .have ⟨p,r,h1,h2⟩:=fg h l;grind
theorem adh (l:List UInt8): ∀x∈bJ c l,c∉x:=by
 induction l with
 |nil=>grind [bJ]
 |cons y l ih=>
  by_cases h:y=c
  .grind [mj]
  .have ⟨p,r,h1,h2⟩:=fg h l;grind
theorem Y9 {a:List UInt8}(ha:c∉a)(l:List UInt8):bJ c (a++c::l)=a::bJ c l:=by
 induction a with
 |nil=>exact mj l
 |cons x a ih=>
  have hx:x≠c:=by intro e;subst e;simp at ha
  have ⟨p,r,h1,h2⟩:=fg hx (a++c::l);grind
def Va {a:List UInt8}(ha:c∉a):bJ c a=[a]:=by
 induction a with
 |nil=>rfl
 |cons x a ih=>
  have hx:x≠c:=by intro e;subst e;simp at ha
  have ⟨p,r,h1,h2⟩:=fg hx a;grind
theorem Vb {L:List (List UInt8)}(h0:L≠[])(h: ∀x∈L,c∉x):bJ c ((L.flatMap (c::·)).drop 1)=L:=by
 induction L with
 |nil=>grind
 |cons a L ih=>
  have ha:=h a aaS;cases L with
  |nil=>simp [Va ha]
  |cons b L=>grind [Y9]
theorem Dz (l:List UInt8):(bJ c l).length<=l.length+1:=by
 induction l with
 |nil=>simp [bJ]
 |cons x l ih=>
  by_cases h:x=c
  .grind [mj]
  .have ⟨p,r,h1,h2⟩:=fg h l;grind
def Sn (l:List UInt8): ∀x∈bJ c l,x.length<=l.length:=by
 induction l with
 |nil=>grind [bJ]
 |cons y l ih=>
  by_cases h:y=c
  .grind [mj]
  .have ⟨p,r,h1,h2⟩:=fg h l;grind
def Vc (l:List UInt8)(x:UInt8):bJ c (l++[x])=if x=c then bJ c l++[[]] else (bJ c l).dropLast++[(bJ c l).getLastD []++[x]]:=by
 induction l with
 |nil=>grind [bJ]
 |cons y l ih=>
  rw [List.cons_append];by_cases hy:y=c
  .grind [bJ,absurd,sE,List.dropLast,List.getLastD,List.getLast?_cons_cons]
  .have ⟨p,r,h1,h2⟩:=fg hy l;have ⟨p',r',h3,h4⟩:=fg hy (l++[x]);rw [ih,h1] at h3;split
   .grind
   .cases r with
    |nil=>grind
    |cons q r=>grind
end
theorem pf {α:Type}{l:List (List α)}(h:l≠[]):l.dropLast++[l.getLastD []]=l:=by grind [List.getLast?_eq_some_getLast,List.dropLast_concat_getLast]
def aA (p:List UInt8):List (List UInt8):=if p=[47] then [] else bJ 47 (p.drop 1)
def mZ (p:List UInt8):Bool:=decide (p.head? =some 47)
def bk (p:List UInt8):Bool:=(mZ p&&decide (p.length<=100))&&(decide ((aA p).length<=8)&&(aA p).all mi)
def P8 (p:List UInt8):iD p ([47]:List UInt8)=some (if mZ p then (p.drop 1,true) else (p,false)):=by
 unfold iD ia gZ;simp only [NR];cases p with
 |nil=>simp [mZ,bd]
 |cons x r=>
  have e1:(([47]:List UInt8).length:Int)<=((x::r).length:Int):=by simp;omega
  rw [if_pos e1,if_pos (by grind),av];by_cases hx:x=47
  .simp_all [if_pos,Int.le_refl,av,mZ]
  grind [decide,ahn,ad7,aho,mZ,av]
def Vd (s:List UInt8):mu s=some (!mi s):=by simp_all [mu,Y8]
def P9 {l:List (List UInt8)}{f:List UInt8->Option Bool}{q:List UInt8->Bool}(hf: ∀s,f s=some (q s))(hl:l.length<2^60):cW l f=some (l.any q):=by
 have ⟨r,e,hr⟩: ∃r,Loop (dn l f) 0=some r/\((r= .inl ()/\l.any q=false)\/((∃k:Nat,r= .inr (k:Int))/\l.any q=true)):=by
  refine bg.count (λk=>(k:Int)) l.length (λk=>(l.take k).any q=false) rfl rfl (λk hk hp=> ?_) (λhp=> ?_)
  .unfold dn;rw [if_pos aah,bq hk,hf,av];cases hq:q l[k] with
   |true=>exact .mk (by grind)
   |false=>rw [wrap64 aah aah];refine .mk ⟨aah,?_⟩;grind [take_succ]
  .unfold dn;rw [if_neg aah];rw [IN] at hp;exact .mk (.inl ⟨rfl,hp⟩)
 unfold cW fY;rw [e];rcases hr with ⟨rfl,h⟩|⟨⟨k,rfl⟩,h⟩<;>simp only [av,h]
 .rfl
 .simp
def agM (l:List (List UInt8)):(!l.any λs=>!mi s)=l.all mi:=by grind
def LB (p:List UInt8):gG p=some (if mZ p&&decide (p.length<=100) then (aA p,decide ((aA p).length<=8)&&(aA p).all mi) else ([],false)):=by
 unfold gG;rw [P8,av];cases ha:mZ p with
 |false=>simp [av]
 |true=>
  simp only [if_true,aeY,ad3,if_false,av,aed];by_cases hl:p.length<=100
  .have e1:decide ((100:Int)<(p.length:Int))=false:=(by grind)
   rw [e1];simp only [ad3,if_false,hl,decide_true,if_true];cases p with
   |nil=>grind [mZ]
   |cons x r=>
    have hx:x=47:=by simpa [mZ] using ha
    subst hx;simp only [List.drop_succ_cons,ahA,aA];by_cases hr:r=[]
    .simp_all
    .have hr': ¬(47::r:List UInt8)=[47]:=by simp [hr]
     rw [if_neg hr,if_neg hr'];have Mk:r.length<=99:=by simpa using hl
     unfold Px;rw [agc (by omega:r.length<=4294967280)];simp;by_cases h8:(bJ 47 r).length<=8
     .rw [if_pos aah,P9 Vd aah];simp_all [av,agM,decide_true,aed]
     .rw [if_neg aah];simp only [av,h8,decide_false,ahw]
  grind
def xe (p:List UInt8):ka p=some (bk p):=by unfold ka;rw [LB,av];unfold bk;grind
def So (p:List UInt8):pR p=some (if bk p then (aA p,0) else ([],13)):=by unfold pR;rw [LB,av];unfold bk;grind
def adi {R:Type}(b:UInt8)(K:List UInt8->Option R):HJ [(b.toNat:Int)] K=K [b]:=by simp_all [HJ,isByte]
theorem Ob (p:List UInt8)(hl:p.length<=1000):Bn p=some (if mZ p then aA p else [],mZ p):=by
 unfold Bn;cases p with
 |nil=>simp [mZ,av]
 |cons x r=>
  have dt: ¬(((x::r).length:Int)=0):=by simp;omega
  have dh:(0:Int)<((x::r).length:Int):=aaS
  rw [if_neg dt,if_pos ⟨aaD,dh⟩,av];have hx0:((x::r:List UInt8).getD (ad7 0) 0)=x:=rfl;rw [hx0];by_cases hx:x=47;rotate_left
  .have hx': ¬((x.toNat:Int)=47):=by intro e;apply hx;apply afR.1;show x.toNat=47;omega
   grind [mZ]
  subst hx;have hab:mZ (47::r)=true:=by simp [mZ]
  simp only [if_true,aA];by_cases hr:r=[]
  .grind
  have jx:Loop (wN (47::r)) (([]:List (List UInt8)),([]:List UInt8),1)=some ((bJ 47 r).dropLast,(bJ 47 r).getLastD []):=by
   refine bg.eq (bg.count (λk=>((bJ 47 (r.take k)).dropLast,(bJ 47 (r.take k)).getLastD [],((k+1:Nat):Int))) r.length (λ_=>True) rfl trivial (λk hk _=> ?_) (λ_=> ?_))
   .unfold wN;dsimp only;have ru:(0:Int)<=((k+1:Nat):Int)/\((k+1:Nat):Int)<(((47:UInt8)::r).length:Int):=by simp;omega
    rw [if_pos ru.2,if_pos ru];have nC:((47::r:List UInt8).getD (ad7 ((k+1:Nat):Int)) 0)=r[k]:=by rw [ad6,aen,List.getElem?_cons_succ,bo hk];rfl
    rw [nC,wrap64 aah aah];have hsn:=Vc (c:=47) (r.take k) r[k];rw [<-take_succ hk] at hsn;have apA:=Dz (c:=47) (r.take k);have ay7:(r.take k).length<=999:=by rw [ab3];omega
    have atE:=sE (c:=47) (r.take k);have Rl:(bJ 47 (r.take k)).dropLast++[(bJ 47 (r.take k)).getLastD []]=bJ 47 (r.take k):=by exact pf atE
    by_cases hc:r[k]=47
    .have hc':((r[k].toNat:Nat):Int)=47:=by rw [hc];rfl
     rw [if_pos hc',if_pos (by simp;omega),av];refine .mk ⟨?_,trivial⟩;grind
    .have hc': ¬((r[k].toNat:Nat):Int)=47:=by intro e;apply hc;apply afR.1;show r[k].toNat=47;omega
     have hle:((bJ 47 (r.take k)).getLastD []).length<=999:=by have:=Sn (c:=47) (r.take k) ((bJ 47 (r.take k)).getLastD []) (by grind);omega
     rw [if_neg hc',if_pos ru,adi,if_pos (by grind),av];refine .mk ⟨?_,trivial⟩;grind
   .unfold wN;rw [if_neg aaS,IN];exact .mk rfl
  rw [jx,av];have apA:=Dz (c:=47) r;grind [bJ,pf,sE]
def AR (p:List UInt8):nW p=some (bk p):=by
 unfold nW;by_cases hl:p.length<=100;rotate_left
 .rw [if_pos aah];simp [bk,hl]
 rw [if_neg aah,Ob p aah,av];have hle: ∀y∈(if mZ p then aA p else []),y.length<=100:=by
  intro y hy;split at hy
  .unfold aA at hy;split at hy
   .simp at hy
   .have:=Sn _ y hy;grind
  .simp at hy
 have hlen:(if mZ p then aA p else []).length<=101:=by
  split
  .grind [aA,Dz,ad1]
  .simp
 generalize hL:(if mZ p then aA p else [])=L at hle hlen;have ⟨r,e,hr⟩:=qM (body:=vj (L,mZ p)) L.length (λk=>mi (L.getD k [])=true) false (λk hk _=>by
  have hg:L.getD k []=L[k]:=by rw [aen,bo hk];rfl
  unfold vj;dsimp only;rw [if_pos aah,bq hk,P7 _ (by grind),av,hg];constructor
  .grind [wrap64]
  grind) (by
  simp_all [vj,if_neg])
 rw [e,av];have rV:(∀k,k<L.length->mi (L.getD k [])=true)↔L.all mi=true:=by
  rw [ad0];constructor
  .grind [sh,bo]
  .grind
 unfold bk;cases ha:mZ p with
 |false=>simp_all
 |true=>
  rw [ha] at hL;simp at hL;rw [hL];rcases hr with ⟨rfl,h⟩|⟨rfl,k,hk,h⟩
  .have h:=rV.1 h;simp only [if_true,av,NR,h,hl,decide_true,ahr,aed,afu,decide_eq_decide];omega
  grind
def eL {p:List UInt8}(h:bk p=true):p.length<=100/\mZ p=true/\(aA p).length<=8/\(aA p).all mi=true:=by simp_all [bk,BY,decide_eq_true_eq]
def AU (p:List UInt8):pS p=some (if bk p then (aA p,0) else ([],13)):=by
 unfold pS;rw [AR,av];cases h:bk p with
 |false=>simp
 |true=>have ⟨h1,h2,_⟩:=eL h;grind [Ob,av]
def rj (l:List (List UInt8)):List UInt8:=if l=[] then [47] else l.flatMap (47::·)
theorem agN (l:List (List UInt8))(h1:(l.flatMap ((47:UInt8)::·)).length<=2^40)(h2:l.length<2^60):Am l=some (rj l):=by
 have jx:Loop (xT l) (([]:List UInt8),0)=some (l.flatMap ((47:UInt8)::·)):=by
  refine bg.eq (bg.count (λk=>((l.take k).flatMap ((47:UInt8)::·),(k:Int))) l.length (λ_=>True) rfl trivial (λk hk _=> ?_) (λ_=> ?_))
  .unfold xT;have hsp:(l.take (k+1)).flatMap ((47:UInt8)::·)=(l.take k).flatMap ((47:UInt8)::·)++[47]++l[k]:=by rw [take_succ hk,ahp];simp
   have ay8:((l.take (k+1)).flatMap ((47:UInt8)::·)).length<=(l.flatMap ((47:UInt8)::·)).length:=by
    have:l.flatMap ((47:UInt8)::·)=(l.take (k+1)).flatMap ((47:UInt8)::·)++(l.drop (k+1)).flatMap ((47:UInt8)::·):=by rw [<-ahp,AS]
    rw [this,ad8];omega
   rw [if_pos aah,if_pos (by grind),bq hk,if_pos (by grind),wrap64 aah aah];refine .mk ⟨?_,trivial⟩;grind
  .unfold xT;rw [if_neg aah,IN];exact .mk rfl
 unfold Am;rw [jx,av];unfold rj;cases l with
 |nil=>rfl
 |cons a l=>simp
def Qa {a b:List UInt8}(hb:(47:UInt8)∉b)(hl:(a++47::b).length<2^60):iH (a++47::b) ([47]:List UInt8)=some (a.length:Int):=by
 have jx:Loop (fc (a++47::b) 47) (((a++47::b).length-1:Nat):Int)=some (.inr (a.length:Int)):=by
  refine bg.eq (bg.loop (λst=> ∃i:Nat,st=(i:Int)/\a.length<=i/\i<(a++47::b).length) (λst=>st.toNat) (by grind) ?_);rintro st ⟨i,rfl,h1,h2⟩;unfold fc;rw [if_pos aah,if_pos ⟨aah,aah⟩];have hg:(a++47::b).getD (ad7 (i:Int)) 0=(a++47::b)[i]:=by rw [ad6,aen,bo h2];rfl
  rw [hg];by_cases hi:i=a.length
  .subst hi;simp;exact .mk rfl
  .have dt:(a++47::b)[i]≠47:=by
    obtain ⟨j,hj⟩: ∃j,i=a.length+(j+1):=⟨i-a.length-1,aah⟩
    subst hj;rw [List.getElem_append_right aah];simp only [Nat.add_sub_cancel_left,aeF];intro e;apply hb;rw [<-e];exact AI _
   have akj: ¬((((a++47::b)[i]).toNat:Int)=47):=by intro e;apply dt;apply afR.1;show _=47;omega
   rw [if_neg akj,wrap64 aah aah];exact .mk (by grind)
 unfold iH;have Wl:(((([47]:List UInt8).getD (ad7 0) 0).toNat:Nat):Int)=47:=aaD
 rw [Wl];unfold dE;have hlen:((a++47::b).length:Int)-1=(((a++47::b).length-1:Nat):Int):=by simp;omega
 rw [hlen,wrap64 aah aah,jx];rfl
def LC {p:List UInt8}(h:mZ p=true): ∃r,p=47::r:=by
 cases p with
 |nil=>grind [mZ]
 |cons x r=>grind [mZ]
theorem Oc {p:List UInt8}(h:mZ p=true)(h1:p≠[47]): ∃L x,aA p=L++[x]/\p=L.flatMap ((47:UInt8)::·)++47::x/\(47:UInt8)∉x:=by
 obtain ⟨r,rfl⟩:=LC h;have hn:aA (47::r)=bJ 47 r:=by simp [aA,h1]
 have Rl:=pf (sE (c:=47) r);refine ⟨_,_,by rw [hn];exact Rl.symm,?_,(by grind [adh])⟩;have:=Dy (c:=47) r;grind
def Od (p:List UInt8):nV p=some (if bk p then (if p=[47] then ([],6) else (rj (aA p).dropLast,0)) else ([],13)):=by
 unfold nV;rw [xe,av];cases h:bk p with
 |false=>simp
 |true=>
  have ⟨h1,h2,h3,h4⟩:=eL h;simp;by_cases hp:p=[47]
  .grind
  .rw [if_neg hp,if_neg hp];have ⟨L,x,e1,e2,e3⟩:=Oc h2 hp;rw [e1,List.dropLast_concat];rw [e2] at h1⊢;rw [Qa e3 aah,av];generalize hJ:L.flatMap ((47:UInt8)::·)=J at h1;have hm:imax 1 (J.length:Int)=((max 1 J.length:Nat):Int):=by unfold imax;split<;>omega
   rw [hm,if_pos (by grind)];simp;unfold rj;cases L with
   |nil=>grind
   |cons a L=>grind
theorem BF {p:List UInt8}(h:bk p=true):((aA p).length=0↔p=[47]):=by have ⟨h1,h2,h3,h4⟩:=eL h;grind [Oc,aA]
theorem adj {p:List UInt8}(h:mZ p=true)(k:Nat):(((aA p).take k).flatMap ((47:UInt8)::·)).length<=p.length:=by
 by_cases hp:p=[47]
 .grind [aA]
 .obtain ⟨r,rfl⟩:=LC h;grind [aA,bJ,Dy,AS,ad8]
def Qb (p:List UInt8):pT p=some (if bk p then (if p=[47] then ([],6) else (rj (aA p).dropLast,0)) else ([],13)):=by
 unfold pT;rw [AU,av];cases h:bk p with
 |false=>simp
 |true=>
  have ⟨h1,h2,h3,h4⟩:=eL h;simp only [if_true,decide_true,aeY,ad3,if_false];by_cases hp:p=[47]
  .rw [if_pos hp,if_pos (by grind [BF])]
  .have dt: ¬(aA p).length=0:=(by grind [BF])
   rw [if_neg hp,if_neg aah,wrap64 aah aah,if_pos (by grind)];grind [ad2,agN,adj,aA,av]
theorem Qc (a:List UInt8):IT a a=false:=by
 induction a with
 |nil=>rfl
 |cons x a ih=>simp [IT,ih]
def ak6 (a b:List UInt8):IT a b=true\/a=b\/IT b a=true:=by
 induction a generalizing b with
 |nil=>cases b<;>simp [IT]
 |cons x a ih=>
  cases b with
  |nil=>simp [IT]
  |cons y b=>simp only [IT,aef,decide_eq_true_eq,BY,beq_iff_eq,ae3];grind
theorem Sp {a b c:List UInt8}(h1:IT a b=true)(h2:IT b c=true):IT a c=true:=by
 induction a generalizing b c with
 |nil=>
  cases b with
  |nil=>grind
  |cons y b=>cases c with
   |nil=>grind [IT]
   |cons z c=>rfl
 |cons x a ih=>
  cases b with
  |nil=>grind [IT]
  |cons y b=>
   cases c with
   |nil=>grind [IT]
   |cons z c=>simp only [IT,aef,decide_eq_true_eq,BY,beq_iff_eq,UInt8.lt_iff_toNat_lt] at h1 h2⊢;grind
def pj:List (List UInt8)->List (List UInt8)->Bool
 |[],[]=>false
 |[],_::_=>true
 |_::_,[]=>false
 |a::x,b::y=>IT a b||(decide (a=b)&&pj x y)
theorem E4 (a:List (List UInt8)):pj a a=false:=by
 induction a with
 |nil=>rfl
 |cons x a ih=>simp [pj,Qc,ih]
def agO (a b:List (List UInt8)):pj a b=true\/a=b\/pj b a=true:=by
 induction a generalizing b with
 |nil=>cases b<;>simp [pj]
 |cons x a ih=>
  cases b with
  |nil=>simp [pj]
  |cons y b=>simp only [pj,aef,decide_eq_true_eq,BY,ae3];rcases ak6 x y with h|rfl|h;all_goals grind
theorem GF {a b c:List (List UInt8)}(h1:pj a b=true)(h2:pj b c=true):pj a c=true:=by
 induction a generalizing b c with
 |nil=>
  cases b with
  |nil=>grind
  |cons y b=>cases c with
   |nil=>grind [pj]
   |cons z c=>rfl
 |cons x a ih=>
  cases b with
  |nil=>grind [pj]
  |cons y b=>
   cases c with
   |nil=>grind [pj]
   |cons z c=>
    simp only [pj,aef,decide_eq_true_eq,BY] at h1 h2⊢;rcases h1 with h1|⟨rfl,h1⟩
    .grind [Sp]
    grind
def E5 (a x y:List (List UInt8)):pj (a++x) (a++y)=pj x y:=by
 induction a with
 |nil=>rfl
 |cons z a ih=>simp [pj,Qc,ih]
def jO (a b:List (List UInt8)):Bool:=decide (a.length<b.length)&&decide (a=b.take a.length)
def adk {a b:List (List UInt8)}(h:jO a b=true):pj a b=true:=by
 unfold jO at h;simp at h;have hb:b=a++b.drop a.length:=by have:=AS a.length b;rw [<-h.2] at this;exact this.symm
 rw [hb];have:=E5 a [] (b.drop a.length);rw [afS] at this;rw [this];cases hq:b.drop a.length with
 |nil=>grind
 |cons=>rfl
def agP {a b c:List (List UInt8)}(h1:pj a b=true)(h2:pj b c=true)(h3:jO a c=true):jO a b=true:=by
 induction a generalizing b c with
 |nil=>grind [pj,jO]
 |cons x a ih=>
  cases c with
  |nil=>grind [jO]
  |cons z c=>
   cases b with
   |nil=>grind [pj]
   |cons y b=>
    have ZH:x=z/\jO a c=true:=by simp only [jO,ad4,ahq,ae3,BY,decide_eq_true_eq] at h3;exact ⟨h3.2.1,by simp only [jO,BY,decide_eq_true_eq];grind⟩
    have ⟨rfl,ZH⟩:=ZH;simp only [pj,aef,decide_eq_true_eq,BY] at h1 h2;have hxy:x=y/\pj a b=true/\pj b c=true:=by
     rcases h1 with h1|⟨rfl,h1⟩
     .grind [Sp,Qc]
     .rcases h2 with h2|⟨_,h2⟩
      .grind [Qc]
      grind
    have ⟨rfl,g1,g2⟩:=hxy;have:=ih g1 g2 ZH;simp only [jO,ad4,ahq,ae3,BY,decide_eq_true_eq] at this⊢;grind
def cmp_eq (x y:List UInt8):iG x y=some (if IT x y then-1 else if x=y then 0 else 1):=by unfold iG ku;simp;grind
def Ve (a b:List (List UInt8))(hl:a.length<2^60): ∃n,fb a b=some n/\decide (n<0)=pj a b:=by
 have ⟨r,e,hr⟩: ∃r,Loop (dR a b) 0=some r/\(match r with| .inl ()=>pj a b=decide (a.length<b.length)| .inr n=>decide (n<0)=pj a b):=by
  refine bg.count (λk=>(k:Int)) a.length (λk=>a.take k=b.take k/\k<=b.length) rfl ⟨rfl,aah⟩ (λk hk hp=> ?_) (λhp=> ?_)
  .have dh:pj a b=pj (a.drop k) (b.drop k):=by have:=E5 (a.take k) (a.drop k) (b.drop k);rw [AS,hp.1,AS] at this;exact this
   have hda:a.drop k=a[k]::a.drop (k+1):=(by simp_all)
   unfold dR;rw [if_pos aah,bq hk];by_cases hb:b.length<=k
   .rw [if_pos aah];refine .mk ?_;grind [decide,pj,List.drop_eq_nil_of_le]
   .have hb:k<b.length:=aah
    have hdb:b.drop k=b[k]::b.drop (k+1):=aev hb;rw [if_neg aah,bq hb,cmp_eq,av];rw [hda,hdb] at dh;simp only [pj] at dh;by_cases h1:IT a[k] b[k]=true
    .simp_all;refine .mk ?_;grind
    .rw [Bool.not_eq_true] at h1;by_cases h2:a[k]=b[k]
     .have hc:(if IT a[k] b[k]=true then (-1:Int) else if a[k]=b[k] then 0 else 1)=0:=by rw [h1,if_neg aaD,if_pos h2]
      rw [hc,if_neg aaD];rw [wrap64 aah aah];refine .mk ⟨aah,?_,aah⟩;rw [take_succ hk,take_succ hb,hp.1,h2]
     .simp_all;refine .mk ?_;grind
  .unfold dR;rw [if_neg aah];refine .mk ?_;show pj a b=decide (a.length<b.length);have:=E5 (a.take a.length) (a.drop a.length) (b.drop a.length);rw [AS,hp.1,AS,List.drop_length] at this;rw [this];cases hd:b.drop a.length with
   |nil=>have:=congrArg List.length hd;symm;apply decide_eq_false;grind
   |cons x y=>symm;apply decide_eq_true;grind
 unfold fb;rw [e,av];cases r with
 |inl u=>
  by_cases h:a.length<b.length
  .simp_all
  .rw [if_neg aah];grind
 |inr n=>grind
def BG (p:List UInt8): ∃l,gG p=some (l,bk p)/\(bk p=true->l=aA p):=by
 rw [LB];unfold bk;cases mZ p&&decide (p.length<=100) with
 |false=>grind
 |true=>grind
def mN (p q:List UInt8):Bool:=bk p&&(bk q&&pj (aA p) (aA q))
def uo (p q:List UInt8):Bool:=bk p&&(bk q&&jO (aA p) (aA q))
def adl (p q:List UInt8):th p q=some (mN p q):=by
 unfold th;have ⟨l,e1,h1⟩:=BG p;have ⟨m,e2,h2⟩:=BG q;rw [e1,av,e2,av,NR];unfold mN;cases hp:bk p with
 |false=>rfl
 |true=>
  cases hq:bk q with
  |false=>rfl
  |true=>have ⟨n,e3,h3⟩:=Ve (aA p) (aA q) (by have:=(eL hp).2.2.1;omega);simp_all
def Oe (a b:List (List UInt8))(hl:a.length<2^60):eJ a b=some (decide (a=b)):=by
 unfold eJ;by_cases he:a.length=b.length
 .rw [FG he (λk ha hb=>by
   unfold lQ;rw [if_pos aah,bq ha,bq hb,wrap64 aah aah];grind) (by
   simp_all [lQ,if_neg]),av]
  grind
 .have:decide ((a.length:Int)=(b.length:Int))=false:=(by grind)
  rw [this];have hab:a≠b:=λe=>he (by rw [e]);simp [hab]
def Sq (p q:List UInt8):nG p q=some (uo p q):=by
 unfold nG;have ⟨l,e1,h1⟩:=BG p;have ⟨m,e2,h2⟩:=BG q;rw [e1,av,e2,av,NR];unfold uo;cases hp:bk p with
 |false=>rfl
 |true=>
  cases hq:bk q with
  |false=>rfl
  |true=>
   rw [h1 hp,h2 hq];simp only [if_true,aed,jO];by_cases dh:(aA p).length<(aA q).length
   .rw [if_pos aah,if_pos (by grind)];rw [Oe _ _ (by have:=(eL hp).2.2.1;omega),av];simp [dh]
   grind
theorem LD {p:List UInt8}(h:mZ p=true):rj (aA p)=p:=by
 by_cases hp:p=[47]
 .subst hp;rfl
 .obtain ⟨r,rfl⟩:=LC h;simp_all [aA,bJ,rj,if_neg,sE,Dy]
def Za {p q:List UInt8}(hp:mZ p=true)(hq:mZ q=true)(h:aA p=aA q):p=q:=by grind [LD]
theorem WS {x:List UInt8}(h:mi x=true):(47:UInt8)∉x/\x≠[]:=by unfold mi at h;simp only [BY,decide_eq_true_eq] at h;refine ⟨λhm=> ?_,h.1⟩;have:=ad0.1 h.2.2 _ hm;exact absurd this aaD
def LF {L:List (List UInt8)}(h:L.all mi=true):aA (rj L)=L/\mZ (rj L)=true/\(L≠[]->rj L≠[47]):=by
 cases L with
 |nil=>exact ⟨rfl,rfl,λh=>absurd rfl h⟩
 |cons a L=>
  have ha:=WS (ad0.1 h a aaS);have hm:rj (a::L)=47::(a++L.flatMap ((47:UInt8)::·)):=by simp [rj]
  have dt:rj (a::L)≠[47]:=by
   rw [hm];intro e;have:a++L.flatMap ((47:UInt8)::·)=[]:=by simpa using e
   exact ha.2 (List.append_eq_nil_iff.1 this).1
  refine ⟨?_,by grind [mZ],λ_=>dt⟩;unfold aA;grind [Vb,WS,ad0,rj]
def Sr (p q:List UInt8):wO p q=some (mN p q):=by
 unfold wO mN;rw [AU,av,AU,av];cases hp:bk p with
 |false=>simp [av]
 |true=>
  cases hq:bk q with
  |false=>simp [av]
  |true=>
   have ⟨_,_,hp3,_⟩:=eL hp;simp;generalize aA p=a at *;generalize aA q=b at *;have ⟨r,e,hr⟩: ∃r,Loop (vk (a,0) (b,0)) 0=some r/\(match r with| .inl ()=>pj a b=decide (a.length<b.length)| .inr c=>c=pj a b):=by
    refine bg.count (λk=>(k:Int)) (min a.length b.length) (λk=>a.take k=b.take k) rfl rfl (λk hk hp=> ?_) (λhp=> ?_)
    .have ha:k<a.length:=aah
     have hb:k<b.length:=aah
     have dh:pj a b=pj (a.drop k) (b.drop k):=by have:=E5 (a.take k) (a.drop k) (b.drop k);rw [AS,hp,AS] at this;exact this
     rw [aev ha,aev hb] at dh;simp only [pj] at dh;unfold vk;dsimp only;rw [if_pos aah,av,decide_eq_true aah,if_pos rfl,bq ha,bq hb];by_cases h2:a[k]=b[k]
     .simp_all;rw [wrap64 aah aah];refine .mk ⟨aah,?_⟩;grind [take_succ]
     .simp only [h2,decide_false,afh,if_true,bq ha,bq hb];refine .mk ?_;grind
    .unfold vk;have hw:(if ((min a.length b.length:Nat):Int)<(a.length:Int) then some (decide (((min a.length b.length:Nat):Int)<(b.length:Int))) else some false)=some false:=by
      split
      .grind
      .rfl
     rw [hw,av,if_neg aaD];refine .mk ?_;have:=E5 (a.take (min a.length b.length)) (a.drop (min a.length b.length)) (b.drop (min a.length b.length));rw [AS,hp,AS] at this;rw [this];by_cases hlen:a.length<b.length
     .cases hd:b.drop a.length with
      |nil=>have:=congrArg List.length hd;grind
      |cons x y=>grind [pj]
     .cases hd:a.drop b.length with
      |nil=>grind [pj]
      |cons x y=>grind [pj]
   rw [e,av];grind
@[reducible] def toR (n : aa) : cI := ⟨n.Path, n.Value, n.Version, n.cm⟩
def mO (s:au):jy:=⟨s.L.map toR⟩
def sF (l:List (List UInt8))(p:List UInt8):Int:=match l.findIdx? (λx=>decide (x=p)) with
 |some k=>k
 |none=> -1
theorem adm {l:List (List UInt8)}{p:List UInt8}(h: ∀x∈l,x≠p):sF l p= -1:=by grind [sF,decide,List.findIdx?_eq_none_iff]
theorem LG {l:List (List UInt8)}{p:List UInt8}{k:Nat}(hk:k<l.length)(h:l[k]=p)(hf: ∀j (hj:j<k),l[j]≠p):sF l p=k:=by
 unfold sF;have:l.findIdx? (λx=>decide (x=p))=some k:=by rw [aa0];exact (by grind)
 rw [this]
def apB (s:jy)(p:List UInt8)(hl:s.L.length<2^40):xU s p=some (sF (s.L.map (·.Path)) p):=by
 have ⟨r,e,hr⟩: ∃r,Loop (EA s p) 0=some r/\(match r with| .inl ()=>sF (s.L.map (·.Path)) p= -1| .inr n=>sF (s.L.map (·.Path)) p=n):=by
  refine bg.count (λk=>(k:Int)) s.L.length (λk=> ∀j (h:j<s.L.length),j<k->(s.L[j]).Path≠p) rfl (λj _ h=>aah) (λk hk hp=> ?_) (λhp=> ?_)
  .unfold EA;rw [if_pos aah,bq hk];by_cases hh:(s.L[k]).Path=p
   .rw [if_pos hh];refine .mk ?_;grind [LG]
   .rw [if_neg hh,wrap64 aah aah];refine .mk ⟨aah,λj h hj=> ?_⟩;by_cases hjk:j=k
    .subst hjk;exact hh
    .exact hp j h aah
  .unfold EA;rw [if_neg aah];refine .mk ?_;grind [adm,sh]
 grind [xU,av]
def Vf {l:List (List UInt8)}{p:List UInt8}(h:0<=sF l p):(sF l p).toNat<l.length:=by grind [sF,decide,aa0]
def cy (p:List UInt8):List UInt8×Int:=if bk p then (if p=[47] then ([],6) else (rj (aA p).dropLast,0)) else ([],13)
def WT (L:List aa)(p:List UInt8):Bool:=decide (0<=sF (L.map (·.Path)) p)&&match L[(sF (L.map (·.Path)) p).toNat]? with
 |some y=>decide (y.cm=0)
 |none=>false
def uq (L:List aa)(n:aa):Bool:=if (cy n.Path).2=0 then WT L (cy n.Path).1 else decide (n.cm=0)
def okK (L:List aa)(k:Nat):Bool:=match L[k]? with
 |none=>false
 |some x=>(bk x.Path&&(decide (x.Value.length<=1000)&&(decide (0<=x.Version)&&(decide (x.Version<=1000000000)&&(decide (0<=x.cm)&&uq L x)))))&& (decide (k=0)||match L[k-1]? with
   |some y=>mN y.Path x.Path
   |none=>false)
def AV (L:List aa):Bool:=(decide (1<=L.length)&&decide (L.length<=200))&&(decide ((L.map (·.Path)).head? =some [47])&&(ahF L.length).all (okK L))
def ado {l:List (List UInt8)}{p:List UInt8}:sF l p=0↔l.head? =some p:=by
 cases l with
 |nil=>simp [sF]
 |cons a l=>
  unfold sF;rw [List.findIdx?_cons];by_cases h:a=p
  .simp [h]
  .simp_all;cases hf:l.findIdx? (λx=>decide (x=p)) with
   |none=>simp
   |some k=>simp;omega
def Ss (L:List aa):(L.map toR).map (·.Path)=L.map (·.Path):=by simp_all
def toR_path (x:aa):(toR x).Path=x.Path:=rfl
def toR_value (x:aa):(toR x).Value=x.Value:=rfl
def toR_version (x:aa):(toR x).Version=x.Version:=rfl
def toR_owner (x:aa):(toR x).cm=x.cm:=rfl
theorem Su (s:au)(hl:s.L.length<2^40):wP (mO s)=some (AV s.L):=by
 have hlen:(mO s).L.length=s.L.length:=AT ..;have Ql: ∀p,xU (mO s) p=some (sF (s.L.map (·.Path)) p):=by intro p;rw [apB (mO s) p (by rw [hlen];exact hl)];show some (sF ((s.L.map toR).map (·.Path)) p)=_;rw [Ss]
 unfold wP AV;rw [hlen];by_cases h1:1<=s.L.length;rotate_left
 .rw [if_pos aah,av,if_pos rfl,decide_eq_false h1];rfl
 by_cases h2:s.L.length<=200;rotate_left
 .rw [if_neg aah,decide_eq_true aah,av,if_pos rfl,decide_eq_false h2];simp
 rw [if_neg aah,decide_eq_false aah,av,if_neg aaD,decide_eq_true h1,decide_eq_true h2];obtain ⟨r,e,hr⟩:=qM (body:=vl (mO s)) s.L.length (λk=>okK s.L k=true) false (λk hk _=>by
  have pw:okK s.L k=((bk (s.L[k]).Path&&(decide ((s.L[k]).Value.length<=1000)&&(decide (0<=(s.L[k]).Version)&&(decide ((s.L[k]).Version<=1000000000)&&(decide (0<=(s.L[k]).cm)&&uq s.L s.L[k])))))&& (decide (k=0)||match s.L[k-1]? with
    |some y=>mN y.Path (s.L[k]).Path
    |none=>false)):=by
   unfold okK;rw [bo hk]
  rw [pw];have hkp:k<(mO s).L.length:=by rw [hlen];exact hk
  have nC:(mO s).L[k]=toR s.L[k]:=ad5 ..;unfold vl;rw [if_pos aah,bq hkp,nC];generalize hx:s.L[k]=x;simp only [toR_path,toR_value,toR_version,toR_owner];rw [AR,av];cases c1:bk x.Path with
  |false=>simp [av]
  |true=>
  by_cases c2:x.Value.length<=1000;rotate_left
  .rw [if_neg aaD,if_pos aah];simp [av,c2]
  by_cases c3:0<=x.Version;rotate_left
  .rw [if_neg aaD,if_neg aah,if_pos aah];simp [av,c3]
  by_cases c4:x.Version<=1000000000;rotate_left
  .rw [if_neg aaD,if_neg aah,if_neg aah,if_pos aah];simp [av,c4]
  by_cases c5:0<=x.cm;rotate_left
  .rw [if_neg aaD,if_neg aah,if_neg aah,if_neg aah,if_pos aah];simp [av,c5]
  rw [if_neg aaD,if_neg aah,if_neg aah,if_neg aah,if_neg aah];have ae6: ∀(X:Option (Int⊕(Unit⊕Bool))),(uq s.L x=true->X=some (.inl ((k+1:Nat):Int)))->(uq s.L x=false->X=some (.inr (.inr false)))->True:=λ_ _ _=>trivial;have hgp:(bd (pT x.Path) λdN=>
   if !decide (dN.2=0) then
   if !decide (x.cm=0) then
   some (Sum.inr (Sum.inr false))
   else
   some (Sum.inl (No .i64 ((k:Int)+1)))
   else
   bd (xU (mO s) dN.1) λux=>
   bd (if ux<0 then
    some true
    else
    ix (mO s).L ux λy2=>
    some (!decide (y2.cm=0)):Option Bool) λw3=>
   if w3 then
   some (Sum.inr (Sum.inr false))
   else
   some (Sum.inl (No .i64 ((k:Int)+1))):Option (Int⊕(Unit⊕Bool)))=if uq s.L x then some (.inl ((k+1:Nat):Int)) else some (.inr (.inr false)):=by
   rw [Qb,av,wrap64 aah aah];show (if !decide ((cy x.Path).2=0) then _ else bd (xU (mO s) (cy x.Path).1) _)=_;unfold uq;by_cases h:(cy x.Path).2=0
   .rw [decide_eq_true h,if_neg aaD,if_pos h,Ql,av];unfold WT;by_cases hi:0<=sF (s.L.map (·.Path)) (cy x.Path).1
    .have dh:=Vf hi;rw [AT] at dh;have atF:(sF (s.L.map (·.Path)) (cy x.Path).1).toNat<(mO s).L.length:=by rw [hlen];exact dh
     have hg2:(mO s).L[(sF (s.L.map (·.Path)) (cy x.Path).1).toNat]=toR s.L[(sF (s.L.map (·.Path)) (cy x.Path).1).toNat]:=ad5 ..;rw [if_neg aah,CV hi atF,hg2,av,bo dh,decide_eq_true hi];show (if !decide ((s.L[(sF (s.L.map (·.Path)) (cy x.Path).1).toNat]).cm=0) then _ else _)=_;generalize s.L[(sF (s.L.map (·.Path)) (cy x.Path).1).toNat]=y;by_cases ho:y.cm=0<;>simp [ho]
    .rw [if_pos aah,av,decide_eq_false hi];simp
   .rw [decide_eq_false h,if_pos aaD,if_neg h];by_cases ho:x.cm=0<;>simp [ho]
  by_cases hk0:k=0
  .subst hk0;rw [if_neg aah,av,if_neg aaD];refine ⟨λh=> ?_,λh=> ?_⟩
   .refine hgp.trans ?_;rw [if_pos (by simp only [BY] at h;exact h.1.2.2.2.2.2)]
   .refine hgp.trans ?_;rw [if_neg (by simp [c2,c3,c4,c5] at h;simpa using h)]
  .have hk1:k-1<s.L.length:=aah
   have atG:k-1<(mO s).L.length:=by rw [hlen];exact hk1
   have S2:(mO s).L[k-1]=toR s.L[k-1]:=ad5 ..;rw [if_pos aah,wrap64 aah aah,show (k:Int)-1=((k-1:Nat):Int) by omega,bq atG,S2];simp only [toR_path];rw [Sr,av,av,bo hk1];cases c7:mN (s.L[k-1]).Path x.Path with
   |false=>simp [hk0,c7]
   |true=>
    rw [if_neg aaD];refine ⟨λh=> ?_,λh=> ?_⟩
    .refine hgp.trans ?_;rw [if_pos (by simp only [BY] at h;exact h.1.2.2.2.2.2)]
    .refine hgp.trans ?_;rw [if_neg (by simp [c2,c3,c4,c5,c7] at h;simpa using h)]) (by
  unfold vl;rw [if_neg aah])
 rw [e,av];have rV:(∀k,k<s.L.length->okK s.L k=true)↔(ahF s.L.length).all (okK s.L)=true:=by rw [ad0];exact ⟨λh k hk=>h k (agt.1 hk),λh k hk=>h k (agt.2 hk)⟩
 rcases hr with ⟨rfl,h⟩|⟨rfl,k,hk,h⟩
 .rw [rV.1 h];simp only [Ql,av,ahr,aed,afu,decide_eq_decide];exact ado
 .have:(ahF s.L.length).all (okK s.L)=false:=by rw [aeh];intro hh;exact h (rV.2 hh k hk)
  rw [this];simp
def agQ (a b:aa):((decide (a.Path=b.Path))&&((decide (a.Value=b.Value))&&((decide (a.Version=b.Version))&&(decide (a.cm=b.cm)))))=decide (a=b):=by cases a;cases b;grind
def Qd (s t:au)(hl:s.L.length<2^40):tw s t=some (decide (s.L=t.L)):=by
 unfold tw ib;rw [NR];by_cases he:s.L.length=t.L.length
 .have:decide ((s.L.length:Int)=(t.L.length:Int))=true:=decide_eq_true aah;rw [this,if_neg aaD,FG he (λk ha hb=>by
   unfold jH;rw [if_pos aah,bq ha,bq hb,agQ,wrap64 aah aah];by_cases hh:s.L[k]=t.L[k]<;>simp [hh]) (by
   unfold jH;rw [if_neg aah]),av]
  by_cases hab:s.L=t.L<;>simp [hab]
 .have:decide ((s.L.length:Int)=(t.L.length:Int))=false:=decide_eq_false aah;rw [this,if_pos aaD];have hab:s.L≠t.L:=λe=>he (by rw [e]);simp [hab]
def Ct {α τ:Type}{L:List α}{t:τ}{cmp:α->τ->Option Int}{g:α->Int}{i0:Nat}(hl:L.length<2^60)(hc: ∀a∈L,cmp a t=some (g a))(hi:i0<=L.length)(ru: ∀k (hk:k<L.length),k<i0->g L[k]<0)(Cf: ∀k (hk:k<L.length),i0<=k->0<=g L[k]): bsearch L t cmp=some ((i0:Int),match L[i0]? with|some a=>decide (g a=0)|none=>false):=by
 have jx:Loop (bsL L t cmp) (0,(L.length:Int))=some (i0:Int):=by
  refine bg.eq (bg.loop (λst=> ∃i j:Nat,st=((i:Int),(j:Int))/\i<=i0/\i0<=j/\j<=L.length) (λst=>(st.2-st.1).toNat) ⟨0,L.length,rfl,aeo _,hi,afw _⟩ ?_);rintro st ⟨i,j,rfl,hi,hj,Mf⟩;unfold bsL;by_cases dh:i<j
  .have hm:(i+j)/2<L.length:=aah
   simp only [show ((i:Int)<(j:Int)) by omega,if_true,show ((0:Int)<=1) by decide,acb (by omega:i+j<2^62),bq hm,hc _ (AI hm),av];by_cases hlb:(i+j)/2<i0
   .simp_all;rw [wrap64 aah aah];exact .mk ⟨⟨(i+j)/2+1,j,aaS,aah,hj,Mf⟩,aah⟩
   .have hk:=Cf _ hm aah;have: ¬g L[(i+j)/2]<0:=aah
    simp only [this,if_false,av];exact .mk ⟨⟨i,(i+j)/2,rfl,hi,aah,aah⟩,aah⟩
  .simp only [show¬((i:Int)<(j:Int)) by omega,if_false];exact .mk (by grind)
 unfold bsearch;rw [jx];by_cases dh:i0<L.length
 .simp only [show ((i0:Int)<(L.length:Int)) by omega,if_true,bq dh,hc _ (AI dh),av,bo dh]
 .simp only [show¬((i0:Int)<(L.length:Int)) by omega,if_false,av,List.getElem?_eq_none (by omega:L.length<=i0)]
def Sv (s:au)(p:List UInt8):eI s p=bsearch s.L p bM:=by show bd (bsearch s.L p bM) (λrA=>some (rA.1,rA.2))=_;cases bsearch s.L p bM<;>rfl
theorem LH (n:aa)(p:List UInt8):bM n p=some (if n.Path=p then 0 else if mN n.Path p then-1 else 1):=by unfold bM;rw [adl,av];grind
def po (L:List aa):Prop:=(∀n∈L,bk n.Path=true)/\L.Pairwise λa b=>pj (aA a.Path) (aA b.Path)=true
def Zd {R:aa->aa->Prop}(xj: ∀a b c,R a b->R b c->R a c): ∀{L:List aa},(∀k (h:k+1<L.length),R L[k] L[k+1])->L.Pairwise R:=by
 intro L h;rw [adZ];intro i j hi hj ZF;induction j with
 |zero=>omega
 |succ j ih=>grind
def Vg {L:List aa}(h:AV L=true):po L:=by
 unfold AV at h;simp at h;have hk:=h.2.2;refine ⟨λn hn=> ?_,Zd (R:=λa b=>pj (aA a.Path) (aA b.Path)=true) (by grind [GF]) λk TF=> ?_⟩
 .obtain ⟨k,hkl,rfl⟩:=sh.1 hn;have:=hk k hkl;unfold okK at this;rw [bo hkl] at this;simp at this;exact this.1.1
 .have:=hk (k+1) TF;unfold okK at this;simp only [BY,ahs,bo (show k<L.length by omega),aef,decide_eq_true_eq] at this;simp_all [mN,BY]
def Sw {L:List aa}(h:po L)(t:List (List UInt8)): ∃i0,i0<=L.length/\(∀k (hk:k<L.length),k<i0->pj (aA (L[k]).Path) t=true)/\ ∀k (hk:k<L.length),i0<=k->pj (aA (L[k]).Path) t=false:=by
 replace h:=h.2
 induction L with
 |nil=>simp_all
 |cons a l ih=>
  have h':=afj.1 h;cases ha:pj (aA a.Path) t with
  |true=>have ⟨p,h1,h2,h3⟩:=ih h'.2;refine ⟨p+1,by simp;omega,λk hk hkp=> ?_,λk hk hkp=> ?_⟩;all_goals grind
  |false=>
   refine ⟨0,aeo _,λk hk hkp=>aah,λk hk _=> ?_⟩;cases k with
   |zero=>exact ha
   |succ k=>grind [GF]
def Sx {s:au}(hs:po s.L)(hl:s.L.length<2^40){p:List UInt8}(hp:bk p=true): ∃i0:Nat,i0<=s.L.length/\eI s p=some ((i0:Int),decide (0<=sF (s.L.map (·.Path)) p))/\ (0<=sF (s.L.map (·.Path)) p->sF (s.L.map (·.Path)) p=i0)/\(∀k (hk:k<s.L.length),k<i0->pj (aA (s.L[k]).Path) (aA p)=true)/\ ∀k (hk:k<s.L.length),i0<=k->pj (aA (s.L[k]).Path) (aA p)=false:=by
 have ⟨i0,h1,h2,h3⟩:=Sw hs (aA p);have hah: ∀n∈s.L,mN n.Path p=pj (aA n.Path) (aA p):=λn hn=>by unfold mN;rw [hs.1 n hn,hp];rfl
 have dt: ∀k (hk:k<s.L.length),k<i0->(s.L[k]).Path≠p:=(by grind [E4])
 have QU:=Ct (L:=s.L) (t:=p) (cmp:=bM) (g:=λn=>if n.Path=p then 0 else if mN n.Path p then-1 else 1) (i0:=i0) aah (by grind [LH]) h1 (by grind) (by grind);have Ql:0<=sF (s.L.map (·.Path)) p->sF (s.L.map (·.Path)) p=i0/\ ∃hk:i0<s.L.length,(s.L[i0]).Path=p:=by
  intro h0;have dh:=Vf h0;rw [AT] at dh;obtain ⟨k,hk,hkp,hkf⟩: ∃k,∃hk:k<s.L.length,(s.L[k]).Path=p/\sF (s.L.map (·.Path)) p=k:=by
   unfold sF at h0⊢;cases hf:(s.L.map (·.Path)).findIdx? (λx=>decide (x=p)) with
   |none=>grind
   |some k=>have hf':=hf;rw [aa0] at hf';grind
  have hki:k=i0:=by
   rcases aeP k i0 with h|h|h
   .grind
   .exact h
   .have hi:i0<s.L.length:=aah
    have:=adZ.1 hs.2 i0 k hi hk h;grind
  subst hki;exact ⟨hkf,hk,hkp⟩
 rw [Sv,QU];by_cases h0:0<=sF (s.L.map (·.Path)) p
 .grind
 .by_cases hk:i0<s.L.length
  .have hnp:(s.L[i0]).Path≠p:=by
    intro he;apply h0;have:sF (s.L.map (·.Path)) p=i0:=(by grind [LG])
    rw [this];omega
   grind
  grind
def aiz:aa:=⟨[],[],0,0⟩
def cF (L:List aa)(p:List UInt8):Int×Int:=if bk p then (if 0<=sF (L.map (·.Path)) p then (sF (L.map (·.Path)) p,0) else (0,6)) else (0,13)
def find_eq {s:au}(hs:po s.L)(hl:s.L.length<2^40)(p:List UInt8):fD s p=some (cF s.L p):=by
 unfold fD cF;rw [xe,av];cases hp:bk p with
 |false=>rfl
 |true=>have ⟨i0,_,h1,h2,_⟩:=Sx hs hl hp;rw [if_neg aaD,h1,av,if_pos rfl];grind
def mD (L:List aa)(p:List UInt8):aa×Int:=if (cF L p).2=0 then ((L[(cF L p).1.toNat]?).getD aiz,0) else (aiz,(cF L p).2)
def Qe {L:List aa}{p:List UInt8}(h:(cF L p).2=0):0<=(cF L p).1/\(cF L p).1.toNat<L.length:=by
 unfold cF at h⊢;cases hp:bk p with
 |false=>grind
 |true=>
  by_cases h0:0<=sF (L.map (·.Path)) p
  .simp only [if_true,h0];exact ⟨trivial,by simpa using Vf h0⟩
  grind
theorem get_eq {s:au}(hs:po s.L)(hl:s.L.length<2^40)(p:List UInt8):pQ s p=some (mD s.L p):=by
 unfold pQ mD;rw [find_eq hs hl,av];by_cases h:(cF s.L p).2=0
 .simp_all [Qe,decide_eq_true,if_neg,if_pos,CV,bo]
 .rw [decide_eq_false h,if_pos aaD,if_neg h];rfl
def Vh {x p:List UInt8}(hx:bk x=true)(hp:bk p=true):((cy x).2=0/\(cy x).1=p)↔(jO (aA p) (aA x)=true/\(aA x).length=(aA p).length+1):=by
 have ⟨x1,x2,x3,x4⟩:=eL hx;have ⟨p1,p2,p3,p4⟩:=eL hp;unfold cy;rw [hx];by_cases h0:x=[47]
 .simp_all [aA,BF,if_true,absurd]
 .have hn: ¬(aA x).length=0:=(by grind [BF])
  simp only [if_true,h0,if_false,true_and];have rV:(aA x).dropLast.all mi=true:=by rw [ad0] at x4⊢;exact (by grind [aeb,ad2])
  have ⟨g1,g2,_⟩:=LF rV;constructor
  .intro h;have hnp:aA p=(aA x).dropLast:=by rw [<-h,g1]
   unfold jO;rw [hnp,agv,ad2];grind
  .rintro ⟨hb,hlen⟩;unfold jO at hb;grind [aA,ad2,ahs,LD]
def H6 (p:List UInt8)(n:aa):Bool:=decide ((cy n.Path).2=0/\(cy n.Path).1=p)
def adp (n:aa):List UInt8:=(aA n.Path).getLastD []
def mJ (L:List aa)(p:List UInt8):List (List UInt8):=(L.filter (H6 p)).map adp
def Of (L:List aa)(p:List UInt8):(mJ L p).length<=L.length:=by grind [mJ,AT,ad9]
def Vi {L:List aa}{p:List UInt8}{k:Nat}(hk:k<L.length):mJ (L.take (k+1)) p=if H6 p L[k] then mJ (L.take k) p++[adp L[k]] else mJ (L.take k) p:=by grind [mJ,take_succ,H6]
theorem BH {p:List UInt8}{n:aa}(hn:bk n.Path=true)(hp:bk p=true):H6 p n=true↔(jO (aA p) (aA n.Path)=true/\(aA n.Path).length=(aA p).length+1):=by simp_all [H6,decide_eq_true_eq,Vh]
theorem DA {L:List aa}(hs:po L){i j:Nat}(hi:i<L.length)(hj:j<L.length)(h:i<j):pj (aA (L[i]).Path) (aA (L[j]).Path)=true:=adZ.1 hs.2 i j hi hj h
theorem dD {L:List aa}(hs:po L){i:Nat}(hi:i<L.length):bk (L[i]).Path=true:=hs.1 _ (AI hi)
theorem Ze {L:List aa}(hs:po L){p:List UInt8}{i:Nat}(hi:i<L.length)(hp:(L[i]).Path=p){j:Nat}(hj:j<L.length)(hji:j<=i):H6 p L[j]=false:=by
 rw [aeh];intro h;have OO:bk p=true:=by rw [<-hp];exact dD hs hi
 have h1:=adk ((BH (dD hs hj) OO).1 h).1;by_cases he:j=i
 .subst he;rw [hp,E4] at h1;cases h1
 .have h2:=DA hs hj hi aah;rw [hp] at h2;have:=GF h1 h2;rw [E4] at this;cases this
def DB {L:List aa}(hs:po L){p:List UInt8}{i:Nat}(hi:i<L.length)(hp:(L[i]).Path=p):mJ (L.take (i+1)) p=[]:=by unfold mJ;grind [ae9,afK,sh,ab3,Ze]
def Zf {L:List aa}(hs:po L){p:List UInt8}{i k:Nat}(hi:i<L.length)(hp:(L[i]).Path=p)(hk:k<L.length)(hik:i<k)(hb:uo p (L[k]).Path=false){j:Nat}(hj:j<L.length)(hkj:k<=j): uo p (L[j]).Path=false:=by
 rw [aeh];intro h;have OO:bk p=true:=by rw [<-hp];exact dD hs hi
 unfold uo at h hb;rw [OO,dD hs hj] at h;rw [OO,dD hs hk] at hb;by_cases he:j=k
 .grind
 .have h1:=DA hs hi hk hik;rw [hp] at h1;have:=agP h1 (by grind [DA]) h;grind
theorem Sy {L:List aa}(hs:po L){p:List UInt8}{i k:Nat}(hi:i<L.length)(hp:(L[i]).Path=p)(hk:k<L.length)(hik:i<k)(hb:uo p (L[k]).Path=false):mJ (L.take k) p=mJ L p:=by
 have OO:bk p=true:=by rw [<-hp];exact dD hs hi
 have:(L.drop k).filter (H6 p)=[]:=by rw [afK];intro n hn ak7;obtain ⟨j,hj,rfl⟩:=sh.1 hn;rw [ad1] at hj;rw [aei] at ak7;have h1:=Zf hs hi hp hk hik hb (j:=k+j) aah aah;have h2:=((BH (dD hs aah) OO).1 ak7).1;unfold uo at h1;rw [OO,dD hs aah,h2] at h1;simp at h1
 grind [mJ,AS]
theorem WU {L:List aa}{p:List UInt8}(h:(cF L p).2=0):bk p=true/\ ∃i,∃hi:i<L.length,(cF L p).1=(i:Int)/\(L[i]).Path=p:=by
 unfold cF at h⊢;cases hp:bk p with
 |false=>grind
 |true=>
  by_cases h0:0<=sF (L.map (·.Path)) p
  .unfold sF at h0⊢;cases hf:(L.map (·.Path)).findIdx? (λx=>decide (x=p)) with
   |none=>grind
   |some k=>have hf':=hf;rw [aa0] at hf';grind
  grind
def LI (L:List aa)(p:List UInt8):List (List UInt8)×Int:=if (cF L p).2=0 then (mJ L p,0) else ([],(cF L p).2)
theorem Sz {l:List (List UInt8)}{n:Nat}(h:l.length=n+1):l.getLastD []=l[n]' aah:=by grind
theorem agR {s:au}(hs:po s.L)(hl:s.L.length<2^40)(p:List UInt8):tk s p=some (LI s.L p):=by
 unfold tk LI;rw [find_eq hs hl,av];by_cases h:(cF s.L p).2=0;rotate_left
 .grind
 have ⟨hp,i,hi,hfi,hip⟩:=WU h;have ⟨_,_,hp8,_⟩:=eL hp;have hw:No .i64 ((cF s.L p).1+1)=((i+1:Nat):Int):=by rw [hfi,wrap64 aah aah];omega
 rw [decide_eq_true h,if_neg aaD,So,av,hp,hw,if_pos aah,if_pos h];have hD:ahn (ad7 (No .i64 ((cF s.L p).1+1))) (aho (ad7 (s.L.length:Int)) s.L)=s.L.drop (i+1):=by rw [hw];simp
 have jx:Loop (sa s p (cF s.L p) (aA p,0)) (([]:List (List UInt8)),0)=some (mJ s.L p):=by
  refine bg.eq (bg.count (λk=>(mJ (s.L.take (i+1+k)) p,(k:Int))) (s.L.length-(i+1)) (λ_=>True) (by simp_all [Nat.add_zero,DB]) trivial (λk hk _=> ?_) (λ_=> ?_))
  .have hki:i+1+k<s.L.length:=aah
   have hr:=dD hs hki;have hkl:=Of (s.L.take (i+1+k)) p;unfold sa;rw [hD];have hkd:k<(s.L.drop (i+1)).length:=by rw [ad1];omega
   rw [if_pos aah,bq hkd,aei,Sq,av];cases hb:uo p (s.L[i+1+k]).Path with
   |false=>exact .mk (by grind [Sy])
   |true=>
    rw [if_neg aaD,So,av,hr];simp only [if_true];rw [wrap64 (x:=((aA p).length:Int)+1) aah aah,wrap64 aah aah];have hsu:=Vi (p:=p) hki;have hkb:=BH (n:=s.L[i+1+k]) hr hp;have LX:jO (aA p) (aA (s.L[i+1+k]).Path)=true:=by unfold uo at hb;rw [hp,hr] at hb;simpa using hb
    by_cases hlen:(aA (s.L[i+1+k]).Path).length=(aA p).length+1
    .rw [if_pos aah,bq aah,if_pos (by grind),av];refine .mk ⟨?_,trivial⟩;grind [adp,Sz]
    .rw [if_neg aah,av];refine .mk ⟨?_,trivial⟩;grind
  .unfold sa;rw [hD];rw [ad1,if_neg aah];refine .mk ?_;grind [List.take_of_length_le]
 simp_all
theorem ak8 (L:List aa)(p:List UInt8):(mD L p).2=(cF L p).2:=by grind [mD,cF]
def Zg (L:List aa)(p:List UInt8):(LI L p).1.length<=L.length:=by unfold LI;by_cases h:(cF L p).2=0;all_goals simp_all [if_true,Of]
theorem E6 {L:List aa}(hs:po L){i j:Nat}(hi:i<L.length)(hj:j<L.length)(h:(L[i]).Path=(L[j]).Path):i=j:=by
 rcases aeP i j with h1|h1|h1
 .have:=DA hs hi hj h1;grind [E4]
 .exact h1
 .have:=DA hs hj hi h1;grind [E4]
def Vj {L:List aa}(hs:po L){i:Nat}(hi:i<L.length):cF L (L[i]).Path=((i:Int),0):=by grind [cF,sF,LG,E6,dD]
structure jn (L:List aa):Prop where
 len:L.length<=200
 ord:po L
 root: ∃m∈L,m.Path=[47]
 vN: ∀n∈L,n.Value.length<=1000/\0<=n.Version/\n.Version<=1000000000/\0<=n.cm
 top: ∀n∈L,n.Path=[47]->n.cm=0
 grown: ∀n∈L,n.Path≠[47]-> ∃m∈L,m.Path=(cy n.Path).1/\m.cm=0
theorem agS (a:List (List UInt8)):pj a []=false:=by cases a<;>rfl
theorem LJ:aA [47]=[]:=by grind [aA]
theorem ur {p:List UInt8}(h:bk p=true):(cy p).2=0↔p≠[47]:=by grind [cy]
theorem ak9 {l:List (List UInt8)}{p:List UInt8}(h:0<=sF l p): ∃k,∃hk:k<l.length,sF l p=(k:Int)/\l[k]=p:=by
 unfold sF at h⊢;cases hf:l.findIdx? (λx=>decide (x=p)) with
 |none=>grind
 |some k=>rw [aa0] at hf;grind
theorem SA {α:Type}(q:α->Bool)(l:List α):(l.filter q).length+(l.filter λn=>!q n).length=l.length:=by
 induction l with
 |nil=>rfl
 |cons a l ih=>grind
theorem SB {L:List aa}(hs:po L){p:List UInt8}:WT L p=true↔ ∃m∈L,m.Path=p/\m.cm=0:=by
 unfold WT;constructor
 .grind [ak9,AT,AI,sF]
 .rintro ⟨m,hm,rfl,ho⟩;obtain ⟨i,hi,rfl⟩:=sh.1 hm;have:=Vj hs hi;unfold cF at this;grind
def Og {L:List aa}:AV L=true↔jn L:=by
 constructor
 .intro h;have hs:=Vg h;unfold AV at h;simp at h;have ⟨⟨h1,h2⟩,h3,h4⟩:=h;have hn: ∀n∈L,n.Value.length<=1000/\0<=n.Version/\n.Version<=1000000000/\0<=n.cm/\uq L n=true:=by intro n hn;obtain ⟨k,hk,rfl⟩:=sh.1 hn;have:=h4 k hk;unfold okK at this;rw [bo hk] at this;simp only [BY,decide_eq_true_eq] at this;obtain ⟨⟨_,g1,g2,g3,g4,g5⟩,_⟩:=this;exact ⟨g1,g2,g3,g4,g5⟩
  refine ⟨h2,hs,?_,(by grind),?_,?_⟩
  .cases L with
   |nil=>simp at h1
   |cons a l=>grind
  .intro n h hr;have hg:=(hn n h).2.2.2.2;unfold uq at hg;have: ¬(cy n.Path).2=0:=λe=>((ur (hs.1 n h)).1 e) hr;grind
  .intro n h hr;have hg:=(hn n h).2.2.2.2;unfold uq at hg;rw [if_pos ((ur (hs.1 n h)).2 hr)] at hg;grind [SB]
 .intro h;have hs:=h.ord;have ⟨m,hm,hmr⟩:=h.root;obtain ⟨i,hi,rfl⟩:=sh.1 hm;have Yq:i=0:=by
   by_cases h0:i=0
   .exact h0
   .have:=DA hs (show 0<L.length by omega) hi aah;grind [LJ,agS]
  subst Yq;have hhd:(L.map (·.Path)).head? =some [47]:=by rw [List.head?_map,List.head?_eq_getElem?,bo hi];simp [hmr]
  unfold AV;rw [hhd];simp only [BY,ad0,agt,decide_eq_true_eq];refine ⟨⟨aah,h.len⟩,trivial,λk hk=> ?_⟩;have Eg:=AI hk;have ⟨f1,f2,f3,f4⟩:=h.vN _ Eg;have hg:uq L L[k]=true:=by
   unfold uq;by_cases hr:(L[k]).Path=[47]
   .rw [if_neg (by grind [ur,dD])];simp [h.top _ Eg hr]
   .rw [if_pos (by grind [ur,dD])];exact (SB hs).2 (h.grown _ Eg hr)
  unfold okK;rw [bo hk];dsimp only;rw [dD hs hk,decide_eq_true f1,decide_eq_true f2,decide_eq_true f3,decide_eq_true f4,hg];by_cases hk0:k=0
  .simp [hk0]
  .rw [bo (show k-1<L.length by omega)];have:=DA hs (show k-1<L.length by omega) hk aah;simp [hk0,mN,dD hs (show k-1<L.length by omega),dD hs hk,this]
def y9 (owner:Int)(n:aa):Bool:=!(decide (0<owner)&&decide (n.cm=owner))
def Hx {α:Type}(q:α->Bool){L:List α}{k:Nat}(hk:k<L.length):(L.take (k+1)).filter q=if q L[k] then (L.take k).filter q++[L[k]] else (L.take k).filter q:=by grind [take_succ]
def dk (L:List aa)(owner:Int):List aa×List (List UInt8):=(L.filter (y9 owner),(L.filter λn=>!y9 owner n).map (·.Path))
def drop_eq (s:au)(owner:Int)(hl:s.L.length<2^40):tp s owner=some (⟨(dk s.L owner).1⟩,(dk s.L owner).2):=by
 have jx:Loop (oO s owner) (([]:List (List UInt8)),([]:List aa),0)=some ((dk s.L owner).2,(dk s.L owner).1):=by
  refine bg.eq (bg.count (λk=>((dk (s.L.take k) owner).2,(dk (s.L.take k) owner).1,(k:Int))) s.L.length (λ_=>True) rfl trivial (λk hk _=> ?_) (λ_=> ?_))
  .have l1:(dk (s.L.take k) owner).1.length<=k:=by unfold dk;have:=ad9 (y9 owner) (s.L.take k);rw [ab3] at this;dsimp only;omega
   have l2:(dk (s.L.take k) owner).2.length<=k:=by unfold dk;have:=ad9 (λn=>!y9 owner n) (s.L.take k);rw [ab3] at this;dsimp only;rw [AT];omega
   have e1:=Hx (y9 owner) hk;have e2:=Hx (λn=>!y9 owner n) hk;unfold oO;dsimp only;rw [if_pos aah,bq hk];have hw:(if (0:Int)<owner then some (decide ((s.L[k]).cm=owner)) else some false)=some (!y9 owner s.L[k]):=by unfold y9;by_cases h:(0:Int)<owner<;>simp [h]
   rw [hw,av,wrap64 aah aah];cases eh:y9 owner s.L[k] with
   |true=>rw [if_neg aaD,if_pos (by grind)];refine .mk ⟨?_,trivial⟩;grind [dk]
   |false=>rw [if_pos aaD,if_pos (by grind)];refine .mk ⟨?_,trivial⟩;grind [dk]
  .unfold oO;dsimp only;rw [if_neg aah,IN];exact .mk rfl
 simp_all [tp]
def WV {L M:List aa}(h:M.Sublist L)(hs:po L):po M:=⟨λn hn=>hs.1 n (h.subset hn),hs.2.sublist h⟩
theorem WW {L:List aa}(h:jn L)(owner:Int):jn (dk L owner).1:=by
 have gD:(L.filter (y9 owner)).Sublist L:=afa;have eh: ∀n∈L,n.cm=0->y9 owner n=true:=by
  intro n _ h0;unfold y9;rw [h0];by_cases hp:(0:Int)<owner
  .grind
  .simp [hp]
 refine ⟨aer gD.length_le h.len,WV gD h.ord,?_,λn hn=>h.vN n (gD.subset hn),λn hn=>h.top n (gD.subset hn),λn hn hr=> ?_⟩
 .have ⟨m,hm,hr⟩:=h.root;exact ⟨m,aga.2 ⟨hm,eh m hm (h.top m hm hr)⟩,hr⟩
 .have ⟨m,hm,h1,h2⟩:=h.grown n (gD.subset hn) hr;exact ⟨m,aga.2 ⟨hm,eh m hm h2⟩,h1,h2⟩
def adq {L:List aa}(hs:po L){a b:aa}(ha:a∈L)(hb:b∈L)(h:a.Path=b.Path):a=b:=by grind [sh,E6]
def ltQ (p:List UInt8)(n:aa):Bool:=pj (aA n.Path) (aA p)
def LL {q:aa->Bool}{L:List aa}{i:Nat}(hi:i<=L.length)(h1: ∀k (hk:k<L.length),k<i->q L[k]=true)(h2: ∀k (hk:k<L.length),i<=k->q L[k]=false): L.take i=L.takeWhile q/\L.drop i=L.dropWhile q:=by
 induction L generalizing i with
 |nil=>simp
 |cons a l ih=>
  cases i with
  |zero=>have:=h2 0 aaS (afw _);simp_all
  |succ i=>have:=h1 0 aaS aah;have ⟨e1,e2⟩:=ih (i:=i) (by simpa using hi) (λk hk hki=>by have:=h1 (k+1) (by simpa using hk) aah;rwa [aeF] at this) (λk hk hki=>by have:=h2 (k+1) (by simpa using hk) aah;rwa [aeF] at this);simp_all
def M3 (L:List aa)(n:aa):List aa:=L.takeWhile (ltQ n.Path)++n::L.dropWhile (ltQ n.Path)
def WX {L:List aa}{n m:aa}:m∈M3 L n↔m=n\/m∈L:=by
 unfold M3;conv=>rhs;rhs;rw [<-aee (p:=ltQ n.Path) (l:=L)]
 grind
theorem agT (L:List aa)(n:aa):(M3 L n).length=L.length+1:=by unfold M3;have:=congrArg List.length (aee (p:=ltQ n.Path) (l:=L));grind
def Zh {α:Type}{q:α->Bool}{l:List α}{x:α}(h:x∈l.takeWhile q):x∈l/\q x=true:=by
 induction l with
 |nil=>simp at h
 |cons a l ih=>grind [List.takeWhile]
def agU {L:List aa}(hs:po L){n:aa}(hn:bk n.Path=true)(ja: ∀m∈L,m.Path≠n.Path):po (M3 L n):=by
 refine ⟨λm hm=> ?_,?_⟩
 .rcases WX.1 hm with rfl|h
  .exact hn
  .exact hs.1 m h
 have hpw:(L.takeWhile (ltQ n.Path)++L.dropWhile (ltQ n.Path)).Pairwise λa b=>pj (aA a.Path) (aA b.Path)=true:=by rw [aee];exact hs.2
 rw [ae1] at hpw;have ⟨p1,p2,p3⟩:=hpw;have hdr: ∀m∈L.dropWhile (ltQ n.Path),pj (aA n.Path) (aA m.Path)=true:=by
  intro m hm;have hmL:m∈L:=List.dropWhile_subset _ hm;have dh:ltQ n.Path m=false:=by obtain ⟨i0,h1,h2,h3⟩:=Sw hs (aA n.Path);have e:=(LL (q:=ltQ n.Path) h1 h2 h3).2;rw [<-e] at hm;obtain ⟨k,hk,rfl⟩:=sh.1 hm;rw [ad1] at hk;rw [aei];exact h3 (i0+k) aah aah
  unfold ltQ at dh;rcases agO (aA m.Path) (aA n.Path) with h|h|h
  .grind
  .exact absurd (Za (eL (hs.1 m hmL)).2.1 (eL hn).2.1 h) (ja m hmL)
  .exact h
 unfold M3;rw [ae1];refine ⟨p1,(by simp_all),?_⟩;intro a ha b hb;have dh:pj (aA a.Path) (aA n.Path)=true:=(Zh ha).2;grind
def qy (L:List aa)(p value:List UInt8)(owner:Int):Int:=if bk p then (if 0<=sF (L.map (·.Path)) p then 7 else
  if (mD L (cy p).1).2=0 then (if (mD L (cy p).1).1.cm=0 then (if (1000:Int)<(value.length:Int) then 5 else if owner<0 then 1 else if (200:Int)<=(L.length:Int) then 9 else 0) else 10) else 6) else 13
def vL (L:List aa)(p value:List UInt8)(owner:Int):List aa×Int:=if qy L p value owner=0 then (M3 L ⟨p,value,0,owner⟩,0) else (L,qy L p value owner)
def Vk {s:au}(hs:po s.L)(hl:s.L.length<2^40){p:List UInt8}(value:List UInt8)(owner:Int)(hp:bk p=true): gM p (decide (0<=sF (s.L.map (·.Path)) p)) s value owner=some (qy s.L p value owner):=by
 unfold gM qy;rw [xe,av,hp];by_cases h0:0<=sF (s.L.map (·.Path)) p
 .simp [h0]
 .rw [decide_eq_false h0,if_neg aaD,if_neg h0,Od,av,get_eq hs hl,av];show (if !decide ((mD s.L (cy p).1).2=0) then _ else _)=_;by_cases h1:(mD s.L (cy p).1).2=0
  .rw [decide_eq_true h1,if_neg aaD,if_pos h1];show (if !decide ((mD s.L (cy p).1).1.cm=0) then _ else _)=_;grind
  grind
def Vl {L:List aa}{p value:List UInt8}{owner:Int}(h:qy L p value owner=0):bk p=true/\ ¬0<=sF (L.map (·.Path)) p/\(mD L (cy p).1).2=0/\(mD L (cy p).1).1.cm=0/\value.length<=1000/\0<=owner/\L.length<200:=by unfold qy at h;grind
def apD {L:List aa}{p:List UInt8}(h: ¬0<=sF (L.map (·.Path)) p): ∀n∈L,n.Path≠p:=by intro n hn he;apply h;unfold sF;grind
def Zj {s:au}(hs:po s.L)(hl:s.L.length<2^38)(p value:List UInt8)(owner:Int):mw s p value owner=some (⟨(vL s.L p value owner).1⟩,(vL s.L p value owner).2):=by
 unfold mw vL;cases hp:bk p with
 |false=>
  have he:qy s.L p value owner=13:=by unfold qy;rw [hp];rfl
  have hF: ∀b,gM p b s value owner=some 13:=by intro b;unfold gM;rw [xe,av,hp];rfl
  have ⟨rb,hrb⟩: ∃rb,eI s p=some rb:=by
   rw [Sv];refine ⟨_,Ct (L:=s.L) (t:=p) (cmp:=bM) (g:=λn=>if n.Path=p then 0 else if mN n.Path p then-1 else 1) (i0:=0) aah (by grind [LH]) (aeo _) (λk hk h=>aah) (λk hk _=> ?_)⟩;have:mN (s.L[k]).Path p=false:=by unfold mN;rw [hp];simp
   grind
  rw [hrb,av,hF,av,he];rfl
 |true=>
  have ⟨i0,h1,h2,h3,h4,h5⟩:=Sx hs aah hp;have ⟨e1,e2⟩:=LL (q:=ltQ p) h1 h4 h5;rw [h2,av];rw [Vk hs aah value owner hp,av];by_cases he:qy s.L p value owner=0
  .rw [decide_eq_true he,if_neg aaD,if_pos he];unfold j8;rw [if_pos aah,av];unfold rZ;rw [if_pos (by grind),av];grind [ad6,M3]
  simp_all
def za (L:List aa)(p:List UInt8)(version:Int):Int:=if (cF L p).2=0/\version≠ -1/\version≠(mD L p).1.Version then 8 else (cF L p).2
def WY {s:au}(hs:po s.L)(hl:s.L.length<2^40)(p:List UInt8)(version:Int):dC s p version=some ((cF s.L p).1,za s.L p version):=by
 unfold dC za;rw [find_eq hs hl,av];by_cases h:(cF s.L p).2=0
 .have ⟨g1,g2⟩:=Qe h;rw [if_pos h];have hv:(mD s.L p).1=s.L[(cF s.L p).1.toNat]:=by unfold mD;rw [if_pos h,bo g2];rfl
  by_cases h1:version= -1
  .simp_all
  .rw [decide_eq_false h1,if_pos aaD,CV g1 g2,av,hv];grind
 simp_all
theorem E7 {L:List aa}{p:List UInt8}{version:Int}(h:za L p version=0):(cF L p).2=0:=by grind [za]
def RT (L:List aa)(p value:List UInt8)(version:Int):Int:=if za L p version=0 then (if (1000:Int)<(value.length:Int) then 5 else if (1000000000:Int)<=(mD L p).1.Version then 9 else 0) else za L p version
def ads (x:aa)(value:List UInt8):aa:=⟨x.Path,value,x.Version+1,x.cm⟩
def GG (L:List aa)(p value:List UInt8)(version:Int):List aa×Int:=if RT L p value version=0 then (L.set (cF L p).1.toNat (ads (mD L p).1 value),0) else (L,RT L p value version)
theorem get_at {L:List aa}{p:List UInt8}(h:(cF L p).2=0): ∃hi:(cF L p).1.toNat<L.length,(mD L p).1=L[(cF L p).1.toNat]/\(mD L p).1.Path=p/\0<=(cF L p).1:=by
 have ⟨g1,g2⟩:=Qe h;have hv:(mD L p).1=L[(cF L p).1.toNat]:=by unfold mD;rw [if_pos h,bo g2];rfl
 grind [WU,cF]
def ala {s:au}(pw:jn s.L)(p value:List UInt8)(version:Int):wM s p value version=some (⟨(GG s.L p value version).1⟩,(GG s.L p value version).2):=by
 have hl:=pw.len;have hs:=pw.ord;unfold wM GG RT;rw [WY hs aah,av];by_cases h:za s.L p version=0;rotate_left
 .simp_all
 have ⟨g2,hv,_,g1⟩:=get_at (E7 h);have hfl:=pw.vN _ (AI g2);rw [decide_eq_true h,if_neg aaD,if_pos h];by_cases h1:(1000:Int)<(value.length:Int)
 .simp [h1]
 .rw [if_neg h1,if_neg h1,CV g1 g2,hv];by_cases h2:(1000000000:Int)<=(s.L[(cF s.L p).1.toNat]).Version
  .simp_all
  .rw [if_neg h2,if_neg h2];unfold j8;rw [if_pos aah,av,CV g1 g2,CV g1 (by grind),CV g1 (by grind)];simp;rw [wrap64 aah aah];rfl
def Zk (L:List aa)(p:List UInt8)(version:Int):Int:=if p=[47] then 13 else if za L p version=0 then (if mJ L p=[] then 0 else 10) else za L p version
def Pu (L:List aa)(p:List UInt8)(version:Int):List aa×Int:=if Zk L p version=0 then (L.take (cF L p).1.toNat++L.drop ((cF L p).1.toNat+1),0) else (L,Zk L p version)
def Zl {L:List aa}(pw:jn L){p:List UInt8}(hp:bk p=true): ∀(m:Nat) {n:aa},n∈L->(aA n.Path).length=m->jO (aA p) (aA n.Path)=true-> ∃k∈L,H6 p k=true:=by
 intro m;induction m with
 |zero=>simp_all [jO,BY,decide_eq_true_eq]
 |succ m ih=>
  intro n hn hm hb;have hr:=pw.ord.1 n hn;by_cases h1:(aA n.Path).length=(aA p).length+1
  .grind [BH]
  .have mF:n.Path≠[47]:=by intro e;rw [e,LJ] at hm;simp at hm
   have ⟨x,hx,hxp,_⟩:=pw.grown n hn mF;have ae6:(cy n.Path).1=rj (aA n.Path).dropLast:=by unfold cy;rw [hr];simp [mF]
   have rV:(aA n.Path).dropLast.all mi=true:=by obtain ⟨_,_,_,x4⟩:=eL hr;rw [ad0] at x4⊢;exact (by grind [aeb,ad2])
   have hnx:aA x.Path=(aA n.Path).dropLast:=by rw [hxp,ae6,(LF rV).1]
   refine ih hx (by grind) ?_;unfold jO at hb⊢;grind [agv,ad2,Nat.min_eq_left]
def Zm {L:List aa}(pw:jn L){p:List UInt8}{i:Nat}(hi:i<L.length)(hp:(L[i]).Path=p):mJ L p=[]↔ ∀h:i+1<L.length,uo p (L[i+1]).Path=false:=by
 have hs:=pw.ord;have OO:bk p=true:=by rw [<-hp];exact dD hs hi
 constructor
 .intro hk h;rw [aeh];intro hb;unfold uo at hb;rw [OO,dD hs h] at hb;have ⟨k,hkm,hkk⟩:=Zl pw OO _ (AI h) rfl hb;have:k∈L.filter (H6 p):=(by grind)
  grind [mJ,ae9]
 .intro h;by_cases h1:i+1<L.length
  .rw [<-Sy hs hi hp h1 aah (h h1),DB hs hi hp]
  .have:=DB hs hi hp;grind
def del_eq {s:au}(pw:jn s.L)(p:List UInt8)(version:Int):oN s p version=some (⟨(Pu s.L p version).1⟩,(Pu s.L p version).2):=by
 have hl:=pw.len;have hs:=pw.ord;unfold oN Pu Zk;rw [WY hs aah,av];by_cases hp:p=[47]
 .simp_all
 rw [if_neg hp,if_neg hp];by_cases h:za s.L p version=0;rotate_left
 .simp_all
 have ⟨g2,hv,hpa,g1⟩:=get_at (E7 h);rw [hv] at hpa;have hkn:=Zm pw g2 hpa;rw [decide_eq_true h,if_neg aaD,if_pos h];have ⟨i,pu⟩: ∃i:Nat,(cF s.L p).1=(i:Int):=(by grind)
 rw [pu,wrap64 aah aah,show (i:Int)+1=((i+1:Nat):Int) by omega];have hw:(if ((i+1:Nat):Int)<(s.L.length:Int) then ix s.L ((i+1:Nat):Int) λy=>bd (nG p y.Path) λaZ=>some aZ else some false)=some (!decide (mJ s.L p=[])):=by
  by_cases h1:i+1<s.L.length
  .rw [if_pos aah,bq h1,Sq,av];grind
  .grind
 rw [hw,av];by_cases hk:mJ s.L p=[]
 .rw [decide_eq_true hk,if_neg aaD,if_pos hk];unfold j8;rw [if_pos aah,av];unfold Bi;rw [if_pos (by grind),av];simp
 simp_all
def Vm {L:List aa}(pw:jn L)(p value:List UInt8)(owner:Int):jn (vL L p value owner).1:=by
 unfold vL;by_cases h:qy L p value owner=0;rotate_left
 .grind
 rw [if_pos h];have ⟨c1,c2,c3,c4,c5,c6,c7⟩:=Vl h;have ja:=apD c2;have Eg: ∀m,m∈M3 L ⟨p,value,0,owner⟩↔m=⟨p,value,0,owner⟩\/m∈L:=λm=>WX;have mF:p≠[47]:=(by grind [pw.root])
 refine ⟨by grind [M3,agT],agU pw.ord c1 ja,?_,?_,?_,?_⟩
 .grind [pw.root]
 .intro n hn;rcases (Eg n).1 hn with rfl|hn
  .grind
  .exact pw.vN n hn
 .intro n hn hr;rcases (Eg n).1 hn with rfl|hn
  .grind
  .exact pw.top n hn hr
 .intro n hn hr;rcases (Eg n).1 hn with rfl|hn
  .grind [ak8,get_at,mD,cy,AI]
  .have ⟨m,hm,h1,h2⟩:=pw.grown n hn hr;grind
def agV {L:List aa}(hs:po L){i:Nat}(hi:i<L.length){y:aa}(hy:y.Path=(L[i]).Path)(n:aa):n∈L.set i y↔n=y\/(n∈L/\n.Path≠y.Path):=by
 constructor
 .intro h;obtain ⟨j,hj,rfl⟩:=sh.1 h;rw [List.getElem_set];by_cases ZF:i=j
  .grind
  .grind [AI,E6]
 grind [sh,aey,hy.symm]
def Zn {L:List aa}{i:Nat}(hi:i<L.length){y:aa}(hy:y.Path=(L[i]).Path):(L.set i y).map (·.Path)=L.map (·.Path):=by refine List.ext_getElem aaS λk h1 h2=> ?_;grind
def Zo {L M:List aa}(h:M.map (·.Path)=L.map (·.Path))(hs:po L):po M:=by
 constructor
 .intro n hn;have:n.Path∈L.map (·.Path):=by rw [<-h];exact (by grind)
  have ⟨m,hm,e⟩:=ahI.1 this;rw [<-e];exact hs.1 m hm
 .have h1:(L.map (·.Path)).Pairwise λa b=>pj (aA a) (aA b)=true:=List.pairwise_map.2 hs.2;grind
def agW {L:List aa}{p value:List UInt8}{version:Int}(h:RT L p value version=0):(cF L p).2=0/\value.length<=1000/\(mD L p).1.Version<1000000000:=by
 unfold RT at h;by_cases h0:za L p version=0
 .by_cases h1:(1000:Int)<(value.length:Int)
  .grind
  .grind [mD,E7]
 grind
def WZ {L:List aa}(pw:jn L)(p value:List UInt8)(version:Int):jn (GG L p value version).1:=by
 unfold GG;by_cases h:RT L p value version=0;rotate_left
 .grind
 rw [if_pos h];have ⟨c1,c2,c3⟩:=agW h;have ⟨g1,g2,g3,_⟩:=get_at c1;have hx:(mD L p).1∈L:=by rw [g2];exact AI g1
 have hy:(ads (mD L p).1 value).Path=(L[(cF L p).1.toNat]).Path:=by rw [<-g2];rfl
 have Eg:=agV pw.ord g1 hy;have hold: ∀m∈L,∃m'∈L.set (cF L p).1.toNat (ads (mD L p).1 value),m'.Path=m.Path/\m'.cm=m.cm:=by
  intro m hm;by_cases he:m.Path=(ads (mD L p).1 value).Path
  .have:=adq pw.ord hm hx he;subst this;exact ⟨_,(Eg _).2 (.inl rfl),rfl,rfl⟩
  .grind
 have hfl:=pw.vN _ hx;have ja: ∀n∈L.set (cF L p).1.toNat (ads (mD L p).1 value),∃m∈L,n.Path=m.Path/\n.cm=m.cm:=by
  intro n hn;rcases (Eg n).1 hn with rfl|⟨hn,_⟩
  .grind
  .grind
 refine ⟨by grind [aey,pw.len],Zo (Zn g1 hy) pw.ord,?_,?_,?_,?_⟩
 .grind [pw.root]
 .intro n hn;rcases (Eg n).1 hn with rfl|⟨hn,_⟩
  .refine ⟨c2,?_,?_,hfl.2.2.2⟩
   .show 0<=(mD L p).1.Version+1;omega
   .show (mD L p).1.Version+1<=1000000000;omega
  .exact pw.vN n hn
 .intro n hn hr;have ⟨m,hm,h1,h2⟩:=ja n hn;rw [h2];exact pw.top m hm (by grind)
 .intro n hn hr;have ⟨m,hm,h1,h2⟩:=ja n hn;have ⟨q,hq,h3,h4⟩:=pw.grown m hm (by grind);grind
def Zp {L:List aa}(hs:po L){i:Nat}(hi:i<L.length)(n:aa):n∈L.take i++L.drop (i+1)↔n∈L/\n.Path≠(L[i]).Path:=by
 rw [ae8];constructor
 .rintro (h|h)
  .obtain ⟨j,hj,rfl⟩:=sh.1 h;rw [ab3] at hj;rw [List.getElem_take];exact ⟨AI _,λe=>by have:=E6 hs aah hi e;omega⟩
  .obtain ⟨j,hj,rfl⟩:=sh.1 h;rw [ad1] at hj;rw [aei];exact ⟨AI _,λe=>by have:=E6 hs aah hi e;omega⟩
 .rintro ⟨h,dt⟩;obtain ⟨j,hj,rfl⟩:=sh.1 h;rcases aeP j i with h1|h1|h1
  .grind [sh,ab3]
  .grind
  .exact .inr (sh.2 ⟨j-(i+1),by grind,by grind⟩)
def agX {L:List aa}{p:List UInt8}{version:Int}(h:Zk L p version=0):p≠[47]/\(cF L p).2=0/\mJ L p=[]:=by
 unfold Zk at h;by_cases hp:p=[47]
 .grind
 by_cases h0:za L p version=0
 .grind [mJ,E7]
 grind
def agY {L:List aa}(pw:jn L)(p:List UInt8)(version:Int):jn (Pu L p version).1:=by
 unfold Pu;by_cases h:Zk L p version=0;rotate_left
 .grind
 rw [if_pos h];have ⟨c1,c2,c3⟩:=agX h;have ⟨g1,g2,g3,_⟩:=get_at c2;have Eg:=Zp pw.ord g1;have gD:(L.take (cF L p).1.toNat++L.drop ((cF L p).1.toNat+1)).Sublist L:=by
  conv=>rhs;rw [<-AS (cF L p).1.toNat L]
  exact (by grind)
 refine ⟨aer gD.length_le pw.len,WV gD pw.ord,?_,λn hn=>pw.vN n (gD.subset hn),λn hn=>pw.top n (gD.subset hn),λn hn hr=> ?_⟩
 .have ⟨m,hm,hr⟩:=pw.root;grind
 .have ⟨m,hm,h1,h2⟩:=pw.grown n (gD.subset hn) hr;refine ⟨m,(Eg m).2 ⟨hm,λe=> ?_⟩,h1,h2⟩;have ak7:H6 p n=true:=by unfold H6;rw [decide_eq_true_eq];exact ⟨(ur (pw.ord.1 n (gD.subset hn))).2 hr,by grind⟩
  have:n∈L.filter (H6 p):=(by grind)
  grind [mJ,ae9]
def E8 {α:Type}{p:α->Bool}{L:List α}{k:Nat}(hk:k<L.length):(L.take (k+1)).filter p=(L.take k).filter p++if p L[k] then [L[k]] else []:=by grind [aec,bo,Option.toList_some]
def xf {α β:Type}{f:α->β}{L:List α}{k:Nat}(hk:k<L.length):(L.take (k+1)).map f=(L.take k).map f++[f L[k]]:=by grind [aec,bo]
def E9 {α β:Type}{f:α->β}{L:List α}{k:Nat}:((L.take k).map f).length<=L.length:=by grind
def LM (w:ak):bh:=⟨w.Path,w.Client,w.Kids⟩
theorem agZ {a b:ak}:LM a=LM b↔a=b:=by
 constructor
 .cases a;simp_all [LM,bh.mk.injEq]
 grind
def Oh (x y:ak):((decide (x.Path=y.Path))&&((decide (x.Client=y.Client))&&(decide (x.Kids=y.Kids))))=decide (x=y):=by cases x;cases y;grind
def Qf (x y:bh):((decide (x.Path=y.Path))&&((decide (x.Client=y.Client))&&(decide (x.Kids=y.Kids))))=decide (x=y):=by cases x;cases y;grind
def Zq (a b:List ak)(hl:a.length<2^60):dV a b=some (decide (a=b)):=by
 unfold dV;by_cases h:a.length=b.length
 .simp only [show ((a.length:Int)=(b.length:Int)) by omega,decide_true,aeY,ad3,if_false];have jx:Loop (eT a b) 0=some (if a=b then .inl () else .inr false):=by
   refine FG h (λk ha hb=> ?_) ?_
   .unfold eT;simp only [show ((k:Int)<(a.length:Int)) by omega,if_true,bq ha,bq hb,Oh];rw [wrap64 aah aah,show (k:Int)+1=((k+1:Nat):Int) by omega];by_cases he:a[k]=b[k]<;>simp [he]
   .unfold eT;simp only [show¬((a.length:Int)<(a.length:Int)) by omega,if_false]
  rw [jx];by_cases he:a=b<;>simp [he]
 .simp only [show¬((a.length:Int)=(b.length:Int)) by omega,decide_false,afh,if_true];rw [decide_eq_false];intro he;exact h (by rw [he])
def adt (a b:aV)(hl:a.L.length<2^60):tA a b=some (decide (a.L=b.L)):=by unfold tA;rw [Zq _ _ hl];rfl
def adu (p:List UInt8):List UInt8×Int:=if bk p then (if p=[47] then ([],6) else (rj (aA p).dropLast,0)) else ([],13)
def uu (c:ay)(w:ak):Bool:=(decide (1<=c.Kind)&&decide (c.Kind<=3)&&bk c.Path)&&(if w.Kids then decide ((adu c.Path).2=0)&&(!decide (c.Kind=2))&&decide ((adu c.Path).1=w.Path) else decide (c.Path=w.Path))
def SC (k:Int)(b:Bool):(if k<1 then some true else if (3:Int)<k then some true else some (!b))=some (!(decide (1<=k)&&decide (k<=3)&&b)):=by grind
def Vn (c:ay)(w:ak):mU c w=some (uu c w):=by
 unfold mU uu;rw [xe,av,SC,av,Od,av];cases hg:(decide (1<=c.Kind)&&decide (c.Kind<=3)&&bk c.Path) with
 |false=>rfl
 |true=>
  cases hk:w.Kids with
  |false=>rfl
  |true=>show bd (if (adu c.Path).2=0 then if (!decide (c.Kind=2))=true then some (decide ((adu c.Path).1=w.Path)) else some false else some false) _=_;by_cases h1:(adu c.Path).2=0<;>by_cases h2:c.Kind=2<;>simp [h1,h2]
def Cu (c:ay)(L:List ak):List aT:=(L.filter (uu c)).map λw=>⟨w,c⟩
def zb (c:ay)(L:List ak):List ak:=L.filter λw=>!uu c w
theorem Zr (c:ay)(L:List ak):(Cu c L).length+(zb c L).length=L.length:=by
 unfold Cu zb;induction L with
 |nil=>rfl
 |cons x r ih=>grind
def adv (c:ay): ∀(L:List ak) (out:List aT),out.length+L.length<=2^20->Et (λu s=>my u c s) out L=some (zb c L,out++Cu c L):=by
 intro L;induction L with
 |nil=>grind [Et,zb,Cu]
 |cons x r ih=>
  intro out hl;unfold Et;have e1:my x c out=some (uu c x,if uu c x then out++[⟨x,c⟩] else out):=by
   unfold my;rw [Vn,av];cases uu c x with
   |false=>rfl
   |true=>rw [if_pos rfl,if_pos (by grind),av];rfl
  grind [av,uu,zb,Cu]
def Hy (st:List ak×List aT)(c:ay):List ak×List aT:=(zb c st.1,st.2++Cu c st.1)
def lj (L:List ak)(l:List ay):List ak×List aT:=l.foldl Hy (L,[])
theorem adw (l:List ay): ∀st:List ak×List aT,(l.foldl Hy st).1.length+(l.foldl Hy st).2.length=st.1.length+st.2.length:=by
 induction l with
 |nil=>intro st;rfl
 |cons c l ih=>grind [Zr,Hy,ad8]
def Oi (L:List ak)(l:List ay):(lj L l).1.length+(lj L l).2.length=L.length:=by grind [adw,lj]
def DC {α β:Type}{f:β->α->β}{b:β}{L:List α}{k:Nat}(hk:k<L.length):(L.take (k+1)).foldl f b=f ((L.take k).foldl f b) L[k]:=by grind [aec,bo]
def ag0 (t:aV)(l:List ay)(h1:t.L.length<=1000)(h2:l.length<=1000):tu t l=some (⟨(lj t.L l).1⟩,(lj t.L l).2):=by
 unfold tu;have e0:j8 32 t.L=some t.L:=by unfold j8;rw [if_pos aah]
 have jx:Loop (oP l) (t.L,([]:List aT),0)=some (lj t.L l):=by
  refine bg.eq (bg.count (λk=>((lj t.L (l.take k)).1,(lj t.L (l.take k)).2,(k:Int))) l.length (λ_=>True) rfl trivial (λk hk _=> ?_) (λ_=> ?_))
  .unfold oP;dsimp only;have hlen:=Oi t.L (l.take k);rw [if_pos aah,bq hk,adv _ _ _ aah,av,wrap64 aah aah];refine .mk ⟨?_,trivial⟩;have:lj t.L (l.take (k+1))=Hy (lj t.L (l.take k)) l[k]:=DC hk;rw [this];rfl
  .unfold oP;dsimp only;rw [if_neg aah];exact .mk (by grind)
 simp_all
structure GH (L:List ak):Prop where
 len:L.length<=200
 all: ∀w∈L,bk w.Path=true/\0<=w.Client
 nodup:L.Nodup
def okW (L:List ak)(k:Nat):Prop:= ∃hk:k<L.length,(bk L[k].Path=true/\0<=L[k].Client)/\L[k]∉L.take k
def nodup_iff {L:List ak}:(∀k,k<L.length->okW L k)↔(∀w∈L,bk w.Path=true/\0<=w.Client)/\L.Nodup:=by
 constructor
 .intro h;refine ⟨λw hw=> ?_,?_⟩
  .obtain ⟨k,hk,rfl⟩:=sh.1 hw;exact (h k hk).2.1
  .rw [List.Nodup,adZ];intro i j hi hj ZF e;have ⟨_,_,hn⟩:=h j hj;apply hn;rw [afn];grind
 .rintro ⟨h1,h2⟩ k hk;refine ⟨hk,(by grind),λhm=> ?_⟩;grind [afn,List.Nodup,adZ]
def Zs (L:List bh)(w:bh)(hl:L.length<2^60):xV L w=some (decide (w∈L)):=by
 unfold xV;have hA:=qM (body:=Bo L w) L.length (λk=>L[k]? ≠some w) true (λk hk _=> ?_) ?_
 .have ⟨r,er,hr⟩:=hA;rw [er,av];rcases hr with ⟨rfl,h⟩|⟨rfl,k,hk,h⟩
  .grind [decide_eq_false,sh,bo]
  grind
 .unfold Bo;rw [if_pos aah,bq hk,Qf,wrap64 aah aah,bo hk];grind
 simp_all [Bo,if_neg]
def ag1 {L:List ak}{w:ak}:LM w∈L.map LM↔w∈L:=by rw [ahI];exact ⟨(by grind [agZ]),λh=>⟨w,h,rfl⟩⟩
def SD (L:List ak)(hl:L.length<=1000):bg (wR ⟨L.map LM⟩) λb=>b=true↔GH L:=by
 unfold wR;refine bg.bd (qM L.length (okW L) false (λk hk _=> ?_) ?_) ?_
 .unfold Ao;dsimp only;have hka:k<(L.map LM).length:=by rw [AT];exact hk
  have e1:(L.map LM)[k]=LM L[k]:=ad5 _;have e2:nW (LM L[k]).Path=some (bk L[k].Path):=AR L[k].Path;rw [if_pos (by rw [AT];omega),bq hka,e1,e2,av,wrap64 aah aah];have e3:xV (ahn (ad7 0) (aho (ad7 (k:Int)) (L.map LM))) (LM L[k])=some (decide (L[k]∈L.take k)):=by rw [show ad7 0=0 from rfl,ahA,ad6,<-List.map_take,Zs _ _ (by rw [AT,ab3];omega)];congr 1;rw [decide_eq_decide,ag1]
  have hw:(if (!bk L[k].Path)=true then some true else ix (L.map LM) (k:Int) λy1=>if y1.Client<0 then some true else if (0:Int)<=0/\(0:Int)<=(k:Int)/\(k:Int)<=((L.map LM).length:Int) then ix (L.map LM) (k:Int) λy2=>bd (xV (ahn (ad7 0) (aho (ad7 (k:Int)) (L.map LM))) y2) λaZ=>some aZ else none)=some (!decide ((bk L[k].Path=true/\0<=L[k].Client)/\L[k]∉L.take k)):=by
   cases hb:bk L[k].Path with
   |false=>simp
   |true=>
    rw [if_neg aaD,bq hka,e1];by_cases hc:L[k].Client<0
    .have hc':(LM L[k]).Client<0:=hc;rw [if_pos hc',decide_eq_false (λh=>by have:=h.1.2;omega)];rfl
    .have hc': ¬(LM L[k]).Client<0:=hc;rw [if_neg hc',if_pos ⟨aah,aah,by rw [AT];omega⟩,bq hka,e1,e3,av];by_cases hm:L[k]∈L.take k
     .rw [decide_eq_true hm,decide_eq_false (λh=>h.2 hm)];rfl
     .rw [decide_eq_false hm,decide_eq_true ⟨⟨rfl,aah⟩,hm⟩];rfl
  rw [hw,av];by_cases h:(bk L[k].Path=true/\0<=L[k].Client)/\L[k]∉L.take k
  .rw [decide_eq_true h];exact ⟨λ_=>rfl,λhn=>absurd ⟨hk,h⟩ hn⟩
  .rw [decide_eq_false h];exact ⟨λ⟨_,hh⟩=>absurd hh h,λ_=>rfl⟩
 .unfold Ao;dsimp only;rw [if_neg (by rw [AT];omega)]
 .rintro r (⟨rfl,h⟩|⟨rfl,k,hk,h⟩)
  .dsimp only;rw [AT];have hh:=nodup_iff.1 h;refine .mk ⟨λhd=>⟨by have:=of_decide_eq_true hd;omega,hh.1,hh.2⟩,λhr=>decide_eq_true (by have:=hr.len;omega)⟩
  .exact .mk ⟨λh=>(by cases h),λhr=>absurd (nodup_iff.2 ⟨hr.all,hr.nodup⟩ k hk) h⟩
def GI (L:List ak)(w:ak):List ak×Int:=if bk w.Path=false then (L,13) else if w.Client<0 then (L,1) else if w∈L then (L,0) else if 200<=L.length then (L,9) else (L++[w],0)
def M4 (L:List ak)(w:ak)(hl:L.length<2^60):cX L w=some (decide (w∈L)):=by
 unfold cX fZ;have jx:bg (Loop (eS L w) 0) λr=>(r= .inl ()/\w∉L)\/ ∃k:Nat,r= .inr (k:Int)/\w∈L:=by
  refine bg.count (λk=>(k:Int)) L.length (λk=>w∉L.take k) rfl aaS (λk hk hp=> ?_) (λhp=> ?_)
  .unfold eS;rw [if_pos aah,bq hk,Oh,wrap64 aah aah];by_cases h:w=L[k]
   .rw [decide_eq_true h,if_pos rfl];exact .mk (by grind)
   .rw [decide_eq_false h,if_neg aaD];refine .mk ⟨aah,?_⟩;grind [aec,bo,Option.toList_some,OF]
  .unfold eS;rw [if_neg aah];rw [IN] at hp;exact .mk (.inl ⟨rfl,hp⟩)
 have ⟨r,er,hr⟩:=jx;grind [av,decide_eq_false,decide_eq_true]
def adx (L:List ak)(w:ak)(hl:L.length<=1000):sD ⟨L⟩ w=some (⟨(GI L w).1⟩,(GI L w).2):=by
 unfold sD GI;rw [xe,av];cases hb:bk w.Path with
 |false=>rfl
 |true=>
  rw [if_neg (show¬(!true)=true by decide),if_neg (show¬true=false by decide)];by_cases hc:w.Client<0
  .rw [if_pos hc,if_pos hc]
  rw [if_neg hc,if_neg hc,M4 _ _ (show L.length<2^60 by omega),av];by_cases hm:w∈L
  .grind
  rw [decide_eq_false hm,if_neg aaD,if_neg hm];dsimp only;by_cases h2:200<=L.length
  .grind
  have e0:j8 32 L=some L:=by unfold j8;rw [if_pos aah]
  rw [if_neg aah,if_neg h2,e0,av,if_pos (by grind)]
theorem ady (l:List ay): ∀(L:List ak) (out:List aT),l.foldl Hy (L,out)=((lj L l).1,out++(lj L l).2):=by
 induction l with
 |nil=>grind [lj]
 |cons c l ih=>grind [lj,Hy,zb,Cu]
def LN (L:List ak)(c:ay)(l:List ay):lj L (c::l)=((lj (zb c L) l).1,Cu c L++(lj (zb c L) l).2):=by unfold lj;grind [Hy,zb,Cu,ady]
theorem W9 (l:List ay): ∀L:List ak,(lj L l).1=L.filter (λw=>!l.any λc=>uu c w):=by
 induction l with
 |nil=>intro L;exact (List.filter_eq_self.2 λa _=>rfl).symm
 |cons c l ih=>intro L;rw [LN];rw [ih];unfold zb;rw [List.filter_filter];grind
def alc (l:List ay): ∀(L:List ak) (e:aT),e∈(lj L l).2->e.W∈L/\l.find? (λc=>uu c e.W)=some e.C:=by
 induction l with
 |nil=>grind [absurd,lj]
 |cons c l ih=>intro L e h;rw [LN] at h;all_goals grind [Cu,List.find?_cons_of_pos,zb,List.find?_cons_of_neg]
abbrev mE (x:aq):Int:=x.Id
abbrev kR (x:ae):Int:=x.Client
theorem Xa (x y:Int):jA x y=some (Pv x y):=by unfold jA oK Pv;simp;grind
theorem Zt (b:aw)(id:Int):dw b id=bsearch b.L id cJ:=by unfold dw;rw [show bX b.L id cJ=bsearch b.L id cJ from rfl];cases bsearch b.L id cJ<;>rfl
theorem BI {b:aw}(hs:pM mE b.L)(hl:b.L.length<2^60)(id:Int):dw b id=some ((s8 mE b.L id:Int),kL mE b.L id):=by grind [Zt,J9,cJ,Xa,av]
theorem Zu (r:aj)(c:Int):eH r c=bsearch r.Seen c cr:=by unfold eH;rw [show cb r.Seen c cr=bsearch r.Seen c cr from rfl];cases bsearch r.Seen c cr<;>rfl
def Oj {r:aj}(hs:pM kR r.Seen)(hl:r.Seen.length<2^60)(c:Int):eH r c=some ((s8 kR r.Seen c:Int),kL kR r.Seen c):=by grind [Zu,J9,cr,Xa,av]
structure jP (b:aw):Prop where
 now:0<=b.eG/\b.eG<=1000000000
 len:b.L.length<=50
 inc:pM mE b.L
 all: ∀x∈b.L,1<=x.Id/\1<=x.Span/\x.Span<=1000/\b.eG<x.ek/\x.ek<=b.eG+x.Span
def ald {b:aw}(h:jP b)(id:Int):wL b id=some (kL mE b.L id):=by grind [wL,BI,h.inc,h.len,av]
def xg (b:aw)(id span:Int):Int:=if id<1\/span<1\/1000<span then 1 else if kL mE b.L id then 7 else if 50<=b.L.length then 9 else 0
def Hz (b:aw)(id span:Int):aw:=if xg b id span=0 then ⟨b.eG,Ka mE b.L ⟨id,span,b.eG+span⟩⟩ else b
def adz {p q r:Prop}[Decidable p][Decidable q][Decidable r]:(if p then some true else if q then some true else some (decide r))=some (decide (p\/q\/r)):=by grind
def ag2 {b:aw}(h:jP b)(id span:Int):tl b id span=some (Hz b id span,xg b id span):=by
 unfold tl;have hlen:=h.len;have atJ:=h.now;rw [BI h.inc aah,av,adz,av];by_cases h1:id<1\/span<1\/1000<span
 .have hE:xg b id span=1:=by unfold xg;rw [if_pos h1]
  unfold Hz;grind
 rw [decide_eq_false h1,if_neg aaD];dsimp only;cases h2:kL mE b.L id with
 |true=>
  have hE:xg b id span=7:=by unfold xg;rw [if_neg h1,h2,if_pos rfl]
  unfold Hz;grind
 |false=>
  rw [if_neg aaD];by_cases h3:50<=b.L.length
  .have hE:xg b id span=9:=by unfold xg;rw [if_neg h1,h2,if_neg aaD,if_pos h3]
   unfold Hz;grind
  .have hE:xg b id span=0:=by unfold xg;rw [if_neg h1,h2,if_neg aaD,if_neg h3]
   unfold Hz;have hi:=Kb (key:=mE) (L:=b.L) (a:=(⟨id,span,b.eG+span⟩:aq)) (by':=24) aah;rw [if_neg aah,Bk aah,av,wrap64 aah aah,show s8 mE b.L id=s8 mE b.L (mE ⟨id,span,b.eG+span⟩) from rfl,hi,av,hE,if_pos rfl]
def GJ (b:aw)(id:Int):aw×Int:=if kL mE b.L id then (match b.L[s8 mE b.L id]? with|some y=>⟨b.eG,b.L.set (s8 mE b.L id) ⟨y.Id,y.Span,b.eG+y.Span⟩⟩|none=>b,0) else (b,14)
def adA {b:aw}(h:jP b)(id:Int):qU b id=some (GJ b id):=by
 unfold qU GJ;have hlen:=h.len;have atJ:=h.now;rw [BI h.inc aah,av];dsimp only;cases h2:kL mE b.L id with
 |false=>rfl
 |true=>have ⟨hk,he⟩:=(h.inc.has id).1 h2;have hx:=h.all _ (AI hk);rw [if_neg aaD,Bk aah,av,bq hk,bq hk,wrap64 aah aah,if_pos rfl,bo hk,ad6]
def uv (b:aw)(id:Int):aw×Int:=if kL mE b.L id then (⟨b.eG,b.L.take (s8 mE b.L id)++b.L.drop (s8 mE b.L id+1)⟩,0) else (b,14)
def adB {b:aw}(h:jP b)(id:Int):qV b id=some (uv b id):=by
 unfold qV uv;have hlen:=h.len;rw [BI h.inc aah,av];dsimp only;cases h2:kL mE b.L id with
 |false=>rfl
 |true=>have ⟨hk,he⟩:=(h.inc.has id).1 h2;rw [if_neg aaD,Bk aah,av,wrap64 aah aah,if_pos rfl];unfold Bi;rw [if_pos aah,av];grind
def HA (now:Int)(x:aq):Bool:=decide (x.ek<=now)
def HB (b:aw)(now:Int):Int:=if now<b.eG then 15 else if 1000000000<now then 5 else 0
def Xb (b:aw)(now:Int):aw:=⟨now,b.L.filter λx=>!HA now x⟩
def Cv (b:aw)(now:Int):List Int:=(b.L.filter (HA now)).map (·.Id)
def ag3 {b:aw}(h:jP b)(now:Int):tq b now=some (if HB b now=0 then (Xb b now,Cv b now,0) else (b,[],HB b now)):=by
 unfold tq HB;have hlen:=h.len;by_cases h1:now<b.eG
 .grind
 rw [if_neg h1,if_neg h1];by_cases h2:1000000000<now
 .grind
 rw [if_neg h2,if_neg h2,if_pos rfl];have jx:Loop (sb b now) (([]:List Int),now,([]:List aq),0)=some (Cv b now,now,b.L.filter λx=>!HA now x):=by
  refine bg.eq (bg.count (λk=>(((b.L.take k).filter (HA now)).map (·.Id),now,(b.L.take k).filter (λx=>!HA now x),(k:Int))) b.L.length (λ_=>True) aaS trivial (λk hk _=> ?_) (λ_=> ?_))
  .unfold sb;dsimp only;rw [if_pos aah,bq hk,E8 hk,E8 hk,wrap64 aah aah];by_cases hg:b.L[k].ek<=now
   .have hb:HA now b.L[k]=true:=decide_eq_true hg;rw [if_pos hg,if_pos (by grind)];simp only [hb,if_true,aeY,ad3,if_false,afS,List.map_append,List.map_cons,List.map_nil];exact .mk ⟨rfl,trivial⟩
   .have hb:HA now b.L[k]=false:=decide_eq_false hg;rw [if_neg hg,if_pos (by grind)];simp only [hb,if_true,afh,ad3,if_false,afS];exact .mk ⟨rfl,trivial⟩
  .unfold sb;dsimp only;rw [if_neg aah,IN];exact .mk rfl
 rw [jx,av];rfl
def Xc {α:Type}{key:α->Int}{L:List α}(hs:pM key L){a:α}(h:kL key L (key a)=false):pM key (Ka key L a):=by
 have ⟨h1,h2⟩:=hs.lb (key a);have dt: ∀x∈L,key x≠key a:=λx hx he=>by simp_all [aeh,Eu]
 unfold Ka pM;rw [List.append_assoc,ae1];refine ⟨aea (List.take_sublist _ _) hs,?_,?_⟩
 .rw [List.singleton_append,afj];refine ⟨λx hx=> ?_,aea (List.drop_sublist _ _) hs⟩;obtain ⟨k,hk,rfl⟩:=sh.1 hx;grind
 .intro x hx y hy;obtain ⟨k,hk,rfl⟩:=sh.1 hx;rcases ae8.1 hy with hy|hy
  .grind
  .obtain ⟨j,hj,rfl⟩:=sh.1 hy;grind
def Qg {α:Type}{key:α->Int}{L:List α}{a x:α}:x∈Ka key L a↔x∈L\/x=a:=by grind [Ka,OF,s8,AS]
theorem Xd {α:Type}{key:α->Int}{L:List α}{a:α}:(Ka key L a).length=L.length+1:=by unfold Ka;grind
def ag4 {b:aw}(h:jP b)(id span:Int):jP (Hz b id span):=by
 unfold Hz;by_cases he:xg b id span=0
 .rw [if_pos he];unfold xg at he;split at he
  .cases he
  split at he
  .cases he
  rename_i h2;split at he
  .cases he
  have h2:kL mE b.L id=false:=by simpa using h2
  refine ⟨h.now,?_,Xc h.inc h2,?_⟩
  .grind [Xd]
  .intro x hx;rcases Qg.1 hx with hx|rfl
   .exact h.all x hx
   grind
 grind
def SE {α:Type}{key:α->Int}{L M:List α}(h:M.map key=L.map key)(hs:pM key L):pM key M:=by unfold pM at *;rw [<-List.pairwise_map] at hs⊢;grind
def SF {α:Type}{key:α->Int}{L:List α}{i:Nat}(hi:i<L.length){y:α}(hy:key y=key L[i]):(L.set i y).map key=L.map key:=by grind [List.map_set,List.set_getElem_self]
def adC {b:aw}(h:jP b)(id:Int):jP (GJ b id).1/\ ∀i,kL mE (GJ b id).1.L i=kL mE b.L i:=by
 unfold GJ;cases h2:kL mE b.L id with
 |false=>grind
 |true=>
  have ⟨hk,he⟩:=(h.inc.has id).1 h2;rw [if_pos rfl,bo hk];have abw:(b.L.set (s8 mE b.L id) ⟨b.L[s8 mE b.L id].Id,b.L[s8 mE b.L id].Span,b.eG+b.L[s8 mE b.L id].Span⟩).map mE=b.L.map mE:=SF hk rfl;refine ⟨⟨h.now,by grind [aey,h.len],SE abw h.inc,λx hx=> ?_⟩,λi=> ?_⟩
  .rcases afo hx with hx|rfl
   .exact h.all x hx
   .have:=h.all _ (AI hk);grind
  .have hh: ∀M:List aq,kL mE M i=(M.map mE).any λe=>decide (e=i):=(by grind [kL,List.any_map])
   grind
theorem ale {b:aw}(h:jP b){M:List aq}(hM:M.Sublist b.L):jP ⟨b.eG,M⟩:=⟨h.now,aer hM.length_le h.len,aea hM h.inc,λx hx=>h.all x (hM.subset hx)⟩
theorem ag5 {α:Type}(L:List α)(i:Nat):(L.take i++L.drop (i+1)).Sublist L:=by rw [<-List.eraseIdx_eq_take_drop_succ];grind
def SH {b:aw}(h:jP b)(id:Int):jP (uv b id).1:=by grind [uv,ale,ag5]
def Qh {b:aw}(h:jP b){now:Int}(hz:HB b now=0):jP (Xb b now):=by
 unfold HB at hz;split at hz
 .cases hz
 split at hz
 .cases hz
 have hn:=h.now;refine ⟨⟨by show 0<=now;omega,by show now<=_;omega⟩,aer (ad9 _ _) h.len,aea afa h.inc,λx hx=> ?_⟩;have ⟨h3,h4⟩:=aga.1 hx;have:=h.all x h3;have h5: ¬x.ek<=now:=by simpa [HA] using h4
 show 1<=x.Id/\1<=x.Span/\x.Span<=1000/\now<x.ek/\x.ek<=now+x.Span;omega
def dq {α β:Type}{x y:Option α}{K:α->Option β}{z:Option β}(h:x=y)(h2:bd y K=z):bd x K=z:=h▸h2
def yN (k:Int)(w:ah):ah:=if w.x.E=0 then {w with l:=w.l++[⟨k,w.o.Path⟩]} else w
def DD (w:ah)(k:Int)(hl:w.l.length<=2^20):cP w k=some ((),yN k w):=by
 unfold cP yN;by_cases h:w.x.E=0
 .rw [if_pos h,if_pos (by grind),av,if_pos h]
 simp_all
def AW (w:ah)(id:Int):ah:={w with r:={w.r with Shelf:=⟨(dk w.r.Shelf.L id).1⟩},l:=w.l++(dk w.r.Shelf.L id).2.map λp=>⟨3,p⟩}
def GK (L:List aa)(id:Int):(dk L id).1.length+(dk L id).2.length=L.length:=by grind [dk,AT,SA]
theorem adD (w:ah)(id:Int):(AW w id).l.length+(AW w id).r.Shelf.L.length=w.l.length+w.r.Shelf.L.length:=by unfold AW;have:=GK w.r.Shelf.L id;grind
def SI (w:ah)(id:Int)(hl:w.l.length+w.r.Shelf.L.length<=2^20):iz w id=some ((),AW w id):=by
 unfold iz;have hlen:=GK w.r.Shelf.L id;rw [drop_eq w.r.Shelf id aah,av];have jx:Loop (iL (((⟨(dk w.r.Shelf.L id).1⟩:au),(dk w.r.Shelf.L id).2))) (0,(dk w.r.Shelf.L id).1,w.r.aY.eG,w.r.aY.L,w.r.aX.L,w.r.Seen,w.o.Client,w.o.Seq,w.o.Kind,w.o.Path,w.o.Value,w.o.Version,w.o.Session,w.o.Span,w.x.Client,w.x.Seq,w.x.E,w.x.Value,w.x.Version,w.x.Names,w.l)= some ((dk w.r.Shelf.L id).1,w.r.aY.eG,w.r.aY.L,w.r.aX.L,w.r.Seen,w.o.Client,w.o.Seq,w.o.Kind,w.o.Path,w.o.Value,w.o.Version,w.o.Session,w.o.Span,w.x.Client,w.x.Seq,w.x.E,w.x.Value,w.x.Version,w.x.Names,w.l++(dk w.r.Shelf.L id).2.map λp=>(⟨3,p⟩:ay)):=by
  refine bg.eq (bg.count (λk=>((k:Int),(dk w.r.Shelf.L id).1,w.r.aY.eG,w.r.aY.L,w.r.aX.L,w.r.Seen,w.o.Client,w.o.Seq,w.o.Kind,w.o.Path,w.o.Value,w.o.Version,w.o.Session,w.o.Span,w.x.Client,w.x.Seq,w.x.E,w.x.Value,w.x.Version,w.x.Names,w.l++((dk w.r.Shelf.L id).2.take k).map λp=>(⟨3,p⟩:ay))) (dk w.r.Shelf.L id).2.length (λ_=>True) aaS trivial (λk hk _=> ?_) (λ_=> ?_))
  .unfold iL;dsimp only;rw [if_pos aah,bq hk,if_pos (by grind),wrap64 aah aah,xf hk];refine .mk ⟨?_,trivial⟩;simp
  .unfold iL;dsimp only;rw [if_neg aah,IN];exact .mk rfl
 exact dq jx rfl
def ml (w:ah)(ids:List Int):ah:=ids.foldl AW w
def Ok (ids:List Int): ∀w,(ml w ids).l.length+(ml w ids).r.Shelf.L.length=w.l.length+w.r.Shelf.L.length:=by
 unfold ml;induction ids with
 |nil=>intro w;rfl
 |cons i ids ih=>grind [adD]
def ag6 (w:ah):aaV:=(w.r.Shelf.L,w.r.aY.eG,w.r.aY.L,w.r.aX.L,w.r.Seen,w.o.Client,w.o.Seq,w.o.Kind,w.o.Path,w.o.Value,w.o.Version,w.o.Session,w.o.Span,w.x.Client,w.x.Seq,w.x.E,w.x.Value,w.x.Version,w.x.Names,w.l)
def adE (w:ah)(p:adY)(hl:w.l.length+w.r.Shelf.L.length<=2^20)(h2:p.2.1.length<=2^20):Loop (iM p) (0,ag6 w)=some (ag6 (ml w p.2.1)):=by
 refine bg.eq (bg.count (λk=>((k:Int),ag6 (ml w (p.2.1.take k)))) p.2.1.length (λ_=>True) (by simp [ml]) trivial (λk hk _=> ?_) (λ_=> ?_))
 .have hd:=SI (ml w (p.2.1.take k)) p.2.1[k] (by rw [Ok];exact hl);have hs:ml w (p.2.1.take (k+1))=AW (ml w (p.2.1.take k)) p.2.1[k]:=DC hk;rw [hs];unfold iM;rw [if_pos aah,bq hk];rw [wrap64 aah aah];refine .of (dq hd rfl) ⟨?_,trivial⟩;rfl
 .unfold iM;rw [if_neg aah,IN];exact .mk rfl
def rR (w:ah)(p:List aa×Int):ah:={w with r:={w.r with Shelf:=⟨p.1⟩},x:={w.x with E:=p.2}}
def LO (w:ah)(p:aw×Int):ah:={w with r:={w.r with aY:=p.1},x:={w.x with E:=p.2}}
def apE (w:ah)(e:Int):ah:={w with x:={w.x with E:=e}}
def BJ (w:ah):ah:=if w.o.Session≠0/\kL mE w.r.aY.L w.o.Session=false then apE w 14 else yN 1 (rR w (vL w.r.Shelf.L w.o.Path w.o.Value w.o.Session))
def alf (w:ah):ah:={w with x:={w.x with E:=(mD w.r.Shelf.L w.o.Path).2,Value:=(mD w.r.Shelf.L w.o.Path).1.Value,Version:=(mD w.r.Shelf.L w.o.Path).1.Version}}
def SJ (w:ah):ah:=if w.x.E=0 then {w with x:={w.x with Version:=(mD w.r.Shelf.L w.o.Path).1.Version}} else w
def Zv (w:ah):ah:=SJ (yN 2 (rR w (GG w.r.Shelf.L w.o.Path w.o.Value w.o.Version)))
def IG (w:ah):ah:=yN 3 (rR w (Pu w.r.Shelf.L w.o.Path w.o.Version))
def adF (w:ah):ah:={w with x:={w.x with E:=(LI w.r.Shelf.L w.o.Path).2,Names:=(LI w.r.Shelf.L w.o.Path).1}}
def adG (w:ah):ah:=LO w (Hz w.r.aY w.o.Session w.o.Span,xg w.r.aY w.o.Session w.o.Span)
def Vo (w:ah):ah:=LO w (GJ w.r.aY w.o.Session)
def GL (w:ah):ah:=if (uv w.r.aY w.o.Session).2=0 then AW (LO w (uv w.r.aY w.o.Session)) w.o.Session else LO w (uv w.r.aY w.o.Session)
def AX (w:ah):ah:=⟨⟨w.r.Shelf,Xb w.r.aY w.o.Span,w.r.aX,w.r.Seen⟩,w.o,⟨w.x.Client,w.x.Seq,0,w.x.Value,w.o.Span,w.x.Names⟩,w.l⟩
def Ol (w:ah):ah:=if HB w.r.aY w.o.Span=0 then ml (AX w) (Cv w.r.aY w.o.Span) else apE w (HB w.r.aY w.o.Span)
def vM (o:ab):ak:=⟨o.Path,o.Client,decide (o.Kind=11)⟩
def Vp (w:ah):ah:={w with r:={w.r with aX:=⟨(GI w.r.aX.L (vM w.o)).1⟩},x:={w.x with E:=(GI w.r.aX.L (vM w.o)).2}}
structure dG (r:aj):Prop where
 shelf:jn r.Shelf.L
 book:jP r.aY
 table:GH r.aX.L
def Vq {w:ah}(h:dG w.r)(hl:w.l.length<=2^20):iJ w=some ((),BJ w):=by
 have hlen:=h.shelf.len;unfold iJ BJ;have avE:(bd (mw w.r.Shelf w.o.Path w.o.Value w.o.Session) λaZ=>bd (cP (⟨(⟨aZ.1,w.r.aY,w.r.aX,w.r.Seen⟩:aj),w.o,(⟨w.x.Client,w.x.Seq,aZ.2,w.x.Value,w.x.Version,w.x.Names⟩:ae),w.l⟩:ah) 1) λdN=>some ((),dN.2))=some ((),yN 1 (rR w (vL w.r.Shelf.L w.o.Path w.o.Value w.o.Session))):=by rw [Zj h.shelf.ord aah,av];exact dq (DD (rR w (vL w.r.Shelf.L w.o.Path w.o.Value w.o.Session)) 1 hl) rfl
 by_cases hs:w.o.Session=0
 .simp_all
 .rw [decide_eq_false hs,if_pos (by grind),ald h.book,av,av];cases hh:kL mE w.r.aY.L w.o.Session with
  |false=>rw [if_pos (by grind),if_pos ⟨hs,rfl⟩];rfl
  |true=>grind
def ag7 {w:ah}(h:dG w.r):lO w=some ((),alf w):=by grind [h.shelf.len,lO,alf,get_eq,h.shelf.ord,av]
def ag8 {w:ah}(h:dG w.r)(hl:w.l.length<=2^20):lP w=some ((),Zv w):=by
 unfold lP Zv;rw [ala h.shelf,av];refine dq (DD (rR w (GG w.r.Shelf.L w.o.Path w.o.Value w.o.Version)) 2 hl) ?_;rw [av];have pw:jn (yN 2 (rR w (GG w.r.Shelf.L w.o.Path w.o.Value w.o.Version))).r.Shelf.L:=by
  have:(yN 2 (rR w (GG w.r.Shelf.L w.o.Path w.o.Value w.o.Version))).r.Shelf.L=(GG w.r.Shelf.L w.o.Path w.o.Value w.o.Version).1:=by unfold yN;split<;>rfl
  rw [this];exact WZ h.shelf _ _ _
 generalize yN 2 (rR w (GG w.r.Shelf.L w.o.Path w.o.Value w.o.Version))=v at pw;have pi:=pw.len;unfold SJ;by_cases he:v.x.E=0
 .rw [if_pos he,get_eq pw.ord aah,av,av,if_pos he]
 simp_all
def Vr {w:ah}(h:dG w.r)(hl:w.l.length<=2^20):iK w=some ((),IG w):=by unfold iK IG;rw [del_eq h.shelf,av];exact dq (DD (rR w (Pu w.r.Shelf.L w.o.Path w.o.Version)) 3 hl) rfl
def adH {w:ah}(h:dG w.r):kv w=some ((),adF w):=by grind [h.shelf.len,kv,adF,agR,h.shelf.ord,av]
def adI {w:ah}(h:dG w.r):kw w=some ((),adG w):=by unfold kw adG;rw [ag2 h.book,av];rfl
def Zx {w:ah}(h:dG w.r):jE w=some ((),Vo w):=by unfold jE Vo;rw [adA h.book,av];rfl
def Zy {w:ah}(h:dG w.r)(hl:w.l.length+w.r.Shelf.L.length<=2^20):jF w=some ((),GL w):=by
 unfold jF GL;rw [adB h.book,av];by_cases he:(uv w.r.aY w.o.Session).2=0
 .rw [if_pos he,if_pos he];have hd:=SI (LO w (uv w.r.aY w.o.Session)) w.o.Session hl;exact dq (y:=some (ag6 (AW (LO w (uv w.r.aY w.o.Session)) w.o.Session))) (dq hd rfl) rfl
 .rw [if_neg he,if_neg he];rfl
def adJ {w:ah}(h:dG w.r)(hl:w.l.length+w.r.Shelf.L.length<=2^20):kz w=some ((),Ol w):=by
 have hlen:=h.book.len;unfold kz Ol;rw [ag3 h.book,av];by_cases he:HB w.r.aY w.o.Span=0
 .rw [if_pos he,if_pos he];have hg:(Cv w.r.aY w.o.Span).length<=w.r.aY.L.length:=by unfold Cv;rw [AT];exact ad9 _ _
  have ht:=adE (AX w) (Xb w.r.aY w.o.Span,Cv w.r.aY w.o.Span,0) hl (by grind);exact dq ht rfl
 .rw [if_neg he,if_neg he];rw [decide_eq_false he,if_pos (by grind)];rfl
def Om {w:ah}(h:dG w.r):jG w=some ((),Vp w):=by have hlen:=h.table.len;unfold jG Vp;rw [show sD w.r.aX (⟨w.o.Path,w.o.Client,decide (w.o.Kind=11)⟩:ak)=some (⟨(GI w.r.aX.L (vM w.o)).1⟩,(GI w.r.aX.L (vM w.o)).2) from adx w.r.aX.L (vM w.o) aah,av]
def Vs (w:ah):ah:=if w.o.Kind=0 then w else if w.o.Kind=1 then BJ w else if w.o.Kind=2 then alf w else if w.o.Kind=3 then Zv w else if w.o.Kind=4 then IG w else if w.o.Kind=5 then adF w
 else if w.o.Kind=6 then adG w else if w.o.Kind=7 then Vo w else if w.o.Kind=8 then GL w else if w.o.Kind=9 then Ol w else Vp w
def ag9 {w:ah}(h:dG w.r)(hl:w.l.length+w.r.Shelf.L.length<=2^20)(hk:0<=w.o.Kind/\w.o.Kind<=11) {β:Type}(K:Unit×ah->Option β): (bd tt λaZ=>ix aZ w.o.Kind λy=>bd (qv y w) K)=K ((),Vs w):=by
 unfold tt;rw [av];have ⟨n,hn⟩: ∃n:Nat,w.o.Kind=(n:Int):=⟨w.o.Kind.toNat,aah⟩
 have atK:n<12:=aah
 have GR:w.l.length<=2^20:=aah
 unfold Vs;rw [hn];match n,atK with
 |0,_=>rfl
 |1,_=>exact dq (Vq h GR) rfl
 |2,_=>exact dq (ag7 h) rfl
 |3,_=>exact dq (ag8 h GR) rfl
 |4,_=>exact dq (Vr h GR) rfl
 |5,_=>exact dq (adH h) rfl
 |6,_=>exact dq (adI h) rfl
 |7,_=>exact dq (Zx h) rfl
 |8,_=>exact dq (Zy h hl) rfl
 |9,_=>exact dq (adJ h hl) rfl
 |10,_=>exact dq (Om h) rfl
 |11,_=>exact dq (Om h) rfl
structure cU (r:aj):Prop extends dG r where
 inc:pM kR r.Seen
 few:r.Seen.length<=50
 seen: ∀x∈r.Seen,0<=x.Client/\x.Client<=1000/\1<=x.Seq
def adK (o:ab): ∃u,fC o=some u:=by unfold fC;repeat' (first|exact ⟨_,rfl⟩|(split<;>try simp only [av]))
def adL (o:ab):bg (ef o) λb=>b=true->(0<=o.Client/\o.Client<=1000)/\(1<=o.Seq/\o.Seq<=1000000000)/\(0<=o.Kind/\o.Kind<=11)/\o.Path.length<=100/\o.Value.length<=1000:=by
 unfold ef;have ⟨u,hu⟩:=adK o;rw [hu];by_cases h1:(0:Int)<=o.Client;rotate_left
 .rw [if_neg h1,av,if_neg aaD,av];exact .mk (λh=>by cases h)
 rw [if_pos h1];by_cases h2:o.Client<=1000;rotate_left
 .rw [if_neg h2,av,if_neg aaD,av];exact .mk (λh=>by cases h)
 rw [if_pos h2];by_cases h3:(1:Int)<=o.Seq;rotate_left
 .rw [if_neg h3,av,if_neg aaD,av];exact .mk (λh=>by cases h)
 rw [if_pos h3,av];by_cases h4:o.Seq<=1000000000;rotate_left
 .rw [decide_eq_false h4,if_neg aaD,av];exact .mk (λh=>by cases h)
 rw [decide_eq_true h4,if_pos rfl];by_cases h5:(0:Int)<=o.Kind;rotate_left
 .rw [if_neg h5,av];exact .mk (λh=>by cases h)
 rw [if_pos h5];by_cases h6:o.Kind<=11;rotate_left
 .rw [if_neg h6,av];exact .mk (λh=>by cases h)
 rw [if_pos h6];by_cases h7:(o.Path.length:Int)<=100;rotate_left
 .rw [if_neg h7,av];exact .mk (λh=>by cases h)
 rw [if_pos h7];by_cases h8:(o.Value.length:Int)<=1000;rotate_left
 .rw [if_neg h8,av];exact .mk (λh=>by cases h)
 rw [if_pos h8,av,av];exact .mk (by grind)
def SK (o:ab):Bool:=(ef o).getD false
def adM (o:ab):ef o=some (SK o):=by have ⟨b,hb,_⟩:=adL o;grind [SK]
def Qi {o:ab}(h:SK o=true):(0<=o.Client/\o.Client<=1000)/\(1<=o.Seq/\o.Seq<=1000000000)/\(0<=o.Kind/\o.Kind<=11)/\o.Path.length<=100/\o.Value.length<=1000:=by have ⟨b,hb,hp⟩:=adL o;grind [SK]
def noR:ae:=⟨0,0,0,[],0,[]⟩
def gq (L:List ae)(c:Int):ae×Bool:=if kL kR L c then ((L[s8 kR L c]?).getD noR,true) else (noR,false)
def aha {r:aj}(h:cU r)(c:Int):tc r c=some (gq r.Seen c):=by
 have hf:=h.few;unfold tc gq;rw [Oj h.inc aah,av];dsimp only;cases hh:kL kR r.Seen c with
 |false=>rfl
 |true=>have ⟨hk,he⟩:=(h.inc.has c).1 hh;rw [if_neg aaD,bq hk,if_pos rfl,bo hk];rfl
def GM (o:ab)(e:Int):ae:=⟨o.Client,o.Seq,e,[],0,[]⟩
def eM (L:List ae)(o:ab):ae×Bool:=if SK o=false then (GM o 1,true) else
 if (gq L o.Client).2 then (if (gq L o.Client).1.Seq=o.Seq then ((gq L o.Client).1,true) else if o.Seq<(gq L o.Client).1.Seq then (GM o 15,true) else (GM o 0,false))
 else if 50<=L.length then (GM o 9,true) else (GM o 0,false)
def adN {r:aj}(h:cU r)(o:ab):jD r o=some (eM r.Seen o):=by
 unfold jD eM;rw [aha h,av,adM,av];cases hm:SK o with
 |false=>rfl
 |true=>
  rw [if_neg (show¬(!true)=true by decide),if_neg (show¬true=false by decide)];cases hl:(gq r.Seen o.Client).2 with
  |true=>
   rw [if_pos rfl,if_pos rfl,av];by_cases h1:(gq r.Seen o.Client).1.Seq=o.Seq
   .rw [decide_eq_true h1,if_pos h1];rfl
   .rw [decide_eq_false h1,if_neg h1,if_neg aaD,if_pos rfl,av];by_cases h2:o.Seq<(gq r.Seen o.Client).1.Seq
    .rw [decide_eq_true h2,if_pos h2];rfl
    .rw [decide_eq_false h2,if_neg h2];rfl
  |false=>
   rw [if_neg aaD,av,if_neg aaD,if_neg aaD,av,if_neg aaD];by_cases h3:50<=r.Seen.length
   .rw [decide_eq_true (by grind),if_pos h3];rfl
   .rw [decide_eq_false (by grind),if_neg h3];rfl
def Cw (L:List ae)(c:Int)(x:ae):List ae:=if kL kR L c then L.set (s8 kR L c) x else Ka kR L x
def mK (r:aj)(o:ab):ah:=Vs ⟨r,o,(eM r.Seen o).1,[]⟩
def eN (r:aj)(o:ab):aj×ae×List aT:=if (eM r.Seen o).2 then (r,(eM r.Seen o).1,[])
 else (⟨(mK r o).r.Shelf,(mK r o).r.aY,⟨(lj (mK r o).r.aX.L (mK r o).l).1⟩,Cw r.Seen o.Client (mK r o).x⟩,(mK r o).x,(lj (mK r o).r.aX.L (mK r o).l).2)
structure DE (w v:ah):Prop extends dG v.r where
 o:v.o=w.o
 iv:v.x.Client=w.x.Client
 seq:v.x.Seq=w.x.Seq
 seen:v.r.Seen=w.r.Seen
 len:v.l.length<=w.l.length+250
theorem Zz {L M:List ak}(h:GH L)(hM:M.Sublist L):GH M:=⟨aer hM.length_le h.len,λx hx=>h.all x (hM.subset hx),aea hM h.nodup⟩
def LP {w v:ah}{k:Int}(h:dG v.r)(h1:v.o=w.o)(h2:v.x.Client=w.x.Client)(h3:v.x.Seq=w.x.Seq)(h4:v.r.Seen=w.r.Seen)(h5:v.l.length<=w.l.length+249):DE w (yN k v):=by
 unfold yN;split
 .exact ⟨h,h1,h2,h3,h4,by grind⟩
 .exact ⟨h,h1,h2,h3,h4,aah⟩
theorem rk {r:aj}(h:dG r){L:List aa}(hL:jn L):dG {r with Shelf:=⟨L⟩}:=⟨hL,h.book,h.table⟩
def nP {r:aj}(h:dG r){b:aw}(hb:jP b):dG {r with aY:=b}:=⟨h.shelf,hb,h.table⟩
def ZA {w v:ah}(h:dG v.r)(h1:v.o=w.o)(h2:v.x.Client=w.x.Client)(h3:v.x.Seq=w.x.Seq)(h4:v.r.Seen=w.r.Seen)(h5:v.l.length<=w.l.length)(id:Int):DE w (AW v id):=by have hl:=GK v.r.Shelf.L id;have hs:=h.shelf.len;refine ⟨rk h (WW h.shelf id),h1,h2,h3,h4,?_⟩;grind [AW,ad8,AT]
def AY (ids:List Int): ∀{v:ah},dG v.r->dG (ml v ids).r/\(ml v ids).o=v.o/\(ml v ids).x=v.x/\(ml v ids).r.Seen=v.r.Seen/\(ml v ids).r.aY=v.r.aY/\(ml v ids).r.aX=v.r.aX:=by
 unfold ml;induction ids with
 |nil=>grind
 |cons i ids ih=>intro v h;grind [AW,rk,WW,h.shelf]
def ZB {L:List ak}(h:GH L)(w:ak):GH (GI L w).1:=by
 unfold GI;split
 .exact h
 split
 .exact h
 split
 .exact h
 split
 .exact h
 refine ⟨by grind,λx hx=> ?_,?_⟩
 .rcases ae8.1 hx with hx|hx
  .exact h.all x hx
  grind
 grind [List.nodup_append,h.nodup,OF]
def Xe {w:ah}(h:dG w.r):DE w (Vs w):=by
 have hs:=h.shelf.len;unfold Vs;split
 .exact ⟨h,rfl,rfl,rfl,rfl,aah⟩
 split
 .unfold BJ;split
  .exact ⟨h,rfl,rfl,rfl,rfl,by show w.l.length<=_;omega⟩
  .exact LP (rk h (Vm h.shelf _ _ _)) rfl rfl rfl rfl (by show w.l.length<=_;omega)
 split
 .exact ⟨h,rfl,rfl,rfl,rfl,by show w.l.length<=_;omega⟩
 split
 .unfold Zv SJ;have hc:DE w (yN 2 (rR w (GG w.r.Shelf.L w.o.Path w.o.Value w.o.Version))):=LP (rk h (WZ h.shelf _ _ _)) rfl rfl rfl rfl (by show w.l.length<=_;omega);split
  .exact ⟨hc.todG,hc.o,hc.iv,hc.seq,hc.seen,hc.len⟩
  .exact hc
 split
 .exact LP (rk h (agY h.shelf _ _)) rfl rfl rfl rfl (by show w.l.length<=_;omega)
 split
 .exact ⟨h,rfl,rfl,rfl,rfl,by show w.l.length<=_;omega⟩
 split
 .exact ⟨nP h (ag4 h.book _ _),rfl,rfl,rfl,rfl,by show w.l.length<=_;omega⟩
 split
 .exact ⟨nP h (adC h.book _).1,rfl,rfl,rfl,rfl,by show w.l.length<=_;omega⟩
 split
 .unfold GL;split
  .exact ZA (w:=w) (v:=LO w (uv w.r.aY w.o.Session)) (nP h (SH h.book w.o.Session)) rfl rfl rfl rfl (afw _) _
  .exact ⟨nP h (SH h.book _),rfl,rfl,rfl,rfl,by show w.l.length<=_;omega⟩
 split
 .unfold Ol;split
  .rename_i he;have hd:=Ok (Cv w.r.aY w.o.Span) (AX w);have ⟨h1,h2,h3,h4,h5,h6⟩:=AY (Cv w.r.aY w.o.Span) (v:=AX w) (nP h (Qh h.book he));have e1:(AX w).l.length=w.l.length:=rfl;have e2:(AX w).r.Shelf.L.length=w.r.Shelf.L.length:=rfl;exact ⟨h1,h2,by rw [h3];rfl,by rw [h3];rfl,h4,aah⟩
  .exact ⟨h,rfl,rfl,rfl,rfl,by show w.l.length<=_;omega⟩
 .exact ⟨⟨h.shelf,h.book,ZB h.table _⟩,rfl,rfl,rfl,rfl,by show w.l.length<=_;omega⟩
def xh {L:List ae}{o:ab}(h:(eM L o).2=false):SK o=true/\(eM L o).1=GM o 0/\((gq L o.Client).2=true->(gq L o.Client).1.Seq<o.Seq)/\((gq L o.Client).2=false->L.length<50):=by unfold eM at h⊢;grind
theorem adO (L:List ae)(c:Int):(gq L c).2=kL kR L c:=by unfold gq;grind
def ZC {r:aj}(h:cU r)(o:ab):qW r o=some (eN r o):=by
 have hf:=h.few;unfold qW eN mK;rw [adN h,av];cases hk:(eM r.Seen o).2 with
 |true=>rfl
 |false=>
  rw [if_neg aaD,if_neg aaD];have ⟨hm,zT,GR,uR⟩:=xh hk;have hp:=Qi hm;have hs:=h.shelf.len;have hd:=Xe (w:=⟨r,o,(eM r.Seen o).1,[]⟩) h.todG;refine (ag9 (w:=⟨r,o,(eM r.Seen o).1,[]⟩) h.todG (by grind) hp.2.2.1 _).trans ?_;have hxc:(Vs ⟨r,o,(eM r.Seen o).1,[]⟩).x.Client=o.Client:=by rw [hd.iv,zT];rfl
  have ht:=hd.table.len;have hlen:=hd.len;generalize Vs ⟨r,o,(eM r.Seen o).1,[]⟩=w at hd ht hlen hxc;dsimp only [aeg] at hlen;rw [ag0 w.r.aX w.l aah aah,av,Bk aah,av,Oj h.inc aah,av];dsimp only;unfold Cw;cases hh:kL kR r.Seen o.Client with
  |true=>have ⟨TF,he⟩:=(h.inc.has o.Client).1 hh;rw [if_pos rfl,if_pos rfl,bq TF,av,ad6]
  |false=>
   have hi:=Kb (key:=kR) (L:=r.Seen) (a:=w.x) (by':=72) aah;have hi:rZ 72 r.Seen (s8 kR r.Seen o.Client:Int) [w.x]=some (Ka kR r.Seen w.x):=by rw [<-hxc];exact hi
   rw [if_neg aaD,if_neg aaD,hi,av,av]
def ahb {r:aj}(h:cU r){c:Int}{x:ae}(hx:x.Client=c)(hc:0<=c/\c<=1000/\1<=x.Seq)(hl:kL kR r.Seen c=false->r.Seen.length<50): pM kR (Cw r.Seen c x)/\(Cw r.Seen c x).length<=50/\ ∀y∈Cw r.Seen c x,0<=y.Client/\y.Client<=1000/\1<=y.Seq:=by
 unfold Cw;subst hx;cases hh:kL kR r.Seen x.Client with
 |true=>
  have ⟨hk,he⟩:=(h.inc.has x.Client).1 hh;rw [if_pos rfl];refine ⟨SE (SF hk he.symm) h.inc,by rw [aey];exact h.few,λy hy=> ?_⟩;rcases afo hy with hy|rfl
  .exact h.seen y hy
  .exact hc
 |false=>
  refine ⟨Xc h.inc hh,by grind [Xd],λy hy=> ?_⟩;rcases Qg.1 hy with hy|rfl
  .exact h.seen y hy
  .exact hc
theorem LQ {r:aj}(h:cU r)(o:ab):cU (eN r o).1:=by
 unfold eN;cases hk:(eM r.Seen o).2 with
 |true=>exact h
 |false=>
  have ⟨hm,zT,GR,uR⟩:=xh hk;have hp:=Qi hm;have hd:DE ⟨r,o,(eM r.Seen o).1,[]⟩ (mK r o):=Xe (w:=⟨r,o,(eM r.Seen o).1,[]⟩) h.todG;have hxc:(mK r o).x.Client=o.Client:=by rw [hd.iv,zT];rfl
  have hxs:(mK r o).x.Seq=o.Seq:=by rw [hd.seq,zT];rfl
  have ⟨s1,s2,s3⟩:=ahb h hxc (by grind) (by grind [adO]);refine ⟨⟨hd.shelf,hd.book,?_⟩,s1,s2,s3⟩;grind [W9,Zz,hd.table,afa]
def rl:aj:=⟨⟨[⟨[47],[],0,0⟩]⟩,⟨0,[]⟩,⟨[]⟩,[]⟩
def adP:Bm=some rl:=rfl
def Um:cU rl:=by
 refine ⟨⟨⟨aaD,⟨λn hn=> ?_,by simp [rl]⟩,⟨_,OF.2 rfl,rfl⟩,λn hn=> ?_,λn hn _=> ?_,λn hn hp=> ?_⟩,⟨aaD,aaD,List.Pairwise.nil,(λx hx=>by cases hx)⟩,⟨aaD,(λx hx=>by cases hx),List.nodup_nil⟩⟩,List.Pairwise.nil,aaD,(λx hx=>by cases hx)⟩
 .rw [OF.1 hn];decide
 .rw [OF.1 hn];decide
 .rw [OF.1 hn]
 .rw [OF.1 hn] at hp;grind
structure Small (r:aj):Prop where
 shelf:r.Shelf.L.length<=1000
 book:r.aY.L.length<=1000
 table:r.aX.L.length<=1000
 seen:r.Seen.length<=1000
 now: -10000000000<=r.aY.eG->r.aY.eG<=10000000000
def Fa (r:aj):Prop:= ∀x∈r.Seen,x.Names.length<=1000
def Fb {r:aj}(h:cU r):Small r:=by have h1:=h.shelf.len;have h2:=h.book.len;have h3:=h.table.len;have h4:=h.few;have h5:=h.book.now;exact ⟨aah,aah,aah,aah,λ_=>aah⟩
def LR (x:ae)(h:x.Names.length<2^60):lS x x=some true:=by unfold lS;rw [if_pos rfl,if_pos rfl,if_pos rfl,if_pos rfl,if_pos rfl,Oe _ _ h,decide_eq_true rfl];rfl
def ahc (x y:aq):((decide (x.Id=y.Id))&&((decide (x.Span=y.Span))&&(decide (x.ek=y.ek))))=decide (x=y):=by cases x;cases y;simp
def LS (b:aw)(h:b.L.length<2^60):tz b b=some true:=by
 unfold tz;rw [if_pos rfl];have:dp b.L b.L=some true:=by
  unfold dp;rw [decide_eq_true rfl,if_neg aaD];have jx:Loop (dU b.L b.L) 0=some (.inl ()):=by
   refine bg.eq (bg.count (λk=>(k:Int)) b.L.length (λ_=>True) rfl trivial (λk hk _=> ?_) (λ_=> ?_))
   .unfold dU;rw [if_pos aah,bq hk,bq hk,ahc,decide_eq_true rfl,if_neg aaD,wrap64 aah aah];exact .mk ⟨aah,trivial⟩
   .unfold dU;rw [if_neg aah];exact .mk rfl
  rw [jx,av]
 rw [this];rfl
def AZ {r:aj}(h:Small r)(hn:Fa r):lT r r=some true:=by
 have h1:=h.shelf;have h2:=h.book;have h3:=h.table;have h4:=h.seen;unfold lT;rw [Qd _ _ aah,decide_eq_true rfl,av,if_pos rfl,LS _ aah,av,if_pos rfl,adt _ _ aah,decide_eq_true rfl,av,if_pos rfl];have:bp r.Seen r.Seen lS=some true:=by
  unfold bp;rw [decide_eq_true rfl,if_neg aaD];have jx:Loop (bj r.Seen r.Seen lS) 0=some (.inl ()):=by
   refine bg.eq (bg.count (λk=>(k:Int)) r.Seen.length (λ_=>True) rfl trivial (λk hk _=> ?_) (λ_=> ?_))
   .unfold bj;have:=hn _ (AI hk);rw [if_pos aah,bq hk,bq hk,LR _ aah,av,if_neg aaD,wrap64 aah aah];exact .mk ⟨aah,trivial⟩
   .unfold bj;rw [if_neg aah];exact .mk rfl
  rw [jx,av]
 rw [this];rfl
noncomputable def adQ (r:aj)(l:List ab):aj:=l.foldl (λr o=>(eN r o).1) r
def Vt {w v:ah}{k:Int}(h1:v.r.aX=w.r.aX)(h2:v.l=[]):(yN k v).r.aX=w.r.aX/\((yN k v).l≠[]->(yN k v).x.E=0):=by grind [yN,absurd]
def apG {w:ah}(hp:dG w.r)(hk:0<=w.o.Kind/\w.o.Kind<=11)(hl:w.l=[]): ((Vs w).r.aX=w.r.aX/\((Vs w).l≠[]->(Vs w).x.E=0))\/((w.o.Kind=10\/w.o.Kind=11)/\(Vs w).l=[]/\(Vs w).r.aX.L=(GI w.r.aX.L (vM w.o)).1):=by
 have Vu: ∀v:ah,v.r.aX=w.r.aX->v.l=[]->v.r.aX=w.r.aX/\(v.l≠[]->v.x.E=0):=(by grind)
 unfold Vs;split
 .grind
 split
 .left;unfold BJ;split
  .exact Vu _ rfl hl
  .exact Vt rfl hl
 split
 .exact .inl (Vu _ rfl hl)
 split
 .unfold Zv SJ;have hc:=Vt (w:=w) (v:=rR w (GG w.r.Shelf.L w.o.Path w.o.Value w.o.Version)) (k:=2) rfl hl;grind
 split
 .exact .inl (Vt rfl hl)
 split
 .exact .inl (Vu _ rfl hl)
 split
 .exact .inl (Vu _ rfl hl)
 split
 .exact .inl (Vu _ rfl hl)
 split
 .left;unfold GL;split
  .rename_i hz;exact ⟨rfl,λ_=>hz⟩
  .exact Vu _ rfl hl
 split
 .left;unfold Ol;split
  .rename_i he;have ⟨h1,h2,h3,h4,h5,h6⟩:=AY (Cv w.r.aY w.o.Span) (v:=AX w) (nP hp (Qh hp.book he));exact ⟨h6,λ_=>by rw [h3];rfl⟩
  .exact Vu _ rfl hl
 .exact .inr ⟨aah,hl,rfl⟩
def adR (L:List ak):lj L []=(L,[]):=rfl
def LU {r:aj}(h:cU r)(o:ab): (∀e∈(eN r o).2.2,e.W∈r.aX.L/\uu e.C e.W=true/\(eN r o).2.1.E=0)/\ (∀x∈(eN r o).1.aX.L,x∈r.aX.L\/(x=vM o/\(o.Kind=10\/o.Kind=11)))/\ ((eN r o).1.aX.L.length+(eN r o).2.2.length=r.aX.L.length\/((eN r o).2.2=[]/\(eN r o).1.aX.L.length=r.aX.L.length+1)):=by
 unfold eN;cases hk:(eM r.Seen o).2 with
 |true=>grind
 |false=>
  have ⟨hm,zT,GR,uR⟩:=xh hk;have hp:=Qi hm;rcases apG (w:=⟨r,o,(eM r.Seen o).1,[]⟩) h.todG hp.2.2.1 rfl with ⟨h1,h2⟩|⟨h1,h2,h3⟩
  .have h1:(mK r o).r.aX=r.aX:=h1;have h2:(mK r o).l≠[]->(mK r o).x.E=0:=h2;rw [h1];refine ⟨λe he=> ?_,λx hx=> ?_,.inl (Oi _ _)⟩
   .have ⟨g1,g2⟩:=alc _ _ e he;grind
   grind [W9]
  .have h2:(mK r o).l=[]:=h2;have h3:(mK r o).r.aX.L=(GI r.aX.L (vM o)).1:=h3;rw [h2,adR,h3];refine ⟨λe he=>(by cases he),λx hx=> ?_,?_⟩
   .grind [GI,OF]
   .unfold GI;grind
def BK (x:aq):bt:=⟨x.Id,x.Span,x.ek⟩
def H7 (x:ae):cn:=⟨x.Client,x.Seq,x.E,x.Value,x.Version,x.Names⟩
def pg (r:aj):ox:=⟨mO r.Shelf,⟨r.aY.eG,r.aY.L.map BK⟩,⟨r.aX.L.map LM⟩,r.Seen.map H7⟩
def SL {α:Type}{key:α->Int}{L:List α}(h: ∀k (hk:k<L.length)(h0:0<k),key (L[k-1]' aah)<key L[k]):pM key L:=by
 unfold pM;rw [adZ];intro i j hi hj ZF;induction j with
 |zero=>omega
 |succ j ih=>grind
def adS (b:aw)(k:Nat):Prop:= ∃hk:k<b.L.length,(1<=b.L[k].Id/\1<=b.L[k].Span/\b.L[k].Span<=1000/\b.eG<b.L[k].ek/\b.L[k].ek<=b.eG+b.L[k].Span)/\ ∀h0:0<k,(b.L[k-1]' aah).Id<b.L[k].Id
theorem SM (b:aw)(hl:b.L.length<=1000):bg (wQ ⟨b.eG,b.L.map BK⟩) λx=>x=true↔jP b:=by
 unfold wQ;dsimp only;rw [AT];have Ra: ∀q:Prop,(jP b->q)->(q->False)->bg (some false) λx=>x=true↔jP b:=λq h1 h2=> .mk ⟨λh=>(by cases h),λh=>absurd (h1 h) h2⟩;by_cases h1:b.eG<0
 .rw [if_pos h1,av,if_pos rfl];exact Ra _ (λh=>h.now.1) aah
 rw [if_neg h1];by_cases h2:1000000000<b.eG
 .rw [if_pos h2,av,if_pos rfl];exact Ra _ (λh=>h.now.2) aah
 rw [if_neg h2];by_cases h3:(50:Int)<(b.L.length:Int)
 .rw [decide_eq_true h3,av,if_pos rfl];exact Ra _ (λh=>h.len) aah
 rw [decide_eq_false h3,av,if_neg aaD];refine bg.bd (qM b.L.length (adS b) false (λk hk _=> ?_) ?_) ?_
 .unfold An;have hka:k<(b.L.map BK).length:=by rw [AT];exact hk
  dsimp only;rw [if_pos (by rw [AT];omega),bq hka,wrap64 (show-9223372036854775808<=(k:Int)+1 by omega) aah];have e1:(b.L.map BK)[k]=BK b.L[k]:=ad5 _;have hw:(if (BK b.L[k]).Id<1 then some true else if (BK b.L[k]).Span<1 then some true else if (1000:Int)<(BK b.L[k]).Span then some true else if (BK b.L[k]).ek<=b.eG then some true else if No .i64 (b.eG+(BK b.L[k]).Span)<(BK b.L[k]).ek then some true else if (0:Int)<(k:Int) then ix (b.L.map BK) (No .i64 ((k:Int)-1)) λy1=>some (decide ((BK b.L[k]).Id<=y1.Id)) else some false)=some true/\ ¬adS b k\/(if (BK b.L[k]).Id<1 then some true else if (BK b.L[k]).Span<1 then some true else if (1000:Int)<(BK b.L[k]).Span then some true else if (BK b.L[k]).ek<=b.eG then some true else if No .i64 (b.eG+(BK b.L[k]).Span)<(BK b.L[k]).ek then some true else if (0:Int)<(k:Int) then ix (b.L.map BK) (No .i64 ((k:Int)-1)) λy1=>some (decide ((BK b.L[k]).Id<=y1.Id)) else some false)=some false/\adS b k:=by
   show (if b.L[k].Id<1 then _ else if b.L[k].Span<1 then _ else if (1000:Int)<b.L[k].Span then _ else if b.L[k].ek<=b.eG then _ else if No .i64 (b.eG+b.L[k].Span)<b.L[k].ek then _ else if (0:Int)<(k:Int) then ix (b.L.map BK) (No .i64 ((k:Int)-1)) λy1=>some (decide (b.L[k].Id<=y1.Id)) else _)=_/\_\/(if b.L[k].Id<1 then _ else if b.L[k].Span<1 then _ else if (1000:Int)<b.L[k].Span then _ else if b.L[k].ek<=b.eG then _ else if No .i64 (b.eG+b.L[k].Span)<b.L[k].ek then _ else if (0:Int)<(k:Int) then ix (b.L.map BK) (No .i64 ((k:Int)-1)) λy1=>some (decide (b.L[k].Id<=y1.Id)) else _)=_/\_;by_cases g1:b.L[k].Id<1
   .exact .inl ⟨if_pos g1,λ⟨_,h,_⟩=>aah⟩
   rw [if_neg g1];by_cases g2:b.L[k].Span<1
   .exact .inl ⟨if_pos g2,λ⟨_,h,_⟩=>aah⟩
   rw [if_neg g2];by_cases g3:1000<b.L[k].Span
   .exact .inl ⟨if_pos g3,λ⟨_,h,_⟩=>aah⟩
   rw [if_neg g3];by_cases g4:b.L[k].ek<=b.eG
   .exact .inl ⟨if_pos g4,λ⟨_,h,_⟩=>aah⟩
   rw [if_neg g4,wrap64 aah aah];by_cases g5:b.eG+b.L[k].Span<b.L[k].ek
   .exact .inl ⟨if_pos g5,λ⟨_,h,_⟩=>aah⟩
   rw [if_neg g5];by_cases g6:(0:Int)<(k:Int)
   .have hk1:k-1<(b.L.map BK).length:=aah
    rw [if_pos g6,wrap64 aah aah,show (k:Int)-1=((k-1:Nat):Int) by omega,bq hk1];have e2:(b.L.map BK)[k-1]=BK (b.L[k-1]' aah):=ad5 _;rw [e2];by_cases g7:b.L[k].Id<=(BK (b.L[k-1]' aah)).Id
    .exact .inl ⟨by rw [decide_eq_true g7],λ⟨_,_,h⟩=>by have h:=h aah;have g7:b.L[k].Id<=(b.L[k-1]' aah).Id:=g7;omega⟩
    .exact .inr ⟨by rw [decide_eq_false g7],hk,aah,λ_=>by have g7: ¬b.L[k].Id<=(b.L[k-1]' aah).Id:=g7;omega⟩
   .exact .inr ⟨if_neg g6,hk,aah,λh0=>aah⟩
  rw [e1];rcases hw with ⟨hw,hn⟩|⟨hw,hn⟩
  .rw [hw,av,if_pos rfl];exact ⟨λh=>absurd h hn,λ_=>rfl⟩
  .rw [hw,av,if_neg aaD];exact ⟨λ_=>rfl,λh=>absurd hn h⟩
 .unfold An;dsimp only;rw [if_neg (by rw [AT];omega)]
 .rintro x (⟨rfl,h⟩|⟨rfl,k,hk,h⟩)
  .refine .mk ⟨λ_=>⟨⟨aah,aah⟩,aah,SL λk hk h0=>(h k hk).2.2 h0,λx hx=> ?_⟩,λ_=>rfl⟩;obtain ⟨k,hk,rfl⟩:=sh.1 hx;exact (h k hk).2.1
  .refine .mk ⟨λhh=>(by cases hh),λhb=>absurd ⟨hk,hb.all _ (AI hk),λh0=>hb.inc.lt hk aah⟩ h⟩
def alg (L:List ae)(k:Nat):Prop:= ∃hk:k<L.length,(0<=L[k].Client/\L[k].Client<=1000/\1<=L[k].Seq)/\ ∀h0:0<k,(L[k-1]' aah).Client<L[k].Client
theorem SN {r:aj}(h:Small r):bg (pU (pg r)) λx=>x=true↔cU r:=by
 have h1:=h.shelf;have h2:=h.book;have h3:=h.table;have h4:=h.seen;have Ra:(cU r->False)->bg (some false) λx=>x=true↔cU r:=λh2=> .mk ⟨λh=>(by cases h),λh=>absurd h h2⟩;unfold pU;rw [show (pg r).Shelf=mO r.Shelf from rfl,Su _ aah,av];cases hs:AV r.Shelf.L with
 |false=>rw [if_pos (show (!false)=true from rfl),av,if_pos rfl];exact Ra λh=>by rw [Og.2 h.shelf] at hs;cases hs
 |true=>
 rw [if_neg aaD];obtain ⟨b2,e2,g2⟩:=SM r.aY h2;rw [show (pg r).aY=⟨r.aY.eG,r.aY.L.map BK⟩ from rfl,e2,av];cases b2 with
 |false=>rw [if_pos (show (!false)=true from rfl),av,if_pos rfl];exact Ra λh=>by have:=g2.2 h.book;cases this
 |true=>
 rw [if_neg aaD];obtain ⟨b3,e3,g3⟩:=SD r.aX.L h3;rw [show (pg r).aX=⟨r.aX.L.map LM⟩ from rfl,e3,av];cases b3 with
 |false=>rw [if_pos (show (!false)=true from rfl),av,if_pos rfl];exact Ra λh=>by have:=g3.2 h.table;cases this
 |true=>
 rw [if_neg aaD];have nA:(pg r).Seen.length=r.Seen.length:=AT _;rw [nA];by_cases S6:(50:Int)<(r.Seen.length:Int)
 .rw [decide_eq_true S6,av,if_pos rfl];exact Ra λh=>by have:=h.few;omega
 rw [decide_eq_false S6,av,if_neg aaD];refine bg.bd (qM r.Seen.length (alg r.Seen) false (λk hk _=> ?_) ?_) ?_
 .unfold Ap;have hka:k<(pg r).Seen.length:=aah
  rw [if_pos aah,bq hka,wrap64 (show-9223372036854775808<=(k:Int)+1 by omega) aah];have e1:(pg r).Seen[k]=H7 r.Seen[k]:=ad5 _;rw [e1];have hw:(if (H7 r.Seen[k]).Client<0 then some true else if (1000:Int)<(H7 r.Seen[k]).Client then some true else if (H7 r.Seen[k]).Seq<1 then some true else if (0:Int)<(k:Int) then ix (pg r).Seen (No .i64 ((k:Int)-1)) λy1=>some (decide ((H7 r.Seen[k]).Client<=y1.Client)) else some false)=some true/\ ¬alg r.Seen k\/(if (H7 r.Seen[k]).Client<0 then some true else if (1000:Int)<(H7 r.Seen[k]).Client then some true else if (H7 r.Seen[k]).Seq<1 then some true else if (0:Int)<(k:Int) then ix (pg r).Seen (No .i64 ((k:Int)-1)) λy1=>some (decide ((H7 r.Seen[k]).Client<=y1.Client)) else some false)=some false/\alg r.Seen k:=by
   show (if r.Seen[k].Client<0 then _ else if (1000:Int)<r.Seen[k].Client then _ else if r.Seen[k].Seq<1 then _ else if (0:Int)<(k:Int) then ix (pg r).Seen (No .i64 ((k:Int)-1)) λy1=>some (decide (r.Seen[k].Client<=y1.Client)) else _)=_/\_\/(if r.Seen[k].Client<0 then _ else if (1000:Int)<r.Seen[k].Client then _ else if r.Seen[k].Seq<1 then _ else if (0:Int)<(k:Int) then ix (pg r).Seen (No .i64 ((k:Int)-1)) λy1=>some (decide (r.Seen[k].Client<=y1.Client)) else _)=_/\_;by_cases g1:r.Seen[k].Client<0
   .exact .inl ⟨if_pos g1,λ⟨_,h,_⟩=>aah⟩
   rw [if_neg g1];by_cases g2:1000<r.Seen[k].Client
   .exact .inl ⟨if_pos g2,λ⟨_,h,_⟩=>aah⟩
   rw [if_neg g2];by_cases g3:r.Seen[k].Seq<1
   .exact .inl ⟨if_pos g3,λ⟨_,h,_⟩=>aah⟩
   rw [if_neg g3];by_cases g6:(0:Int)<(k:Int)
   .have hk1:k-1<(pg r).Seen.length:=aah
    rw [if_pos g6,wrap64 aah aah,show (k:Int)-1=((k-1:Nat):Int) by omega,bq hk1];have e2:(pg r).Seen[k-1]=H7 (r.Seen[k-1]' aah):=ad5 _;rw [e2];by_cases g7:r.Seen[k].Client<=(H7 (r.Seen[k-1]' aah)).Client
    .exact .inl ⟨by rw [decide_eq_true g7],λ⟨_,_,h⟩=>by have h:=h aah;have g7:r.Seen[k].Client<=(r.Seen[k-1]' aah).Client:=g7;omega⟩
    .exact .inr ⟨by rw [decide_eq_false g7],hk,aah,λ_=>by have g7: ¬r.Seen[k].Client<=(r.Seen[k-1]' aah).Client:=g7;omega⟩
   .exact .inr ⟨if_neg g6,hk,aah,λh0=>aah⟩
  rcases hw with ⟨hw,hn⟩|⟨hw,hn⟩
  .rw [hw,av,if_pos rfl];exact ⟨λh=>absurd h hn,λ_=>rfl⟩
  .rw [hw,av,if_neg aaD];exact ⟨λ_=>rfl,λh=>absurd hn h⟩
 .unfold Ap;rw [if_neg aah]
 .rintro x (⟨rfl,hh⟩|⟨rfl,k,hk,hh⟩)
  .refine .mk ⟨λ_=>⟨⟨Og.1 hs,g2.1 rfl,g3.1 rfl⟩,SL λk hk h0=>(hh k hk).2.2 h0,aah,λx hx=> ?_⟩,λ_=>rfl⟩;obtain ⟨k,hk,rfl⟩:=sh.1 hx;exact (hh k hk).2.1
  .exact .mk ⟨λh=>(by cases h),λhb=>absurd ⟨hk,hb.seen _ (AI hk),λh0=>hb.inc.lt hk aah⟩ hh⟩
def Xf (w:ah)(k:Int):(yN k w).x=w.x:=by grind [yN]
def adT {w:ah}(hp:dG w.r)(h:w.x.Names.length<=1000):(Vs w).x.Names.length<=1000:=by
 have hs:=hp.shelf.len;unfold Vs;split
 .exact h
 split
 .unfold BJ;split
  .exact h
  .rw [Xf];exact h
 split
 .exact h
 split
 .unfold Zv SJ;split
  .rw [Xf];exact h
  .rw [Xf];exact h
 split
 .unfold IG;rw [Xf];exact h
 split
 .have:=Zg w.r.Shelf.L w.o.Path;show (LI w.r.Shelf.L w.o.Path).1.length<=1000;omega
 split
 .exact h
 split
 .exact h
 split
 .unfold GL;split<;>exact h
 split
 .unfold Ol;split
  .rename_i he;have ⟨h1,h2,h3,h4,h5,h6⟩:=AY (Cv w.r.aY w.o.Span) (v:=AX w) (nP hp (Qh hp.book he));rw [h3];exact h
  .exact h
 .exact h
theorem SO {L:List ae}(hs:pM kR L){c:Int}{x:ae}(hx:x.Client=c)(y:ae):y∈Cw L c x↔y=x\/(y∈L/\y.Client≠c):=by
 unfold Cw;subst hx;cases hh:kL kR L x.Client with
 |false=>
  rw [if_neg aaD,Qg];constructor
  .rintro (h|h)
   .refine .inr ⟨h,λhe=> ?_⟩;have:kL kR L x.Client=true:=Eu.2 ⟨y,h,he⟩;grind
   grind
  grind
 |true=>
  have ⟨hk,he⟩:=(hs.has x.Client).1 hh;have dt: ∀j (hj:j<L.length),j≠s8 kR L x.Client->L[j].Client≠x.Client:=by
   intro j hj hjn hjc;have he:L[s8 kR L x.Client].Client=x.Client:=he;rcases Nat.lt_or_gt_of_ne hjn with dh|dh
   .have h5:L[j].Client<L[s8 kR L x.Client].Client:=hs.lt hk dh;omega
   .have h5:L[s8 kR L x.Client].Client<L[j].Client:=hs.lt hj dh;omega
  rw [sh];constructor
  .grind
  .rintro (rfl|⟨hy,hyc⟩)
   .grind
   .obtain ⟨j,hj,rfl⟩:=sh.1 hy;grind
theorem Xg {L:List ae}(hs:pM kR L){y:ae}(hy:y∈L):gq L y.Client=(y,true):=by
 have hh:kL kR L y.Client=true:=Eu.2 ⟨y,hy,rfl⟩;have ⟨hk,he⟩:=(hs.has y.Client).1 hh;unfold gq;obtain ⟨j,hj,rfl⟩:=sh.1 hy;have hjk:j=s8 kR L L[j].Client:=by
  have he:L[s8 kR L L[j].Client].Client=L[j].Client:=he;rcases aeP j (s8 kR L L[j].Client) with dh|ol|dh
  .have h5:L[j].Client<L[s8 kR L L[j].Client].Client:=hs.lt hk dh;omega
  .exact ol
  .have h5:L[s8 kR L L[j].Client].Client<L[j].Client:=hs.lt hj dh;omega
 grind
theorem adU {L:List ae}{c:Int}(h: ∀y∈L,y.Client≠c):gq L c=(noR,false):=by simp_all [gq,kL,kR,Eu,absurd]
def SP {L:List ae}{c:Int}(hs:pM kR L)(h:(gq L c).2=true):(gq L c).1∈L/\(gq L c).1.Client=c:=by
 unfold gq at h⊢;cases hh:kL kR L c with
 |false=>grind
 |true=>have ⟨hk,he⟩:=(hs.has c).1 hh;grind
def Vv {L M:List ae}(hs:pM kR L)(hm:pM kR M) {c c':Int}(h: ∀y:ae,y.Client≠c->(y∈M↔y∈L))(hc:c'≠c):gq M c'=gq L c':=by
 cases hl:(gq L c').2 with
 |true=>have ⟨h1,h2⟩:=SP hs hl;have h3:=(h _ (by rw [h2];exact hc)).2 h1;have h4:=Xg hm h3;grind
 |false=>
  have Ra: ∀y∈L,y.Client≠c':=(by grind [Xg])
  grind [adU]
def LV {r:aj}(h:cU r)(o:ab){c:Int}(hc:c≠o.Client):gq (eN r o).1.Seen c=gq r.Seen c:=by
 have pw:=LQ h o;unfold eN at pw⊢;cases hk:(eM r.Seen o).2 with
 |true=>rfl
 |false=>
  rw [hk,if_neg aaD] at pw;have ⟨hm,zT,GR,uR⟩:=xh hk;have hd:DE ⟨r,o,(eM r.Seen o).1,[]⟩ (mK r o):=Xe (w:=⟨r,o,(eM r.Seen o).1,[]⟩) h.todG;have hxc:(mK r o).x.Client=o.Client:=by rw [hd.iv,zT];rfl
  refine Vv (c:=o.Client) h.inc pw.inc (λy hy=> ?_) hc;grind [SO,h.inc,absurd]
theorem SQ {r:aj}(h:cU r)(hn:Fa r)(o:ab):Fa (eN r o).1/\(eN r o).2.1.Names.length<=1000:=by
 have hkn:(eM r.Seen o).1.Names.length<=1000:=by
  unfold eM;split
  .exact aeo _
  split
  .rename_i hl;split
   .exact hn _ (SP h.inc hl).1
   split
   .exact aeo _
   .exact aeo _
  .split
   .exact aeo _
   .exact aeo _
 unfold eN;cases hk:(eM r.Seen o).2 with
 |true=>grind
 |false=>
  have ⟨hm,zT,GR,uR⟩:=xh hk;have hd:DE ⟨r,o,(eM r.Seen o).1,[]⟩ (mK r o):=Xe (w:=⟨r,o,(eM r.Seen o).1,[]⟩) h.todG;have hxc:(mK r o).x.Client=o.Client:=by rw [hd.iv,zT];rfl
  have hx:(mK r o).x.Names.length<=1000:=adT (w:=⟨r,o,(eM r.Seen o).1,[]⟩) h.todG hkn;refine ⟨λy hy=> ?_,hx⟩;rcases (SO h.inc hxc y).1 hy with rfl|⟨hy,_⟩
  .exact hx
  .exact hn y hy
def Vw (l:List ab): ∀{r:aj},cU r->Fa r->Fa (adQ r l):=by
 unfold adQ;induction l with
 |nil=>grind
 |cons o l ih=>grind [LQ,SQ]
noncomputable def Cx (st:aj×List ae×List aT)(o:ab):aj×List ae×List aT:=((eN st.1 o).1,st.2.1++[(eN st.1 o).2.1],st.2.2++(eN st.1 o).2.2)
noncomputable def pC (r:aj)(l:List ab):aj×List ae×List aT:=l.foldl Cx (r,[],[])
def On (l:List ab): ∀{st:aj×List ae×List aT},cU st.1->(l.foldl Cx st).1=adQ st.1 l/\cU (l.foldl Cx st).1/\(l.foldl Cx st).2.1.length=st.2.1.length+l.length/\(l.foldl Cx st).2.2.length<=st.2.2.length+200 *l.length:=by
 induction l with
 |nil=>intro st h;exact ⟨rfl,h,rfl,aaS⟩
 |cons o l ih=>
  intro st h;have Md:(eN st.1 o).2.2.length<=200:=by
   have:=(LU h o).2.2;have:=h.table.len;rcases (LU h o).2.2 with h|⟨h,_⟩
   .omega
   .grind
  have ⟨h1,h2,h3,h4⟩:=ih (st:=Cx st o) (LQ h o);refine ⟨h1,h2,?_,?_⟩;all_goals grind [Cx,ad8,ad4,aeg,aer]
def adV (s:aj×List ae×List aT)(k:Int):abs:=(s.1.Shelf.L,s.1.aY.eG,s.1.aY.L,s.1.aX.L,s.1.Seen,s.2.1,s.2.2,k)
def adW {r:aj}(h:cU r)(l:List ab)(hl:l.length<=1000):xS r l=some (pC r l):=by
 have jx:Loop (oQ l) (adV (r,[],[]) 0)=some ((pC r l).1.Shelf.L,(pC r l).1.aY.eG,(pC r l).1.aY.L,(pC r l).1.aX.L,(pC r l).1.Seen,(pC r l).2.1,(pC r l).2.2):=by
  refine bg.eq (bg.count (λk=>adV (pC r (l.take k)) (k:Int)) l.length (λ_=>True) rfl trivial (λk hk _=> ?_) (λ_=> ?_))
  .have hs:pC r (l.take (k+1))=Cx (pC r (l.take k)) l[k]:=DC hk;rw [hs];have ⟨h1,h2,h3,h4⟩:=On (l.take k) (st:=(r,[],[])) h;have h3:(pC r (l.take k)).2.1.length=0+(l.take k).length:=h3;have h4:(pC r (l.take k)).2.2.length<=0+200 *(l.take k).length:=h4;have h2:cU (pC r (l.take k)).1:=h2;rw [ab3] at h3 h4;generalize pC r (l.take k)=s at h2 h3 h4;have ha:=ZC h2 l[k];have Md:(eN s.1 l[k]).2.2.length<=200:=by
    have:=h2.table.len;rcases (LU h2 l[k]).2.2 with h|⟨h,_⟩
    .omega
    .grind
   unfold oQ adV;dsimp only;rw [if_pos aah,bq hk];refine bg.of (a:=Sum.inl (adV (Cx s l[k]) ((k+1:Nat):Int))) (dq ha ?_) ?_;rotate_left
   .exact ⟨rfl,trivial⟩
   rw [av,if_pos (by grind),if_pos aah,wrap64 aah aah];rfl
  .unfold oQ adV;dsimp only;rw [if_neg aah,IN];exact .mk rfl
 exact dq jx rfl
def aiA (r:aj)(o:ab):Prop:=(gq r.Seen o.Client).2=true->(gq r.Seen o.Client).1.Seq<o.Seq
def Vx (r:aj)(o:ab):Prop:=((gq r.Seen o.Client).2=true/\(gq r.Seen o.Client).1.Seq=o.Seq)\/((gq r.Seen o.Client).2=false/\50<=r.Seen.length)
def ZD {L:List ae}(c:Int)(x:ae):L.length<=(Cw L c x).length:=by
 unfold Cw;split
 .rw [aey];exact afw _
 .unfold Ka;simp only [ad8,ad4,ab3,ad1];omega
def Vy {r:aj}(o:ab):r.Seen.length<=(eN r o).1.Seen.length:=by
 unfold eN;split
 .exact afw _
 .exact ZD _ _
def Vx.other {r:aj}(h:cU r){o x:ab}(hc:o.Client≠x.Client)(hd:Vx r o):Vx (eN r x).1 o:=by
 have hl:=LV h x hc;rcases hd with hd|⟨h1,h2⟩
 .exact .inl (by rw [hl];exact hd)
 .exact .inr ⟨by rw [hl];exact h1,aer h2 (Vy x)⟩
structure agb (r:aj) (l:List ab):Prop where
 may: ∀o∈l,SK o=true
 new: ∀o∈l,aiA r o
 pair:l.Pairwise λa b=>a.Client≠b.Client
def agb.tail {r:aj}(hr:cU r){o:ab}{l:List ab}(h:agb r (o::l)):agb (eN r o).1 l:=by have hp:=afj.1 h.pair;refine ⟨λx hx=>h.may x (by simp [hx]),λx hx=> ?_,hp.2⟩;unfold aiA;rw [LV hr o (hp.1 x hx).symm];exact h.new x (by simp [hx])
def Fc (s:List UInt8):Prop:=s.length<2^40\/ ∃l:List ab,l.length<=10/\(∀o∈l,GB o)/\(∀o∈l,sv o)/\s=E0 (vK l)
noncomputable def zJ (r:aj)(s:List UInt8):aj:=match dj r s with
 |some x=>x.1
 |none=>r
def IH {r:aj}(h:cU r)(hn:Fa r){s:List UInt8}(hs:Fc s):(∃x,dj r s=some x/\zJ r s=x.1)/\cU (zJ r s)/\Fa (zJ r s)/\(∀q,dv s=some q->q.2≠0->zJ r s=r):=by
 have hl: ∀l:List ab,l.length<=10->dv s=some (l,0)->(∃x,dj r s=some x/\zJ r s=x.1)/\cU (zJ r s)/\Fa (zJ r s)/\(∀q,dv s=some q->q.2≠0->zJ r s=r):=by
  intro l hl e;have ea:dj r s=some ((pC r l).1,(pC r l).2.1,0):=by unfold dj;rw [e,av,decide_eq_true rfl,if_neg aaS,adW h l aah,av]
  obtain ⟨h1,h2,_,_⟩:=On l (st:=(r,[],[])) h;have e2:zJ r s=(pC r l).1:=by unfold zJ;rw [ea]
  refine ⟨⟨_,ea,e2⟩,?_,?_,λq hq dt=> ?_⟩
  .rw [e2];exact h2
  .rw [e2];show Fa (l.foldl Cx (r,[],[])).1;rw [h1];exact Vw l h hn
  .rw [e] at hq;cases hq;exact absurd rfl dt
 rcases hs with hs|⟨l,h1,h2,h3,rfl⟩
 .obtain ⟨q,eq,hq⟩:=N9 hs;rcases hq with hq|rfl
  .obtain ⟨l,e⟩:=q;simp only at hq;subst hq;exact hl l (Sk hs eq).1 eq
  .have ea:dj r s=some (r,[],3):=by unfold dj;rw [eq,av];rfl
   have e2:zJ r s=r:=by unfold zJ;rw [ea]
   exact ⟨⟨_,ea,e2⟩,by rw [e2];exact h,by rw [e2];exact hn,λ_ _ _=>e2⟩
 .exact hl l h1 (U9 h2 h3 h1)
def IJ {l:List (List UInt8)}(hl: ∀s∈l,Fc s): ∀{r:aj},cU r->Fa r->cU (l.foldl zJ r)/\Fa (l.foldl zJ r):=by
 induction l with
 |nil=>intro r h hn;exact ⟨h,hn⟩
 |cons s l ih=>intro r h hn;obtain ⟨_,h1,h2,_⟩:=IH h hn (hl s aaS);exact ih (λx hx=>hl x (by simp [hx])) h1 h2
def wg (r:aj)(i:Int):abc:=(r.Shelf.L,r.aY.eG,r.aY.L,r.aX.L,r.Seen,i)
def adX {l:List (List UInt8)}(hg: ∀s∈l,Fc s)(hl:l.length<2^40):kb l=some (l.foldl zJ rl):=by
 unfold kb;rw [adP,av];have ja:Fa rl:=λy hy=>by cases hy
 have h1:Loop (lR l) (wg rl 0)=some ((l.foldl zJ rl).Shelf.L,(l.foldl zJ rl).aY.eG,(l.foldl zJ rl).aY.L,(l.foldl zJ rl).aX.L,(l.foldl zJ rl).Seen):=by
  refine bg.eq (bg.count (λk=>wg ((l.take k).foldl zJ rl) (k:Int)) l.length (λ_=>True) rfl trivial (λk hk _=> ?_) (λ_=> ?_))
  .obtain ⟨q1,q2⟩:=IJ (l:=l.take k) (λs hs=>hg s (aeb hs)) Um ja;obtain ⟨⟨x,e1,e2⟩,_⟩:=IH q1 q2 (hg _ (AI hk));have e1':dj ⟨⟨((l.take k).foldl zJ rl).Shelf.L⟩,⟨((l.take k).foldl zJ rl).aY.eG,((l.take k).foldl zJ rl).aY.L⟩,⟨((l.take k).foldl zJ rl).aX.L⟩,((l.take k).foldl zJ rl).Seen⟩ l[k]=some x:=e1;unfold lR wg;rw [if_pos (by dsimp only;omega),bq hk,e1',av];dsimp only;rw [wrap64 aah aah];refine .mk ⟨?_,trivial⟩;rw [aec,bo hk,afA];simp only [Option.toList,List.foldl_cons,List.foldl_nil,e2];simp
  .unfold lR wg;rw [if_neg (by dsimp only;omega),IN];exact .mk rfl
 rw [show (rl.Shelf.L,rl.aY.eG,rl.aY.L,rl.aX.L,rl.Seen,(0:Int))=wg rl 0 from rfl,h1,av]
theorem ahd {r:aj}(h:Small r):pV r=some (pg r):=by
 have h1:=h.shelf;have h2:=h.book;have h3:=h.table;have h4:=h.seen;unfold pV;have l1:Loop (qX r) (([]:List cI),r.aY.eG,([]:List bt),([]:List bh),([]:List cn),0)=some (([]:List cI),r.aY.eG,([]:List bt),([]:List bh),r.Seen.map H7):=by
  refine bg.eq (bg.count (λk=>(([]:List cI),r.aY.eG,([]:List bt),([]:List bh),(r.Seen.take k).map H7,(k:Int))) r.Seen.length (λ_=>True) aaS trivial (λk hk _=> ?_) (λ_=> ?_))
  .unfold qX;dsimp only;have:= @E9 _ _ H7 r.Seen k;rw [if_pos aah,bq hk,show EB r.Seen[k]=some (H7 r.Seen[k]) from rfl,av,if_pos (by simp only [ad4,aeg];omega),wrap64 aah aah,xf hk];exact .mk ⟨rfl,trivial⟩
  .unfold qX;dsimp only;rw [if_neg aah,IN];exact .mk rfl
 rw [l1,av];dsimp only;have l2:Loop (qY r) (([]:List cI),r.aY.eG,([]:List bt),([]:List bh),r.Seen.map H7,0)=some (r.Shelf.L.map toR,r.aY.eG,([]:List bt),([]:List bh),r.Seen.map H7):=by
  refine bg.eq (bg.count (λk=>((r.Shelf.L.take k).map toR,r.aY.eG,([]:List bt),([]:List bh),r.Seen.map H7,(k:Int))) r.Shelf.L.length (λ_=>True) aaS trivial (λk hk _=> ?_) (λ_=> ?_))
  .unfold qY;dsimp only;have:= @E9 _ _ toR r.Shelf.L k;rw [if_pos aah,bq hk,if_pos (by simp only [ad4,aeg];omega),wrap64 aah aah,xf hk];exact .mk ⟨rfl,trivial⟩
  .unfold qY;dsimp only;rw [if_neg aah,IN];exact .mk rfl
 rw [l2,av];dsimp only;have l3:Loop (qZ r) (r.Shelf.L.map toR,r.aY.eG,([]:List bt),([]:List bh),r.Seen.map H7,0)=some (r.Shelf.L.map toR,r.aY.eG,r.aY.L.map BK,([]:List bh),r.Seen.map H7):=by
  refine bg.eq (bg.count (λk=>(r.Shelf.L.map toR,r.aY.eG,(r.aY.L.take k).map BK,([]:List bh),r.Seen.map H7,(k:Int))) r.aY.L.length (λ_=>True) aaS trivial (λk hk _=> ?_) (λ_=> ?_))
  .unfold qZ;dsimp only;have:= @E9 _ _ BK r.aY.L k;rw [if_pos aah,bq hk,if_pos (by simp only [ad4,aeg];omega),wrap64 aah aah,xf hk];exact .mk ⟨rfl,trivial⟩
  .unfold qZ;dsimp only;rw [if_neg aah,IN];exact .mk rfl
 rw [l3,av];dsimp only;have l4:Loop (q0 r) (r.Shelf.L.map toR,r.aY.eG,r.aY.L.map BK,([]:List bh),r.Seen.map H7,0)=some (r.Shelf.L.map toR,r.aY.eG,r.aY.L.map BK,r.aX.L.map LM,r.Seen.map H7):=by
  refine bg.eq (bg.count (λk=>(r.Shelf.L.map toR,r.aY.eG,r.aY.L.map BK,(r.aX.L.take k).map LM,r.Seen.map H7,(k:Int))) r.aX.L.length (λ_=>True) aaS trivial (λk hk _=> ?_) (λ_=> ?_))
  .unfold q0;dsimp only;have:= @E9 _ _ LM r.aX.L k;rw [if_pos aah,bq hk,if_pos (by simp only [ad4,aeg];omega),wrap64 aah aah,xf hk];exact .mk ⟨rfl,trivial⟩
  .unfold q0;dsimp only;rw [if_neg aah,IN];exact .mk rfl
 rw [l4,av];dsimp only;rfl
def alh {l:List (List UInt8)}(hg: ∀s∈l,Fc s)(hl:l.length<2^40){r:aj}(h:cU r)(hn:Fa r){i:Nat}(hi:i<=l.length):Loop (eK l) (wg r (i:Int))=some (((l.drop i).foldl zJ r).Shelf.L,((l.drop i).foldl zJ r).aY.eG,((l.drop i).foldl zJ r).aY.L,((l.drop i).foldl zJ r).aX.L,((l.drop i).foldl zJ r).Seen):=by
 have hd: ∀s∈l.drop i,Fc s:=λs hs=>hg s (ahe hs);refine bg.eq (bg.count (λk=>wg (((l.drop i).take k).foldl zJ r) ((i+k:Nat):Int)) (l.drop i).length (λ_=>True) aaS trivial (λk hk _=> ?_) (λ_=> ?_))
 .obtain ⟨q1,q2⟩:=IJ (l:=(l.drop i).take k) (λs hs=>hd s (aeb hs)) h hn;have hk':i+k<l.length:=by rw [ad1] at hk;omega
  have nC:(l.drop i)[k]=l[i+k]:=by rw [aei]
  obtain ⟨⟨x,e1,e2⟩,_⟩:=IH q1 q2 (hg _ (AI hk'));generalize hR:((l.drop i).take k).foldl zJ r=R at e1 e2;have e1':dj ⟨⟨R.Shelf.L⟩,⟨R.aY.eG,R.aY.L⟩,⟨R.aX.L⟩,R.Seen⟩ l[i+k]=some x:=e1;unfold eK wg;rw [if_pos (by dsimp only;omega),bq hk',e1',av];dsimp only;rw [wrap64 aah aah];refine .mk ⟨?_,trivial⟩;rw [aec,bo hk,afA,hR,nC];simp only [Option.toList,List.foldl_cons,List.foldl_nil,e2];simp;omega
 .unfold eK wg;rw [if_neg (by dsimp only;rw [ad1];omega),IN];exact .mk rfl
def apH {a:List (List ab)}{log:List (List UInt8)}{i:Nat}(hi:i<a.length):bg (Loop (kc a (log,(i:Int))) 0) λw=>w= .inr true\/(w= .inl ()/\a[i].length<=6):=by
 refine bg.loop (λst=> ∃k:Nat,st=(k:Int)/\k<=a[i].length/\k<=6) (λst=>a[i].length-st.toNat) ⟨0,rfl,aah,aah⟩ ?_;rintro st ⟨k,rfl,h1,h2⟩;unfold kc;rw [bq hi];by_cases dh:k<a[i].length;rotate_left
 .rw [if_neg aah];exact .mk (.inr ⟨rfl,aah⟩)
 rw [if_pos aah];have stop: ∀{X:Option Bool},X=some true->(bd X λw3=>if w3 then bd nX λaZ=>(some (.inr (.inr aZ)):Option (Int⊕(Unit⊕Bool))) else some (.inl (No .i64 ((k:Int)+1))))=some (.inr (.inr true)):=by rintro X rfl;rw [av,if_pos rfl,show nX=some true from rfl,av]
 by_cases h6:k=6
 .rw [if_pos aah,stop rfl];exact .mk (.inl rfl)
 rw [if_neg aah,bq hi,bq dh];by_cases hp:(300:Int)<(a[i][k].Path.length:Int)
 .rw [if_pos hp,stop rfl];exact .mk (.inl rfl)
 rw [if_neg hp,bq hi,bq dh];by_cases hv:(300:Int)<(a[i][k].Value.length:Int)
 .rw [decide_eq_true hv,stop rfl];exact .mk (.inl rfl)
 rw [decide_eq_false hv,av,if_neg aaS,wrap64 aah aah];exact .mk ⟨⟨k+1,aaS,aah,aah⟩,by simp;omega⟩
def apI {a:List (List ab)}(hN: ∀l∈a,∀o∈l,GB o)(hl:a.length<=12):bg (Loop (ke a) (([]:List (List UInt8)),0)) λw=>w= .inr true\/ ∃log,w= .inl log/\(∀s∈log,Fc s)/\log.length<=12:=by
 refine bg.loop (λst=> ∃i:Nat,st.2=(i:Int)/\i<=a.length/\st.1.length=i/\ ∀s∈st.1,Fc s) (λst=>a.length-st.2.toNat) ⟨0,rfl,aah,rfl,aaS⟩ ?_;rintro ⟨log,n⟩ ⟨i,rfl,h1,h2,h3⟩;unfold ke;dsimp only at h2 h3⊢;by_cases dh:i<a.length;rotate_left
 .rw [if_neg aah];exact .mk (.inr ⟨log,rfl,h3,aah⟩)
 rw [if_pos aah];obtain ⟨w,ew,hw⟩:=apH (log:=log) dh;rw [ew,av];rcases hw with rfl|⟨rfl,h6⟩
 .exact .mk (.inl rfl)
 dsimp only;rw [bq dh,Y6 (hN _ (AI dh)) aah,av,if_pos (by simp;omega),wrap64 aah aah];refine .mk ⟨⟨i+1,aaS,aah,by simp [h2],λs hs=> ?_⟩,by simp;omega⟩;rcases ae8.1 hs with hs|hs
 .exact h3 s hs
 .rw [OF.1 hs,if_neg (show¬10<a[i].length by omega)];by_cases hM: ∀o∈a[i],sv o
  .rw [if_pos hM];exact .inr ⟨_,aah,hN _ (AI dh),hM,rfl⟩
  .rw [if_neg hM];exact .inl aaS
theorem H8 (a:List (List ab))(a1:List UInt8)(a2:Int)(hw: ∀l∈a,l.length<=ahl/\ ∀y∈l,((aex .i64 y.Client).wf=true)/\((aex .i64 y.Seq).wf=true)/\((aex .i64 y.Kind).wf=true)/\(y.Path.length<=ahl)/\(y.Value.length<=ahl)/\((aex .i64 y.Version).wf=true)/\((aex .i64 y.Session).wf=true)/\((aex .i64 y.Span).wf=true)):mz a a1 a2=some true:=by
 have hN: ∀l∈a,∀o∈l,GB o:=λl hl=>ak4 (hw l hl).2;unfold mz;have Iq:nX=some true:=rfl;by_cases h1:(12:Int)<(a.length:Int)
 .rw [if_pos h1,av,if_pos rfl,Iq];rfl
 rw [if_neg h1,av];by_cases h2:(1000:Int)<(a1.length:Int)
 .rw [decide_eq_true h2,if_pos rfl,Iq];rfl
 rw [decide_eq_false h2,if_neg aaS];obtain ⟨w,ew,hw⟩:=apI hN aah;rw [ew,av];rcases hw with rfl|⟨log,rfl,hg,hl⟩
 .rfl
 dsimp only;obtain ⟨k,hk,hkl⟩: ∃k:Nat,Fh (imax a2 0) (log.length:Int)=(k:Int)/\k<=log.length:=by
  unfold Fh imax;refine ⟨(if (log.length:Int)<(if 0>a2 then 0 else a2) then (log.length:Int) else (if 0>a2 then 0 else a2)).toNat,?_,?_⟩
  .split<;>split<;>omega
  .split<;>split<;>omega
 rw [hk,if_pos aah];have Nt: ∀s∈log.take k,Fc s:=λs hs=>hg s (aeb hs);have e0:ahn (ad7 0) (aho (ad7 (k:Int)) log)=log.take k:=rfl;have ja:Fa rl:=λy hy=>by cases hy
 rw [e0,adX Nt (by rw [ab3];omega),av];obtain ⟨q1,q2⟩:=IJ Nt Um ja;generalize hr0:(log.take k).foldl zJ rl=r0 at q1 q2;have atN:Fc a1:= .inl aah;obtain ⟨q,eq,_⟩:=N9 (s:=a1) aah;obtain ⟨⟨x,ex,exr⟩,_,_,apJ⟩:=IH q1 q2 atN;rw [eq,av];obtain ⟨r1,CJ⟩: ∃r1,r1=(log.drop k).foldl zJ r0:=⟨_,rfl⟩
 obtain ⟨p1,p2⟩:=IJ (l:=log.drop k) (λs hs=>hg s (ahe hs)) q1 q2;rw [<-CJ] at p1 p2;have ali:log.foldl zJ rl=r1:=by rw [CJ,<-hr0,<-afA,AS]
 have vc:=alh hg aah q1 q2 hkl;rw [<-CJ] at vc;obtain ⟨b,eb,hb⟩:=SN (Fb p1);have hbt:b=true:=hb.2 p1;subst hbt;have fin:(bd (Loop (eK log) (r0.Shelf.L,r0.aY.eG,r0.aY.L,r0.aX.L,r0.Seen,(k:Int))) λw5=>bd (bd nX λrA8=>if rA8 then bd (kb log) λrA9=>bd (lT ⟨⟨w5.1⟩,⟨w5.2.1,w5.2.2.1⟩,⟨w5.2.2.2.1⟩,w5.2.2.2.2⟩ rA9) λMu=>if Mu then bd (pV ⟨⟨w5.1⟩,⟨w5.2.1,w5.2.2.1⟩,⟨w5.2.2.2.1⟩,w5.2.2.2.2⟩) λKu=>bd (pU Ku) λRZ=>some RZ else some false else some false:Option Bool) λw6=>some w6)=some true:=by rw [show (r0.Shelf.L,r0.aY.eG,r0.aY.L,r0.aX.L,r0.Seen,(k:Int))=wg r0 (k:Int) from rfl,vc,av,Iq,av,if_pos rfl,adX hg aah,av,ali];show bd (bd (lT r1 r1) λMu=>if Mu then bd (pV r1) λKu=>bd (pU Ku) λRZ=>some RZ else some false) _=_;rw [AZ (Fb p1) p2,av,if_pos rfl,ahd (Fb p1),av,eb,av,av]
 by_cases hq:q.2=0
 .rw [decide_eq_true hq];exact fin
 .rw [decide_eq_false hq,ex];have:x.1=r0:=by rw [<-exr];exact apJ q eq hq
  simp only [afh,if_true,av,this,AZ (Fb q1) q2,aeY,ad3,if_false];exact fin
end
end Dn.S
