import Derived.Test.YtbkodohojpchjaaGreatDoorDnPRealm8
/-
  Realms as the document's: sessions, orders, replies. Conditions: none.
-/
set_option linter.unusedVariables false
set_option linter.unusedSimpArgs false
open List renaming length_cons→c8,length_nil→sh,getElem_map→AI,length_map→AS,getElem?_eq_getElem→AT,length_take→By,drop_of_length_le→BY,mem_iff_getElem→IN,getElem_mem→IS,drop_append_of_le_length→IT,map_append→No,length_append→OF,take_add_one→aaf,map_cons→aai,take_length→aaj,map_nil→aaG,append_nil→aaH,filter_eq_self→aaI,length_drop→aaL,map_take→aa5,map_drop→aa6
open Nat renaming lt_trichotomy→aaa,le_refl→aaX
open Bool renaming false_eq_true→aaJ,not_eq_true'→aaK
open Go Dn
namespace Dn.S
section
variable {α β:Type}{key:α->Int}
theorem RR {L:List α}(hs:pQ key L){i j:Nat}(hi:i<L.length)(hj:j<L.length)(h:key L[i]=key L[j]):i=j:=by
 rcases aaa i j with h1|h1|h1
 ·have:=hs.lt hj h1;omega
 ·exact h1
 ·have:=hs.lt hi h1;omega
theorem Um {L:List α}(hs:pQ key L){c:Int}(h:fR key L c=true):L.filter (λx=>!decide (key x=c))=L.take (nq key L c)++L.drop (nq key L c+1):=by
 obtain ⟨hk,he⟩:=(hs.has c).1 h;generalize nq key L c=i at hk he;have hL:L=L.take i++L[i]::L.drop (i+1):=by rw [List.getElem_cons_drop,List.take_append_drop]
 have h1:(L.take i).filter (λx=>!decide (key x=c))=L.take i:=by
  rw [aaI];intro x hx;obtain ⟨j,hj,rfl⟩:=IN.1 hx;have Kz:j<i:=by have:=List.length_take_le i L;omega
  rw [List.getElem_take];have:=hs.lt hk Kz;simp only [aaK,decide_eq_false_iff_not];omega
 have h2:(L.drop (i+1)).filter (λx=>!decide (key x=c))=L.drop (i+1):=by rw [aaI];intro x hx;obtain ⟨j,hj,rfl⟩:=IN.1 hx;rw [List.getElem_drop];rw [aaL] at hj;have:=hs.lt (show i+1+j<L.length by omega) (show i<i+1+j by omega);simp only [aaK,decide_eq_false_iff_not];omega
 conv=>lhs;rw [hL]
 rw [List.filter_append,List.filter_cons,h1,h2,if_neg (by simp [he])]
theorem afv {L:List α}(hs:pQ key L){i:Nat}(hi:i<L.length)(f:α->α):L.set i (f L[i])=L.map λx=>if key x=key L[i] then f x else x:=by
 apply List.ext_getElem
 ·simp
 ·intro j h1 h2;rw [List.length_set] at h1;rw [List.getElem_set,AI];by_cases Nn:i=j
  ·subst Nn;rw [if_pos rfl,if_pos rfl]
  ·rw [if_neg Nn,if_neg (λhe=>Nn (RR hs h1 hi he).symm)]
def sS (L:List β)(x:β)(i d k:Nat):List β:=if k<=i then L.take k else L.take i++x::(L.take k).drop (i+d)
theorem ER {L:List β}{x:β}{i d k:Nat}(hk:k<=L.length):(sS L x i d k).length<=k+1:=by
 unfold sS;split
 ·rw [By];omega
 ·simp only [OF,By,c8,aaL];omega
theorem RS {L:List β}{x:β}{i d k:Nat}(hk:k<L.length)(h:k<i):sS L x i d (k+1)=sS L x i d k++[L[k]]:=by unfold sS;rw [if_pos (by omega),if_pos (by omega),aaf,AT hk];rfl
theorem V1 {L:List β}{x:β}{i:Nat}(hk:i<L.length):sS L x i 0 (i+1)=(sS L x i 0 i++[x])++[L[i]]:=by unfold sS;rw [if_neg (by omega),if_pos (by omega),aaf,AT hk,IT (by rw [By];omega),BY (by rw [By];omega)];simp
theorem afw {L:List β}{x:β}{i:Nat}(hk:i<L.length):sS L x i 1 (i+1)=sS L x i 1 i++[x]:=by unfold sS;rw [if_neg (by omega),if_pos (by omega),BY (by rw [By];omega)]
theorem M4 {L:List β}{x:β}{i d k:Nat}(hk:k<L.length)(h:i<k)(hd:d<=1):sS L x i d (k+1)=sS L x i d k++[L[k]]:=by unfold sS;rw [if_neg (by omega),if_neg (by omega),aaf,AT hk,IT (by rw [By];omega)];simp
end
abbrev Ks (b:aK):cJ:=⟨b.ct,b.L.map jM⟩
theorem BU {b:aK}(h:b.L.length<2^40)(id:Int):qH (Ks b) id=some (fR fD b.L id):=by
 unfold qH;have hl:(b.L.map jM).length=b.L.length:=AS ..;have cV:aM (Loop (wV (Ks b) id) 0) λx=>(x= .inl ()/\fR fD b.L id=false)\/(x= .inr true/\fR fD b.L id=true):=by
  refine aM.count (λk=>(k:Int)) b.L.length (λk=> ∀j (hj:j<b.L.length),j<k->b.L[j].Id≠id) rfl (λj hj h=>by omega) (λk hk hp=> ?_) (λhp=> ?_)
  ·unfold wV;dsimp only;rw [if_pos (by omega),aP (by omega),AI];by_cases he:b.L[k].Id=id
   ·rw [if_pos (show (jM b.L[k]).Id=id from he)];exact .mk (.inr ⟨rfl,pK.2 ⟨_,IS hk,he⟩⟩)
   ·rw [if_neg (show¬(jM b.L[k]).Id=id from he),wrap64 (by omega) (by omega)];refine .mk ⟨by omega,λj hj WM=> ?_⟩;by_cases Kz:j=k
    ·subst Kz;exact he
    ·exact hp j hj (by omega)
  ·unfold wV;dsimp only;rw [if_neg (by omega)];refine .mk (.inl ⟨rfl,?_⟩);rw [Bool.eq_false_iff];intro hh;obtain ⟨x,hx,hxe⟩:=pK.1 hh;obtain ⟨j,hj,rfl⟩:=IN.1 hx;exact hp j hj hj hxe
 obtain ⟨x,hx,h|h⟩:=cV
 ·rw [hx,h.1,h.2];rfl
 ·rw [hx,h.1,h.2];rfl
theorem Un {b:aK}(h:iD b)(id span:Int):Ao (Ks b) id span=some (Ks (A7 b id span),sd b id span):=by
 have hl:(b.L.map jM).length=b.L.length:=AS ..;have hlen:=h.len;have ai6:=h.now;unfold Ao A7;have hg:(if id<1 then some true else if span<1 then some true else some (decide ((1000:Int)<span)))=some (decide (id<1\/span<1\/1000<span)):=Rz;rw [hg,al];unfold sd;by_cases h1:id<1\/span<1\/1000<span
 ·rw [decide_eq_true h1,if_pos rfl,if_pos h1,if_neg (by decide)]
 rw [decide_eq_false h1,if_neg (by decide),if_neg h1,BU (by omega),al];cases h2:fR fD b.L id with
 |true=>rfl
 |false=>
 rw [if_neg (show¬false=true by decide),if_neg (show¬false=true by decide)];by_cases h3:50<=b.L.length
 ·rw [if_pos (show (50:Int)<=((Ks b).L.length:Int) by show (50:Int)<=((b.L.map jM).length:Int);omega),if_pos h3,if_neg (by decide)]
 rw [if_neg (show¬(50:Int)<=((Ks b).L.length:Int) by show¬(50:Int)<=((b.L.map jM).length:Int);omega),if_neg h3,if_pos rfl];have hlb:=h.inc.lb id;have dG: ∀k (hk:k<b.L.length),b.L[k].Id≠id:=λk hk he=>by have:fR fD b.L id=true:=pK.2 ⟨_,IS hk,he⟩;rw [h2] at this;cases this
 have hil:=J7 (key:=fD) b.L id;generalize hi:nq fD b.L id=i at hlb hil;have aqF: ∀(M:List ar) (x:ar),M.length=b.L.length->sS M x i 0 b.L.length++(if i=b.L.length then [x] else [])=M.take i++[x]++M.drop i:=by
  intro M x hM;unfold sS;by_cases he:i=b.L.length
  ·rw [if_pos (by omega),if_pos he,BY (by omega),he];simp
  ·rw [if_neg (by omega),if_neg he,List.take_of_length_le (show M.length<=b.L.length by omega)];simp
 have hw:IntKind.wrap .i64 ((Ks b).ct+span)=b.ct+span:=wrap64 (by dsimp only;omega) (by dsimp only;omega);have cV:Loop (tJ (Ks b) id span) (([]:List ar),false,0)=some (sS (b.L.map jM) ⟨id,span,b.ct+span⟩ i 0 b.L.length,decide (i<b.L.length)):=by
  refine aM.eq (aM.count (λk=>(sS (b.L.map jM) ⟨id,span,b.ct+span⟩ i 0 k,decide (i<k),(k:Int))) b.L.length (λ_=>True) (by simp [sS]) trivial (λk hk _=> ?_) (λ_=> ?_))
  ·unfold tJ;have hml:= @ER _ (b.L.map jM) ⟨id,span,b.ct+span⟩ i 0 k (by omega);dsimp only;rw [if_pos (by omega),hw];rcases aaa k i with dK|oM|Ny
   ·have hlk:b.L[k].Id<id:=hlb.1 k hk dK;rw [decide_eq_false (by omega),if_pos (show (!false)=true from rfl),aP (by omega),AI,decide_eq_false (show¬id<(jM b.L[k]).Id by show¬id<b.L[k].Id;omega),al,if_neg (by decide),al,aP (by omega),if_pos (by simp only [c8,sh];omega),wrap64 (by omega) (by omega),RS (by omega) dK,decide_eq_false (by omega)];exact .mk ⟨rfl,trivial⟩
   ·subst oM;have hlk:id<=b.L[k].Id:=hlb.2 k hk (aaX _);have hnk:=dG k hk;rw [decide_eq_false (by omega),if_pos (show (!false)=true from rfl),aP (by omega),AI,decide_eq_true (show id<(jM b.L[k]).Id by show id<b.L[k].Id;omega),al,if_pos rfl,if_pos (by simp only [c8,sh];omega),al,aP (by omega)];dsimp only;rw [if_pos (by simp only [c8,sh,OF];omega),wrap64 (by omega) (by omega),V1 (by omega),decide_eq_true (by omega)];exact .mk ⟨rfl,trivial⟩
   ·rw [decide_eq_true Ny,if_neg (by decide),al,if_neg (by decide),al,aP (by omega),if_pos (by simp only [c8,sh];omega),wrap64 (by omega) (by omega),M4 (by omega) Ny (by omega),decide_eq_true (by omega)];exact .mk ⟨rfl,trivial⟩
  ·unfold tJ;dsimp only;rw [if_neg (by omega)];exact .mk rfl
 rw [cV,al];dsimp only;have hml:= @ER _ (b.L.map jM) ⟨id,span,b.ct+span⟩ i 0 b.L.length (by omega);have afb:(EJ fD b.L ⟨id,span,b.ct+span⟩).map jM=(b.L.map jM).take i++[⟨id,span,b.ct+span⟩]++(b.L.map jM).drop i:=by unfold EJ;rw [show fD (⟨id,span,b.ct+span⟩:aC)=id from rfl,hi];simp only [No,aa5,aa6,aai,aaG];rfl
 have KM:=aqF (b.L.map jM) ⟨id,span,b.ct+span⟩ (by omega);by_cases he:i=b.L.length
 ·rw [if_pos he] at KM;rw [decide_eq_false (by omega),if_pos (show (!false)=true from rfl),if_pos (by simp only [c8,sh];omega),al,hw,KM,<-afb]
 ·rw [if_neg he,aaH] at KM;rw [decide_eq_true (by omega),if_neg (by decide),al,KM,<-afb]
theorem RT {b:aK}(h:iD b)(id:Int):wX (Ks b) id=some (Ks (qw b id).1,(qw b id).2):=by
 have hl:(b.L.map jM).length=b.L.length:=AS ..;have hlen:=h.len;have ai6:=h.now;unfold wX qw;rw [BU (by omega),al];cases h2:fR fD b.L id with
 |false=>rfl
 |true=>
 obtain ⟨hk,he⟩:=(h.inc.has id).1 h2;rw [if_neg (by decide),if_pos rfl,AT hk];have SJ:=afv h.inc hk λy=>(⟨y.Id,y.Span,b.ct+y.Span⟩:aC)
 dsimp only at SJ⊢;rw [SJ];have he:b.L[nq fD b.L id].Id=id:=he;have cV:Loop (rf (Ks b) id) (([]:List ar),0)=some (b.L.map λx=>jM (if fD x=fD b.L[nq fD b.L id] then ⟨x.Id,x.Span,b.ct+x.Span⟩ else x)):=by
  refine Kj b.L _ (λk hk=> ?_) ?_
  ·unfold rf;have hx:=h.all _ (IS hk);have hml:= @xy _ _ (λx=>jM (if fD x=fD b.L[nq fD b.L id] then ⟨x.Id,x.Span,b.ct+x.Span⟩ else x)) b.L k;dsimp only;rw [if_pos (by omega),aP (by omega),AI,wrap64 (show-9223372036854775808<=(k:Int)+1 by omega) (by omega)];by_cases hid:b.L[k].Id=id
   ·rw [if_pos (show (jM b.L[k]).Id=id from hid),al,if_pos (by simp only [c8,sh];omega),if_pos (show b.L[k].Id=b.L[nq fD b.L id].Id by rw [hid,he]),wrap64 (show-9223372036854775808<=b.ct+(jM b.L[k]).Span by show _<=b.ct+b.L[k].Span;omega) (by show b.ct+b.L[k].Span<=_;omega)];rfl
   ·rw [if_neg (show¬(jM b.L[k]).Id=id from hid),al,if_pos (by simp only [c8,sh];omega),if_neg (show¬b.L[k].Id=b.L[nq fD b.L id].Id by rw [he];exact hid)];rfl
  ·unfold rf;dsimp only;rw [if_neg (by omega)]
 rw [cV,al];show some ((⟨b.ct,_⟩:cJ),(0:Int))=some ((⟨b.ct,(b.L.map _).map jM⟩:cJ),(0:Int));rw [List.map_map];rfl
theorem RU {b:aK}(h:iD b)(id:Int):wY (Ks b) id=some (Ks (di b id).1,(di b id).2):=by
 have hl:(b.L.map jM).length=b.L.length:=AS ..;have hlen:=h.len;unfold wY di;rw [BU (by omega),al];cases h2:fR fD b.L id with
 |false=>rfl
 |true=>
 rw [if_neg (by decide),if_pos rfl];have cV:Loop (rh (Ks b) id) (([]:List ar),0)=some ((b.L.map jM).filter λx=>!decide (x.Id=id)):=by
  refine Rx (b.L.map jM) _ (λk hk=> ?_) ?_
  ·unfold rh;have hml:= @oh _ (λx:ar=>!decide (x.Id=id)) (b.L.map jM) k;dsimp only;rw [if_pos (by omega),aP hk,aP hk,wrap64 (by omega) (by omega)];by_cases hid:(b.L.map jM)[k].Id=id
   ·rw [decide_eq_true hid,if_neg (by decide),al];simp
   ·rw [decide_eq_false hid,if_pos (show (!false)=true from rfl),if_pos (by simp only [c8,sh];omega),al];simp
  ·unfold rh;dsimp only;rw [if_neg (by omega)]
 rw [cV,al,List.filter_map];have hf:=Um h.inc h2;rw [<-hf];rfl
theorem Uo {b:aK}(h:iD b)(now:Int):Ap (Ks b) now=some (if pY b now=0 then (Ks (Km b now),pZ b now,0) else (Ks b,[],pY b now)):=by
 have hl:(b.L.map jM).length=b.L.length:=AS ..;have hlen:=h.len;unfold Ap pY;by_cases h1:now<b.ct
 ·rw [if_pos h1,if_pos h1,if_neg (by decide)]
 rw [if_neg h1,if_neg h1];by_cases h2:1000000000<now
 ·rw [if_pos h2,if_pos h2,if_neg (by decide)]
 rw [if_neg h2,if_neg h2,if_pos rfl];have cV:Loop (tL (Ks b) now) (([]:List ar),([]:List Int),0)=some ((b.L.filter λx=>!rK now x).map jM,pZ b now):=by
  refine aM.eq (aM.count (λk=>(((b.L.take k).filter (λx=>!rK now x)).map jM,((b.L.take k).filter (rK now)).map (·.Id),(k:Int))) b.L.length (λ_=>True) (by simp) trivial (λk hk _=> ?_) (λ_=> ?_))
  ·unfold tL;have l1:= @oh _ (rK now) b.L k;have l2:= @oh _ (λx=>!rK now x) b.L k;dsimp only;rw [if_pos (by omega),aP (by omega),aP (by omega),aP (by omega),AI,kE hk,kE hk,wrap64 (by omega) (by omega)];by_cases hg:b.L[k].cF<=now
   ·have hb:rK now b.L[k]=true:=decide_eq_true hg;rw [if_pos (show (jM b.L[k]).cF<=now from hg),if_pos (by rw [AS];simp only [c8,sh];omega),al];simp only [hb,if_true,Bool.not_true,aaJ,if_false,aaH,No,aai,aaG];exact .mk ⟨rfl,trivial⟩
   ·have hb:rK now b.L[k]=false:=decide_eq_false hg;rw [if_neg (show¬(jM b.L[k]).cF<=now from hg),if_pos (by rw [AS];simp only [c8,sh];omega),al];simp only [hb,if_true,Bool.not_false,aaJ,if_false,aaH,No,aai,aaG];exact .mk ⟨rfl,trivial⟩
  ·unfold tL;dsimp only;rw [if_neg (by omega),aaj];exact .mk rfl
 rw [cV,al];rfl
theorem Up {r:au}(h:iG r)(c:Int):wU (dV r) c=some (jR (fS r.Seen c).1,(fS r.Seen c).2):=by
 have hf:=h.few;have hl:(r.Seen.map jR).length=r.Seen.length:=AS ..;unfold wU;have cV:aM (Loop (tF (dV r) c) (0,0,0,([]:List UInt8),0,([]:List (List UInt8)),0)) λx=>(x= .inl (0,0,0,[],0,[])/\fS r.Seen c=(noR,false))\/ ∃y,fS r.Seen c=(y,true)/\x= .inr (y.Client,y.Seq,y.E,y.Value,y.Version,y.Names,true):=by
  refine aM.count (λk=>(0,0,0,([]:List UInt8),0,([]:List (List UInt8)),(k:Int))) r.Seen.length (λk=> ∀j (hj:j<r.Seen.length),j<k->r.Seen[j].Client≠c) rfl (λj hj h=>by omega) (λk hk hp=> ?_) (λhp=> ?_)
  ·unfold tF;show aM (if (k:Int)<((r.Seen.map jR).length:Int) then _ else _) _;rw [if_pos (by omega)];show aM (ix (r.Seen.map jR) (k:Int) _) _;rw [aP (by omega),AI];by_cases he:r.Seen[k].Client=c
   ·rw [if_pos (show (jR r.Seen[k]).Client=c from he)];show aM (ix (r.Seen.map jR) (k:Int) _) _;rw [aP (by omega),AI];refine .mk (.inr ⟨r.Seen[k],?_,rfl⟩);rw [<-he];exact afu h.inc (IS hk)
   ·rw [if_neg (show¬(jR r.Seen[k]).Client=c from he)];dsimp only;rw [wrap64 (by omega) (by omega)];refine .mk ⟨by rfl,λj hj WM=> ?_⟩;by_cases Kz:j=k
    ·subst Kz;exact he
    ·exact hp j hj (by omega)
  ·unfold tF;show aM (if (r.Seen.length:Int)<((r.Seen.map jR).length:Int) then _ else _) _;rw [if_neg (by omega)];refine .mk (.inl ⟨rfl,acr λy hy=> ?_⟩);obtain ⟨j,hj,rfl⟩:=IN.1 hy;exact hp j hj hj
 obtain ⟨x,hx,⟨h1,h2⟩|⟨y,h1,h2⟩⟩:=cV
 ·rw [hx,h1,h2];rfl
 ·rw [hx,h1,h2];rfl
theorem Uq {r:au}(h:iG r){x:aj}{c:Int}(hx:x.Client=c):tR (r.Seen.map jR) (jR x)=some ((zt r.Seen c x).map jR):=by
 have hf:=h.few;have hl:(r.Seen.map jR).length=r.Seen.length:=AS ..;subst hx;have hlb:=h.inc.lb x.Client;have hil:=J7 (key:=iC) r.Seen x.Client;have ajb:=h.inc.has x.Client;have R6:fR iC r.Seen x.Client=false-> ∀k (hk:k<r.Seen.length),r.Seen[k].Client≠x.Client:=λh2 k hk he=>by have:fR iC r.Seen x.Client=true:=pK.2 ⟨_,IS hk,he⟩;rw [h2] at this;cases this
 have aqG:=λ(i:Nat) (hi:i<r.Seen.length) (j:Nat) (hj:j<r.Seen.length) (he:r.Seen[i].Client=r.Seen[j].Client)=>RR h.inc hi hj he;have hP:(zt r.Seen x.Client x).map jR=(r.Seen.map jR).take (nq iC r.Seen x.Client)++jR x::(r.Seen.map jR).drop (nq iC r.Seen x.Client+if fR iC r.Seen x.Client then 1 else 0):=by
  unfold zt;cases hh:fR iC r.Seen x.Client with
  |true=>obtain ⟨hk,_⟩:=ajb.1 hh;rw [if_pos rfl,if_pos rfl,List.map_set,List.set_eq_take_append_cons_drop,if_pos (by omega)]
  |false=>rw [if_neg (by decide),if_neg (by decide)];unfold EJ;rw [show iC x=x.Client from rfl];simp only [No,aa5,aa6,aai,aaG,List.append_assoc,Nat.add_zero];rfl
 rw [hP];generalize hi:nq iC r.Seen x.Client=i at hlb hil ajb;generalize hM:r.Seen.map jR=M at hl;have hMk: ∀k (hk:k<r.Seen.length),(M[k]'(by omega)).Client=r.Seen[k].Client:=λk hk=>by subst hM;rw [AI];rfl
 have hd: ∃d:Nat,(if fR iC r.Seen x.Client then 1 else 0)=d/\d<=1/\((d=1/\ ∃hk:i<r.Seen.length,r.Seen[i].Client=x.Client)\/(d=0/\ ∀k (hk:k<r.Seen.length),r.Seen[k].Client≠x.Client)):=by
  cases hh:fR iC r.Seen x.Client with
  |true=>exact ⟨1,rfl,by omega,.inl ⟨rfl,ajb.1 hh⟩⟩
  |false=>exact ⟨0,rfl,by omega,.inr ⟨rfl,R6 hh⟩⟩
 obtain ⟨d,e1,hd1,Ym⟩:=hd;rw [e1];unfold tR;have cV:Loop (tQ M (jR x)) (([]:List aD),false,0)=some (sS M (jR x) i d M.length,decide (i<M.length)):=by
  refine aM.eq (aM.count (λk=>(sS M (jR x) i d k,decide (i<k),(k:Int))) M.length (λ_=>True) (by simp [sS]) trivial (λk hk _=> ?_) (λ_=> ?_))
  ·unfold tQ;have hml:= @ER _ M (jR x) i d k (by omega);have CM:k<r.Seen.length:=by omega
   have hck:=hMk k CM;dsimp only;rw [if_pos (by omega)];rcases aaa k i with dK|oM|Ny
   ·have hlk:r.Seen[k].Client<x.Client:=hlb.1 k CM dK;rw [decide_eq_false (show¬i<k by omega),if_pos (show (!false)=true from rfl),aP hk,decide_eq_false (show¬(jR x).Client<=M[k].Client by rw [hck];show¬x.Client<=_;omega),al,if_neg (by decide),al,aP hk,decide_eq_false (show¬M[k].Client=(jR x).Client by rw [hck];show¬_=x.Client;omega),if_pos (show (!false)=true from rfl),aP hk,if_pos (by simp only [c8,sh];omega),al,wrap64 (by omega) (by omega),RS hk dK,decide_eq_false (show¬i<k+1 by omega)];exact .mk ⟨rfl,trivial⟩
   ·subst oM;have hlk:x.Client<=r.Seen[k].Client:=hlb.2 k CM (aaX _);rw [decide_eq_false (show¬k<k by omega),if_pos (show (!false)=true from rfl),aP hk,decide_eq_true (show (jR x).Client<=M[k].Client by rw [hck];exact hlk),al,if_pos rfl,if_pos (by simp only [c8,sh];omega),al,aP hk,wrap64 (by omega) (by omega)];dsimp only;rcases Ym with ⟨rfl,_,hc⟩|⟨rfl,hc⟩
    ·rw [decide_eq_true (show M[k].Client=(jR x).Client by rw [hck];exact hc),if_neg (by decide),al,afw hk,decide_eq_true (show k<k+1 by omega)];exact .mk ⟨rfl,trivial⟩
    ·rw [decide_eq_false (show¬M[k].Client=(jR x).Client by rw [hck];exact hc k CM),if_pos (show (!false)=true from rfl),aP hk,if_pos (by simp only [c8,sh,OF];omega),al,V1 hk,decide_eq_true (show k<k+1 by omega)];exact .mk ⟨rfl,trivial⟩
   ·have dG: ¬M[k].Client=(jR x).Client:=by
     rw [hck];show¬r.Seen[k].Client=x.Client;rcases Ym with ⟨_,hk3,hc⟩|⟨_,hc⟩
     ·intro he;have:=aqG k CM i hk3 (by rw [he,hc]);omega
     ·exact hc k CM
    rw [decide_eq_true Ny,if_neg (by decide),al,if_neg (by decide),al,aP hk,decide_eq_false dG,if_pos (show (!false)=true from rfl),aP hk,if_pos (by simp only [c8,sh];omega),al,wrap64 (by omega) (by omega),M4 hk Ny hd1,decide_eq_true (show i<k+1 by omega)];exact .mk ⟨rfl,trivial⟩
  ·unfold tQ;dsimp only;rw [if_neg (by omega)];exact .mk rfl
 rw [cV,al];dsimp only;have hml:= @ER _ M (jR x) i d M.length (aaX _);by_cases he:i=M.length
 ·have hd0:d=0:=by
   rcases Ym with ⟨_,hk3,_⟩|⟨h0,_⟩
   ·omega
   ·exact h0
  rw [decide_eq_false (show¬i<M.length by omega),if_pos (show (!false)=true from rfl),if_pos (by simp only [c8,sh];omega),al,hd0];unfold sS;rw [if_pos (by omega),he,aaj,BY (by omega)]
 ·rw [decide_eq_true (show i<M.length by omega),if_neg (by decide),al];unfold sS;rw [if_neg (by omega),aaj]
end Dn.S
