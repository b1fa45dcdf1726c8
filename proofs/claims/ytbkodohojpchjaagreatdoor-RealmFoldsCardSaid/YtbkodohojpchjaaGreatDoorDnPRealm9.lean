import Derived.Test.YtbkodohojpchjaaGreatDoorDnPRealm8
/-
  Realms as the document's: sessions, orders, replies. Conditions: none.
-/
set_option linter.unusedVariables false
set_option linter.unusedSimpArgs false
open List renaming length_cons→c9,length_nil→sh,getElem_map→AI,length_map→AS,getElem?_eq_getElem→AT,length_take→By,drop_of_length_le→BY,mem_iff_getElem→IN,getElem_mem→IS,drop_append_of_le_length→IT,map_append→No,length_append→OF,take_add_one→aar,map_cons→aas,take_length→aaF,map_nil→aaJ,append_nil→aaK,filter_eq_self→aaL,length_drop→abr,map_take→ab9,map_drop→aca
open Nat renaming lt_trichotomy→aaq,le_refl→ab4
open Bool renaming false_eq_true→aaS,not_eq_true'→abq
open Go Dn
namespace Dn.S
section
variable {α β:Type}{key:α->Int}
theorem RF {L:List α}(hs:rL key L){i j:Nat}(hi:i<L.length)(hj:j<L.length)(h:key L[i]=key L[j]):i=j:=by
 rcases aaq i j with h1|h1|h1
 ·have:=hs.lt hj h1;omega
 ·exact h1
 ·have:=hs.lt hi h1;omega
theorem T3 {L:List α}(hs:rL key L){c:Int}(h:fP key L c=true):L.filter (λx=>!decide (key x=c))=L.take (nj key L c)++L.drop (nj key L c+1):=by
 obtain ⟨hk,he⟩:=(hs.has c).1 h;generalize nj key L c=i at hk he;have hL:L=L.take i++L[i]::L.drop (i+1):=by rw [List.getElem_cons_drop,List.take_append_drop]
 have h1:(L.take i).filter (λx=>!decide (key x=c))=L.take i:=by
  rw [aaL];intro x hx;obtain ⟨j,hj,rfl⟩:=IN.1 hx;have Ly:j<i:=by have:=List.length_take_le i L;omega
  rw [List.getElem_take];have:=hs.lt hk Ly;simp only [abq,decide_eq_false_iff_not];omega
 have h2:(L.drop (i+1)).filter (λx=>!decide (key x=c))=L.drop (i+1):=by rw [aaL];intro x hx;obtain ⟨j,hj,rfl⟩:=IN.1 hx;rw [List.getElem_drop];rw [abr] at hj;have:=hs.lt (show i+1+j<L.length by omega) (show i<i+1+j by omega);simp only [abq,decide_eq_false_iff_not];omega
 conv=>lhs;rw [hL]
 rw [List.filter_append,List.filter_cons,h1,h2,if_neg (by simp [he])]
theorem afj {L:List α}(hs:rL key L){i:Nat}(hi:i<L.length)(f:α->α):L.set i (f L[i])=L.map λx=>if key x=key L[i] then f x else x:=by
 apply List.ext_getElem
 ·simp
 ·intro j h1 h2;rw [List.length_set] at h1;rw [List.getElem_set,AI];by_cases RR:i=j
  ·subst RR;rw [if_pos rfl,if_pos rfl]
  ·rw [if_neg RR,if_neg (λhe=>RR (RF hs h1 hi he).symm)]
def sW (L:List β)(x:β)(i d k:Nat):List β:=if k<=i then L.take k else L.take i++x::(L.take k).drop (i+d)
theorem EK {L:List β}{x:β}{i d k:Nat}(hk:k<=L.length):(sW L x i d k).length<=k+1:=by
 unfold sW;split
 ·rw [By];omega
 ·simp only [OF,By,c9,abr];omega
theorem RG {L:List β}{x:β}{i d k:Nat}(hk:k<L.length)(h:k<i):sW L x i d (k+1)=sW L x i d k++[L[k]]:=by unfold sW;rw [if_pos (by omega),if_pos (by omega),aar,AT hk];rfl
theorem VK {L:List β}{x:β}{i:Nat}(hk:i<L.length):sW L x i 0 (i+1)=(sW L x i 0 i++[x])++[L[i]]:=by unfold sW;rw [if_neg (by omega),if_pos (by omega),aar,AT hk,IT (by rw [By];omega),BY (by rw [By];omega)];simp
theorem afk {L:List β}{x:β}{i:Nat}(hk:i<L.length):sW L x i 1 (i+1)=sW L x i 1 i++[x]:=by unfold sW;rw [if_neg (by omega),if_pos (by omega),BY (by rw [By];omega)]
theorem MR {L:List β}{x:β}{i d k:Nat}(hk:k<L.length)(h:i<k)(hd:d<=1):sW L x i d (k+1)=sW L x i d k++[L[k]]:=by unfold sW;rw [if_neg (by omega),if_neg (by omega),aar,AT hk,IT (by rw [By];omega)];simp
end
abbrev Kv (b:aK):cD:=⟨b.cI,b.L.map oK⟩
theorem BC {b:aK}(h:b.L.length<2^40)(id:Int):qO (Kv b) id=some (fP fC b.L id):=by
 unfold qO;have hl:(b.L.map oK).length=b.L.length:=AS ..;have cw:aO (Loop (wL (Kv b) id) 0) λx=>(x= .inl ()/\fP fC b.L id=false)\/(x= .inr true/\fP fC b.L id=true):=by
  refine aO.count (λk=>(k:Int)) b.L.length (λk=> ∀j (hj:j<b.L.length),j<k->b.L[j].Id≠id) rfl (λj hj h=>by omega) (λk hk hp=> ?_) (λhp=> ?_)
  ·unfold wL;dsimp only;rw [if_pos (by omega),ba (by omega),AI];by_cases he:b.L[k].Id=id
   ·rw [if_pos (show (oK b.L[k]).Id=id from he)];exact .mk (.inr ⟨rfl,pH.2 ⟨_,IS hk,he⟩⟩)
   ·rw [if_neg (show¬(oK b.L[k]).Id=id from he),wrap64 (by omega) (by omega)];refine .mk ⟨by omega,λj hj ZN=> ?_⟩;by_cases Ly:j=k
    ·subst Ly;exact he
    ·exact hp j hj (by omega)
  ·unfold wL;dsimp only;rw [if_neg (by omega)];refine .mk (.inl ⟨rfl,?_⟩);rw [Bool.eq_false_iff];intro hh;obtain ⟨x,hx,hxe⟩:=pH.1 hh;obtain ⟨j,hj,rfl⟩:=IN.1 hx;exact hp j hj hj hxe
 obtain ⟨x,hx,h|h⟩:=cw
 ·rw [hx,h.1,h.2];rfl
 ·rw [hx,h.1,h.2];rfl
theorem T4 {b:aK}(h:jN b)(id span:Int):Ab (Kv b) id span=some (Kv (AN b id span),su b id span):=by
 have hl:(b.L.map oK).length=b.L.length:=AS ..;have hlen:=h.len;have aiT:=h.now;unfold Ab AN;have hg:(if id<1 then some true else if span<1 then some true else some (decide ((1000:Int)<span)))=some (decide (id<1\/span<1\/1000<span)):=Rr;rw [hg,av];unfold su;by_cases h1:id<1\/span<1\/1000<span
 ·rw [decide_eq_true h1,if_pos rfl,if_pos h1,if_neg (by decide)]
 rw [decide_eq_false h1,if_neg (by decide),if_neg h1,BC (by omega),av];cases h2:fP fC b.L id with
 |true=>rfl
 |false=>
 rw [if_neg (show¬false=true by decide),if_neg (show¬false=true by decide)];by_cases h3:50<=b.L.length
 ·rw [if_pos (show (50:Int)<=((Kv b).L.length:Int) by show (50:Int)<=((b.L.map oK).length:Int);omega),if_pos h3,if_neg (by decide)]
 rw [if_neg (show¬(50:Int)<=((Kv b).L.length:Int) by show¬(50:Int)<=((b.L.map oK).length:Int);omega),if_neg h3,if_pos rfl];have hlb:=h.inc.lb id;have dG: ∀k (hk:k<b.L.length),b.L[k].Id≠id:=λk hk he=>by have:fP fC b.L id=true:=pH.2 ⟨_,IS hk,he⟩;rw [h2] at this;cases this
 have hil:=Kb (key:=fC) b.L id;generalize hi:nj fC b.L id=i at hlb hil;have aqj: ∀(M:List al) (x:al),M.length=b.L.length->sW M x i 0 b.L.length++(if i=b.L.length then [x] else [])=M.take i++[x]++M.drop i:=by
  intro M x hM;unfold sW;by_cases he:i=b.L.length
  ·rw [if_pos (by omega),if_pos he,BY (by omega),he];simp
  ·rw [if_neg (by omega),if_neg he,List.take_of_length_le (show M.length<=b.L.length by omega)];simp
 have hw:IntKind.wrap .i64 ((Kv b).cI+span)=b.cI+span:=wrap64 (by dsimp only;omega) (by dsimp only;omega);have cw:Loop (tI (Kv b) id span) (([]:List al),false,0)=some (sW (b.L.map oK) ⟨id,span,b.cI+span⟩ i 0 b.L.length,decide (i<b.L.length)):=by
  refine aO.eq (aO.count (λk=>(sW (b.L.map oK) ⟨id,span,b.cI+span⟩ i 0 k,decide (i<k),(k:Int))) b.L.length (λ_=>True) (by simp [sW]) trivial (λk hk _=> ?_) (λ_=> ?_))
  ·unfold tI;have hml:= @EK _ (b.L.map oK) ⟨id,span,b.cI+span⟩ i 0 k (by omega);dsimp only;rw [if_pos (by omega),hw];rcases aaq k i with dY|oM|Nl
   ·have hlk:b.L[k].Id<id:=hlb.1 k hk dY;rw [decide_eq_false (by omega),if_pos (show (!false)=true from rfl),ba (by omega),AI,decide_eq_false (show¬id<(oK b.L[k]).Id by show¬id<b.L[k].Id;omega),av,if_neg (by decide),av,ba (by omega),if_pos (by simp only [c9,sh];omega),wrap64 (by omega) (by omega),RG (by omega) dY,decide_eq_false (by omega)];exact .mk ⟨rfl,trivial⟩
   ·subst oM;have hlk:id<=b.L[k].Id:=hlb.2 k hk (ab4 _);have hnk:=dG k hk;rw [decide_eq_false (by omega),if_pos (show (!false)=true from rfl),ba (by omega),AI,decide_eq_true (show id<(oK b.L[k]).Id by show id<b.L[k].Id;omega),av,if_pos rfl,if_pos (by simp only [c9,sh];omega),av,ba (by omega)];dsimp only;rw [if_pos (by simp only [c9,sh,OF];omega),wrap64 (by omega) (by omega),VK (by omega),decide_eq_true (by omega)];exact .mk ⟨rfl,trivial⟩
   ·rw [decide_eq_true Nl,if_neg (by decide),av,if_neg (by decide),av,ba (by omega),if_pos (by simp only [c9,sh];omega),wrap64 (by omega) (by omega),MR (by omega) Nl (by omega),decide_eq_true (by omega)];exact .mk ⟨rfl,trivial⟩
  ·unfold tI;dsimp only;rw [if_neg (by omega)];exact .mk rfl
 rw [cw,av];dsimp only;have hml:= @EK _ (b.L.map oK) ⟨id,span,b.cI+span⟩ i 0 b.L.length (by omega);have ae0:(Ez fC b.L ⟨id,span,b.cI+span⟩).map oK=(b.L.map oK).take i++[⟨id,span,b.cI+span⟩]++(b.L.map oK).drop i:=by unfold Ez;rw [show fC (⟨id,span,b.cI+span⟩:aE)=id from rfl,hi];simp only [No,ab9,aca,aas,aaJ];rfl
 have KM:=aqj (b.L.map oK) ⟨id,span,b.cI+span⟩ (by omega);by_cases he:i=b.L.length
 ·rw [if_pos he] at KM;rw [decide_eq_false (by omega),if_pos (show (!false)=true from rfl),if_pos (by simp only [c9,sh];omega),av,hw,KM,<-ae0]
 ·rw [if_neg he,aaK] at KM;rw [decide_eq_true (by omega),if_neg (by decide),av,KM,<-ae0]
theorem RH {b:aK}(h:jN b)(id:Int):wN (Kv b) id=some (Kv (qC b id).1,(qC b id).2):=by
 have hl:(b.L.map oK).length=b.L.length:=AS ..;have hlen:=h.len;have aiT:=h.now;unfold wN qC;rw [BC (by omega),av];cases h2:fP fC b.L id with
 |false=>rfl
 |true=>
 obtain ⟨hk,he⟩:=(h.inc.has id).1 h2;rw [if_neg (by decide),if_pos rfl,AT hk];have Su:=afj h.inc hk λy=>(⟨y.Id,y.Span,b.cI+y.Span⟩:aE)
 dsimp only at Su⊢;rw [Su];have he:b.L[nj fC b.L id].Id=id:=he;have cw:Loop (rk (Kv b) id) (([]:List al),0)=some (b.L.map λx=>oK (if fC x=fC b.L[nj fC b.L id] then ⟨x.Id,x.Span,b.cI+x.Span⟩ else x)):=by
  refine EH b.L _ (λk hk=> ?_) ?_
  ·unfold rk;have hx:=h.all _ (IS hk);have hml:= @uu _ _ (λx=>oK (if fC x=fC b.L[nj fC b.L id] then ⟨x.Id,x.Span,b.cI+x.Span⟩ else x)) b.L k;dsimp only;rw [if_pos (by omega),ba (by omega),AI,wrap64 (show-9223372036854775808<=(k:Int)+1 by omega) (by omega)];by_cases hid:b.L[k].Id=id
   ·rw [if_pos (show (oK b.L[k]).Id=id from hid),av,if_pos (by simp only [c9,sh];omega),if_pos (show b.L[k].Id=b.L[nj fC b.L id].Id by rw [hid,he]),wrap64 (show-9223372036854775808<=b.cI+(oK b.L[k]).Span by show _<=b.cI+b.L[k].Span;omega) (by show b.cI+b.L[k].Span<=_;omega)];rfl
   ·rw [if_neg (show¬(oK b.L[k]).Id=id from hid),av,if_pos (by simp only [c9,sh];omega),if_neg (show¬b.L[k].Id=b.L[nj fC b.L id].Id by rw [he];exact hid)];rfl
  ·unfold rk;dsimp only;rw [if_neg (by omega)]
 rw [cw,av];show some ((⟨b.cI,_⟩:cD),(0:Int))=some ((⟨b.cI,(b.L.map _).map oK⟩:cD),(0:Int));rw [List.map_map];rfl
theorem RI {b:aK}(h:jN b)(id:Int):wO (Kv b) id=some (Kv (di b id).1,(di b id).2):=by
 have hl:(b.L.map oK).length=b.L.length:=AS ..;have hlen:=h.len;unfold wO di;rw [BC (by omega),av];cases h2:fP fC b.L id with
 |false=>rfl
 |true=>
 rw [if_neg (by decide),if_pos rfl];have cw:Loop (rl (Kv b) id) (([]:List al),0)=some ((b.L.map oK).filter λx=>!decide (x.Id=id)):=by
  refine Rq (b.L.map oK) _ (λk hk=> ?_) ?_
  ·unfold rl;have hml:= @oe _ (λx:al=>!decide (x.Id=id)) (b.L.map oK) k;dsimp only;rw [if_pos (by omega),ba hk,ba hk,wrap64 (by omega) (by omega)];by_cases hid:(b.L.map oK)[k].Id=id
   ·rw [decide_eq_true hid,if_neg (by decide),av];simp
   ·rw [decide_eq_false hid,if_pos (show (!false)=true from rfl),if_pos (by simp only [c9,sh];omega),av];simp
  ·unfold rl;dsimp only;rw [if_neg (by omega)]
 rw [cw,av,List.filter_map];have hf:=T3 h.inc h2;rw [<-hf];rfl
theorem T5 {b:aK}(h:jN b)(now:Int):Ac (Kv b) now=some (if pZ b now=0 then (Kv (Kp b now),p0 b now,0) else (Kv b,[],pZ b now)):=by
 have hl:(b.L.map oK).length=b.L.length:=AS ..;have hlen:=h.len;unfold Ac pZ;by_cases h1:now<b.cI
 ·rw [if_pos h1,if_pos h1,if_neg (by decide)]
 rw [if_neg h1,if_neg h1];by_cases h2:1000000000<now
 ·rw [if_pos h2,if_pos h2,if_neg (by decide)]
 rw [if_neg h2,if_neg h2,if_pos rfl];have cw:Loop (tK (Kv b) now) (([]:List al),([]:List Int),0)=some ((b.L.filter λx=>!rP now x).map oK,p0 b now):=by
  refine aO.eq (aO.count (λk=>(((b.L.take k).filter (λx=>!rP now x)).map oK,((b.L.take k).filter (rP now)).map (·.Id),(k:Int))) b.L.length (λ_=>True) (by simp) trivial (λk hk _=> ?_) (λ_=> ?_))
  ·unfold tK;have l1:= @oe _ (rP now) b.L k;have l2:= @oe _ (λx=>!rP now x) b.L k;dsimp only;rw [if_pos (by omega),ba (by omega),ba (by omega),ba (by omega),AI,kN hk,kN hk,wrap64 (by omega) (by omega)];by_cases hg:b.L[k].dX<=now
   ·have hb:rP now b.L[k]=true:=decide_eq_true hg;rw [if_pos (show (oK b.L[k]).dX<=now from hg),if_pos (by rw [AS];simp only [c9,sh];omega),av];simp only [hb,if_true,Bool.not_true,aaS,if_false,aaK,No,aas,aaJ];exact .mk ⟨rfl,trivial⟩
   ·have hb:rP now b.L[k]=false:=decide_eq_false hg;rw [if_neg (show¬(oK b.L[k]).dX<=now from hg),if_pos (by rw [AS];simp only [c9,sh];omega),av];simp only [hb,if_true,Bool.not_false,aaS,if_false,aaK,No,aas,aaJ];exact .mk ⟨rfl,trivial⟩
  ·unfold tK;dsimp only;rw [if_neg (by omega),aaF];exact .mk rfl
 rw [cw,av];rfl
theorem T6 {r:ap}(h:e8 r)(c:Int):wK (gK r) c=some (kh (fQ r.Seen c).1,(fQ r.Seen c).2):=by
 have hf:=h.few;have hl:(r.Seen.map kh).length=r.Seen.length:=AS ..;unfold wK;have cw:aO (Loop (tE (gK r) c) (0,0,0,([]:List UInt8),0,([]:List (List UInt8)),0)) λx=>(x= .inl (0,0,0,[],0,[])/\fQ r.Seen c=(noR,false))\/ ∃y,fQ r.Seen c=(y,true)/\x= .inr (y.Client,y.Seq,y.E,y.Value,y.Version,y.Names,true):=by
  refine aO.count (λk=>(0,0,0,([]:List UInt8),0,([]:List (List UInt8)),(k:Int))) r.Seen.length (λk=> ∀j (hj:j<r.Seen.length),j<k->r.Seen[j].Client≠c) rfl (λj hj h=>by omega) (λk hk hp=> ?_) (λhp=> ?_)
  ·unfold tE;show aO (if (k:Int)<((r.Seen.map kh).length:Int) then _ else _) _;rw [if_pos (by omega)];show aO (ix (r.Seen.map kh) (k:Int) _) _;rw [ba (by omega),AI];by_cases he:r.Seen[k].Client=c
   ·rw [if_pos (show (kh r.Seen[k]).Client=c from he)];show aO (ix (r.Seen.map kh) (k:Int) _) _;rw [ba (by omega),AI];refine .mk (.inr ⟨r.Seen[k],?_,rfl⟩);rw [<-he];exact afi h.inc (IS hk)
   ·rw [if_neg (show¬(kh r.Seen[k]).Client=c from he)];dsimp only;rw [wrap64 (by omega) (by omega)];refine .mk ⟨by rfl,λj hj ZN=> ?_⟩;by_cases Ly:j=k
    ·subst Ly;exact he
    ·exact hp j hj (by omega)
  ·unfold tE;show aO (if (r.Seen.length:Int)<((r.Seen.map kh).length:Int) then _ else _) _;rw [if_neg (by omega)];refine .mk (.inl ⟨rfl,abZ λy hy=> ?_⟩);obtain ⟨j,hj,rfl⟩:=IN.1 hy;exact hp j hj hj
 obtain ⟨x,hx,⟨h1,h2⟩|⟨y,h1,h2⟩⟩:=cw
 ·rw [hx,h1,h2];rfl
 ·rw [hx,h1,h2];rfl
theorem T7 {r:ap}(h:e8 r){x:ai}{c:Int}(hx:x.Client=c):tQ (r.Seen.map kh) (kh x)=some ((zd r.Seen c x).map kh):=by
 have hf:=h.few;have hl:(r.Seen.map kh).length=r.Seen.length:=AS ..;subst hx;have hlb:=h.inc.lb x.Client;have hil:=Kb (key:=iD) r.Seen x.Client;have aiW:=h.inc.has x.Client;have hno:fP iD r.Seen x.Client=false-> ∀k (hk:k<r.Seen.length),r.Seen[k].Client≠x.Client:=λh2 k hk he=>by have:fP iD r.Seen x.Client=true:=pH.2 ⟨_,IS hk,he⟩;rw [h2] at this;cases this
 have aqk:=λ(i:Nat) (hi:i<r.Seen.length) (j:Nat) (hj:j<r.Seen.length) (he:r.Seen[i].Client=r.Seen[j].Client)=>RF h.inc hi hj he;have hP:(zd r.Seen x.Client x).map kh=(r.Seen.map kh).take (nj iD r.Seen x.Client)++kh x::(r.Seen.map kh).drop (nj iD r.Seen x.Client+if fP iD r.Seen x.Client then 1 else 0):=by
  unfold zd;cases hh:fP iD r.Seen x.Client with
  |true=>obtain ⟨hk,_⟩:=aiW.1 hh;rw [if_pos rfl,if_pos rfl,List.map_set,List.set_eq_take_append_cons_drop,if_pos (by omega)]
  |false=>rw [if_neg (by decide),if_neg (by decide)];unfold Ez;rw [show iD x=x.Client from rfl];simp only [No,ab9,aca,aas,aaJ,List.append_assoc,Nat.add_zero];rfl
 rw [hP];generalize hi:nj iD r.Seen x.Client=i at hlb hil aiW;generalize hM:r.Seen.map kh=M at hl;have hMk: ∀k (hk:k<r.Seen.length),(M[k]'(by omega)).Client=r.Seen[k].Client:=λk hk=>by subst hM;rw [AI];rfl
 have hd: ∃d:Nat,(if fP iD r.Seen x.Client then 1 else 0)=d/\d<=1/\((d=1/\ ∃hk:i<r.Seen.length,r.Seen[i].Client=x.Client)\/(d=0/\ ∀k (hk:k<r.Seen.length),r.Seen[k].Client≠x.Client)):=by
  cases hh:fP iD r.Seen x.Client with
  |true=>exact ⟨1,rfl,by omega,.inl ⟨rfl,aiW.1 hh⟩⟩
  |false=>exact ⟨0,rfl,by omega,.inr ⟨rfl,hno hh⟩⟩
 obtain ⟨d,e1,hd1,X5⟩:=hd;rw [e1];unfold tQ;have cw:Loop (tP M (kh x)) (([]:List aw),false,0)=some (sW M (kh x) i d M.length,decide (i<M.length)):=by
  refine aO.eq (aO.count (λk=>(sW M (kh x) i d k,decide (i<k),(k:Int))) M.length (λ_=>True) (by simp [sW]) trivial (λk hk _=> ?_) (λ_=> ?_))
  ·unfold tP;have hml:= @EK _ M (kh x) i d k (by omega);have EN:k<r.Seen.length:=by omega
   have hck:=hMk k EN;dsimp only;rw [if_pos (by omega)];rcases aaq k i with dY|oM|Nl
   ·have hlk:r.Seen[k].Client<x.Client:=hlb.1 k EN dY;rw [decide_eq_false (show¬i<k by omega),if_pos (show (!false)=true from rfl),ba hk,decide_eq_false (show¬(kh x).Client<=M[k].Client by rw [hck];show¬x.Client<=_;omega),av,if_neg (by decide),av,ba hk,decide_eq_false (show¬M[k].Client=(kh x).Client by rw [hck];show¬_=x.Client;omega),if_pos (show (!false)=true from rfl),ba hk,if_pos (by simp only [c9,sh];omega),av,wrap64 (by omega) (by omega),RG hk dY,decide_eq_false (show¬i<k+1 by omega)];exact .mk ⟨rfl,trivial⟩
   ·subst oM;have hlk:x.Client<=r.Seen[k].Client:=hlb.2 k EN (ab4 _);rw [decide_eq_false (show¬k<k by omega),if_pos (show (!false)=true from rfl),ba hk,decide_eq_true (show (kh x).Client<=M[k].Client by rw [hck];exact hlk),av,if_pos rfl,if_pos (by simp only [c9,sh];omega),av,ba hk,wrap64 (by omega) (by omega)];dsimp only;rcases X5 with ⟨rfl,_,hc⟩|⟨rfl,hc⟩
    ·rw [decide_eq_true (show M[k].Client=(kh x).Client by rw [hck];exact hc),if_neg (by decide),av,afk hk,decide_eq_true (show k<k+1 by omega)];exact .mk ⟨rfl,trivial⟩
    ·rw [decide_eq_false (show¬M[k].Client=(kh x).Client by rw [hck];exact hc k EN),if_pos (show (!false)=true from rfl),ba hk,if_pos (by simp only [c9,sh,OF];omega),av,VK hk,decide_eq_true (show k<k+1 by omega)];exact .mk ⟨rfl,trivial⟩
   ·have dG: ¬M[k].Client=(kh x).Client:=by
     rw [hck];show¬r.Seen[k].Client=x.Client;rcases X5 with ⟨_,hk3,hc⟩|⟨_,hc⟩
     ·intro he;have:=aqk k EN i hk3 (by rw [he,hc]);omega
     ·exact hc k EN
    rw [decide_eq_true Nl,if_neg (by decide),av,if_neg (by decide),av,ba hk,decide_eq_false dG,if_pos (show (!false)=true from rfl),ba hk,if_pos (by simp only [c9,sh];omega),av,wrap64 (by omega) (by omega),MR hk Nl hd1,decide_eq_true (show i<k+1 by omega)];exact .mk ⟨rfl,trivial⟩
  ·unfold tP;dsimp only;rw [if_neg (by omega)];exact .mk rfl
 rw [cw,av];dsimp only;have hml:= @EK _ M (kh x) i d M.length (ab4 _);by_cases he:i=M.length
 ·have hd0:d=0:=by
   rcases X5 with ⟨_,hk3,_⟩|⟨h0,_⟩
   ·omega
   ·exact h0
  rw [decide_eq_false (show¬i<M.length by omega),if_pos (show (!false)=true from rfl),if_pos (by simp only [c9,sh];omega),av,hd0];unfold sW;rw [if_pos (by omega),he,aaF,BY (by omega)]
 ·rw [decide_eq_true (show i<M.length by omega),if_neg (by decide),av];unfold sW;rw [if_neg (by omega),aaF]
end Dn.S
