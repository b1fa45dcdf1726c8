import Derived.Test.YtbkodohojpchjaaGreatDoorDnPOctet2
/-
  Numbers and texts as bytes: the document's answer; what is taken. Conditions: none.
-/
set_option linter.unusedVariables false
set_option linter.unusedSimpArgs false
open List renaming length_cons→aQ,getElem_cons_zero→AS,length_singleton→AT,drop→By,take→BY,length_append→IT,drop_eq_getElem_cons→aab,append_assoc→aac,getElem?_cons_zero→aad,length_take→aae,drop_of_length_le→aaf,getElem_cons_succ→aag,getElem_mem→aan
open Go.IntKind renaming wrap→sh,bits→aao
open Int renaming toNat→AI,tdiv_eq_ediv_of_nonneg→IN,tmod_eq_emod_of_nonneg→No,natCast_nonneg→OF
open Bool renaming false_eq_true→aaa,not_false→aai,not_true→aaj
open Nat renaming pow_le_pow_right→aah,lt_of_lt_of_le→aak,pow_succ→aal
open Option.some renaming injEq→aam
open Go Dn
namespace Dn.S
theorem Lz {n:Nat}(h:n<2^64):sG (n:Int)=some ((1+cZ n:Nat):Int):=by unfold sG;have hk:=jQ n;have:=SL (cZ n) n 1 h rfl (by omega);rw [show ((1:Nat):Int)=1 from rfl] at this;rw [this,aL]
theorem SM {l:List Int}{i:Nat}(hi:i<=7): ∀(d j n:Nat),j+d=i->n<2^64->Loop (oX (l,(i:Int))) ((n:Int),(j:Int))=some ((n/256^d:Nat):Int):=by
 intro d;induction d with
 |zero=>intro j n hj hn;refine cW ?_;unfold oX;simp only;rw [if_neg (by omega)];simp
 |succ d ih=>
  intro j n hj hn;refine eQ (s':=(((n/256:Nat):Int),((j+1:Nat):Int))) ?_ ?_
  ·unfold oX;simp only;rw [if_pos (by omega),if_pos (by decide),IN (by omega),kw,wrap64 (by omega) (by omega)];congr 3;omega
  ·rw [ih (j+1) (n/256) (by omega) (by omega),aal,Nat.mul_comm,Nat.div_div_eq_div_mul]
theorem SN {n:Nat}(hn:n<2^64): ∀(j:Nat) (l:List Int),j<=8->l.length<=2^45+(8-j)->Loop (oY (n:Int)) (l,(j:Int)-1)=some (l++ta j n):=by
 intro j;induction j with
 |zero=>intro l _ _;refine cW ?_;unfold oY;simp only;rw [if_neg (by omega)];simp [ta]
 |succ j ih=>
  intro l hj hl;have hh:=ih (l++[((n/256^j%256:Nat):Int)]) (by omega) (by rw [IT,AT];omega);have e0:(((j+1:Nat):Int)-1)=(j:Int):=by omega
  rw [e0];refine eQ (s':=(l++[((n/256^j%256:Nat):Int)],(j:Int)-1)) ?_ ?_
  ·unfold oY;simp only;have e1:=SM (l:=l) (i:=j) (by omega) j 0 n (by omega) hn;rw [show ((0:Nat):Int)=0 from rfl] at e1;rw [if_pos (by omega),e1,aL,if_pos (by decide),if_pos (by rw [AT];omega),wrap64 (by omega) (by omega),w8,No (OF _)];generalize n/256^j=x;rw [show (x:Int)%256%256=((x%256:Nat):Int) by omega]
  ·rw [hh,ta,aac];rfl
theorem ue {b:List Int}(hb:b.length<=2^44){n:Nat}(h:n<2^64):nE b (n:Int)=some (b++zW n):=by unfold nE;have hk:=jQ n;rw [if_pos (by simp only [List.length_nil];omega),Lz h,aL,List.nil_append,show sh .i64 (((1+cZ n:Nat):Int)-1)=(cZ n:Int) by rw [wrap64 (by omega) (by omega)];omega,show sh .u8 (cZ n:Int)=(cZ n:Int) by rw [w8];omega,if_pos (by rw [AT];omega),wrap64 (by omega) (by omega),SN h (cZ n) _ hk (by rw [IT,AT];omega),aL,aac];rfl
theorem OR {b:List Int}(hb:b.length<=2^44){n:Int}(h:i64 n):wF b n=some (b++Eh n):=by
 unfold wF i64 at *;have hz:=Xn (n:=n) h;unfold Eh;by_cases c:n<0
 ·rw [if_pos c,wrap64 (x:=n+1) (by omega) (by omega),wrap64 (x:=0-(n+1)) (by omega) (by omega),kw,kw,kw,show (2 *((0-(n+1))%18446744073709551616)%18446744073709551616+1)%18446744073709551616=((zz n:Nat):Int) by unfold zz;rw [if_pos c];omega,ue hb hz,aL]
 ·rw [if_neg c,kw,kw,show 2 *(n%18446744073709551616)%18446744073709551616=((zz n:Nat):Int) by unfold zz;rw [if_neg c];omega,ue hb hz,aL]
theorem Da {b:List Int}(hb:b.length<=2^44){s:List UInt8}(h:s.length<=2^44):oZ b s=some (b++xn s):=by unfold oZ;have:=jQ s.length;rw [kw,show ((s.length:Int)%18446744073709551616)=((s.length:Nat):Int) by omega,ue hb (by omega),aL,if_pos (by rw [IT,pB,pC];omega),aac];rfl
def Db (b:List Int):Int:=match b with
 |[]=>2
 |y::r=>if 8<y.toNat\/(0<y.toNat/\r[0]? =some 0) then 3 else 2
theorem lL (b:List Int):Db b≠0:=by
 unfold Db;cases b with
 |nil=>decide
 |cons y r=>simp only;split<;>decide
def TE (b:List Int):Int×List Int×Int:=match fY b with
 |some (n,r)=>((n:Int),r,0)
 |none=>(0,[],Db b)
theorem SO {b:List Int}{y:Int}{m:List Int}(e:By (AI 0) (BY (AI (sh .i64 y)) (By (AI 1) (BY (AI (b.length:Int)) b)))=m)(hm:ju m)(h8:m.length<=8): ∀(d j acc:Nat),j+d=m.length->acc<256^j->Loop (jE b y) ((acc:Int),(j:Int))=some (uA acc (m.drop j):Int):=by
 intro d;induction d with
 |zero=>intro j acc hj _;refine cW ?_;unfold jE;rw [e];simp only;rw [if_neg (by omega),show m.drop j=[] from aaf (by omega)];rfl
 |succ d ih=>
  intro j acc hj ha;have cz:j<m.length:=by omega
  have hc:=hm _ (aan cz);have Zr:256^(j+1)<=256^8:=aah (by decide) (by omega);have hs:acc *256+m[j].toNat<256^(j+1):=by rw [aal];omega
  have h64:acc *256+m[j].toNat<2^64:=aak hs (by simpa using Zr);refine eQ (s':=(((acc *256+m[j].toNat:Nat):Int),((j+1:Nat):Int))) ?_ ?_
  ·unfold jE;rw [e];simp only;rw [if_pos (by omega),dQ cz,if_pos (by decide),show min (AI 8) (aao .u64)=8 by decide,kw,kw,wrap64 (by omega) (by omega),show (acc:Int) *2^8%18446744073709551616=((acc *256:Nat):Int) by omega,show m[j]%18446744073709551616=(m[j].toNat:Int) by omega,VS (by omega) h64];congr 3
  ·rw [ih (j+1) _ (by omega) hs,aab cz,uA]
theorem vF {b:List Int}(hb:ju b)(hl:b.length<2^40):jf b=some (TE b):=by
 unfold jf TE;cases b with
 |nil=>simp [fY,Db]
 |cons y l=>
  obtain ⟨hy,z7⟩:=hb.cons;have hll:l.length<2^40:=by simp only [aQ] at hl;omega
  have e1:By (AI 1) (BY (AI (((y::l).length:Nat):Int)) (y::l))=l:=by simp
  have ey:sh .i64 y=y:=wrap64 (by omega) (by omega);rw [if_neg (by simp only [aQ];omega),Ap (by simp),if_pos ⟨by decide,by simp only [aQ];omega,Int.le_refl _⟩,e1];simp only [AS,ey];have hg:(if (8:Int)<y then some true else if (0:Int)<y then if (0:Int)<(l.length:Int) then ix l 0 λy1=>some (decide (y1=0)) else some false else some false:Option Bool)=some (decide (8<y.toNat\/(0<y.toNat/\l[0]? =some 0))):=by
   by_cases c1:(8:Int)<y
   ·rw [if_pos c1,decide_eq_true (.inl (by omega))]
   ·rw [if_neg c1];by_cases c2:(0:Int)<y
    ·rw [if_pos c2];cases l with
     |nil=>simp;omega
     |cons c r=>rw [if_pos (by simp only [aQ];omega),Ap (by simp)];congr 1;rw [decide_eq_decide];simp only [AS,aad,aam];omega
    ·rw [if_neg c2,decide_eq_false (by omega)]
  rw [hg,aL];unfold fY Db;simp only;by_cases c1:8<y.toNat\/(0<y.toNat/\l[0]? =some 0)
  ·rw [if_pos (by simpa using c1),if_pos (by rcases c1 with h|h;exact .inl h;exact .inr (.inl h)),if_pos c1]
  ·rw [if_neg (by simpa using c1)];by_cases c2:l.length<y.toNat
   ·rw [if_pos (by omega),if_pos (.inr (.inr c2)),if_neg c1]
   ·have hlen:(l.take y.toNat).length=y.toNat:=by rw [aae];omega
    have e2:By (AI 0) (BY (AI (sh .i64 y)) (By (AI 1) (BY (AI (((y::l).length:Nat):Int)) (y::l))))=l.take y.toNat:=by rw [e1,ey];simp
    have hL:=SO e2 (z7.take _) (by omega) y.toNat 0 0 (by omega) (by simp);simp only [Int.natCast_zero,List.drop_zero] at hL;rw [if_neg (by omega),if_pos ⟨by decide,by omega,by omega⟩,hL,aL,if_pos ⟨by omega,by omega,by omega⟩,if_neg (by intro h;rcases h with h|h|h;exact c1 (.inl h);exact c1 (.inr h);exact c2 h)];simp
theorem Ei {b:List Int}(hb:ju b)(hl:b.length<2^40):fC b=some (match lg b with|some (n,r)=>(n,r,0)|none=>(0,[],Db b)):=by
 unfold fC lg;rw [vF hb hl,aL,if_pos (by decide)];unfold TE;cases ht:fY b with
 |none=>
  simp only;have e:bn .i64 (sh .i64 (Int.fdiv 0 (2^min (AI 1) (aao .u64)))) (sh .i64 (0-(sh .i64 (cH .u64 0 1))))=0:=by decide+kernel
  rw [e]
 |some p=>
  obtain ⟨u,r⟩:=p;obtain ⟨_,hu,_⟩:=fp hb ht;simp only;congr 2;rw [and_one hu,show AI 1=1 from rfl,xq u 1 (by decide),wrap64 (x:=((u/2^1:Nat):Int)) (by omega) (by omega)];unfold uz;by_cases c:u%2=1
  ·rw [if_pos c,c,wrap64 (by decide) (by decide),wrap64 (by decide) (by decide),JI rfl (by omega) _ (by decide),agU];omega
  ·rw [if_neg c,show u%2=0 by omega,wrap64 (by decide) (by decide),wrap64 (by decide) (by decide),show (0:Int)-((0:Nat):Int)=0 by decide,xor_zero rfl (by omega),wrap64 (by omega) (by omega)]
def GX (b:List Int)(most:Nat):List UInt8×List Int×Int:=match fY b with
 |some (n,r)=>if most<n then ([],[],5) else if r.length<n then ([],[],2) else (C7 (r.take n),r.drop n,0)
 |none=>([],[],Db b)
theorem yt (b:List Int)(most:Nat):(∃s r,qX b most=some (s,r)/\GX b most=(s,r,0))\/(qX b most=none/\ ∃e,e≠0/\GX b most=([],[],e)):=by
 unfold qX GX;cases fY b with
 |none=>exact .inr ⟨rfl,_,lL b,rfl⟩
 |some p=>
  obtain ⟨n,r⟩:=p;simp only;by_cases c1:most<n
  ·exact .inr ⟨if_pos (.inl c1),5,by decide,if_pos c1⟩
  ·by_cases c2:r.length<n
   ·exact .inr ⟨if_pos (.inr c2),2,by decide,by rw [if_neg c1,if_pos c2]⟩
   ·exact .inl ⟨_,_,if_neg (by intro h;rcases h with h|h;exact c1 h;exact c2 h),by rw [if_neg c1,if_neg c2]⟩
theorem kz {b:List Int}{n:Nat}{r:List Int}(h:fY b=some (n,r)):r.length<=b.length:=by
 unfold fY at h;cases b with
 |nil=>cases h
 |cons y l=>
  simp only at h;split at h
  ·cases h
  ·injection h with h;injection h with _ h2;rw [<-h2,List.length_drop,aQ];omega
theorem FN {n:Nat}{r:List Int}(hr:ju r)(hl:r.length<2^40){most:Nat}(hm:most<2^40)(hn:n<2^64): (if (sh .u64 (imax (most:Int) 0))<(n:Int) then some (([]:List UInt8),([]:List Int),(5:Int)) else if (sh .u64 (r.length:Int))<(n:Int) then some (([]:List UInt8),([]:List Int),2)
 else if (0:Int)<=0/\(0:Int)<=(n:Int)/\(n:Int)<=(r.length:Int) then BM (By (AI 0) (BY (AI (n:Int)) r)) λbs=>if (0:Int)<=(n:Int)/\(n:Int)<=(r.length:Int)/\(r.length:Int)<=(r.length:Int) then some (bs,By (AI (n:Int)) (BY (AI (r.length:Int)) r),0) else none
 else none)=some (if most<n then (([]:List UInt8),([]:List Int),(5:Int)) else if r.length<n then ([],[],2) else (C7 (r.take n),r.drop n,0)):=by
 have e1:sh .u64 (imax (most:Int) 0)=(most:Int):=by unfold imax;rw [kw];split<;>omega
 have e2:sh .u64 (r.length:Int)=(r.length:Int):=by rw [kw];omega
 rw [e1,e2];by_cases c1:most<n
 ·rw [if_pos (by omega),if_pos c1]
 ·rw [if_neg (by omega),if_neg c1];by_cases c2:r.length<n
  ·rw [if_pos (by omega),if_pos c2]
  ·rw [if_neg (by omega),if_neg c2,if_pos ⟨by decide,by omega,by omega⟩,show By (AI 0) (BY (AI (n:Int)) r)=r.take n by simp,C8 (hr.take _),if_pos ⟨by omega,by omega,by omega⟩];simp
theorem Dc {b:List Int}(hb:ju b)(hl:b.length<2^40){most:Nat}(hm:most<2^40):eJ b (most:Int)=some (GX b most):=by
 unfold eJ GX;rw [vF hb hl,aL];unfold TE;cases ht:fY b with
 |none=>simp only [lL b,decide_false,aai,if_true]
 |some p=>obtain ⟨n,r⟩:=p;obtain ⟨_,hu,hr⟩:=fp hb ht;have TA:=kz ht;simp only [decide_true,aaj,aaa,if_false];exact FN hr (by omega) hm hu
theorem SP {y:Int}{l:List Int}(hy:0<=y/\y<=8)(hly:y.toNat<=l.length)(hl:ju l): ∀(d j acc:Nat),j+d=y.toNat->acc<256^j->Loop (mB (y::l) y) ((acc:Int),((j+1:Nat):Int))=some (uA acc ((l.take y.toNat).drop j):Int):=by
 intro d;have ey:sh .i64 y=y:=wrap64 (by omega) (by omega);induction d with
 |zero=>intro j acc hj _;refine cW ?_;unfold mB;rw [ey];simp only;rw [if_neg (by omega),show (l.take y.toNat).drop j=[] from aaf (by rw [aae];omega)];rfl
 |succ d ih=>
  intro j acc hj ha;have cz:j<l.length:=by omega
  have hc:=hl _ (aan cz);have Zr:256^(j+1)<=256^8:=aah (by decide) (by omega);have hs:acc *256+l[j].toNat<256^(j+1):=by rw [aal];omega
  have h64:acc *256+l[j].toNat<2^64:=aak hs (by simpa using Zr);refine eQ (s':=(((acc *256+l[j].toNat:Nat):Int),((j+1+1:Nat):Int))) ?_ ?_
  ·unfold mB;rw [ey];simp only;rw [if_pos (by omega),dQ (by simp only [aQ];omega),aag,kw,kw,kw,wrap64 (by omega) (by omega)];congr 3;omega
  ·have agW:j<(l.take y.toNat).length:=by rw [aae];omega
   rw [ih (j+1) _ (by omega) hs,aab agW,uA,List.getElem_take]
theorem vG {b:List Int}(hb:ju b)(hl:b.length<2^40):mC b=some (TE b):=by
 unfold mC TE;cases b with
 |nil=>simp [fY,Db]
 |cons y l=>
  obtain ⟨hy,z7⟩:=hb.cons;have hll:l.length<2^40:=by simp only [aQ] at hl;omega
  have ey:sh .i64 y=y:=wrap64 (by omega) (by omega);rw [if_neg (by simp only [aQ];omega),Ap (by simp)];simp only [AS,ey];have hg:(if (8:Int)<y then some true else if (0:Int)<y then if (1:Int)<((y::l).length:Int) then ix (y::l) 1 λy1=>some (decide (y1=0)) else some false else some false:Option Bool)=some (decide (8<y.toNat\/(0<y.toNat/\l[0]? =some 0))):=by
   by_cases c1:(8:Int)<y
   ·rw [if_pos c1,decide_eq_true (.inl (by omega))]
   ·rw [if_neg c1];by_cases c2:(0:Int)<y
    ·rw [if_pos c2];cases l with
     |nil=>simp;omega
     |cons c r=>rw [if_pos (by simp only [aQ];omega),show (1:Int)=((1:Nat):Int) from rfl,dQ (by simp)];congr 1;rw [decide_eq_decide];simp only [aag,AS,aad,aam];omega
    ·rw [if_neg c2,decide_eq_false (by omega)]
  rw [hg,aL];unfold fY Db;simp only;by_cases c1:8<y.toNat\/(0<y.toNat/\l[0]? =some 0)
  ·rw [if_pos (by simpa using c1),if_pos (by rcases c1 with h|h;exact .inl h;exact .inr (.inl h)),if_pos c1]
  ·rw [if_neg (by simpa using c1),wrap64 (x:=1+y) (by omega) (by omega)];by_cases c2:l.length<y.toNat
   ·rw [if_pos (by simp only [aQ];omega),if_pos (.inr (.inr c2)),if_neg c1]
   ·have hL:=SP (y:=y) (l:=l) ⟨by omega,by omega⟩ (by omega) z7 y.toNat 0 0 (by omega) (by simp);simp only [Int.natCast_zero,List.drop_zero,Nat.zero_add,Int.natCast_one] at hL;rw [if_neg (by simp only [aQ];omega),hL,aL,if_pos ⟨by omega,by simp only [aQ];omega,by omega⟩,if_neg (by intro h;rcases h with h|h|h;exact c1 (.inl h);exact c1 (.inr h);exact c2 h)];congr 3;rw [show AI (1+y)=y.toNat+1 by omega];simp
theorem Ej {b:List Int}(hb:ju b)(hl:b.length<2^40):kV b=some (match lg b with|some (n,r)=>(n,r,0)|none=>(0,[],Db b)):=by
 unfold kV lg;rw [vG hb hl,aL];unfold TE;cases ht:fY b with
 |none=>simp only [lL b,decide_false,aai,if_true]
 |some p=>
  obtain ⟨u,r⟩:=p;obtain ⟨_,hu,_⟩:=fp hb ht;simp only [decide_true,aaj,aaa,if_false];rw [if_pos (show (!decide ((2:Int)=0))=true by decide),No (OF _),IN (OF _),kw];unfold uz;by_cases c:u%2=1
  ·rw [if_pos (by omega),if_pos (show (!decide ((2:Int)=0))=true by decide),if_pos c,wrap64 (x:=(u:Int)/2%18446744073709551616) (by omega) (by omega),wrap64 (x:=0-(u:Int)/2%18446744073709551616) (by omega) (by omega),wrap64 (by omega) (by omega)];congr 2;omega
  ·rw [if_neg (by omega),if_pos (show (!decide ((2:Int)=0))=true by decide),if_neg c,wrap64 (by omega) (by omega)];congr 2;omega
theorem tc {b:List Int}(hb:ju b)(hl:b.length<2^40){most:Nat}(hm:most<2^40):ia b (most:Int)=some (GX b most):=by
 unfold ia GX;rw [vG hb hl,aL];unfold TE;cases ht:fY b with
 |none=>simp only [lL b,decide_false,aai,if_true]
 |some p=>obtain ⟨n,r⟩:=p;obtain ⟨_,hu,hr⟩:=fp hb ht;have TA:=kz ht;simp only [decide_true,aaj,aaa,if_false];exact FN hr (by omega) hm hu
end Dn.S
