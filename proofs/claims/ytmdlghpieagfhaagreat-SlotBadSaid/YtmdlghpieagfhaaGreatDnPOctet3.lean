import Derived.Test.YtmdlghpieagfhaaGreatDnPOctet2
/-
  Numbers and texts as bytes: the document's answer; what is taken. Conditions: none.
-/
set_option linter.unusedVariables false
set_option linter.unusedSimpArgs false
open List renaming length_cons→eJ,getElem_cons_zero→AT,length_singleton→BY,drop→IN,take→IS,length_append→No,drop_eq_getElem_cons→aai,append_assoc→aas,getElem?_cons_zero→aaD,length_take→aaL,drop_of_length_le→aaN,getElem_cons_succ→aaR,getElem_mem→aa7
open Go.IntKind renaming wrap→sh,bits→aa9
open Int renaming toNat→AI,tdiv_eq_ediv_of_nonneg→IT,tmod_eq_emod_of_nonneg→OF,natCast_nonneg→aaa,natCast_zero→aa8
open Bool renaming false_eq_true→aah,not_false→aaT,not_true→aaX
open Nat renaming pow_le_pow_right→aaS,lt_of_lt_of_le→aaZ,pow_succ→aa1
open Option.some renaming injEq→aa6
open Go Dn
namespace Dn.S
theorem Sr {n:Nat}(h:n<2^64):IL (n:Int)=some ((1+fO n:Nat):Int):=by unfold IL;have hk:=rO n;have:=Zo (fO n) n 1 h rfl (by omega);rw [show ((1:Nat):Int)=1 from rfl] at this;rw [this,ap]
theorem Zp {l:List Int}{i:Nat}(hi:i<=7): ∀(d j n:Nat),j+d=i->n<2^64->Loop (Bd (l,(i:Int))) ((n:Int),(j:Int))=some ((n/256^d:Nat):Int):=by
 intro d;induction d with
 |zero=>intro j n hj hn;refine np ?_;unfold Bd;simp only;rw [if_neg (by omega)];simp
 |succ d ih=>
  intro j n hj hn;refine jz (s':=(((n/256:Nat):Int),((j+1:Nat):Int))) ?_ ?_
  ·unfold Bd;simp only;rw [if_pos (by omega),if_pos (by decide),IT (by omega),tj,wrap64 (by omega) (by omega)];congr 3;omega
  ·rw [ih (j+1) (n/256) (by omega) (by omega),aa1,Nat.mul_comm,Nat.div_div_eq_div_mul]
theorem Zq {n:Nat}(hn:n<2^64): ∀(j:Nat) (l:List Int),j<=8->l.length<=2^45+(8-j)->Loop (Be (n:Int)) (l,(j:Int)-1)=some (l++wF j n):=by
 intro j;induction j with
 |zero=>intro l _ _;refine np ?_;unfold Be;simp only;rw [if_neg (by omega)];simp [wF]
 |succ j ih=>
  intro l hj hl;have hh:=ih (l++[((n/256^j%256:Nat):Int)]) (by omega) (by rw [No,BY];omega);have e0:(((j+1:Nat):Int)-1)=(j:Int):=by omega
  rw [e0];refine jz (s':=(l++[((n/256^j%256:Nat):Int)],(j:Int)-1)) ?_ ?_
  ·unfold Be;simp only;have e1:=Zp (l:=l) (i:=j) (by omega) j 0 n (by omega) hn;rw [show ((0:Nat):Int)=0 from rfl] at e1;rw [if_pos (by omega),e1,ap,if_pos (by decide),if_pos (by rw [BY];omega),wrap64 (by omega) (by omega),w8,OF (aaa _)];generalize n/256^j=x;rw [show (x:Int)%256%256=((x%256:Nat):Int) by omega]
  ·rw [hh,wF,aas];rfl
theorem FK {b:List Int}(hb:b.length<=2^44){n:Nat}(h:n<2^64):DP b (n:Int)=some (b++JW n):=by unfold DP;have hk:=rO n;rw [if_pos (by simp only [List.length_nil];omega),Sr h,ap,List.nil_append,show sh .i64 (((1+fO n:Nat):Int)-1)=(fO n:Int) by rw [wrap64 (by omega) (by omega)];omega,show sh .u8 (fO n:Int)=(fO n:Int) by rw [w8];omega,if_pos (by rw [BY];omega),wrap64 (by omega) (by omega),Zq h (fO n) _ hk (by rw [No,BY];omega),ap,aas];rfl
theorem tK {b:List Int}(hb:b.length<=2^44){n:Int}(h:i64 n):vE b n=some (b++zt n):=by
 unfold vE i64 at *;have hz:=Zk (n:=n) h;unfold zt;by_cases c:n<0
 ·rw [if_pos c,wrap64 (x:=n+1) (by omega) (by omega),wrap64 (x:=0-(n+1)) (by omega) (by omega),tj,tj,tj,show (2 *((0-(n+1))%18446744073709551616)%18446744073709551616+1)%18446744073709551616=((zz n:Nat):Int) by unfold zz;rw [if_pos c];omega,FK hb hz,ap]
 ·rw [if_neg c,tj,tj,show 2 *(n%18446744073709551616)%18446744073709551616=((zz n:Nat):Int) by unfold zz;rw [if_neg c];omega,FK hb hz,ap]
theorem JY {b:List Int}(hb:b.length<=2^44){s:List UInt8}(h:s.length<=2^44):DQ b s=some (b++AA s):=by unfold DQ;have:=rO s.length;rw [tj,show ((s.length:Int)%18446744073709551616)=((s.length:Nat):Int) by omega,FK hb (by omega),ap,if_pos (by rw [No,EG,xB];omega),aas];rfl
def EI (b:List Int):Int:=match b with
 |[]=>2
 |y::r=>if 8<y.toNat\/(0<y.toNat/\r[0]? =some 0) then 3 else 2
theorem iu (b:List Int):EI b≠0:=by
 unfold EI;cases b with
 |nil=>decide
 |cons y r=>simp only;split<;>decide
def tkB (b:List Int):Int×List Int×Int:=match nq b with
 |some (n,r)=>((n:Int),r,0)
 |none=>(0,[],EI b)
theorem Zr {b:List Int}{y:Int}{m:List Int}(e:IN (AI 0) (IS (AI (sh .i64 y)) (IN (AI 1) (IS (AI (b.length:Int)) b)))=m)(hm:qO m)(h8:m.length<=8): ∀(d j acc:Nat),j+d=m.length->acc<256^j->Loop (pU b y) ((acc:Int),(j:Int))=some (yJ acc (m.drop j):Int):=by
 intro d;induction d with
 |zero=>intro j acc hj _;refine np ?_;unfold pU;rw [e];simp only;rw [if_neg (by omega),show m.drop j=[] from aaN (by omega)];rfl
 |succ d ih=>
  intro j acc hj ha;have dO:j<m.length:=by omega
  have hc:=hm _ (aa7 dO);have afy:256^(j+1)<=256^8:=aaS (by decide) (by omega);have hs:acc *256+m[j].toNat<256^(j+1):=by rw [aa1];omega
  have h64:acc *256+m[j].toNat<2^64:=aaZ hs (by simpa using afy);refine jz (s':=(((acc *256+m[j].toNat:Nat):Int),((j+1:Nat):Int))) ?_ ?_
  ·unfold pU;rw [e];simp only;rw [if_pos (by omega),bh dO,if_pos (by decide),show min (AI 8) (aa9 .u64)=8 by decide,tj,tj,wrap64 (by omega) (by omega),show (acc:Int) *2^8%18446744073709551616=((acc *256:Nat):Int) by omega,show m[j]%18446744073709551616=(m[j].toNat:Int) by omega,abG (by omega) h64];congr 3
  ·rw [ih (j+1) _ (by omega) hs,aai dO,yJ]
theorem JZ {b:List Int}(hb:qO b)(hl:b.length<2^40):qZ b=some (tkB b):=by
 unfold qZ tkB;cases b with
 |nil=>simp [nq,EI]
 |cons y l=>
  obtain ⟨hy,Ko⟩:=hb.cons;have hll:l.length<2^40:=by simp only [eJ] at hl;omega
  have e1:IN (AI 1) (IS (AI (((y::l).length:Nat):Int)) (y::l))=l:=by simp
  have ey:sh .i64 y=y:=wrap64 (by omega) (by omega);rw [if_neg (by simp only [eJ];omega),jT (by simp),if_pos ⟨by decide,by simp only [eJ];omega,Int.le_refl _⟩,e1];simp only [AT,ey];have hg:(if (8:Int)<y then some true else if (0:Int)<y then if (0:Int)<(l.length:Int) then ix l 0 λy1=>some (decide (y1=0)) else some false else some false:Option Bool)=some (decide (8<y.toNat\/(0<y.toNat/\l[0]? =some 0))):=by
   by_cases c1:(8:Int)<y
   ·rw [if_pos c1,decide_eq_true (.inl (by omega))]
   ·rw [if_neg c1];by_cases c2:(0:Int)<y
    ·rw [if_pos c2];cases l with
     |nil=>simp;omega
     |cons c r=>rw [if_pos (by simp only [eJ];omega),jT (by simp)];congr 1;rw [decide_eq_decide];simp only [AT,aaD,aa6];omega
    ·rw [if_neg c2,decide_eq_false (by omega)]
  rw [hg,ap];unfold nq EI;simp only;by_cases c1:8<y.toNat\/(0<y.toNat/\l[0]? =some 0)
  ·rw [if_pos (by simpa using c1),if_pos (by rcases c1 with h|h;exact .inl h;exact .inr (.inl h)),if_pos c1]
  ·rw [if_neg (by simpa using c1)];by_cases c2:l.length<y.toNat
   ·rw [if_pos (by omega),if_pos (.inr (.inr c2)),if_neg c1]
   ·have hlen:(l.take y.toNat).length=y.toNat:=by rw [aaL];omega
    have e2:IN (AI 0) (IS (AI (sh .i64 y)) (IN (AI 1) (IS (AI (((y::l).length:Nat):Int)) (y::l))))=l.take y.toNat:=by rw [e1,ey];simp
    have hL:=Zr e2 (Ko.take _) (by omega) y.toNat 0 0 (by omega) (by simp);simp only [aa8,List.drop_zero] at hL;rw [if_neg (by omega),if_pos ⟨by decide,by omega,by omega⟩,hL,ap,if_pos ⟨by omega,by omega,by omega⟩,if_neg (by intro h;rcases h with h|h|h;exact c1 (.inl h);exact c1 (.inr h);exact c2 h)];simp
theorem K5 {b:List Int}(hb:qO b)(hl:b.length<2^40):oe b=some (match fS b with|some (n,r)=>(n,r,0)|none=>(0,[],EI b)):=by
 unfold oe fS;rw [JZ hb hl,ap,if_pos (by decide)];unfold tkB;cases ht:nq b with
 |none=>
  simp only;have e:ET .i64 (sh .i64 (Int.fdiv 0 (2^min (AI 1) (aa9 .u64)))) (sh .i64 (0-(sh .i64 (QU .u64 0 1))))=0:=by decide+kernel
  rw [e]
 |some p=>
  obtain ⟨u,r⟩:=p;obtain ⟨_,hu,_⟩:=rl hb ht;simp only;congr 2;rw [and_one hu,show AI 1=1 from rfl,EH u 1 (by decide),wrap64 (x:=((u/2^1:Nat):Int)) (by omega) (by omega)];unfold uz;by_cases c:u%2=1
  ·rw [if_pos c,c,wrap64 (by decide) (by decide),wrap64 (by decide) (by decide),Qm rfl (by omega) _ (by decide),aok];omega
  ·rw [if_neg c,show u%2=0 by omega,wrap64 (by decide) (by decide),wrap64 (by decide) (by decide),show (0:Int)-((0:Nat):Int)=0 by decide,xor_zero rfl (by omega),wrap64 (by omega) (by omega)]
def ZZ (b:List Int)(most:Nat):List UInt8×List Int×Int:=match nq b with
 |some (n,r)=>if most<n then ([],[],5) else if r.length<n then ([],[],2) else (NZ (r.take n),r.drop n,0)
 |none=>([],[],EI b)
theorem FL (b:List Int)(most:Nat):(∃s r,uK b most=some (s,r)/\ZZ b most=(s,r,0))\/(uK b most=none/\ ∃e,e≠0/\ZZ b most=([],[],e)):=by
 unfold uK ZZ;cases nq b with
 |none=>exact .inr ⟨rfl,_,iu b,rfl⟩
 |some p=>
  obtain ⟨n,r⟩:=p;simp only;by_cases c1:most<n
  ·exact .inr ⟨if_pos (.inl c1),5,by decide,if_pos c1⟩
  ·by_cases c2:r.length<n
   ·exact .inr ⟨if_pos (.inr c2),2,by decide,by rw [if_neg c1,if_pos c2]⟩
   ·exact .inl ⟨_,_,if_neg (by intro h;rcases h with h|h;exact c1 h;exact c2 h),by rw [if_neg c1,if_neg c2]⟩
theorem yK {b:List Int}{n:Nat}{r:List Int}(h:nq b=some (n,r)):r.length<=b.length:=by
 unfold nq at h;cases b with
 |nil=>cases h
 |cons y l=>
  simp only at h;split at h
  ·cases h
  ·injection h with h;injection h with _ h2;rw [<-h2,List.length_drop,eJ];omega
theorem Mp {n:Nat}{r:List Int}(hr:qO r)(hl:r.length<2^40){most:Nat}(hm:most<2^40)(hn:n<2^64): (if (sh .u64 (imax (most:Int) 0))<(n:Int) then some (([]:List UInt8),([]:List Int),(5:Int)) else if (sh .u64 (r.length:Int))<(n:Int) then some (([]:List UInt8),([]:List Int),2)
 else if (0:Int)<=0/\(0:Int)<=(n:Int)/\(n:Int)<=(r.length:Int) then NB (IN (AI 0) (IS (AI (n:Int)) r)) λbs=>if (0:Int)<=(n:Int)/\(n:Int)<=(r.length:Int)/\(r.length:Int)<=(r.length:Int) then some (bs,IN (AI (n:Int)) (IS (AI (r.length:Int)) r),0) else none
 else none)=some (if most<n then (([]:List UInt8),([]:List Int),(5:Int)) else if r.length<n then ([],[],2) else (NZ (r.take n),r.drop n,0)):=by
 have e1:sh .u64 (imax (most:Int) 0)=(most:Int):=by unfold imax;rw [tj];split<;>omega
 have e2:sh .u64 (r.length:Int)=(r.length:Int):=by rw [tj];omega
 rw [e1,e2];by_cases c1:most<n
 ·rw [if_pos (by omega),if_pos c1]
 ·rw [if_neg (by omega),if_neg c1];by_cases c2:r.length<n
  ·rw [if_pos (by omega),if_pos c2]
  ·rw [if_neg (by omega),if_neg c2,if_pos ⟨by decide,by omega,by omega⟩,show IN (AI 0) (IS (AI (n:Int)) r)=r.take n by simp,Zm (hr.take _),if_pos ⟨by omega,by omega,by omega⟩];simp
theorem J0 {b:List Int}(hb:qO b)(hl:b.length<2^40){most:Nat}(hm:most<2^40):kE b (most:Int)=some (ZZ b most):=by
 unfold kE ZZ;rw [JZ hb hl,ap];unfold tkB;cases ht:nq b with
 |none=>simp only [iu b,decide_false,aaT,if_true]
 |some p=>obtain ⟨n,r⟩:=p;obtain ⟨_,hu,hr⟩:=rl hb ht;have V0:=yK ht;simp only [decide_true,aaX,aah,if_false];exact Mp hr (by omega) hm hu
theorem Zs {y:Int}{l:List Int}(hy:0<=y/\y<=8)(hly:y.toNat<=l.length)(hl:qO l): ∀(d j acc:Nat),j+d=y.toNat->acc<256^j->Loop (yk (y::l) y) ((acc:Int),((j+1:Nat):Int))=some (yJ acc ((l.take y.toNat).drop j):Int):=by
 intro d;have ey:sh .i64 y=y:=wrap64 (by omega) (by omega);induction d with
 |zero=>intro j acc hj _;refine np ?_;unfold yk;rw [ey];simp only;rw [if_neg (by omega),show (l.take y.toNat).drop j=[] from aaN (by rw [aaL];omega)];rfl
 |succ d ih=>
  intro j acc hj ha;have dO:j<l.length:=by omega
  have hc:=hl _ (aa7 dO);have afy:256^(j+1)<=256^8:=aaS (by decide) (by omega);have hs:acc *256+l[j].toNat<256^(j+1):=by rw [aa1];omega
  have h64:acc *256+l[j].toNat<2^64:=aaZ hs (by simpa using afy);refine jz (s':=(((acc *256+l[j].toNat:Nat):Int),((j+1+1:Nat):Int))) ?_ ?_
  ·unfold yk;rw [ey];simp only;rw [if_pos (by omega),bh (by simp only [eJ];omega),aaR,tj,tj,tj,wrap64 (by omega) (by omega)];congr 3;omega
  ·have aol:j<(l.take y.toNat).length:=by rw [aaL];omega
   rw [ih (j+1) _ (by omega) hs,aai aol,yJ,List.getElem_take]
theorem J3 {b:List Int}(hb:qO b)(hl:b.length<2^40):DO b=some (tkB b):=by
 unfold DO tkB;cases b with
 |nil=>simp [nq,EI]
 |cons y l=>
  obtain ⟨hy,Ko⟩:=hb.cons;have hll:l.length<2^40:=by simp only [eJ] at hl;omega
  have ey:sh .i64 y=y:=wrap64 (by omega) (by omega);rw [if_neg (by simp only [eJ];omega),jT (by simp)];simp only [AT,ey];have hg:(if (8:Int)<y then some true else if (0:Int)<y then if (1:Int)<((y::l).length:Int) then ix (y::l) 1 λy1=>some (decide (y1=0)) else some false else some false:Option Bool)=some (decide (8<y.toNat\/(0<y.toNat/\l[0]? =some 0))):=by
   by_cases c1:(8:Int)<y
   ·rw [if_pos c1,decide_eq_true (.inl (by omega))]
   ·rw [if_neg c1];by_cases c2:(0:Int)<y
    ·rw [if_pos c2];cases l with
     |nil=>simp;omega
     |cons c r=>rw [if_pos (by simp only [eJ];omega),show (1:Int)=((1:Nat):Int) from rfl,bh (by simp)];congr 1;rw [decide_eq_decide];simp only [aaR,AT,aaD,aa6];omega
    ·rw [if_neg c2,decide_eq_false (by omega)]
  rw [hg,ap];unfold nq EI;simp only;by_cases c1:8<y.toNat\/(0<y.toNat/\l[0]? =some 0)
  ·rw [if_pos (by simpa using c1),if_pos (by rcases c1 with h|h;exact .inl h;exact .inr (.inl h)),if_pos c1]
  ·rw [if_neg (by simpa using c1),wrap64 (x:=1+y) (by omega) (by omega)];by_cases c2:l.length<y.toNat
   ·rw [if_pos (by simp only [eJ];omega),if_pos (.inr (.inr c2)),if_neg c1]
   ·have hL:=Zs (y:=y) (l:=l) ⟨by omega,by omega⟩ (by omega) Ko y.toNat 0 0 (by omega) (by simp);simp only [aa8,List.drop_zero,Nat.zero_add,Int.natCast_one] at hL;rw [if_neg (by simp only [eJ];omega),hL,ap,if_pos ⟨by omega,by simp only [eJ];omega,by omega⟩,if_neg (by intro h;rcases h with h|h|h;exact c1 (.inl h);exact c1 (.inr h);exact c2 h)];congr 3;rw [show AI (1+y)=y.toNat+1 by omega];simp
theorem Cf {b:List Int}(hb:qO b)(hl:b.length<2^40):z8 b=some (match fS b with|some (n,r)=>(n,r,0)|none=>(0,[],EI b)):=by
 unfold z8 fS;rw [J3 hb hl,ap];unfold tkB;cases ht:nq b with
 |none=>simp only [iu b,decide_false,aaT,if_true]
 |some p=>
  obtain ⟨u,r⟩:=p;obtain ⟨_,hu,_⟩:=rl hb ht;simp only [decide_true,aaX,aah,if_false];rw [if_pos (show (!decide ((2:Int)=0))=true by decide),OF (aaa _),IT (aaa _),tj];unfold uz;by_cases c:u%2=1
  ·rw [if_pos (by omega),if_pos (show (!decide ((2:Int)=0))=true by decide),if_pos c,wrap64 (x:=(u:Int)/2%18446744073709551616) (by omega) (by omega),wrap64 (x:=0-(u:Int)/2%18446744073709551616) (by omega) (by omega),wrap64 (by omega) (by omega)];congr 2;omega
  ·rw [if_neg (by omega),if_pos (show (!decide ((2:Int)=0))=true by decide),if_neg c,wrap64 (by omega) (by omega)];congr 2;omega
theorem AB {b:List Int}(hb:qO b)(hl:b.length<2^40){most:Nat}(hm:most<2^40):nC b (most:Int)=some (ZZ b most):=by
 unfold nC ZZ;rw [J3 hb hl,ap];unfold tkB;cases ht:nq b with
 |none=>simp only [iu b,decide_false,aaT,if_true]
 |some p=>obtain ⟨n,r⟩:=p;obtain ⟨_,hu,hr⟩:=rl hb ht;have V0:=yK ht;simp only [decide_true,aaX,aah,if_false];exact Mp hr (by omega) hm hu
end Dn.S
