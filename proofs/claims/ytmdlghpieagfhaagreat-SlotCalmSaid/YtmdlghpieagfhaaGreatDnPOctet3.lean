import Derived.Test.YtmdlghpieagfhaaGreatDnPOctet2
/- Numbers and texts as bytes: the document's answer;. Conditions: none. -/
set_option linter.unusedVariables false
set_option linter.unusedSimpArgs false
open Int renaming toNat→cV
open Go.IntKind renaming wrap→sh,bits→No
open List renaming length_cons→AI,drop→AT,take→BY,getElem_cons_zero→IT
open Option.some renaming injEq→OF
open Go Dn
namespace Dn.S
def KK (b:List Int):Int:=match b with
 |[]=>2
 |y::r=>if 8<y.toNat\/(0<y.toNat/\r[0]? =some 0) then 3 else 2
theorem jX (b:List Int):KK b≠0:=by
 unfold KK;cases b with
 |nil=>decide
 |cons y r=>simp only;split<;>decide
def tkB (b:List Int):Int×List Int×Int:=match qn b with
 |some (n,r)=>((n:Int),r,0)
 |none=>(0,[],KK b)
theorem acu {b:List Int}{y:Int}{m:List Int}(e:AT (cV 0) (BY (cV (sh .i64 y)) (AT (cV 1) (BY (cV (b.length:Int)) b)))=m)(hm:tR m)(h8:m.length<=8): ∀(d j acc:Nat),j+d=m.length->acc<256^j->Loop (pJ b y) ((acc:Int),(j:Int))=some (Bd acc (m.drop j):Int):=by
 intro d;induction d with
 |zero=>intro j acc hj _;refine Bc ?_;unfold pJ;rw [e];simp only;rw [if_neg (by omega),show m.drop j=[] from List.drop_of_length_le (by omega)];rfl
 |succ d ih=>
  intro j acc hj ha;have cJ:j<m.length:=by omega
  have hc:=hm _ (List.getElem_mem cJ);have ast:256^(j+1)<=256^8:=Nat.pow_le_pow_right (by decide) (by omega);have hs:acc *256+m[j].toNat<256^(j+1):=by rw [Nat.pow_succ];omega
  have h64:acc *256+m[j].toNat<2^64:=Nat.lt_of_lt_of_le hs (by simpa using ast);refine rb (s':=(((acc *256+m[j].toNat:Nat):Int),((j+1:Nat):Int))) ?_ ?_
  ·unfold pJ;rw [e];simp only;rw [if_pos (by omega),bB cJ,if_pos (by decide),show min (cV 8) (No .u64)=8 by decide,HH,HH,wrap64 (by omega) (by omega),show (acc:Int) *2^8%18446744073709551616=((acc *256:Nat):Int) by omega,show m[j]%18446744073709551616=(m[j].toNat:Int) by omega,afa (by omega) h64];congr 3
  ·rw [ih (j+1) _ (by omega) hs,List.drop_eq_getElem_cons cJ,Bd]
theorem KL {b:List Int}(hb:tR b)(hl:b.length<2^40):qT b=some (tkB b):=by
 unfold qT tkB;cases b with
 |nil=>simp [qn,KK]
 |cons y l=>
  obtain ⟨hy,It⟩:=hb.cons;have hll:l.length<2^40:=by simp only [AI] at hl;omega
  have e1:AT (cV 1) (BY (cV (((y::l).length:Nat):Int)) (y::l))=l:=by simp
  have ey:sh .i64 y=y:=wrap64 (by omega) (by omega);rw [if_neg (by simp only [AI];omega),yM (by simp),if_pos ⟨by decide,by simp only [AI];omega,Int.le_refl _⟩,e1];simp only [IT,ey];have hg:(if (8:Int)<y then some true else if (0:Int)<y then if (0:Int)<(l.length:Int) then ix l 0 λy1=>some (decide (y1=0)) else some false else some false:Option Bool)=some (decide (8<y.toNat\/(0<y.toNat/\l[0]? =some 0))):=by
   by_cases c1:(8:Int)<y
   ·rw [if_pos c1,decide_eq_true (.inl (by omega))]
   ·rw [if_neg c1];by_cases c2:(0:Int)<y
    ·rw [if_pos c2];cases l with
     |nil=>simp;omega
     |cons c r=>rw [if_pos (by simp only [AI];omega),yM (by simp)];congr 1;rw [decide_eq_decide];simp only [IT,List.getElem?_cons_zero,OF];omega
    ·rw [if_neg c2,decide_eq_false (by omega)]
  rw [hg,au];unfold qn KK;simp only;by_cases c1:8<y.toNat\/(0<y.toNat/\l[0]? =some 0)
  ·rw [if_pos (by simpa using c1),if_pos (by rcases c1 with h|h;exact .inl h;exact .inr (.inl h)),if_pos c1]
  ·rw [if_neg (by simpa using c1)];by_cases c2:l.length<y.toNat
   ·rw [if_pos (by omega),if_pos (.inr (.inr c2)),if_neg c1]
   ·have hlen:(l.take y.toNat).length=y.toNat:=by rw [List.length_take];omega
    have e2:AT (cV 0) (BY (cV (sh .i64 y)) (AT (cV 1) (BY (cV (((y::l).length:Nat):Int)) (y::l))))=l.take y.toNat:=by rw [e1,ey];simp
    have hL:=acu e2 (It.take _) (by omega) y.toNat 0 0 (by omega) (by simp);simp only [Int.natCast_zero,List.drop_zero] at hL;rw [if_neg (by omega),if_pos ⟨by decide,by omega,by omega⟩,hL,au,if_pos ⟨by omega,by omega,by omega⟩,if_neg (by intro h;rcases h with h|h|h;exact c1 (.inl h);exact c1 (.inr h);exact c2 h)];simp
theorem L4 {b:List Int}(hb:tR b)(hl:b.length<2^40):nZ b=some (match lE b with|some (n,r)=>(n,r,0)|none=>(0,[],KK b)):=by
 unfold nZ lE;rw [KL hb hl,au,if_pos (by decide)];unfold tkB;cases ht:qn b with
 |none=>
  simp only;have e:E8 .i64 (sh .i64 (Int.fdiv 0 (2^min (cV 1) (No .u64)))) (sh .i64 (0-(sh .i64 (SA .u64 0 1))))=0:=by decide+kernel
  rw [e]
 |some p=>
  obtain ⟨u,r⟩:=p;obtain ⟨_,hu,_⟩:=yR hb ht;simp only;congr 2;rw [and_one hu,show cV 1=1 from rfl,EN u 1 (by decide),wrap64 (x:=((u/2^1:Nat):Int)) (by omega) (by omega)];unfold uz;by_cases c:u%2=1
  ·rw [if_pos c,c,wrap64 (by decide) (by decide),wrap64 (by decide) (by decide),RT rfl (by omega) _ (by decide),asr];omega
  ·rw [if_neg c,show u%2=0 by omega,wrap64 (by decide) (by decide),wrap64 (by decide) (by decide),show (0:Int)-((0:Nat):Int)=0 by decide,xor_zero rfl (by omega),wrap64 (by omega) (by omega)]
def tkT (b:List Int)(most:Nat):List UInt8×List Int×Int:=match qn b with
 |some (n,r)=>if most<n then ([],[],5) else if r.length<n then ([],[],2) else (Pm (r.take n),r.drop n,0)
 |none=>([],[],KK b)
theorem X2 (b:List Int)(most:Nat):(∃s r,vZ b most=some (s,r)/\tkT b most=(s,r,0))\/(vZ b most=none/\ ∃e,e≠0/\tkT b most=([],[],e)):=by
 unfold vZ tkT;cases qn b with
 |none=>exact .inr ⟨rfl,_,jX b,rfl⟩
 |some p=>
  obtain ⟨n,r⟩:=p;simp only;by_cases c1:most<n
  ·exact .inr ⟨if_pos (.inl c1),5,by decide,if_pos c1⟩
  ·by_cases c2:r.length<n
   ·exact .inr ⟨if_pos (.inr c2),2,by decide,by rw [if_neg c1,if_pos c2]⟩
   ·exact .inl ⟨_,_,if_neg (by intro h;rcases h with h|h;exact c1 h;exact c2 h),by rw [if_neg c1,if_neg c2]⟩
theorem Dk {b:List Int}{n:Nat}{r:List Int}(h:qn b=some (n,r)):r.length<=b.length:=by
 unfold qn at h;cases b with
 |nil=>cases h
 |cons y l=>
  simp only at h;split at h
  ·cases h
  ·injection h with h;injection h with _ h2;rw [<-h2,List.length_drop,AI];omega
theorem X3 {n:Nat}{r:List Int}(hr:tR r)(hl:r.length<2^40){most:Nat}(hm:most<2^40)(hn:n<2^64): (if (sh .u64 (imax (most:Int) 0))<(n:Int) then some (([]:List UInt8),([]:List Int),(5:Int)) else if (sh .u64 (r.length:Int))<(n:Int) then some (([]:List UInt8),([]:List Int),2)
 else if (0:Int)<=0/\(0:Int)<=(n:Int)/\(n:Int)<=(r.length:Int) then Q1 (AT (cV 0) (BY (cV (n:Int)) r)) λbs=>if (0:Int)<=(n:Int)/\(n:Int)<=(r.length:Int)/\(r.length:Int)<=(r.length:Int) then some (bs,AT (cV (n:Int)) (BY (cV (r.length:Int)) r),0) else none
 else none)=some (if most<n then (([]:List UInt8),([]:List Int),(5:Int)) else if r.length<n then ([],[],2) else (Pm (r.take n),r.drop n,0)):=by
 have e1:sh .u64 (imax (most:Int) 0)=(most:Int):=by unfold imax;rw [HH];split<;>omega
 have e2:sh .u64 (r.length:Int)=(r.length:Int):=by rw [HH];omega
 rw [e1,e2];by_cases c1:most<n
 ·rw [if_pos (by omega),if_pos c1]
 ·rw [if_neg (by omega),if_neg c1];by_cases c2:r.length<n
  ·rw [if_pos (by omega),if_pos c2]
  ·rw [if_neg (by omega),if_neg c2,if_pos ⟨by decide,by omega,by omega⟩,show AT (cV 0) (BY (cV (n:Int)) r)=r.take n by simp,acr (hr.take _),if_pos ⟨by omega,by omega,by omega⟩];simp
theorem KM {b:List Int}(hb:tR b)(hl:b.length<2^40){most:Nat}(hm:most<2^40):kI b (most:Int)=some (tkT b most):=by
 unfold kI tkT;rw [KL hb hl,au];unfold tkB;cases ht:qn b with
 |none=>simp only [jX b,decide_false,Bool.not_false,if_true]
 |some p=>obtain ⟨n,r⟩:=p;obtain ⟨_,hu,hr⟩:=yR hb ht;have hrl:=Dk ht;simp only [decide_true,Bool.not_true,Bool.false_eq_true,if_false];exact X3 hr (by omega) hm hu
end Dn.S
