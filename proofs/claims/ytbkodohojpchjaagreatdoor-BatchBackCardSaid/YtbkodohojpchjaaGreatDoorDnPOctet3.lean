import Derived.Test.YtbkodohojpchjaaGreatDoorDnPOctet2
/- Numbers and texts as bytes: the document's answer;. Conditions: none. -/
set_option linter.unusedVariables false
set_option linter.unusedSimpArgs false
open Int renaming toNat→bB
open Go.IntKind renaming wrap→sh,bits→BY
open List renaming length_cons→AI,drop→AS,take→AT,getElem_cons_zero→By
open Option.some renaming injEq→IN
open Go Dn
namespace Dn.S
def S6 (b:List Int):Int:=match b with
 |[]=>2
 |y::r=>if 8<y.toNat\/(0<y.toNat/\r[0]? =some 0) then 3 else 2
theorem HX (b:List Int):S6 b≠0:=by
 unfold S6;cases b with
 |nil=>decide
 |cons y r=>simp only;split<;>decide
def tkB (b:List Int):Int×List Int×Int:=match nu b with
 |some (n,r)=>((n:Int),r,0)
 |none=>(0,[],S6 b)
theorem aaM {b:List Int}{y:Int}{m:List Int}(e:AS (bB 0) (AT (bB (sh .i64 y)) (AS (bB 1) (AT (bB (b.length:Int)) b)))=m)(hm:qO m)(h8:m.length<=8): ∀(d j acc:Nat),j+d=m.length->acc<256^j->Loop (ka b y) ((acc:Int),(j:Int))=some (AV acc (m.drop j):Int):=by
 intro d;induction d with
 |zero=>intro j acc hj _;refine ub ?_;unfold ka;rw [e];simp only;rw [if_neg (by omega),show m.drop j=[] from List.drop_of_length_le (by omega)];rfl
 |succ d ih=>
  intro j acc hj ha;have dO:j<m.length:=by omega
  have hc:=hm _ (List.getElem_mem dO);have ant:256^(j+1)<=256^8:=Nat.pow_le_pow_right (by decide) (by omega);have hs:acc *256+m[j].toNat<256^(j+1):=by rw [Nat.pow_succ];omega
  have h64:acc *256+m[j].toNat<2^64:=Nat.lt_of_lt_of_le hs (by simpa using ant);refine Bz (s':=(((acc *256+m[j].toNat:Nat):Int),((j+1:Nat):Int))) ?_ ?_
  ·unfold ka;rw [e];simp only;rw [if_pos (by omega),v7 dO,if_pos (by decide),show min (bB 8) (BY .u64)=8 by decide,FN,FN,wrap64 (by omega) (by omega),show (acc:Int) *2^8%18446744073709551616=((acc *256:Nat):Int) by omega,show m[j]%18446744073709551616=(m[j].toNat:Int) by omega,ac9 (by omega) h64];congr 3
  ·rw [ih (j+1) _ (by omega) hs,List.drop_eq_getElem_cons dO,AV]
theorem CR {b:List Int}(hb:qO b)(hl:b.length<2^40):kb b=some (tkB b):=by
 unfold kb tkB;cases b with
 |nil=>simp [nu,S6]
 |cons y l=>
  obtain ⟨hy,Gp⟩:=hb.cons;have hll:l.length<2^40:=by simp only [AI] at hl;omega
  have e1:AS (bB 1) (AT (bB (((y::l).length:Nat):Int)) (y::l))=l:=by simp
  have ey:sh .i64 y=y:=wrap64 (by omega) (by omega);rw [if_neg (by simp only [AI];omega),UQ (by simp),if_pos ⟨by decide,by simp only [AI];omega,Int.le_refl _⟩,e1];simp only [By,ey];have hg:(if (8:Int)<y then some true else if (0:Int)<y then if (0:Int)<(l.length:Int) then ix l 0 λy1=>some (decide (y1=0)) else some false else some false:Option Bool)=some (decide (8<y.toNat\/(0<y.toNat/\l[0]? =some 0))):=by
   by_cases c1:(8:Int)<y
   ·rw [if_pos c1,decide_eq_true (.inl (by omega))]
   ·rw [if_neg c1];by_cases c2:(0:Int)<y
    ·rw [if_pos c2];cases l with
     |nil=>simp;omega
     |cons c r=>rw [if_pos (by simp only [AI];omega),UQ (by simp)];congr 1;rw [decide_eq_decide];simp only [By,List.getElem?_cons_zero,IN];omega
    ·rw [if_neg c2,decide_eq_false (by omega)]
  rw [hg,cU];unfold nu S6;simp only;by_cases c1:8<y.toNat\/(0<y.toNat/\l[0]? =some 0)
  ·rw [if_pos (by simpa using c1),if_pos (by rcases c1 with h|h;exact .inl h;exact .inr (.inl h)),if_pos c1]
  ·rw [if_neg (by simpa using c1)];by_cases c2:l.length<y.toNat
   ·rw [if_pos (by omega),if_pos (.inr (.inr c2)),if_neg c1]
   ·have hlen:(l.take y.toNat).length=y.toNat:=by rw [List.length_take];omega
    have e2:AS (bB 0) (AT (bB (sh .i64 y)) (AS (bB 1) (AT (bB (((y::l).length:Nat):Int)) (y::l))))=l.take y.toNat:=by rw [e1,ey];simp
    have hL:=aaM e2 (Gp.take _) (by omega) y.toNat 0 0 (by omega) (by simp);simp only [Int.natCast_zero,List.drop_zero] at hL;rw [if_neg (by omega),if_pos ⟨by decide,by omega,by omega⟩,hL,cU,if_pos ⟨by omega,by omega,by omega⟩,if_neg (by intro h;rcases h with h|h|h;exact c1 (.inl h);exact c1 (.inr h);exact c2 h)];simp
theorem LW {b:List Int}(hb:qO b)(hl:b.length<2^40):gy b=some (match vq b with|some (n,r)=>(n,r,0)|none=>(0,[],S6 b)):=by
 unfold gy vq;rw [CR hb hl,cU,if_pos (by decide)];unfold tkB;cases ht:nu b with
 |none=>
  simp only;have e:Cf .i64 (sh .i64 (Int.fdiv 0 (2^min (bB 1) (BY .u64)))) (sh .i64 (0-(sh .i64 (H0 .u64 0 1))))=0:=by decide+kernel
  rw [e]
 |some p=>
  obtain ⟨u,r⟩:=p;obtain ⟨_,hu,_⟩:=qk hb ht;simp only;congr 2;rw [and_one hu,show bB 1=1 from rfl,EJ u 1 (by decide),wrap64 (x:=((u/2^1:Nat):Int)) (by omega) (by omega)];unfold uz;by_cases c:u%2=1
  ·rw [if_pos c,c,wrap64 (by decide) (by decide),wrap64 (by decide) (by decide),QU rfl (by omega) _ (by decide),ans];omega
  ·rw [if_neg c,show u%2=0 by omega,wrap64 (by decide) (by decide),wrap64 (by decide) (by decide),show (0:Int)-((0:Nat):Int)=0 by decide,xor_zero rfl (by omega),wrap64 (by omega) (by omega)]
def Qz (b:List Int)(most:Nat):List UInt8×List Int×Int:=match nu b with
 |some (n,r)=>if most<n then ([],[],5) else if r.length<n then ([],[],2) else (FP (r.take n),r.drop n,0)
 |none=>([],[],S6 b)
theorem WI (b:List Int)(most:Nat):(∃s r,vr b most=some (s,r)/\Qz b most=(s,r,0))\/(vr b most=none/\ ∃e,e≠0/\Qz b most=([],[],e)):=by
 unfold vr Qz;cases nu b with
 |none=>exact .inr ⟨rfl,_,HX b,rfl⟩
 |some p=>
  obtain ⟨n,r⟩:=p;simp only;by_cases c1:most<n
  ·exact .inr ⟨if_pos (.inl c1),5,by decide,if_pos c1⟩
  ·by_cases c2:r.length<n
   ·exact .inr ⟨if_pos (.inr c2),2,by decide,by rw [if_neg c1,if_pos c2]⟩
   ·exact .inl ⟨_,_,if_neg (by intro h;rcases h with h|h;exact c1 h;exact c2 h),by rw [if_neg c1,if_neg c2]⟩
theorem yz {b:List Int}{n:Nat}{r:List Int}(h:nu b=some (n,r)):r.length<=b.length:=by
 unfold nu at h;cases b with
 |nil=>cases h
 |cons y l=>
  simp only at h;split at h
  ·cases h
  ·injection h with h;injection h with _ h2;rw [<-h2,List.length_drop,AI];omega
theorem WJ {n:Nat}{r:List Int}(hr:qO r)(hl:r.length<2^40){most:Nat}(hm:most<2^40)(hn:n<2^64): (if (sh .u64 (imax (most:Int) 0))<(n:Int) then some (([]:List UInt8),([]:List Int),(5:Int)) else if (sh .u64 (r.length:Int))<(n:Int) then some (([]:List UInt8),([]:List Int),2)
 else if (0:Int)<=0/\(0:Int)<=(n:Int)/\(n:Int)<=(r.length:Int) then Jz (AS (bB 0) (AT (bB (n:Int)) r)) λbs=>if (0:Int)<=(n:Int)/\(n:Int)<=(r.length:Int)/\(r.length:Int)<=(r.length:Int) then some (bs,AS (bB (n:Int)) (AT (bB (r.length:Int)) r),0) else none
 else none)=some (if most<n then (([]:List UInt8),([]:List Int),(5:Int)) else if r.length<n then ([],[],2) else (FP (r.take n),r.drop n,0)):=by
 have e1:sh .u64 (imax (most:Int) 0)=(most:Int):=by unfold imax;rw [FN];split<;>omega
 have e2:sh .u64 (r.length:Int)=(r.length:Int):=by rw [FN];omega
 rw [e1,e2];by_cases c1:most<n
 ·rw [if_pos (by omega),if_pos c1]
 ·rw [if_neg (by omega),if_neg c1];by_cases c2:r.length<n
  ·rw [if_pos (by omega),if_pos c2]
  ·rw [if_neg (by omega),if_neg c2,if_pos ⟨by decide,by omega,by omega⟩,show AS (bB 0) (AT (bB (n:Int)) r)=r.take n by simp,QT (hr.take _),if_pos ⟨by omega,by omega,by omega⟩];simp
theorem KG {b:List Int}(hb:qO b)(hl:b.length<2^40){most:Nat}(hm:most<2^40):fp b (most:Int)=some (Qz b most):=by
 unfold fp Qz;rw [CR hb hl,cU];unfold tkB;cases ht:nu b with
 |none=>simp only [HX b,decide_false,Bool.not_false,if_true]
 |some p=>obtain ⟨n,r⟩:=p;obtain ⟨_,hu,hr⟩:=qk hb ht;have hrl:=yz ht;simp only [decide_true,Bool.not_true,Bool.false_eq_true,if_false];exact WJ hr (by omega) hm hu
end Dn.S
