import Derived.Test.YtmdlghpieagfhaaGreatDnPOctet
/- Numbers and texts as bytes: what the functions give. Conditions: none. -/
set_option linter.unusedVariables false
set_option linter.unusedSimpArgs false
open Go.IntKind renaming wrap→cV,bits→sh
open BitVec renaming toNat_ofNat→AI,ofInt→BY
open List renaming length_singleton→AT,length_append→aaJ,append_assoc→aaK
open Nat renaming mod_eq_of_lt→IT
open Int renaming fdiv→No,toNat→OF,fdiv_eq_ediv_of_nonneg→aau
open Go Dn
namespace Dn.S
theorem tU (n:Nat):(BY 64 (n:Int))=BitVec.ofNat 64 n:=by apply BitVec.eq_of_toNat_eq;rw [BitVec.toNat_ofInt,AI];omega
theorem acs {A c:Nat}(a:Nat)(hA:A=2^8 *a)(hc:c<2^8)(h:A+c<2^64):bOr .u64 (A:Int) (c:Int)=((A+c:Nat):Int):=by unfold bOr;show cV .u64 ((BY 64 (A:Int)|||BY 64 (c:Int)).toNat:Int)=_;have e1:A%2^64=A:=IT (by omega);have e2:c%2^64=c:=IT (by omega);have e3:=Nat.two_pow_add_eq_or_of_lt hc a;rw [<-hA] at e3;rw [tU,tU,BitVec.toNat_or,AI,AI,e1,e2,<-e3,HH];omega
theorem afa {a c:Nat}(hc:c<256)(h:a *256+c<2^64):bOr .u64 ((a *256:Nat):Int) (c:Int)=((a *256+c:Nat):Int):=acs a (Nat.mul_comm _ _) hc h
theorem and_one {u:Nat}(h:u<2^64):SA .u64 (u:Int) 1=((u%2:Nat):Int):=by unfold SA;show cV .u64 ((BY 64 (u:Int)&&&BY 64 ((1:Nat):Int)).toNat:Int)=_;rw [tU,tU,BitVec.toNat_and,AI,AI,IT h,show 1%2^64=1 by decide,Nat.and_one_is_mod,HH];omega
theorem xor_zero {k:IntKind}(hk:k.bits=64){x:Nat}(h:x<2^64):E8 k (x:Int) 0=k.wrap (x:Int):=by unfold E8;rw [hk,tU,show BY 64 0=BitVec.ofNat 64 0 by decide,BitVec.xor_zero,AI,IT h]
theorem RT {k:IntKind}(hk:k.bits=64){x:Nat}(h:x<2^64)(m:Int)(hm:BY 64 m=BitVec.allOnes 64):E8 k (x:Int) m=k.wrap ((2^64-1-x:Nat):Int):=by unfold E8;rw [hk,tU,hm,BitVec.xor_allOnes,BitVec.toNat_not,AI,IT h]
theorem EN (n:Nat)(s:Nat)(hs:s<=64):No (n:Int) (2^min s (sh .u64))=((n/2^s:Nat):Int):=by rw [aau _ (Int.le_of_lt (Int.pow_pos (by decide))),show min s (sh .u64)=s from Nat.min_eq_left hs];norm_cast
def QB:List UInt8:=(([0,1,2,2,3,3,3,3,4,4,4,4,4,4,4,4,5,5,5,5,5,5,5,5,5,5,5,5,5,5,5,5,6,6,6,6,6,6,6,6,6,6,6,6,6,6,6,6,6,6,6,6,6,6,6,6,6,6,6,6,6,6,6,6]:List UInt8)++([7,7,7,7,7,7,7,7,7,7,7,7,7,7,7,7,7,7,7,7,7,7,7,7,7,7,7,7,7,7,7,7,7,7,7,7,7,7,7,7,7,7,7,7,7,7,7,7,7,7,7,7,7,7,7,7,7,7,7,7,7,7,7,7]:List UInt8))++(([8,8,8,8,8,8,8,8,8,8,8,8,8,8,8,8,8,8,8,8,8,8,8,8,8,8,8,8,8,8,8,8,8,8,8,8,8,8,8,8,8,8,8,8,8,8,8,8,8,8,8,8,8,8,8,8,8,8,8,8,8,8,8,8]:List UInt8)++([8,8,8,8,8,8,8,8,8,8,8,8,8,8,8,8,8,8,8,8,8,8,8,8,8,8,8,8,8,8,8,8,8,8,8,8,8,8,8,8,8,8,8,8,8,8,8,8,8,8,8,8,8,8,8,8,8,8,8,8,8,8,8,8]:List UInt8))
theorem Ou: ∀y:Fin 256,((QB.getD y 0).toNat+7)/8=(if (y:Nat)=0 then 0 else 1)/\(QB.getD y 0).toNat<=8:=by decide+kernel
def Rm (y s:Int):Option Int:=if (0:Int)<=(cV .u8 y)/\(cV .u8 y)<(QB.length:Int) then some (cV .i64 (s+(cV .i64 ((QB.getD (OF (cV .u8 y)) 0).toNat:Int)))) else none
theorem afb {y:Nat}(hy:y<256){s:Nat}(hs:s<=56): ∃t:Nat,Rm (y:Int) (s:Int)=some ((s+t:Nat):Int)/\(t+7)/8=(if y=0 then 0 else 1)/\t<=8:=by obtain ⟨h1,h2⟩:=Ou ⟨y,hy⟩;simp only at h1 h2;unfold Rm;rw [w8,show ((y:Int)%256)=(y:Int) by omega,Int.toNat_natCast,if_pos ⟨by omega,by rw [show QB.length=256 by decide+kernel];omega⟩,wrap64 (x:=((QB.getD y 0).toNat:Int)) (by omega) (by omega),wrap64 (by omega) (by omega)];exact ⟨_,by norm_cast,h1,h2⟩
theorem afc {m:Nat}(h:m<2^64): ∃t:Nat,yr (m:Int)=some (t:Int)/\(t+7)/8=iM m/\t<=64:=by
 have key: ∀x s:Nat,x<256->s<=7->iM m=s+(if x=0 then 0 else 1)-> ∃t:Nat,Rm (x:Int) ((8 *s:Nat):Int)=some (t:Int)/\(t+7)/8=iM m/\t<=64:=by intro x s hx hs hk;obtain ⟨t,e,h1,h2⟩:=afb hx (s:=8 *s) (by omega);exact ⟨8 *s+t,e,by rw [hk];omega,by omega⟩
 show∃t:Nat,bd (if (4294967296:Int)<=(m:Int) then if (0:Int)<=32 then some (No (m:Int) (2^min 32 (sh .u64)),32) else none else some ((m:Int),0):Option (Int×Int)) (λw=>bd (if (65536:Int)<=w.1 then if (0:Int)<=16 then some (No w.1 (2^min 16 (sh .u64)),cV .i64 (w.2+16)) else none else some (w.1,w.2):Option (Int×Int)) λw1=>bd (if (256:Int)<=w1.1 then if (0:Int)<=8 then some (No w1.1 (2^min 8 (sh .u64)),cV .i64 (w1.2+8)) else none else some (w1.1,w1.2):Option (Int×Int)) λw2=>Rm w2.1 w2.2)=some (t:Int)/\(t+7)/8=iM m/\t<=64;have pC: ∀x s:Nat,x<65536->s<=6->iM m=s+iM x-> ∃t:Nat,bd (if (256:Int)<=(x:Int) then if (0:Int)<=8 then some (No (x:Int) (2^min 8 (sh .u64)),cV .i64 (((8 *s:Nat):Int)+8)) else none else some ((x:Int),((8 *s:Nat):Int)):Option (Int×Int)) (λw2=>Rm w2.1 w2.2)=some (t:Int)/\(t+7)/8=iM m/\t<=64:=by
  intro x s hx hs hk;have hkx:=KG x;by_cases c:256<=x
  ·rw [if_pos (by omega),if_pos (by decide),EN x 8 (by decide),wrap64 (by omega) (by omega),au,show (((8 *s:Nat):Int)+8)=((8 *(s+1):Nat):Int) by omega];exact key (x/2^8) (s+1) (by omega) (by omega) (by rw [hk,if_neg (by omega)];omega)
  ·rw [if_neg (by omega),au];refine key x s (by omega) (by omega) ?_;rw [hk];split<;>omega
 have ef: ∀x s:Nat,x<4294967296->s<=4->iM m=s+iM x-> ∃t:Nat,bd (if (65536:Int)<=(x:Int) then if (0:Int)<=16 then some (No (x:Int) (2^min 16 (sh .u64)),cV .i64 (((8 *s:Nat):Int)+16)) else none else some ((x:Int),((8 *s:Nat):Int)):Option (Int×Int)) (λw1=>bd (if (256:Int)<=w1.1 then if (0:Int)<=8 then some (No w1.1 (2^min 8 (sh .u64)),cV .i64 (w1.2+8)) else none else some (w1.1,w1.2):Option (Int×Int)) λw2=>Rm w2.1 w2.2)=some (t:Int)/\(t+7)/8=iM m/\t<=64:=by
  intro x s hx hs hk;by_cases c:65536<=x
  ·rw [if_pos (by omega),if_pos (by decide),EN x 16 (by decide),wrap64 (by omega) (by omega),au,show (((8 *s:Nat):Int)+16)=((8 *(s+2):Nat):Int) by omega];refine pC (x/2^16) (s+2) (by omega) (by omega) ?_;rw [hk,pi (n:=x) (by omega) (by omega),pi (n:=x/256) (by omega) (by omega),show x/256/256=x/2^16 by omega];omega
  ·rw [if_neg (by omega),au];exact pC x s (by omega) (by omega) hk
 by_cases c:4294967296<=m
 ·rw [if_pos (by omega),if_pos (by decide),EN m 32 (by decide),au];refine ef (m/2^32) 4 (by omega) (by omega) ?_;rw [pi (n:=m) (by omega) (by omega),pi (n:=m/256) (by omega) (by omega),pi (n:=m/256/256) (by omega) (by omega),pi (n:=m/256/256/256) (by omega) (by omega),show m/256/256/256/256=m/2^32 by omega];omega
 ·rw [if_neg (by omega),au];exact ef m 0 (by omega) (by omega) (by omega)
theorem Ut {m:Nat}(h:m<2^64):uq (m:Int)=some ((1+iM m:Nat):Int):=by unfold uq;obtain ⟨t,e,h1,h2⟩:=afc h;rw [e,au,if_pos (by decide),wrap64 (x:=(t:Int)+7) (by omega) (by omega),Int.tdiv_eq_ediv_of_nonneg (by omega),wrap64 (x:=((t:Int)+7)/8) (by omega) (by omega),wrap64 (by omega) (by omega),<-h1];congr 1
theorem ajj {n j:Nat}(hj:j<=7):cV .u8 (No (n:Int) (2^min (OF (cV .i64 (8 *(j:Int)))) (sh .u64)))=((n/256^j%256:Nat):Int):=by
 rw [wrap64 (by omega) (by omega),show OF (8 *(j:Int))=8 *j by omega,EN n (8 *j) (by omega),w8,Nat.pow_mul];have e8:(2:Nat)^8=256:=by decide
 rw [e8];generalize n/256^j=x;omega
theorem afd {n:Nat}: ∀(j:Nat) (l:List Int),j<=8->l.length<=2^45+(8-j)->Loop (r8 (n:Int)) (l,(j:Int)-1)=some (l++zK j n):=by
 intro j;induction j with
 |zero=>intro l _ _;refine Bc ?_;unfold r8;simp only;rw [if_neg (by omega)];simp [zK]
 |succ j ih=>
  intro l hj hl;have hh:=ih (l++[((n/256^j%256:Nat):Int)]) (by omega) (by rw [aaJ,AT];omega);have e0:(((j+1:Nat):Int)-1)=(j:Int):=by omega
  rw [e0];refine rb (s':=(l++[((n/256^j%256:Nat):Int)],(j:Int)-1)) ?_ ?_
  ·unfold r8;simp only;rw [if_pos (by omega),ajj (by omega),if_pos (by rw [wrap64 (by omega) (by omega)];omega),if_pos (by rw [AT];omega),wrap64 (by omega) (by omega)]
  ·rw [hh,zK,aaK];rfl
theorem Nt {b:List Int}(hb:b.length<=2^44){n:Nat}(h:n<2^64):tI b (n:Int)=some (b++L3 n):=by unfold tI;have hk:=BV n;rw [Ut h,au];unfold ou;rw [if_pos ⟨rfl,rfl⟩,au,show cV .i64 (((1+iM n:Nat):Int)-1)=(iM n:Int) by rw [wrap64 (by omega) (by omega)];omega,show cV .u8 (iM n:Int)=(iM n:Int) by rw [w8];omega,if_pos ⟨by simp,by rw [AT];omega⟩,wrap64 (by omega) (by omega),afd (iM n) _ hk (by rw [aaJ,AT];omega),au,aaK];rfl
theorem tV {b:List Int}(hb:b.length<=2^44){n:Int}(h:i64 n):lM b n=some (b++Cc n):=by
 unfold lM i64 at *;rw [if_pos (by decide),if_pos (by decide)];have e:E8 .u64 (cV .u64 ((cV .u64 n) *2^min (OF 1) (sh .u64))) (cV .u64 (No n (2^min (OF 63) (sh .i64))))=(zz n:Int):=by
  rw [show min (OF 1) (sh .u64)=1 by decide,show min (OF 63) (sh .i64)=63 by decide,aau _ (by decide),HH,HH,HH];unfold zz;by_cases c:n<0
  ·rw [if_pos c,show n/2^63%18446744073709551616=18446744073709551615 by omega,show n%18446744073709551616 *2^1%18446744073709551616=(((2 *n+18446744073709551616).toNat:Nat):Int) by omega,RT rfl (by omega) _ (by decide),HH];omega
  ·rw [if_neg c,show n/2^63%18446744073709551616=0 by omega,show n%18446744073709551616 *2^1%18446744073709551616=(((2 *n).toNat:Nat):Int) by omega,xor_zero rfl (by omega),HH];omega
 rw [e,Nt hb (agP h),au];rfl
theorem KJ {b:List Int}(hb:b.length<=2^44){s:List UInt8}(h:s.length<=2^44):qU b s=some (b++CE s):=by unfold qU;have:=BV s.length;rw [HH,show ((s.length:Int)%18446744073709551616)=((s.length:Nat):Int) by omega,Nt hb (by omega),au,if_pos (by rw [aaJ,KH,Be];omega),aaK];rfl
end Dn.S
