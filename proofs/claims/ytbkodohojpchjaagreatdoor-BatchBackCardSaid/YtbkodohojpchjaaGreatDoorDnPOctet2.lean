import Derived.Test.YtbkodohojpchjaaGreatDoorDnPOctet
/- Numbers and texts as bytes: what the functions give. Conditions: none. -/
set_option linter.unusedVariables false
set_option linter.unusedSimpArgs false
open Go.IntKind renaming wrap→bB,bits→sh
open BitVec renaming toNat_ofNat→AI,ofInt→AT
open List renaming length_singleton→AS,length_append→No,append_assoc→OF
open Nat renaming mod_eq_of_lt→By
open Int renaming fdiv→BY,toNat→IN,fdiv_eq_ediv_of_nonneg→IT
open Go Dn
namespace Dn.S
theorem sN (n:Nat):(AT 64 (n:Int))=BitVec.ofNat 64 n:=by apply BitVec.eq_of_toNat_eq;rw [BitVec.toNat_ofInt,AI];omega
theorem aaL {A c:Nat}(a:Nat)(hA:A=2^8 *a)(hc:c<2^8)(h:A+c<2^64):bOr .u64 (A:Int) (c:Int)=((A+c:Nat):Int):=by unfold bOr;show bB .u64 ((AT 64 (A:Int)|||AT 64 (c:Int)).toNat:Int)=_;have e1:A%2^64=A:=By (by omega);have e2:c%2^64=c:=By (by omega);have e3:=Nat.two_pow_add_eq_or_of_lt hc a;rw [<-hA] at e3;rw [sN,sN,BitVec.toNat_or,AI,AI,e1,e2,<-e3,FN];omega
theorem ac9 {a c:Nat}(hc:c<256)(h:a *256+c<2^64):bOr .u64 ((a *256:Nat):Int) (c:Int)=((a *256+c:Nat):Int):=aaL a (Nat.mul_comm _ _) hc h
theorem and_one {u:Nat}(h:u<2^64):H0 .u64 (u:Int) 1=((u%2:Nat):Int):=by unfold H0;show bB .u64 ((AT 64 (u:Int)&&&AT 64 ((1:Nat):Int)).toNat:Int)=_;rw [sN,sN,BitVec.toNat_and,AI,AI,By h,show 1%2^64=1 by decide,Nat.and_one_is_mod,FN];omega
theorem xor_zero {k:IntKind}(hk:k.bits=64){x:Nat}(h:x<2^64):Cf k (x:Int) 0=k.wrap (x:Int):=by unfold Cf;rw [hk,sN,show AT 64 0=BitVec.ofNat 64 0 by decide,BitVec.xor_zero,AI,By h]
theorem QU {k:IntKind}(hk:k.bits=64){x:Nat}(h:x<2^64)(m:Int)(hm:AT 64 m=BitVec.allOnes 64):Cf k (x:Int) m=k.wrap ((2^64-1-x:Nat):Int):=by unfold Cf;rw [hk,sN,hm,BitVec.xor_allOnes,BitVec.toNat_not,AI,By h]
theorem EJ (n:Nat)(s:Nat)(hs:s<=64):BY (n:Int) (2^min s (sh .u64))=((n/2^s:Nat):Int):=by rw [IT _ (Int.le_of_lt (Int.pow_pos (by decide))),show min s (sh .u64)=s from Nat.min_eq_left hs];norm_cast
def P2:List UInt8:=(([0,1,2,2,3,3,3,3,4,4,4,4,4,4,4,4,5,5,5,5,5,5,5,5,5,5,5,5,5,5,5,5,6,6,6,6,6,6,6,6,6,6,6,6,6,6,6,6,6,6,6,6,6,6,6,6,6,6,6,6,6,6,6,6]:List UInt8)++([7,7,7,7,7,7,7,7,7,7,7,7,7,7,7,7,7,7,7,7,7,7,7,7,7,7,7,7,7,7,7,7,7,7,7,7,7,7,7,7,7,7,7,7,7,7,7,7,7,7,7,7,7,7,7,7,7,7,7,7,7,7,7,7]:List UInt8))++(([8,8,8,8,8,8,8,8,8,8,8,8,8,8,8,8,8,8,8,8,8,8,8,8,8,8,8,8,8,8,8,8,8,8,8,8,8,8,8,8,8,8,8,8,8,8,8,8,8,8,8,8,8,8,8,8,8,8,8,8,8,8,8,8]:List UInt8)++([8,8,8,8,8,8,8,8,8,8,8,8,8,8,8,8,8,8,8,8,8,8,8,8,8,8,8,8,8,8,8,8,8,8,8,8,8,8,8,8,8,8,8,8,8,8,8,8,8,8,8,8,8,8,8,8,8,8,8,8,8,8,8,8]:List UInt8))
theorem Og: ∀y:Fin 256,((P2.getD y 0).toNat+7)/8=(if (y:Nat)=0 then 0 else 1)/\(P2.getD y 0).toNat<=8:=by decide+kernel
def WG (y s:Int):Option Int:=if (0:Int)<=(bB .u8 y)/\(bB .u8 y)<(P2.length:Int) then some (bB .i64 (s+(bB .i64 ((P2.getD (IN (bB .u8 y)) 0).toNat:Int)))) else none
theorem ada {y:Nat}(hy:y<256){s:Nat}(hs:s<=56): ∃t:Nat,WG (y:Int) (s:Int)=some ((s+t:Nat):Int)/\(t+7)/8=(if y=0 then 0 else 1)/\t<=8:=by obtain ⟨h1,h2⟩:=Og ⟨y,hy⟩;simp only at h1 h2;unfold WG;rw [w8,show ((y:Int)%256)=(y:Int) by omega,Int.toNat_natCast,if_pos ⟨by omega,by rw [show P2.length=256 by decide+kernel];omega⟩,wrap64 (x:=((P2.getD y 0).toNat:Int)) (by omega) (by omega),wrap64 (by omega) (by omega)];exact ⟨_,by norm_cast,h1,h2⟩
theorem adb {m:Nat}(h:m<2^64): ∃t:Nat,p7 (m:Int)=some (t:Int)/\(t+7)/8=gw m/\t<=64:=by
 have key: ∀x s:Nat,x<256->s<=7->gw m=s+(if x=0 then 0 else 1)-> ∃t:Nat,WG (x:Int) ((8 *s:Nat):Int)=some (t:Int)/\(t+7)/8=gw m/\t<=64:=by intro x s hx hs hk;obtain ⟨t,e,h1,h2⟩:=ada hx (s:=8 *s) (by omega);exact ⟨8 *s+t,e,by rw [hk];omega,by omega⟩
 show∃t:Nat,bd (if (4294967296:Int)<=(m:Int) then if (0:Int)<=32 then some (BY (m:Int) (2^min 32 (sh .u64)),32) else none else some ((m:Int),0):Option (Int×Int)) (λw=>bd (if (65536:Int)<=w.1 then if (0:Int)<=16 then some (BY w.1 (2^min 16 (sh .u64)),bB .i64 (w.2+16)) else none else some (w.1,w.2):Option (Int×Int)) λw1=>bd (if (256:Int)<=w1.1 then if (0:Int)<=8 then some (BY w1.1 (2^min 8 (sh .u64)),bB .i64 (w1.2+8)) else none else some (w1.1,w1.2):Option (Int×Int)) λw2=>WG w2.1 w2.2)=some (t:Int)/\(t+7)/8=gw m/\t<=64;have oK: ∀x s:Nat,x<65536->s<=6->gw m=s+gw x-> ∃t:Nat,bd (if (256:Int)<=(x:Int) then if (0:Int)<=8 then some (BY (x:Int) (2^min 8 (sh .u64)),bB .i64 (((8 *s:Nat):Int)+8)) else none else some ((x:Int),((8 *s:Nat):Int)):Option (Int×Int)) (λw2=>WG w2.1 w2.2)=some (t:Int)/\(t+7)/8=gw m/\t<=64:=by
  intro x s hx hs hk;have hkx:=KC x;by_cases c:256<=x
  ·rw [if_pos (by omega),if_pos (by decide),EJ x 8 (by decide),wrap64 (by omega) (by omega),cU,show (((8 *s:Nat):Int)+8)=((8 *(s+1):Nat):Int) by omega];exact key (x/2^8) (s+1) (by omega) (by omega) (by rw [hk,if_neg (by omega)];omega)
  ·rw [if_neg (by omega),cU];refine key x s (by omega) (by omega) ?_;rw [hk];split<;>omega
 have ek: ∀x s:Nat,x<4294967296->s<=4->gw m=s+gw x-> ∃t:Nat,bd (if (65536:Int)<=(x:Int) then if (0:Int)<=16 then some (BY (x:Int) (2^min 16 (sh .u64)),bB .i64 (((8 *s:Nat):Int)+16)) else none else some ((x:Int),((8 *s:Nat):Int)):Option (Int×Int)) (λw1=>bd (if (256:Int)<=w1.1 then if (0:Int)<=8 then some (BY w1.1 (2^min 8 (sh .u64)),bB .i64 (w1.2+8)) else none else some (w1.1,w1.2):Option (Int×Int)) λw2=>WG w2.1 w2.2)=some (t:Int)/\(t+7)/8=gw m/\t<=64:=by
  intro x s hx hs hk;by_cases c:65536<=x
  ·rw [if_pos (by omega),if_pos (by decide),EJ x 16 (by decide),wrap64 (by omega) (by omega),cU,show (((8 *s:Nat):Int)+16)=((8 *(s+2):Nat):Int) by omega];refine oK (x/2^16) (s+2) (by omega) (by omega) ?_;rw [hk,ou (n:=x) (by omega) (by omega),ou (n:=x/256) (by omega) (by omega),show x/256/256=x/2^16 by omega];omega
  ·rw [if_neg (by omega),cU];exact oK x s (by omega) (by omega) hk
 by_cases c:4294967296<=m
 ·rw [if_pos (by omega),if_pos (by decide),EJ m 32 (by decide),cU];refine ek (m/2^32) 4 (by omega) (by omega) ?_;rw [ou (n:=m) (by omega) (by omega),ou (n:=m/256) (by omega) (by omega),ou (n:=m/256/256) (by omega) (by omega),ou (n:=m/256/256/256) (by omega) (by omega),show m/256/256/256/256=m/2^32 by omega];omega
 ·rw [if_neg (by omega),cU];exact ek m 0 (by omega) (by omega) (by omega)
theorem S5 {m:Nat}(h:m<2^64):nO (m:Int)=some ((1+gw m:Nat):Int):=by unfold nO;obtain ⟨t,e,h1,h2⟩:=adb h;rw [e,cU,if_pos (by decide),wrap64 (x:=(t:Int)+7) (by omega) (by omega),Int.tdiv_eq_ediv_of_nonneg (by omega),wrap64 (x:=((t:Int)+7)/8) (by omega) (by omega),wrap64 (by omega) (by omega),<-h1];congr 1
theorem aga {n j:Nat}(hj:j<=7):bB .u8 (BY (n:Int) (2^min (IN (bB .i64 (8 *(j:Int)))) (sh .u64)))=((n/256^j%256:Nat):Int):=by
 rw [wrap64 (by omega) (by omega),show IN (8 *(j:Int))=8 *j by omega,EJ n (8 *j) (by omega),w8,Nat.pow_mul];have e8:(2:Nat)^8=256:=by decide
 rw [e8];generalize n/256^j=x;omega
theorem ade {n:Nat}: ∀(j:Nat) (l:List Int),j<=8->l.length<=2^45+(8-j)->Loop (lJ (n:Int)) (l,(j:Int)-1)=some (l++zG j n):=by
 intro j;induction j with
 |zero=>intro l _ _;refine ub ?_;unfold lJ;simp only;rw [if_neg (by omega)];simp [zG]
 |succ j ih=>
  intro l hj hl;have hh:=ih (l++[((n/256^j%256:Nat):Int)]) (by omega) (by rw [No,AS];omega);have e0:(((j+1:Nat):Int)-1)=(j:Int):=by omega
  rw [e0];refine Bz (s':=(l++[((n/256^j%256:Nat):Int)],(j:Int)-1)) ?_ ?_
  ·unfold lJ;simp only;rw [if_pos (by omega),aga (by omega),if_pos (by rw [wrap64 (by omega) (by omega)];omega),if_pos (by rw [AS];omega),wrap64 (by omega) (by omega)]
  ·rw [hh,zG,OF];rfl
theorem FQ {b:List Int}(hb:b.length<=2^44){n:Nat}(h:n<2^64):mc b (n:Int)=some (b++Hw n):=by unfold mc;have hk:=vo n;rw [S5 h,cU];unfold iC;rw [if_pos ⟨rfl,rfl⟩,cU,show bB .i64 (((1+gw n:Nat):Int)-1)=(gw n:Int) by rw [wrap64 (by omega) (by omega)];omega,show bB .u8 (gw n:Int)=(gw n:Int) by rw [w8];omega,if_pos ⟨by simp,by rw [AS];omega⟩,wrap64 (by omega) (by omega),ade (gw n) _ hk (by rw [No,AS];omega),cU,OF];rfl
theorem WH {b:List Int}(hb:b.length<=2^44){n:Int}(h:i64 n):p8 b n=some (b++LV n):=by
 unfold p8 i64 at *;rw [if_pos (by decide),if_pos (by decide)];have e:Cf .u64 (bB .u64 ((bB .u64 n) *2^min (IN 1) (sh .u64))) (bB .u64 (BY n (2^min (IN 63) (sh .i64))))=(zz n:Int):=by
  rw [show min (IN 1) (sh .u64)=1 by decide,show min (IN 63) (sh .i64)=63 by decide,IT _ (by decide),FN,FN,FN];unfold zz;by_cases c:n<0
  ·rw [if_pos c,show n/2^63%18446744073709551616=18446744073709551615 by omega,show n%18446744073709551616 *2^1%18446744073709551616=(((2 *n+18446744073709551616).toNat:Nat):Int) by omega,QU rfl (by omega) _ (by decide),FN];omega
  ·rw [if_neg c,show n/2^63%18446744073709551616=0 by omega,show n%18446744073709551616 *2^1%18446744073709551616=(((2 *n).toNat:Nat):Int) by omega,xor_zero rfl (by omega),FN];omega
 rw [e,FQ hb (aek h),cU];rfl
theorem KF {b:List Int}(hb:b.length<=2^44){s:List UInt8}(h:s.length<=2^44):lK b s=some (b++zi s):=by unfold lK;have:=vo s.length;rw [FN,show ((s.length:Int)%18446744073709551616)=((s.length:Nat):Int) by omega,FQ hb (by omega),cU,if_pos (by rw [No,AW,xa];omega),OF];rfl
end Dn.S
