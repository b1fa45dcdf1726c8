import Derived.Test.YtbkodohojpchjaaGreatDoorDnPOctet
/-
  Numbers and texts as bytes: what the functions give. Conditions: none.
-/
set_option linter.unusedVariables false
set_option linter.unusedSimpArgs false
open Go.IntKind renaming wrap→aQ,bits→sh
open BitVec renaming toNat_ofNat→AI,ofInt→AT
open List renaming length_singleton→AS,length_append→OF,append_assoc→aaa
open Nat renaming mod_eq_of_lt→By
open Int renaming fdiv→BY,toNat→IN,fdiv_eq_ediv_of_nonneg→IT,tdiv_eq_ediv_of_nonneg→No
open Go Dn
namespace Dn.S
theorem lR (n:Nat):(AT 64 (n:Int))=BitVec.ofNat 64 n:=by apply BitVec.eq_of_toNat_eq;rw [BitVec.toNat_ofInt,AI];omega
theorem SK {A c:Nat}(a:Nat)(hA:A=2^8 *a)(hc:c<2^8)(h:A+c<2^64):pG .u64 (A:Int) (c:Int)=((A+c:Nat):Int):=by unfold pG;show aQ .u64 ((AT 64 (A:Int)|||AT 64 (c:Int)).toNat:Int)=_;have e1:A%2^64=A:=By (by omega);have e2:c%2^64=c:=By (by omega);have e3:=Nat.two_pow_add_eq_or_of_lt hc a;rw [<-hA] at e3;rw [lR,lR,BitVec.toNat_or,AI,AI,e1,e2,<-e3,kw];omega
theorem VS {a c:Nat}(hc:c<256)(h:a *256+c<2^64):pG .u64 ((a *256:Nat):Int) (c:Int)=((a *256+c:Nat):Int):=SK a (Nat.mul_comm _ _) hc h
theorem and_one {u:Nat}(h:u<2^64):cH .u64 (u:Int) 1=((u%2:Nat):Int):=by unfold cH;show aQ .u64 ((AT 64 (u:Int)&&&AT 64 ((1:Nat):Int)).toNat:Int)=_;rw [lR,lR,BitVec.toNat_and,AI,AI,By h,show 1%2^64=1 by decide,Nat.and_one_is_mod,kw];omega
theorem xor_zero {k:IntKind}(hk:k.bits=64){x:Nat}(h:x<2^64):bn k (x:Int) 0=k.wrap (x:Int):=by unfold bn;rw [hk,lR,show AT 64 0=BitVec.ofNat 64 0 by decide,BitVec.xor_zero,AI,By h]
theorem JI {k:IntKind}(hk:k.bits=64){x:Nat}(h:x<2^64)(m:Int)(hm:AT 64 m=BitVec.allOnes 64):bn k (x:Int) m=k.wrap ((2^64-1-x:Nat):Int):=by unfold bn;rw [hk,lR,hm,BitVec.xor_allOnes,BitVec.toNat_not,AI,By h]
theorem xq (n:Nat)(s:Nat)(hs:s<=64):BY (n:Int) (2^min s (sh .u64))=((n/2^s:Nat):Int):=by rw [IT _ (Int.le_of_lt (Int.pow_pos (by decide))),show min s (sh .u64)=s from Nat.min_eq_left hs];norm_cast
def Iv:List UInt8:=(([0,1,2,2,3,3,3,3,4,4,4,4,4,4,4,4,5,5,5,5,5,5,5,5,5,5,5,5,5,5,5,5,6,6,6,6,6,6,6,6,6,6,6,6,6,6,6,6,6,6,6,6,6,6,6,6,6,6,6,6,6,6,6,6]:List UInt8)++([7,7,7,7,7,7,7,7,7,7,7,7,7,7,7,7,7,7,7,7,7,7,7,7,7,7,7,7,7,7,7,7,7,7,7,7,7,7,7,7,7,7,7,7,7,7,7,7,7,7,7,7,7,7,7,7,7,7,7,7,7,7,7,7]:List UInt8))++(([8,8,8,8,8,8,8,8,8,8,8,8,8,8,8,8,8,8,8,8,8,8,8,8,8,8,8,8,8,8,8,8,8,8,8,8,8,8,8,8,8,8,8,8,8,8,8,8,8,8,8,8,8,8,8,8,8,8,8,8,8,8,8,8]:List UInt8)++([8,8,8,8,8,8,8,8,8,8,8,8,8,8,8,8,8,8,8,8,8,8,8,8,8,8,8,8,8,8,8,8,8,8,8,8,8,8,8,8,8,8,8,8,8,8,8,8,8,8,8,8,8,8,8,8,8,8,8,8,8,8,8,8]:List UInt8))
theorem GF: ∀y:Fin 256,((Iv.getD y 0).toNat+7)/8=(if (y:Nat)=0 then 0 else 1)/\(Iv.getD y 0).toNat<=8:=by decide+kernel
def OP (y s:Int):Option Int:=if (0:Int)<=(aQ .u8 y)/\(aQ .u8 y)<(Iv.length:Int) then some (aQ .i64 (s+(aQ .i64 ((Iv.getD (IN (aQ .u8 y)) 0).toNat:Int)))) else none
theorem VT {y:Nat}(hy:y<256){s:Nat}(hs:s<=56): ∃t:Nat,OP (y:Int) (s:Int)=some ((s+t:Nat):Int)/\(t+7)/8=(if y=0 then 0 else 1)/\t<=8:=by obtain ⟨h1,h2⟩:=GF ⟨y,hy⟩;simp only at h1 h2;unfold OP;rw [w8,show ((y:Int)%256)=(y:Int) by omega,Int.toNat_natCast,if_pos ⟨by omega,by rw [show Iv.length=256 by decide+kernel];omega⟩,wrap64 (x:=((Iv.getD y 0).toNat:Int)) (by omega) (by omega),wrap64 (by omega) (by omega)];exact ⟨_,by norm_cast,h1,h2⟩
theorem VU {m:Nat}(h:m<2^64): ∃t:Nat,qg (m:Int)=some (t:Int)/\(t+7)/8=cZ m/\t<=64:=by
 have key: ∀x s:Nat,x<256->s<=7->cZ m=s+(if x=0 then 0 else 1)-> ∃t:Nat,OP (x:Int) ((8 *s:Nat):Int)=some (t:Int)/\(t+7)/8=cZ m/\t<=64:=by intro x s hx hs hk;obtain ⟨t,e,h1,h2⟩:=VT hx (s:=8 *s) (by omega);exact ⟨8 *s+t,e,by rw [hk];omega,by omega⟩
 show∃t:Nat,bd (if (4294967296:Int)<=(m:Int) then if (0:Int)<=32 then some (BY (m:Int) (2^min 32 (sh .u64)),32) else none else some ((m:Int),0):Option (Int×Int)) (λw=>bd (if (65536:Int)<=w.1 then if (0:Int)<=16 then some (BY w.1 (2^min 16 (sh .u64)),aQ .i64 (w.2+16)) else none else some (w.1,w.2):Option (Int×Int)) λw1=>bd (if (256:Int)<=w1.1 then if (0:Int)<=8 then some (BY w1.1 (2^min 8 (sh .u64)),aQ .i64 (w1.2+8)) else none else some (w1.1,w1.2):Option (Int×Int)) λw2=>OP w2.1 w2.2)=some (t:Int)/\(t+7)/8=cZ m/\t<=64;have jm: ∀x s:Nat,x<65536->s<=6->cZ m=s+cZ x-> ∃t:Nat,bd (if (256:Int)<=(x:Int) then if (0:Int)<=8 then some (BY (x:Int) (2^min 8 (sh .u64)),aQ .i64 (((8 *s:Nat):Int)+8)) else none else some ((x:Int),((8 *s:Nat):Int)):Option (Int×Int)) (λw2=>OP w2.1 w2.2)=some (t:Int)/\(t+7)/8=cZ m/\t<=64:=by
  intro x s hx hs hk;have hkx:=C6 x;by_cases c:256<=x
  ·rw [if_pos (by omega),if_pos (by decide),xq x 8 (by decide),wrap64 (by omega) (by omega),aL,show (((8 *s:Nat):Int)+8)=((8 *(s+1):Nat):Int) by omega];exact key (x/2^8) (s+1) (by omega) (by omega) (by rw [hk,if_neg (by omega)];omega)
  ·rw [if_neg (by omega),aL];refine key x s (by omega) (by omega) ?_;rw [hk];split<;>omega
 have cK: ∀x s:Nat,x<4294967296->s<=4->cZ m=s+cZ x-> ∃t:Nat,bd (if (65536:Int)<=(x:Int) then if (0:Int)<=16 then some (BY (x:Int) (2^min 16 (sh .u64)),aQ .i64 (((8 *s:Nat):Int)+16)) else none else some ((x:Int),((8 *s:Nat):Int)):Option (Int×Int)) (λw1=>bd (if (256:Int)<=w1.1 then if (0:Int)<=8 then some (BY w1.1 (2^min 8 (sh .u64)),aQ .i64 (w1.2+8)) else none else some (w1.1,w1.2):Option (Int×Int)) λw2=>OP w2.1 w2.2)=some (t:Int)/\(t+7)/8=cZ m/\t<=64:=by
  intro x s hx hs hk;by_cases c:65536<=x
  ·rw [if_pos (by omega),if_pos (by decide),xq x 16 (by decide),wrap64 (by omega) (by omega),aL,show (((8 *s:Nat):Int)+16)=((8 *(s+2):Nat):Int) by omega];refine jm (x/2^16) (s+2) (by omega) (by omega) ?_;rw [hk,jq (n:=x) (by omega) (by omega),jq (n:=x/256) (by omega) (by omega),show x/256/256=x/2^16 by omega];omega
  ·rw [if_neg (by omega),aL];exact jm x s (by omega) (by omega) hk
 by_cases c:4294967296<=m
 ·rw [if_pos (by omega),if_pos (by decide),xq m 32 (by decide),aL];refine cK (m/2^32) 4 (by omega) (by omega) ?_;rw [jq (n:=m) (by omega) (by omega),jq (n:=m/256) (by omega) (by omega),jq (n:=m/256/256) (by omega) (by omega),jq (n:=m/256/256/256) (by omega) (by omega),show m/256/256/256/256=m/2^32 by omega];omega
 ·rw [if_neg (by omega),aL];exact cK m 0 (by omega) (by omega) (by omega)
theorem Ly {m:Nat}(h:m<2^64):mu (m:Int)=some ((1+cZ m:Nat):Int):=by unfold mu;obtain ⟨t,e,h1,h2⟩:=VU h;rw [e,aL,if_pos (by decide),wrap64 (x:=(t:Int)+7) (by omega) (by omega),No (by omega),wrap64 (x:=((t:Int)+7)/8) (by omega) (by omega),wrap64 (by omega) (by omega),<-h1];congr 1
theorem Zq {n j:Nat}(hj:j<=7):aQ .u8 (BY (n:Int) (2^min (IN (aQ .i64 (8 *(j:Int)))) (sh .u64)))=((n/256^j%256:Nat):Int):=by
 rw [wrap64 (by omega) (by omega),show IN (8 *(j:Int))=8 *j by omega,xq n (8 *j) (by omega),w8,Nat.pow_mul];have e8:(2:Nat)^8=256:=by decide
 rw [e8];generalize n/256^j=x;omega
theorem VV {n:Nat}: ∀(j:Nat) (l:List Int),j<=8->l.length<=2^45+(8-j)->Loop (kU (n:Int)) (l,(j:Int)-1)=some (l++ta j n):=by
 intro j;induction j with
 |zero=>intro l _ _;refine cW ?_;unfold kU;simp only;rw [if_neg (by omega)];simp [ta]
 |succ j ih=>
  intro l hj hl;have hh:=ih (l++[((n/256^j%256:Nat):Int)]) (by omega) (by rw [OF,AS];omega);have e0:(((j+1:Nat):Int)-1)=(j:Int):=by omega
  rw [e0];refine eQ (s':=(l++[((n/256^j%256:Nat):Int)],(j:Int)-1)) ?_ ?_
  ·unfold kU;simp only;rw [if_pos (by omega),Zq (by omega),if_pos (by rw [wrap64 (by omega) (by omega)];omega),if_pos (by rw [AS];omega),wrap64 (by omega) (by omega)]
  ·rw [hh,ta,aaa];rfl
theorem yr {b:List Int}(hb:b.length<=2^44){n:Nat}(h:n<2^64):kj b (n:Int)=some (b++zW n):=by unfold kj;have hk:=jQ n;rw [Ly h,aL];unfold iX;rw [if_pos ⟨rfl,rfl⟩,aL,show aQ .i64 (((1+cZ n:Nat):Int)-1)=(cZ n:Int) by rw [wrap64 (by omega) (by omega)];omega,show aQ .u8 (cZ n:Int)=(cZ n:Int) by rw [w8];omega,if_pos ⟨by simp,by rw [AS];omega⟩,wrap64 (by omega) (by omega),VV (cZ n) _ hk (by rw [OF,AS];omega),aL,aaa];rfl
theorem OQ {b:List Int}(hb:b.length<=2^44){n:Int}(h:i64 n):o6 b n=some (b++Eh n):=by
 unfold o6 i64 at *;rw [if_pos (by decide),if_pos (by decide)];have e:bn .u64 (aQ .u64 ((aQ .u64 n) *2^min (IN 1) (sh .u64))) (aQ .u64 (BY n (2^min (IN 63) (sh .i64))))=(zz n:Int):=by
  rw [show min (IN 1) (sh .u64)=1 by decide,show min (IN 63) (sh .i64)=63 by decide,IT _ (by decide),kw,kw,kw];unfold zz;by_cases c:n<0
  ·rw [if_pos c,show n/2^63%18446744073709551616=18446744073709551615 by omega,show n%18446744073709551616 *2^1%18446744073709551616=(((2 *n+18446744073709551616).toNat:Nat):Int) by omega,JI rfl (by omega) _ (by decide),kw];omega
  ·rw [if_neg c,show n/2^63%18446744073709551616=0 by omega,show n%18446744073709551616 *2^1%18446744073709551616=(((2 *n).toNat:Nat):Int) by omega,xor_zero rfl (by omega),kw];omega
 rw [e,yr hb (Xn h),aL];rfl
theorem C9 {b:List Int}(hb:b.length<=2^44){s:List UInt8}(h:s.length<=2^44):kl b s=some (b++xn s):=by unfold kl;have:=jQ s.length;rw [kw,show ((s.length:Int)%18446744073709551616)=((s.length:Nat):Int) by omega,yr hb (by omega),aL,if_pos (by rw [OF,pB,pC];omega),aaa];rfl
theorem SL: ∀(k n c:Nat),n<2^64->cZ n=k->c+k<=9->Loop mr ((n:Int),(c:Int))=some ((c+k:Nat):Int):=by
 intro k;induction k with
 |zero=>intro n c _ hk _;have:=OM hk;subst this;exact cW (by unfold mr;simp)
 |succ k ih=>
  intro n c hn hk hc;have h0:0<n:=by refine Nat.pos_of_ne_zero λh0=> ?_;subst h0;simp [cZ] at hk
  have hs:=jq h0 hn;have h8:=jQ n;refine eQ (s':=(((n/256:Nat):Int),((c+1:Nat):Int))) ?_ ?_
  ·unfold mr;simp only;rw [if_pos (by omega),if_pos (by decide),No (by omega),kw,wrap64 (by omega) (by omega)];congr 3;omega
  ·rw [ih (n/256) (c+1) (by omega) (by omega) (by omega)];congr 2;omega
end Dn.S
