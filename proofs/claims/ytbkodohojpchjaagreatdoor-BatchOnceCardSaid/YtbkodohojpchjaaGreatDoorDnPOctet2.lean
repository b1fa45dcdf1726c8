import Derived.Test.YtbkodohojpchjaaGreatDoorDnPOctet
/- Numbers and texts as bytes: what the functions give. Conditions: none. -/
set_option linter.unusedVariables false
set_option linter.unusedSimpArgs false
open Go.IntKind renaming wrap→bN,bits→sh
open BitVec renaming toNat_ofNat→AI,ofInt→AT
open List renaming length_singleton→AS,length_append→No,append_assoc→OF
open Nat renaming mod_eq_of_lt→By
open Int renaming fdiv→BY,toNat→IN,fdiv_eq_ediv_of_nonneg→IT
open Go Dn
namespace Dn.S
theorem sI (n:Nat):(AT 64 (n:Int))=BitVec.ofNat 64 n:=by apply BitVec.eq_of_toNat_eq;rw [BitVec.toNat_ofInt,AI];omega
theorem abC {A c:Nat}(a:Nat)(hA:A=2^8 *a)(hc:c<2^8)(h:A+c<2^64):bOr .u64 (A:Int) (c:Int)=((A+c:Nat):Int):=by unfold bOr;show bN .u64 ((AT 64 (A:Int)|||AT 64 (c:Int)).toNat:Int)=_;have e1:A%2^64=A:=By (by omega);have e2:c%2^64=c:=By (by omega);have e3:=Nat.two_pow_add_eq_or_of_lt hc a;rw [<-hA] at e3;rw [sI,sI,BitVec.toNat_or,AI,AI,e1,e2,<-e3,E0];omega
theorem aeL {a c:Nat}(hc:c<256)(h:a *256+c<2^64):bOr .u64 ((a *256:Nat):Int) (c:Int)=((a *256+c:Nat):Int):=abC a (Nat.mul_comm _ _) hc h
theorem and_one {u:Nat}(h:u<2^64):M6 .u64 (u:Int) 1=((u%2:Nat):Int):=by unfold M6;show bN .u64 ((AT 64 (u:Int)&&&AT 64 ((1:Nat):Int)).toNat:Int)=_;rw [sI,sI,BitVec.toNat_and,AI,AI,By h,show 1%2^64=1 by decide,Nat.and_one_is_mod,E0];omega
theorem xor_zero {k:IntKind}(hk:k.bits=64){x:Nat}(h:x<2^64):D8 k (x:Int) 0=k.wrap (x:Int):=by unfold D8;rw [hk,sI,show AT 64 0=BitVec.ofNat 64 0 by decide,BitVec.xor_zero,AI,By h]
theorem QY {k:IntKind}(hk:k.bits=64){x:Nat}(h:x<2^64)(m:Int)(hm:AT 64 m=BitVec.allOnes 64):D8 k (x:Int) m=k.wrap ((2^64-1-x:Nat):Int):=by unfold D8;rw [hk,sI,hm,BitVec.xor_allOnes,BitVec.toNat_not,AI,By h]
theorem DW (n:Nat)(s:Nat)(hs:s<=64):BY (n:Int) (2^min s (sh .u64))=((n/2^s:Nat):Int):=by rw [IT _ (Int.le_of_lt (Int.pow_pos (by decide))),show min s (sh .u64)=s from Nat.min_eq_left hs];norm_cast
def PH:List UInt8:=(([0,1,2,2,3,3,3,3,4,4,4,4,4,4,4,4,5,5,5,5,5,5,5,5,5,5,5,5,5,5,5,5,6,6,6,6,6,6,6,6,6,6,6,6,6,6,6,6,6,6,6,6,6,6,6,6,6,6,6,6,6,6,6,6]:List UInt8)++([7,7,7,7,7,7,7,7,7,7,7,7,7,7,7,7,7,7,7,7,7,7,7,7,7,7,7,7,7,7,7,7,7,7,7,7,7,7,7,7,7,7,7,7,7,7,7,7,7,7,7,7,7,7,7,7,7,7,7,7,7,7,7,7]:List UInt8))++(([8,8,8,8,8,8,8,8,8,8,8,8,8,8,8,8,8,8,8,8,8,8,8,8,8,8,8,8,8,8,8,8,8,8,8,8,8,8,8,8,8,8,8,8,8,8,8,8,8,8,8,8,8,8,8,8,8,8,8,8,8,8,8,8]:List UInt8)++([8,8,8,8,8,8,8,8,8,8,8,8,8,8,8,8,8,8,8,8,8,8,8,8,8,8,8,8,8,8,8,8,8,8,8,8,8,8,8,8,8,8,8,8,8,8,8,8,8,8,8,8,8,8,8,8,8,8,8,8,8,8,8,8]:List UInt8))
theorem NM: ∀y:Fin 256,((PH.getD y 0).toNat+7)/8=(if (y:Nat)=0 then 0 else 1)/\(PH.getD y 0).toNat<=8:=by decide+kernel
def Qt (y s:Int):Option Int:=if (0:Int)<=(bN .u8 y)/\(bN .u8 y)<(PH.length:Int) then some (bN .i64 (s+(bN .i64 ((PH.getD (IN (bN .u8 y)) 0).toNat:Int)))) else none
theorem aeM {y:Nat}(hy:y<256){s:Nat}(hs:s<=56): ∃t:Nat,Qt (y:Int) (s:Int)=some ((s+t:Nat):Int)/\(t+7)/8=(if y=0 then 0 else 1)/\t<=8:=by obtain ⟨h1,h2⟩:=NM ⟨y,hy⟩;simp only at h1 h2;unfold Qt;rw [w8,show ((y:Int)%256)=(y:Int) by omega,Int.toNat_natCast,if_pos ⟨by omega,by rw [show PH.length=256 by decide+kernel];omega⟩,wrap64 (x:=((PH.getD y 0).toNat:Int)) (by omega) (by omega),wrap64 (by omega) (by omega)];exact ⟨_,by norm_cast,h1,h2⟩
theorem aeN {m:Nat}(h:m<2^64): ∃t:Nat,xI (m:Int)=some (t:Int)/\(t+7)/8=gM m/\t<=64:=by
 have key: ∀x s:Nat,x<256->s<=7->gM m=s+(if x=0 then 0 else 1)-> ∃t:Nat,Qt (x:Int) ((8 *s:Nat):Int)=some (t:Int)/\(t+7)/8=gM m/\t<=64:=by intro x s hx hs hk;obtain ⟨t,e,h1,h2⟩:=aeM hx (s:=8 *s) (by omega);exact ⟨8 *s+t,e,by rw [hk];omega,by omega⟩
 show∃t:Nat,bd (if (4294967296:Int)<=(m:Int) then if (0:Int)<=32 then some (BY (m:Int) (2^min 32 (sh .u64)),32) else none else some ((m:Int),0):Option (Int×Int)) (λw=>bd (if (65536:Int)<=w.1 then if (0:Int)<=16 then some (BY w.1 (2^min 16 (sh .u64)),bN .i64 (w.2+16)) else none else some (w.1,w.2):Option (Int×Int)) λw1=>bd (if (256:Int)<=w1.1 then if (0:Int)<=8 then some (BY w1.1 (2^min 8 (sh .u64)),bN .i64 (w1.2+8)) else none else some (w1.1,w1.2):Option (Int×Int)) λw2=>Qt w2.1 w2.2)=some (t:Int)/\(t+7)/8=gM m/\t<=64;have oP: ∀x s:Nat,x<65536->s<=6->gM m=s+gM x-> ∃t:Nat,bd (if (256:Int)<=(x:Int) then if (0:Int)<=8 then some (BY (x:Int) (2^min 8 (sh .u64)),bN .i64 (((8 *s:Nat):Int)+8)) else none else some ((x:Int),((8 *s:Nat):Int)):Option (Int×Int)) (λw2=>Qt w2.1 w2.2)=some (t:Int)/\(t+7)/8=gM m/\t<=64:=by
  intro x s hx hs hk;have hkx:=Ka x;by_cases c:256<=x
  ·rw [if_pos (by omega),if_pos (by decide),DW x 8 (by decide),wrap64 (by omega) (by omega),az,show (((8 *s:Nat):Int)+8)=((8 *(s+1):Nat):Int) by omega];exact key (x/2^8) (s+1) (by omega) (by omega) (by rw [hk,if_neg (by omega)];omega)
  ·rw [if_neg (by omega),az];refine key x s (by omega) (by omega) ?_;rw [hk];split<;>omega
 have eg: ∀x s:Nat,x<4294967296->s<=4->gM m=s+gM x-> ∃t:Nat,bd (if (65536:Int)<=(x:Int) then if (0:Int)<=16 then some (BY (x:Int) (2^min 16 (sh .u64)),bN .i64 (((8 *s:Nat):Int)+16)) else none else some ((x:Int),((8 *s:Nat):Int)):Option (Int×Int)) (λw1=>bd (if (256:Int)<=w1.1 then if (0:Int)<=8 then some (BY w1.1 (2^min 8 (sh .u64)),bN .i64 (w1.2+8)) else none else some (w1.1,w1.2):Option (Int×Int)) λw2=>Qt w2.1 w2.2)=some (t:Int)/\(t+7)/8=gM m/\t<=64:=by
  intro x s hx hs hk;by_cases c:65536<=x
  ·rw [if_pos (by omega),if_pos (by decide),DW x 16 (by decide),wrap64 (by omega) (by omega),az,show (((8 *s:Nat):Int)+16)=((8 *(s+2):Nat):Int) by omega];refine oP (x/2^16) (s+2) (by omega) (by omega) ?_;rw [hk,oK (n:=x) (by omega) (by omega),oK (n:=x/256) (by omega) (by omega),show x/256/256=x/2^16 by omega];omega
  ·rw [if_neg (by omega),az];exact oP x s (by omega) (by omega) hk
 by_cases c:4294967296<=m
 ·rw [if_pos (by omega),if_pos (by decide),DW m 32 (by decide),az];refine eg (m/2^32) 4 (by omega) (by omega) ?_;rw [oK (n:=m) (by omega) (by omega),oK (n:=m/256) (by omega) (by omega),oK (n:=m/256/256) (by omega) (by omega),oK (n:=m/256/256/256) (by omega) (by omega),show m/256/256/256/256=m/2^32 by omega];omega
 ·rw [if_neg (by omega),az];exact eg m 0 (by omega) (by omega) (by omega)
theorem S8 {m:Nat}(h:m<2^64):tq (m:Int)=some ((1+gM m:Nat):Int):=by unfold tq;obtain ⟨t,e,h1,h2⟩:=aeN h;rw [e,az,if_pos (by decide),wrap64 (x:=(t:Int)+7) (by omega) (by omega),Int.tdiv_eq_ediv_of_nonneg (by omega),wrap64 (x:=((t:Int)+7)/8) (by omega) (by omega),wrap64 (by omega) (by omega),<-h1];congr 1
theorem ah1 {n j:Nat}(hj:j<=7):bN .u8 (BY (n:Int) (2^min (IN (bN .i64 (8 *(j:Int)))) (sh .u64)))=((n/256^j%256:Nat):Int):=by
 rw [wrap64 (by omega) (by omega),show IN (8 *(j:Int))=8 *j by omega,DW n (8 *j) (by omega),w8,Nat.pow_mul];have e8:(2:Nat)^8=256:=by decide
 rw [e8];generalize n/256^j=x;omega
theorem aeO {n:Nat}: ∀(j:Nat) (l:List Int),j<=8->l.length<=2^45+(8-j)->Loop (qS (n:Int)) (l,(j:Int)-1)=some (l++zm j n):=by
 intro j;induction j with
 |zero=>intro l _ _;refine ul ?_;unfold qS;simp only;rw [if_neg (by omega)];simp [zm]
 |succ j ih=>
  intro l hj hl;have hh:=ih (l++[((n/256^j%256:Nat):Int)]) (by omega) (by rw [No,AS];omega);have e0:(((j+1:Nat):Int)-1)=(j:Int):=by omega
  rw [e0];refine Bd (s':=(l++[((n/256^j%256:Nat):Int)],(j:Int)-1)) ?_ ?_
  ·unfold qS;simp only;rw [if_pos (by omega),ah1 (by omega),if_pos (by rw [wrap64 (by omega) (by omega)];omega),if_pos (by rw [AS];omega),wrap64 (by omega) (by omega)]
  ·rw [hh,zm,OF];rfl
theorem E5 {b:List Int}(hb:b.length<=2^44){n:Nat}(h:n<2^64):qe b (n:Int)=some (b++GD n):=by unfold qe;have hk:=vl n;rw [S8 h,az];unfold nI;rw [if_pos ⟨rfl,rfl⟩,az,show bN .i64 (((1+gM n:Nat):Int)-1)=(gM n:Int) by rw [wrap64 (by omega) (by omega)];omega,show bN .u8 (gM n:Int)=(gM n:Int) by rw [w8];omega,if_pos ⟨by simp,by rw [AS];omega⟩,wrap64 (by omega) (by omega),aeO (gM n) _ hk (by rw [No,AS];omega),az,OF];rfl
theorem Xi {b:List Int}(hb:b.length<=2^44){n:Int}(h:i64 n):wG b n=some (b++Lf n):=by
 unfold wG i64 at *;rw [if_pos (by decide),if_pos (by decide)];have e:D8 .u64 (bN .u64 ((bN .u64 n) *2^min (IN 1) (sh .u64))) (bN .u64 (BY n (2^min (IN 63) (sh .i64))))=(zz n:Int):=by
  rw [show min (IN 1) (sh .u64)=1 by decide,show min (IN 63) (sh .i64)=63 by decide,IT _ (by decide),E0,E0,E0];unfold zz;by_cases c:n<0
  ·rw [if_pos c,show n/2^63%18446744073709551616=18446744073709551615 by omega,show n%18446744073709551616 *2^1%18446744073709551616=(((2 *n+18446744073709551616).toNat:Nat):Int) by omega,QY rfl (by omega) _ (by decide),E0];omega
  ·rw [if_neg c,show n/2^63%18446744073709551616=0 by omega,show n%18446744073709551616 *2^1%18446744073709551616=(((2 *n).toNat:Nat):Int) by omega,xor_zero rfl (by omega),E0];omega
 rw [e,E5 hb (afV h),az];rfl
theorem Kc {b:List Int}(hb:b.length<=2^44){s:List UInt8}(h:s.length<=2^44):qf b s=some (b++yR s):=by unfold qf;have:=vl s.length;rw [E0,show ((s.length:Int)%18446744073709551616)=((s.length:Nat):Int) by omega,E5 hb (by omega),az,if_pos (by rw [No,AD,w9];omega),OF];rfl
end Dn.S
