import Derived.Test.YtmdlghpieagfhaaGreatDnPOctet
/-
  Numbers and texts as bytes: what the functions give. Conditions: none.
-/
set_option linter.unusedVariables false
set_option linter.unusedSimpArgs false
open Go.IntKind renaming wrap→eJ,bits→sh
open BitVec renaming toNat_ofNat→AI,ofInt→BY
open List renaming length_singleton→AT,length_append→aaa,append_assoc→aah
open Nat renaming mod_eq_of_lt→IN
open Int renaming fdiv→IS,toNat→IT,fdiv_eq_ediv_of_nonneg→No,tdiv_eq_ediv_of_nonneg→OF
open Go Dn
namespace Dn.S
theorem tI (n:Nat):(BY 64 (n:Int))=BitVec.ofNat 64 n:=by apply BitVec.eq_of_toNat_eq;rw [BitVec.toNat_ofInt,AI];omega
theorem Zn {A c:Nat}(a:Nat)(hA:A=2^8 *a)(hc:c<2^8)(h:A+c<2^64):bOr .u64 (A:Int) (c:Int)=((A+c:Nat):Int):=by unfold bOr;show eJ .u64 ((BY 64 (A:Int)|||BY 64 (c:Int)).toNat:Int)=_;have e1:A%2^64=A:=IN (by omega);have e2:c%2^64=c:=IN (by omega);have e3:=Nat.two_pow_add_eq_or_of_lt hc a;rw [<-hA] at e3;rw [tI,tI,BitVec.toNat_or,AI,AI,e1,e2,<-e3,tj];omega
theorem abG {a c:Nat}(hc:c<256)(h:a *256+c<2^64):bOr .u64 ((a *256:Nat):Int) (c:Int)=((a *256+c:Nat):Int):=Zn a (Nat.mul_comm _ _) hc h
theorem and_one {u:Nat}(h:u<2^64):QU .u64 (u:Int) 1=((u%2:Nat):Int):=by unfold QU;show eJ .u64 ((BY 64 (u:Int)&&&BY 64 ((1:Nat):Int)).toNat:Int)=_;rw [tI,tI,BitVec.toNat_and,AI,AI,IN h,show 1%2^64=1 by decide,Nat.and_one_is_mod,tj];omega
theorem xor_zero {k:IntKind}(hk:k.bits=64){x:Nat}(h:x<2^64):ET k (x:Int) 0=k.wrap (x:Int):=by unfold ET;rw [hk,tI,show BY 64 0=BitVec.ofNat 64 0 by decide,BitVec.xor_zero,AI,IN h]
theorem Qm {k:IntKind}(hk:k.bits=64){x:Nat}(h:x<2^64)(m:Int)(hm:BY 64 m=BitVec.allOnes 64):ET k (x:Int) m=k.wrap ((2^64-1-x:Nat):Int):=by unfold ET;rw [hk,tI,hm,BitVec.xor_allOnes,BitVec.toNat_not,AI,IN h]
theorem EH (n:Nat)(s:Nat)(hs:s<=64):IS (n:Int) (2^min s (sh .u64))=((n/2^s:Nat):Int):=by rw [No _ (Int.le_of_lt (Int.pow_pos (by decide))),show min s (sh .u64)=s from Nat.min_eq_left hs];norm_cast
def Pj:List UInt8:=(([0,1,2,2,3,3,3,3,4,4,4,4,4,4,4,4,5,5,5,5,5,5,5,5,5,5,5,5,5,5,5,5,6,6,6,6,6,6,6,6,6,6,6,6,6,6,6,6,6,6,6,6,6,6,6,6,6,6,6,6,6,6,6,6]:List UInt8)++([7,7,7,7,7,7,7,7,7,7,7,7,7,7,7,7,7,7,7,7,7,7,7,7,7,7,7,7,7,7,7,7,7,7,7,7,7,7,7,7,7,7,7,7,7,7,7,7,7,7,7,7,7,7,7,7,7,7,7,7,7,7,7,7]:List UInt8))++(([8,8,8,8,8,8,8,8,8,8,8,8,8,8,8,8,8,8,8,8,8,8,8,8,8,8,8,8,8,8,8,8,8,8,8,8,8,8,8,8,8,8,8,8,8,8,8,8,8,8,8,8,8,8,8,8,8,8,8,8,8,8,8,8]:List UInt8)++([8,8,8,8,8,8,8,8,8,8,8,8,8,8,8,8,8,8,8,8,8,8,8,8,8,8,8,8,8,8,8,8,8,8,8,8,8,8,8,8,8,8,8,8,8,8,8,8,8,8,8,8,8,8,8,8,8,8,8,8,8,8,8,8]:List UInt8))
theorem Nn: ∀y:Fin 256,((Pj.getD y 0).toNat+7)/8=(if (y:Nat)=0 then 0 else 1)/\(Pj.getD y 0).toNat<=8:=by decide+kernel
def KD (y s:Int):Option Int:=if (0:Int)<=(eJ .u8 y)/\(eJ .u8 y)<(Pj.length:Int) then some (eJ .i64 (s+(eJ .i64 ((Pj.getD (IT (eJ .u8 y)) 0).toNat:Int)))) else none
theorem abH {y:Nat}(hy:y<256){s:Nat}(hs:s<=56): ∃t:Nat,KD (y:Int) (s:Int)=some ((s+t:Nat):Int)/\(t+7)/8=(if y=0 then 0 else 1)/\t<=8:=by obtain ⟨h1,h2⟩:=Nn ⟨y,hy⟩;simp only at h1 h2;unfold KD;rw [w8,show ((y:Int)%256)=(y:Int) by omega,Int.toNat_natCast,if_pos ⟨by omega,by rw [show Pj.length=256 by decide+kernel];omega⟩,wrap64 (x:=((Pj.getD y 0).toNat:Int)) (by omega) (by omega),wrap64 (by omega) (by omega)];exact ⟨_,by norm_cast,h1,h2⟩
theorem abI {m:Nat}(h:m<2^64): ∃t:Nat,yf (m:Int)=some (t:Int)/\(t+7)/8=fO m/\t<=64:=by
 have key: ∀x s:Nat,x<256->s<=7->fO m=s+(if x=0 then 0 else 1)-> ∃t:Nat,KD (x:Int) ((8 *s:Nat):Int)=some (t:Int)/\(t+7)/8=fO m/\t<=64:=by intro x s hx hs hk;obtain ⟨t,e,h1,h2⟩:=abH hx (s:=8 *s) (by omega);exact ⟨8 *s+t,e,by rw [hk];omega,by omega⟩
 show∃t:Nat,bd (if (4294967296:Int)<=(m:Int) then if (0:Int)<=32 then some (IS (m:Int) (2^min 32 (sh .u64)),32) else none else some ((m:Int),0):Option (Int×Int)) (λw=>bd (if (65536:Int)<=w.1 then if (0:Int)<=16 then some (IS w.1 (2^min 16 (sh .u64)),eJ .i64 (w.2+16)) else none else some (w.1,w.2):Option (Int×Int)) λw1=>bd (if (256:Int)<=w1.1 then if (0:Int)<=8 then some (IS w1.1 (2^min 8 (sh .u64)),eJ .i64 (w1.2+8)) else none else some (w1.1,w1.2):Option (Int×Int)) λw2=>KD w2.1 w2.2)=some (t:Int)/\(t+7)/8=fO m/\t<=64;have qD: ∀x s:Nat,x<65536->s<=6->fO m=s+fO x-> ∃t:Nat,bd (if (256:Int)<=(x:Int) then if (0:Int)<=8 then some (IS (x:Int) (2^min 8 (sh .u64)),eJ .i64 (((8 *s:Nat):Int)+8)) else none else some ((x:Int),((8 *s:Nat):Int)):Option (Int×Int)) (λw2=>KD w2.1 w2.2)=some (t:Int)/\(t+7)/8=fO m/\t<=64:=by
  intro x s hx hs hk;have hkx:=JV x;by_cases c:256<=x
  ·rw [if_pos (by omega),if_pos (by decide),EH x 8 (by decide),wrap64 (by omega) (by omega),ap,show (((8 *s:Nat):Int)+8)=((8 *(s+1):Nat):Int) by omega];exact key (x/2^8) (s+1) (by omega) (by omega) (by rw [hk,if_neg (by omega)];omega)
  ·rw [if_neg (by omega),ap];refine key x s (by omega) (by omega) ?_;rw [hk];split<;>omega
 have dV: ∀x s:Nat,x<4294967296->s<=4->fO m=s+fO x-> ∃t:Nat,bd (if (65536:Int)<=(x:Int) then if (0:Int)<=16 then some (IS (x:Int) (2^min 16 (sh .u64)),eJ .i64 (((8 *s:Nat):Int)+16)) else none else some ((x:Int),((8 *s:Nat):Int)):Option (Int×Int)) (λw1=>bd (if (256:Int)<=w1.1 then if (0:Int)<=8 then some (IS w1.1 (2^min 8 (sh .u64)),eJ .i64 (w1.2+8)) else none else some (w1.1,w1.2):Option (Int×Int)) λw2=>KD w2.1 w2.2)=some (t:Int)/\(t+7)/8=fO m/\t<=64:=by
  intro x s hx hs hk;by_cases c:65536<=x
  ·rw [if_pos (by omega),if_pos (by decide),EH x 16 (by decide),wrap64 (by omega) (by omega),ap,show (((8 *s:Nat):Int)+16)=((8 *(s+2):Nat):Int) by omega];refine qD (x/2^16) (s+2) (by omega) (by omega) ?_;rw [hk,nO (n:=x) (by omega) (by omega),nO (n:=x/256) (by omega) (by omega),show x/256/256=x/2^16 by omega];omega
  ·rw [if_neg (by omega),ap];exact qD x s (by omega) (by omega) hk
 by_cases c:4294967296<=m
 ·rw [if_pos (by omega),if_pos (by decide),EH m 32 (by decide),ap];refine dV (m/2^32) 4 (by omega) (by omega) ?_;rw [nO (n:=m) (by omega) (by omega),nO (n:=m/256) (by omega) (by omega),nO (n:=m/256/256) (by omega) (by omega),nO (n:=m/256/256/256) (by omega) (by omega),show m/256/256/256/256=m/2^32 by omega];omega
 ·rw [if_neg (by omega),ap];exact dV m 0 (by omega) (by omega) (by omega)
theorem Sq {m:Nat}(h:m<2^64):ue (m:Int)=some ((1+fO m:Nat):Int):=by unfold ue;obtain ⟨t,e,h1,h2⟩:=abI h;rw [e,ap,if_pos (by decide),wrap64 (x:=(t:Int)+7) (by omega) (by omega),OF (by omega),wrap64 (x:=((t:Int)+7)/8) (by omega) (by omega),wrap64 (by omega) (by omega),<-h1];congr 1
theorem afx {n j:Nat}(hj:j<=7):eJ .u8 (IS (n:Int) (2^min (IT (eJ .i64 (8 *(j:Int)))) (sh .u64)))=((n/256^j%256:Nat):Int):=by
 rw [wrap64 (by omega) (by omega),show IT (8 *(j:Int))=8 *j by omega,EH n (8 *j) (by omega),w8,Nat.pow_mul];have e8:(2:Nat)^8=256:=by decide
 rw [e8];generalize n/256^j=x;omega
theorem abJ {n:Nat}: ∀(j:Nat) (l:List Int),j<=8->l.length<=2^45+(8-j)->Loop (rZ (n:Int)) (l,(j:Int)-1)=some (l++wF j n):=by
 intro j;induction j with
 |zero=>intro l _ _;refine np ?_;unfold rZ;simp only;rw [if_neg (by omega)];simp [wF]
 |succ j ih=>
  intro l hj hl;have hh:=ih (l++[((n/256^j%256:Nat):Int)]) (by omega) (by rw [aaa,AT];omega);have e0:(((j+1:Nat):Int)-1)=(j:Int):=by omega
  rw [e0];refine jz (s':=(l++[((n/256^j%256:Nat):Int)],(j:Int)-1)) ?_ ?_
  ·unfold rZ;simp only;rw [if_pos (by omega),afx (by omega),if_pos (by rw [wrap64 (by omega) (by omega)];omega),if_pos (by rw [AT];omega),wrap64 (by omega) (by omega)]
  ·rw [hh,wF,aah];rfl
theorem Mo {b:List Int}(hb:b.length<=2^44){n:Nat}(h:n<2^64):tw b (n:Int)=some (b++JW n):=by unfold tw;have hk:=rO n;rw [Sq h,ap];unfold oM;rw [if_pos ⟨rfl,rfl⟩,ap,show eJ .i64 (((1+fO n:Nat):Int)-1)=(fO n:Int) by rw [wrap64 (by omega) (by omega)];omega,show eJ .u8 (fO n:Int)=(fO n:Int) by rw [w8];omega,if_pos ⟨by simp,by rw [AT];omega⟩,wrap64 (by omega) (by omega),abJ (fO n) _ hk (by rw [aaa,AT];omega),ap,aah];rfl
theorem tJ {b:List Int}(hb:b.length<=2^44){n:Int}(h:i64 n):lM b n=some (b++zt n):=by
 unfold lM i64 at *;rw [if_pos (by decide),if_pos (by decide)];have e:ET .u64 (eJ .u64 ((eJ .u64 n) *2^min (IT 1) (sh .u64))) (eJ .u64 (IS n (2^min (IT 63) (sh .i64))))=(zz n:Int):=by
  rw [show min (IT 1) (sh .u64)=1 by decide,show min (IT 63) (sh .i64)=63 by decide,No _ (by decide),tj,tj,tj];unfold zz;by_cases c:n<0
  ·rw [if_pos c,show n/2^63%18446744073709551616=18446744073709551615 by omega,show n%18446744073709551616 *2^1%18446744073709551616=(((2 *n+18446744073709551616).toNat:Nat):Int) by omega,Qm rfl (by omega) _ (by decide),tj];omega
  ·rw [if_neg c,show n/2^63%18446744073709551616=0 by omega,show n%18446744073709551616 *2^1%18446744073709551616=(((2 *n).toNat:Nat):Int) by omega,xor_zero rfl (by omega),tj];omega
 rw [e,Mo hb (Zk h),ap];rfl
theorem JX {b:List Int}(hb:b.length<=2^44){s:List UInt8}(h:s.length<=2^44):q0 b s=some (b++AA s):=by unfold q0;have:=rO s.length;rw [tj,show ((s.length:Int)%18446744073709551616)=((s.length:Nat):Int) by omega,Mo hb (by omega),ap,if_pos (by rw [aaa,EG,xB];omega),aah];rfl
theorem Zo: ∀(k n c:Nat),n<2^64->fO n=k->c+k<=9->Loop yl ((n:Int),(c:Int))=some ((c+k:Nat):Int):=by
 intro k;induction k with
 |zero=>intro n c _ hk _;have:=Mk hk;subst this;exact np (by unfold yl;simp)
 |succ k ih=>
  intro n c hn hk hc;have h0:0<n:=by refine Nat.pos_of_ne_zero λh0=> ?_;subst h0;simp [fO] at hk
  have hs:=nO h0 hn;have h8:=rO n;refine jz (s':=(((n/256:Nat):Int),((c+1:Nat):Int))) ?_ ?_
  ·unfold yl;simp only;rw [if_pos (by omega),if_pos (by decide),OF (by omega),tj,wrap64 (by omega) (by omega)];congr 3;omega
  ·rw [ih (n/256) (c+1) (by omega) (by omega) (by omega)];congr 2;omega
end Dn.S
