import Derived.Test.YtmdlghpieagfhaaGreatDnPOctet
/-
  Numbers and texts as bytes: what the functions give. Conditions: none.
-/
set_option linter.unusedVariables false
set_option linter.unusedSimpArgs false
open Go.IntKind renaming wrap→fj,bits→sh
open BitVec renaming toNat_ofNat→AI,ofInt→BY
open List renaming length_singleton→AT,length_append→aav,append_assoc→aay
open Nat renaming mod_eq_of_lt→IN
open Int renaming fdiv→IS,toNat→IT,fdiv_eq_ediv_of_nonneg→No,tdiv_eq_ediv_of_nonneg→OF
open Go Dn
namespace Dn.S
theorem uE (n:Nat):(BY 64 (n:Int))=BitVec.ofNat 64 n:=by apply BitVec.eq_of_toNat_eq;rw [BitVec.toNat_ofInt,AI];omega
theorem afj {A c:Nat}(a:Nat)(hA:A=2^8 *a)(hc:c<2^8)(h:A+c<2^64):bOr .u64 (A:Int) (c:Int)=((A+c:Nat):Int):=by unfold bOr;show fj .u64 ((BY 64 (A:Int)|||BY 64 (c:Int)).toNat:Int)=_;have e1:A%2^64=A:=IN (by omega);have e2:c%2^64=c:=IN (by omega);have e3:=Nat.two_pow_add_eq_or_of_lt hc a;rw [<-hA] at e3;rw [uE,uE,BitVec.toNat_or,AI,AI,e1,e2,<-e3,ud];omega
theorem ahP {a c:Nat}(hc:c<256)(h:a *256+c<2^64):bOr .u64 ((a *256:Nat):Int) (c:Int)=((a *256+c:Nat):Int):=afj a (Nat.mul_comm _ _) hc h
theorem and_one {u:Nat}(h:u<2^64):Vq .u64 (u:Int) 1=((u%2:Nat):Int):=by unfold Vq;show fj .u64 ((BY 64 (u:Int)&&&BY 64 ((1:Nat):Int)).toNat:Int)=_;rw [uE,uE,BitVec.toNat_and,AI,AI,IN h,show 1%2^64=1 by decide,Nat.and_one_is_mod,ud];omega
theorem xor_zero {k:IntKind}(hk:k.bits=64){x:Nat}(h:x<2^64):GW k (x:Int) 0=k.wrap (x:Int):=by unfold GW;rw [hk,uE,show BY 64 0=BitVec.ofNat 64 0 by decide,BitVec.xor_zero,AI,IN h]
theorem U0 {k:IntKind}(hk:k.bits=64){x:Nat}(h:x<2^64)(m:Int)(hm:BY 64 m=BitVec.allOnes 64):GW k (x:Int) m=k.wrap ((2^64-1-x:Nat):Int):=by unfold GW;rw [hk,uE,hm,BitVec.xor_allOnes,BitVec.toNat_not,AI,IN h]
theorem GJ (n:Nat)(s:Nat)(hs:s<=64):IS (n:Int) (2^min s (sh .u64))=((n/2^s:Nat):Int):=by rw [No _ (Int.le_of_lt (Int.pow_pos (by decide))),show min s (sh .u64)=s from Nat.min_eq_left hs];norm_cast
def S7:List UInt8:=(([0,1,2,2,3,3,3,3,4,4,4,4,4,4,4,4,5,5,5,5,5,5,5,5,5,5,5,5,5,5,5,5,6,6,6,6,6,6,6,6,6,6,6,6,6,6,6,6,6,6,6,6,6,6,6,6,6,6,6,6,6,6,6,6]:List UInt8)++([7,7,7,7,7,7,7,7,7,7,7,7,7,7,7,7,7,7,7,7,7,7,7,7,7,7,7,7,7,7,7,7,7,7,7,7,7,7,7,7,7,7,7,7,7,7,7,7,7,7,7,7,7,7,7,7,7,7,7,7,7,7,7,7]:List UInt8))++(([8,8,8,8,8,8,8,8,8,8,8,8,8,8,8,8,8,8,8,8,8,8,8,8,8,8,8,8,8,8,8,8,8,8,8,8,8,8,8,8,8,8,8,8,8,8,8,8,8,8,8,8,8,8,8,8,8,8,8,8,8,8,8,8]:List UInt8)++([8,8,8,8,8,8,8,8,8,8,8,8,8,8,8,8,8,8,8,8,8,8,8,8,8,8,8,8,8,8,8,8,8,8,8,8,8,8,8,8,8,8,8,8,8,8,8,8,8,8,8,8,8,8,8,8,8,8,8,8,8,8,8,8]:List UInt8))
theorem QS: ∀y:Fin 256,((S7.getD y 0).toNat+7)/8=(if (y:Nat)=0 then 0 else 1)/\(S7.getD y 0).toNat<=8:=by decide+kernel
def Tz (y s:Int):Option Int:=if (0:Int)<=(fj .u8 y)/\(fj .u8 y)<(S7.length:Int) then some (fj .i64 (s+(fj .i64 ((S7.getD (IT (fj .u8 y)) 0).toNat:Int)))) else none
theorem ahQ {y:Nat}(hy:y<256){s:Nat}(hs:s<=56): ∃t:Nat,Tz (y:Int) (s:Int)=some ((s+t:Nat):Int)/\(t+7)/8=(if y=0 then 0 else 1)/\t<=8:=by obtain ⟨h1,h2⟩:=QS ⟨y,hy⟩;simp only at h1 h2;unfold Tz;rw [w8,show ((y:Int)%256)=(y:Int) by omega,Int.toNat_natCast,if_pos ⟨by omega,by rw [show S7.length=256 by decide+kernel];omega⟩,wrap64 (x:=((S7.getD y 0).toNat:Int)) (by omega) (by omega),wrap64 (by omega) (by omega)];exact ⟨_,by norm_cast,h1,h2⟩
theorem ahR {m:Nat}(h:m<2^64): ∃t:Nat,zq (m:Int)=some (t:Int)/\(t+7)/8=fY m/\t<=64:=by
 have key: ∀x s:Nat,x<256->s<=7->fY m=s+(if x=0 then 0 else 1)-> ∃t:Nat,Tz (x:Int) ((8 *s:Nat):Int)=some (t:Int)/\(t+7)/8=fY m/\t<=64:=by intro x s hx hs hk;obtain ⟨t,e,h1,h2⟩:=ahQ hx (s:=8 *s) (by omega);exact ⟨8 *s+t,e,by rw [hk];omega,by omega⟩
 show∃t:Nat,bd (if (4294967296:Int)<=(m:Int) then if (0:Int)<=32 then some (IS (m:Int) (2^min 32 (sh .u64)),32) else none else some ((m:Int),0):Option (Int×Int)) (λw=>bd (if (65536:Int)<=w.1 then if (0:Int)<=16 then some (IS w.1 (2^min 16 (sh .u64)),fj .i64 (w.2+16)) else none else some (w.1,w.2):Option (Int×Int)) λw1=>bd (if (256:Int)<=w1.1 then if (0:Int)<=8 then some (IS w1.1 (2^min 8 (sh .u64)),fj .i64 (w1.2+8)) else none else some (w1.1,w1.2):Option (Int×Int)) λw2=>Tz w2.1 w2.2)=some (t:Int)/\(t+7)/8=fY m/\t<=64;have ra: ∀x s:Nat,x<65536->s<=6->fY m=s+fY x-> ∃t:Nat,bd (if (256:Int)<=(x:Int) then if (0:Int)<=8 then some (IS (x:Int) (2^min 8 (sh .u64)),fj .i64 (((8 *s:Nat):Int)+8)) else none else some ((x:Int),((8 *s:Nat):Int)):Option (Int×Int)) (λw2=>Tz w2.1 w2.2)=some (t:Int)/\(t+7)/8=fY m/\t<=64:=by
  intro x s hx hs hk;have hkx:=MG x;by_cases c:256<=x
  ·rw [if_pos (by omega),if_pos (by decide),GJ x 8 (by decide),wrap64 (by omega) (by omega),ar,show (((8 *s:Nat):Int)+8)=((8 *(s+1):Nat):Int) by omega];exact key (x/2^8) (s+1) (by omega) (by omega) (by rw [hk,if_neg (by omega)];omega)
  ·rw [if_neg (by omega),ar];refine key x s (by omega) (by omega) ?_;rw [hk];split<;>omega
 have eM: ∀x s:Nat,x<4294967296->s<=4->fY m=s+fY x-> ∃t:Nat,bd (if (65536:Int)<=(x:Int) then if (0:Int)<=16 then some (IS (x:Int) (2^min 16 (sh .u64)),fj .i64 (((8 *s:Nat):Int)+16)) else none else some ((x:Int),((8 *s:Nat):Int)):Option (Int×Int)) (λw1=>bd (if (256:Int)<=w1.1 then if (0:Int)<=8 then some (IS w1.1 (2^min 8 (sh .u64)),fj .i64 (w1.2+8)) else none else some (w1.1,w1.2):Option (Int×Int)) λw2=>Tz w2.1 w2.2)=some (t:Int)/\(t+7)/8=fY m/\t<=64:=by
  intro x s hx hs hk;by_cases c:65536<=x
  ·rw [if_pos (by omega),if_pos (by decide),GJ x 16 (by decide),wrap64 (by omega) (by omega),ar,show (((8 *s:Nat):Int)+16)=((8 *(s+2):Nat):Int) by omega];refine ra (x/2^16) (s+2) (by omega) (by omega) ?_;rw [hk,nJ (n:=x) (by omega) (by omega),nJ (n:=x/256) (by omega) (by omega),show x/256/256=x/2^16 by omega];omega
  ·rw [if_neg (by omega),ar];exact ra x s (by omega) (by omega) hk
 by_cases c:4294967296<=m
 ·rw [if_pos (by omega),if_pos (by decide),GJ m 32 (by decide),ar];refine eM (m/2^32) 4 (by omega) (by omega) ?_;rw [nJ (n:=m) (by omega) (by omega),nJ (n:=m/256) (by omega) (by omega),nJ (n:=m/256/256) (by omega) (by omega),nJ (n:=m/256/256/256) (by omega) (by omega),show m/256/256/256/256=m/2^32 by omega];omega
 ·rw [if_neg (by omega),ar];exact eM m 0 (by omega) (by omega) (by omega)
theorem WY {m:Nat}(h:m<2^64):uV (m:Int)=some ((1+fY m:Nat):Int):=by unfold uV;obtain ⟨t,e,h1,h2⟩:=ahR h;rw [e,ar,if_pos (by decide),wrap64 (x:=(t:Int)+7) (by omega) (by omega),OF (by omega),wrap64 (x:=((t:Int)+7)/8) (by omega) (by omega),wrap64 (by omega) (by omega),<-h1];congr 1
theorem amj {n j:Nat}(hj:j<=7):fj .u8 (IS (n:Int) (2^min (IT (fj .i64 (8 *(j:Int)))) (sh .u64)))=((n/256^j%256:Nat):Int):=by
 rw [wrap64 (by omega) (by omega),show IT (8 *(j:Int))=8 *j by omega,GJ n (8 *j) (by omega),w8,Nat.pow_mul];have e8:(2:Nat)^8=256:=by decide
 rw [e8];generalize n/256^j=x;omega
theorem ahS {n:Nat}: ∀(j:Nat) (l:List Int),j<=8->l.length<=2^45+(8-j)->Loop (sK (n:Int)) (l,(j:Int)-1)=some (l++xG j n):=by
 intro j;induction j with
 |zero=>intro l _ _;refine nk ?_;unfold sK;simp only;rw [if_neg (by omega)];simp [xG]
 |succ j ih=>
  intro l hj hl;have hh:=ih (l++[((n/256^j%256:Nat):Int)]) (by omega) (by rw [aav,AT];omega);have e0:(((j+1:Nat):Int)-1)=(j:Int):=by omega
  rw [e0];refine jq (s':=(l++[((n/256^j%256:Nat):Int)],(j:Int)-1)) ?_ ?_
  ·unfold sK;simp only;rw [if_pos (by omega),amj (by omega),if_pos (by rw [wrap64 (by omega) (by omega)];omega),if_pos (by rw [AT];omega),wrap64 (by omega) (by omega)]
  ·rw [hh,xG,aay];rfl
theorem P1 {b:List Int}(hb:b.length<=2^44){n:Nat}(h:n<2^64):uj b (n:Int)=some (b++MH n):=by unfold uj;have hk:=su n;rw [WY h,ar];unfold oQ;rw [if_pos ⟨rfl,rfl⟩,ar,show fj .i64 (((1+fY n:Nat):Int)-1)=(fY n:Int) by rw [wrap64 (by omega) (by omega)];omega,show fj .u8 (fY n:Int)=(fY n:Int) by rw [w8];omega,if_pos ⟨by simp,by rw [AT];omega⟩,wrap64 (by omega) (by omega),ahS (fY n) _ hk (by rw [aav,AT];omega),ar,aay];rfl
theorem uF {b:List Int}(hb:b.length<=2^44){n:Int}(h:i64 n):lI b n=some (b++AD n):=by
 unfold lI i64 at *;rw [if_pos (by decide),if_pos (by decide)];have e:GW .u64 (fj .u64 ((fj .u64 n) *2^min (IT 1) (sh .u64))) (fj .u64 (IS n (2^min (IT 63) (sh .i64))))=(zz n:Int):=by
  rw [show min (IT 1) (sh .u64)=1 by decide,show min (IT 63) (sh .i64)=63 by decide,No _ (by decide),ud,ud,ud];unfold zz;by_cases c:n<0
  ·rw [if_pos c,show n/2^63%18446744073709551616=18446744073709551615 by omega,show n%18446744073709551616 *2^1%18446744073709551616=(((2 *n+18446744073709551616).toNat:Nat):Int) by omega,U0 rfl (by omega) _ (by decide),ud];omega
  ·rw [if_neg c,show n/2^63%18446744073709551616=0 by omega,show n%18446744073709551616 *2^1%18446744073709551616=(((2 *n).toNat:Nat):Int) by omega,xor_zero rfl (by omega),ud];omega
 rw [e,P1 hb (afg h),ar];rfl
theorem MI {b:List Int}(hb:b.length<=2^44){s:List UInt8}(h:s.length<=2^44):rD b s=some (b++BM s):=by unfold rD;have:=su s.length;rw [ud,show ((s.length:Int)%18446744073709551616)=((s.length:Nat):Int) by omega,P1 hb (by omega),ar,if_pos (by rw [aav,GI,yK];omega),aay];rfl
theorem afk: ∀(k n c:Nat),n<2^64->fY n=k->c+k<=9->Loop vc ((n:Int),(c:Int))=some ((c+k:Nat):Int):=by
 intro k;induction k with
 |zero=>intro n c _ hk _;have:=PX hk;subst this;exact nk (by unfold vc;simp)
 |succ k ih=>
  intro n c hn hk hc;have h0:0<n:=by refine Nat.pos_of_ne_zero λh0=> ?_;subst h0;simp [fY] at hk
  have hs:=nJ h0 hn;have h8:=su n;refine jq (s':=(((n/256:Nat):Int),((c+1:Nat):Int))) ?_ ?_
  ·unfold vc;simp only;rw [if_pos (by omega),if_pos (by decide),OF (by omega),ud,wrap64 (by omega) (by omega)];congr 3;omega
  ·rw [ih (n/256) (c+1) (by omega) (by omega) (by omega)];congr 2;omega
end Dn.S
