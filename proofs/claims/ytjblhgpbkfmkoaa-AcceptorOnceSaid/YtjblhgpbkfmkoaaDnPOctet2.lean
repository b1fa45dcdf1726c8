import Derived.Test.YtjblhgpbkfmkoaaDnPOctet
/-
  Numbers and texts as bytes: what the functions give. Conditions: none.
-/
open Go Dn
set_option linter.unusedVariables false
set_option linter.unusedSimpArgs false
namespace Dn.S
theorem mc (n:Nat):(BitVec.ofInt 64 (n:Int))=BitVec.ofNat 64 n:=by
 apply BitVec.eq_of_toNat_eq
 rw [BitVec.toNat_ofInt,BitVec.toNat_ofNat]
 omega
theorem PO {A c:Nat} (a:Nat) (hA:A=2^8 *a) (hc:c<2^8) (h:A+c<2^64):S5 .u64 (A:Int) (c:Int)=((A+c:Nat):Int):=by
 unfold S5
 show IntKind.wrap .u64 ((BitVec.ofInt 64 (A:Int)|||BitVec.ofInt 64 (c:Int)).toNat:Int)=_
 have e1:A%2^64=A:=Nat.mod_eq_of_lt (by omega)
 have e2:c%2^64=c:=Nat.mod_eq_of_lt (by omega)
 have e3:=Nat.two_pow_add_eq_or_of_lt hc a
 rw [←hA] at e3
 rw [mc,mc,BitVec.toNat_or,BitVec.toNat_ofNat,BitVec.toNat_ofNat,e1,e2,←e3,yp]
 omega
theorem RW {a c:Nat} (hc:c<256) (h:a *256+c<2^64):S5 .u64 ((a *256:Nat):Int) (c:Int)=((a *256+c:Nat):Int):=
 PO a (Nat.mul_comm _ _) hc h
theorem and_one {u:Nat} (h:u<2^64):G5 .u64 (u:Int) 1=((u%2:Nat):Int):=by
 unfold G5
 show IntKind.wrap .u64 ((BitVec.ofInt 64 (u:Int)&&&BitVec.ofInt 64 ((1:Nat):Int)).toNat:Int)=_
 rw [mc,mc,BitVec.toNat_and,BitVec.toNat_ofNat,BitVec.toNat_ofNat,Nat.mod_eq_of_lt h,show 1%2^64=1 by decide,Nat.and_one_is_mod,yp]
 omega
theorem xor_zero {k:IntKind} (hk:k.bits=64) {x:Nat} (h:x<2^64):vY k (x:Int) 0=k.wrap (x:Int):=by
 unfold vY
 rw [hk,mc,show BitVec.ofInt 64 0=BitVec.ofNat 64 0 by decide,BitVec.xor_zero,BitVec.toNat_ofNat,Nat.mod_eq_of_lt h]
theorem GO {k:IntKind} (hk:k.bits=64) {x:Nat} (h:x<2^64) (m:Int) (hm:BitVec.ofInt 64 m=BitVec.allOnes 64):vY k (x:Int) m=k.wrap ((2^64-1-x:Nat):Int):=by
 unfold vY
 rw [hk,mc,hm,BitVec.xor_allOnes,BitVec.toNat_not,BitVec.toNat_ofNat,Nat.mod_eq_of_lt h]
theorem vP (n:Nat) (s:Nat) (hs:s≤64):Int.fdiv (n:Int) (2^min s (IntKind.bits .u64))=((n/2^s:Nat):Int):=by
 rw [Int.fdiv_eq_ediv_of_nonneg _ (Int.le_of_lt (Int.pow_pos (by decide))),show min s (IntKind.bits .u64)=s from Nat.min_eq_left hs]
 norm_cast
def FK:List UInt8:=(([0,1,2,2,3,3,3,3,4,4,4,4,4,4,4,4,5,5,5,5,5,5,5,5,5,5,5,5,5,5,5,5,6,6,6,6,6,6,6,6,6,6,6,6,6,6,6,6,6,6,6,6,6,6,6,6,6,6,6,6,6,6,6,6]:List UInt8)++([7,7,7,7,7,7,7,7,7,7,7,7,7,7,7,7,7,7,7,7,7,7,7,7,7,7,7,7,7,7,7,7,7,7,7,7,7,7,7,7,7,7,7,7,7,7,7,7,7,7,7,7,7,7,7,7,7,7,7,7,7,7,7,7]:List UInt8))++(([8,8,8,8,8,8,8,8,8,8,8,8,8,8,8,8,8,8,8,8,8,8,8,8,8,8,8,8,8,8,8,8,8,8,8,8,8,8,8,8,8,8,8,8,8,8,8,8,8,8,8,8,8,8,8,8,8,8,8,8,8,8,8,8]:List UInt8)++([8,8,8,8,8,8,8,8,8,8,8,8,8,8,8,8,8,8,8,8,8,8,8,8,8,8,8,8,8,8,8,8,8,8,8,8,8,8,8,8,8,8,8,8,8,8,8,8,8,8,8,8,8,8,8,8,8,8,8,8,8,8,8,8]:List UInt8))
theorem DU: ∀y:Fin 256,((FK.getD y 0).toNat+7)/8=(if (y:Nat)=0 then 0 else 1)∧(FK.getD y 0).toNat≤8:=by decide+kernel
def LN (y s:Int):Option Int:=if (0:Int)≤(IntKind.wrap .u8 y)∧(IntKind.wrap .u8 y)<(FK.length:Int) then some (IntKind.wrap .i64 (s+(IntKind.wrap .i64 ((FK.getD (Int.toNat (IntKind.wrap .u8 y)) 0).toNat:Int)))) else none
theorem RX {y:Nat} (hy:y<256) {s:Nat} (hs:s≤56): ∃t:Nat,LN (y:Int) (s:Int)=some ((s+t:Nat):Int)∧(t+7)/8=(if y=0 then 0 else 1)∧t≤8:=by
 obtain ⟨h1,h2⟩:=DU ⟨y,hy⟩
 simp only at h1 h2
 unfold LN
 rw [w8,show ((y:Int)%256)=(y:Int) by omega,Int.toNat_natCast,if_pos ⟨by omega,by rw [show FK.length=256 by decide+kernel];omega⟩,wrap64 (x:=((FK.getD y 0).toNat:Int)) (by omega) (by omega),wrap64 (by omega) (by omega)]
 exact ⟨_,by norm_cast,h1,h2⟩
theorem RY {m:Nat} (h:m<2^64): ∃t:Nat,pQ (m:Int)=some (t:Int)∧(t+7)/8=dC m∧t≤64:=by
 have key: ∀x s:Nat,x<256→s≤7→dC m=s+(if x=0 then 0 else 1)→ ∃t:Nat,LN (x:Int) ((8 *s:Nat):Int)=some (t:Int)∧(t+7)/8=dC m∧t≤64:=by
  intro x s hx hs hk
  obtain ⟨t,e,h1,h2⟩:=RX hx (s:=8 *s) (by omega)
  exact ⟨8 *s+t,e,by rw [hk];omega,by omega⟩
 show∃t:Nat,bd (if (4294967296:Int)≤(m:Int) then if (0:Int)≤32 then some (Int.fdiv (m:Int) (2^min 32 (IntKind.bits .u64)),32) else none else some ((m:Int),0):Option (Int×Int)) (fun w=>bd (if (65536:Int)≤w.1 then if (0:Int)≤16 then some (Int.fdiv w.1 (2^min 16 (IntKind.bits .u64)),IntKind.wrap .i64 (w.2+16)) else none else some (w.1,w.2):Option (Int×Int)) fun w1=>bd (if (256:Int)≤w1.1 then if (0:Int)≤8 then some (Int.fdiv w1.1 (2^min 8 (IntKind.bits .u64)),IntKind.wrap .i64 (w1.2+8)) else none else some (w1.1,w1.2):Option (Int×Int)) fun w2=>LN w2.1 w2.2)=some (t:Int)∧(t+7)/8=dC m∧t≤64
 have jB: ∀x s:Nat,x<65536→s≤6→dC m=s+dC x→ ∃t:Nat,bd (if (256:Int)≤(x:Int) then if (0:Int)≤8 then some (Int.fdiv (x:Int) (2^min 8 (IntKind.bits .u64)),IntKind.wrap .i64 (((8 *s:Nat):Int)+8)) else none else some ((x:Int),((8 *s:Nat):Int)):Option (Int×Int)) (fun w2=>LN w2.1 w2.2)=some (t:Int)∧(t+7)/8=dC m∧t≤64:=by
  intro x s hx hs hk
  have hkx:=AY x
  by_cases c:256≤x
  ·rw [if_pos (by omega),if_pos (by decide),vP x 8 (by decide),wrap64 (by omega) (by omega),aq,show (((8 *s:Nat):Int)+8)=((8 *(s+1):Nat):Int) by omega]
   exact key (x/2^8) (s+1) (by omega) (by omega) (by rw [hk,if_neg (by omega)];omega)
  ·rw [if_neg (by omega),aq]
   refine key x s (by omega) (by omega) ?_
   rw [hk];split<;>omega
 have cr: ∀x s:Nat,x<4294967296→s≤4→dC m=s+dC x→ ∃t:Nat,bd (if (65536:Int)≤(x:Int) then if (0:Int)≤16 then some (Int.fdiv (x:Int) (2^min 16 (IntKind.bits .u64)),IntKind.wrap .i64 (((8 *s:Nat):Int)+16)) else none else some ((x:Int),((8 *s:Nat):Int)):Option (Int×Int)) (fun w1=>bd (if (256:Int)≤w1.1 then if (0:Int)≤8 then some (Int.fdiv w1.1 (2^min 8 (IntKind.bits .u64)),IntKind.wrap .i64 (w1.2+8)) else none else some (w1.1,w1.2):Option (Int×Int)) fun w2=>LN w2.1 w2.2)=some (t:Int)∧(t+7)/8=dC m∧t≤64:=by
  intro x s hx hs hk
  by_cases c:65536≤x
  ·rw [if_pos (by omega),if_pos (by decide),vP x 16 (by decide),wrap64 (by omega) (by omega),aq,show (((8 *s:Nat):Int)+16)=((8 *(s+2):Nat):Int) by omega]
   refine jB (x/2^16) (s+2) (by omega) (by omega) ?_
   rw [hk,jm (n:=x) (by omega) (by omega),jm (n:=x/256) (by omega) (by omega),show x/256/256=x/2^16 by omega]
   omega
  ·rw [if_neg (by omega),aq]
   exact jB x s (by omega) (by omega) hk
 by_cases c:4294967296≤m
 ·rw [if_pos (by omega),if_pos (by decide),vP m 32 (by decide),aq]
  refine cr (m/2^32) 4 (by omega) (by omega) ?_
  rw [jm (n:=m) (by omega) (by omega),jm (n:=m/256) (by omega) (by omega),jm (n:=m/256/256) (by omega) (by omega),jm (n:=m/256/256/256) (by omega) (by omega),show m/256/256/256/256=m/2^32 by omega]
  omega
 ·rw [if_neg (by omega),aq]
  exact cr m 0 (by omega) (by omega) (by omega)
theorem IK {m:Nat} (h:m<2^64):mD (m:Int)=some ((1+dC m:Nat):Int):=by
 unfold mD
 obtain ⟨t,e,h1,h2⟩:=RY h
 rw [e,aq,if_pos (by decide),wrap64 (x:=(t:Int)+7) (by omega) (by omega),Int.tdiv_eq_ediv_of_nonneg (by omega),wrap64 (x:=((t:Int)+7)/8) (by omega) (by omega),wrap64 (by omega) (by omega),←h1]
 congr 1
theorem VR {n j:Nat} (hj:j≤7):IntKind.wrap .u8 (Int.fdiv (n:Int) (2^min (Int.toNat (IntKind.wrap .i64 (8 *(j:Int)))) (IntKind.bits .u64)))=((n/256^j%256:Nat):Int):=by
 rw [wrap64 (by omega) (by omega),show Int.toNat (8 *(j:Int))=8 *j by omega,vP n (8 *j) (by omega),w8,Nat.pow_mul]
 have e8:(2:Nat)^8=256:=by decide
 rw [e8]
 generalize n/256^j=x
 omega
theorem RZ {n:Nat}: ∀(j:Nat) (l:List Int),j≤8→l.length≤2^45+(8-j)→Loop (kQ (n:Int)) (l,(j:Int)-1)=some (l++qF j n):=by
 intro j
 induction j with
 |zero=>
  intro l _ _
  refine rI ?_
  unfold kQ
  simp only
  rw [if_neg (by omega)]
  simp [qF]
 |succ j ih=>
  intro l hj hl
  have hh:=ih (l++[((n/256^j%256:Nat):Int)]) (by omega) (by rw [List.length_append,List.length_singleton];omega)
  have e0:(((j+1:Nat):Int)-1)=(j:Int):=by omega
  rw [e0]
  refine kw (s':=(l++[((n/256^j%256:Nat):Int)],(j:Int)-1)) ?_ ?_
  ·unfold kQ
   simp only
   rw [if_pos (by omega),VR (by omega),if_pos (by rw [wrap64 (by omega) (by omega)];omega),if_pos (by rw [List.length_singleton];omega),wrap64 (by omega) (by omega)]
  ·rw [hh,qF,List.append_assoc];rfl
theorem Dh {b:List Int} (hb:b.length≤2^44) {n:Nat} (h:n<2^64):lW b (n:Int)=some (b++B3 n):=by
 unfold lW
 have hk:=sE n
 rw [IK h,aq]
 unfold iQ
 rw [if_pos ⟨rfl,rfl⟩,aq,show IntKind.wrap .i64 (((1+dC n:Nat):Int)-1)=(dC n:Int) by rw [wrap64 (by omega) (by omega)];omega,show IntKind.wrap .u8 (dC n:Int)=(dC n:Int) by rw [w8];omega,
  if_pos ⟨by simp,by rw [List.length_singleton];omega⟩,wrap64 (by omega) (by omega),RZ (dC n) _ hk (by rw [List.length_append,List.length_singleton];omega),aq,List.append_assoc]
 rfl
theorem mf {b:List Int} (hb:b.length≤2^44) {n:Int} (h:i64 n):fF b n=some (b++sO n):=by
 unfold fF i64 at *
 rw [if_pos (by decide),if_pos (by decide)]
 have e:vY .u64 (IntKind.wrap .u64 ((IntKind.wrap .u64 n) *2^min (Int.toNat 1) (IntKind.bits .u64))) (IntKind.wrap .u64 (Int.fdiv n (2^min (Int.toNat 63) (IntKind.bits .i64))))=(zz n:Int):=by
  rw [show min (Int.toNat 1) (IntKind.bits .u64)=1 by decide,show min (Int.toNat 63) (IntKind.bits .i64)=63 by decide,Int.fdiv_eq_ediv_of_nonneg _ (by decide),yp,yp,yp]
  unfold zz
  by_cases c:n<0
  ·rw [if_pos c,show n/2^63%18446744073709551616=18446744073709551615 by omega,show n%18446744073709551616 *2^1%18446744073709551616=(((2 *n+18446744073709551616).toNat:Nat):Int) by omega,
    GO rfl (by omega) _ (by decide),yp]
   omega
  ·rw [if_neg c,show n/2^63%18446744073709551616=0 by omega,show n%18446744073709551616 *2^1%18446744073709551616=(((2 *n).toNat:Nat):Int) by omega,
    xor_zero rfl (by omega),yp]
   omega
 rw [e,Dh hb (S2 h),aq]
 rfl
theorem A2 {b:List Int} (hb:b.length≤2^44) {s:List UInt8} (h:s.length≤2^44):km b s=some (b++tq s):=by
 unfold km
 have:=sE s.length
 rw [yp,show ((s.length:Int)%18446744073709551616)=((s.length:Nat):Int) by omega,Dh hb (by omega),aq,if_pos (by rw [List.length_append,AZ,rK];omega),List.append_assoc]
 rfl
end Dn.S
