import Derived.Test.YtjblhgpbkfmkoaaDnPOctet
/-
  Numbers and texts as bytes: what the functions give. Conditions: none.
-/
open Go Dn
set_option linter.unusedVariables false
set_option linter.unusedSimpArgs false
namespace Dn.S
theorem kw (n:Nat):(BitVec.ofInt 64 (n:Int))=BitVec.ofNat 64 n:=by
 apply BitVec.eq_of_toNat_eq
 rw [BitVec.toNat_ofInt,BitVec.toNat_ofNat]
 omega
theorem L8 {A c:Nat} (a:Nat) (hA:A=2^8 *a) (hc:c<2^8) (h:A+c<2^64):O8 .u64 (A:Int) (c:Int)=((A+c:Nat):Int):=by
 unfold O8
 show IntKind.wrap .u64 ((BitVec.ofInt 64 (A:Int)|||BitVec.ofInt 64 (c:Int)).toNat:Int)=_
 have e1:A%2^64=A:=Nat.mod_eq_of_lt (by omega)
 have e2:c%2^64=c:=Nat.mod_eq_of_lt (by omega)
 have e3:=Nat.two_pow_add_eq_or_of_lt hc a
 rw [←hA] at e3
 rw [kw,kw,BitVec.toNat_or,BitVec.toNat_ofNat,BitVec.toNat_ofNat,e1,e2,←e3,kl]
 omega
theorem N2 {a c:Nat} (hc:c<256) (h:a *256+c<2^64):O8 .u64 ((a *256:Nat):Int) (c:Int)=((a *256+c:Nat):Int):=
 L8 a (Nat.mul_comm _ _) hc h
theorem and_one {u:Nat} (h:u<2^64):Ed .u64 (u:Int) 1=((u%2:Nat):Int):=by
 unfold Ed
 show IntKind.wrap .u64 ((BitVec.ofInt 64 (u:Int)&&&BitVec.ofInt 64 ((1:Nat):Int)).toNat:Int)=_
 rw [kw,kw,BitVec.toNat_and,BitVec.toNat_ofNat,BitVec.toNat_ofNat,Nat.mod_eq_of_lt h,show 1%2^64=1 by decide,Nat.and_one_is_mod,kl]
 omega
theorem xor_zero {k:IntKind} (hk:k.bits=64) {x:Nat} (h:x<2^64):tN k (x:Int) 0=k.wrap (x:Int):=by
 unfold tN
 rw [hk,kw,show BitVec.ofInt 64 0=BitVec.ofNat 64 0 by decide,BitVec.xor_zero,BitVec.toNat_ofNat,Nat.mod_eq_of_lt h]
theorem DR {k:IntKind} (hk:k.bits=64) {x:Nat} (h:x<2^64) (m:Int) (hm:BitVec.ofInt 64 m=BitVec.allOnes 64):tN k (x:Int) m=k.wrap ((2^64-1-x:Nat):Int):=by
 unfold tN
 rw [hk,kw,hm,BitVec.xor_allOnes,BitVec.toNat_not,BitVec.toNat_ofNat,Nat.mod_eq_of_lt h]
theorem tF (n:Nat) (s:Nat) (hs:s≤64):Int.fdiv (n:Int) (2^min s (IntKind.bits .u64))=((n/2^s:Nat):Int):=by
 rw [Int.fdiv_eq_ediv_of_nonneg _ (Int.le_of_lt (Int.pow_pos (by decide))),show min s (IntKind.bits .u64)=s from Nat.min_eq_left hs]
 norm_cast
def CT:List UInt8:=(([0,1,2,2,3,3,3,3,4,4,4,4,4,4,4,4,5,5,5,5,5,5,5,5,5,5,5,5,5,5,5,5,6,6,6,6,6,6,6,6,6,6,6,6,6,6,6,6,6,6,6,6,6,6,6,6,6,6,6,6,6,6,6,6]:List UInt8)++([7,7,7,7,7,7,7,7,7,7,7,7,7,7,7,7,7,7,7,7,7,7,7,7,7,7,7,7,7,7,7,7,7,7,7,7,7,7,7,7,7,7,7,7,7,7,7,7,7,7,7,7,7,7,7,7,7,7,7,7,7,7,7,7]:List UInt8))++(([8,8,8,8,8,8,8,8,8,8,8,8,8,8,8,8,8,8,8,8,8,8,8,8,8,8,8,8,8,8,8,8,8,8,8,8,8,8,8,8,8,8,8,8,8,8,8,8,8,8,8,8,8,8,8,8,8,8,8,8,8,8,8,8]:List UInt8)++([8,8,8,8,8,8,8,8,8,8,8,8,8,8,8,8,8,8,8,8,8,8,8,8,8,8,8,8,8,8,8,8,8,8,8,8,8,8,8,8,8,8,8,8,8,8,8,8,8,8,8,8,8,8,8,8,8,8,8,8,8,8,8,8]:List UInt8))
theorem Br: ∀y:Fin 256,((CT.getD y 0).toNat+7)/8=(if (y:Nat)=0 then 0 else 1)∧(CT.getD y 0).toNat≤8:=by decide+kernel
def Ix (y s:Int):Option Int:=if (0:Int)≤(IntKind.wrap .u8 y)∧(IntKind.wrap .u8 y)<(CT.length:Int) then some (IntKind.wrap .i64 (s+(IntKind.wrap .i64 ((CT.getD (Int.toNat (IntKind.wrap .u8 y)) 0).toNat:Int)))) else none
theorem N3 {y:Nat} (hy:y<256) {s:Nat} (hs:s≤56): ∃t:Nat,Ix (y:Int) (s:Int)=some ((s+t:Nat):Int)∧(t+7)/8=(if y=0 then 0 else 1)∧t≤8:=by
 obtain ⟨h1,h2⟩:=Br ⟨y,hy⟩
 simp only at h1 h2
 unfold Ix
 rw [w8,show ((y:Int)%256)=(y:Int) by omega,Int.toNat_natCast,if_pos ⟨by omega,by rw [show CT.length=256 by decide+kernel];omega⟩,wrap64 (x:=((CT.getD y 0).toNat:Int)) (by omega) (by omega),wrap64 (by omega) (by omega)]
 exact ⟨_,by norm_cast,h1,h2⟩
theorem N4 {m:Nat} (h:m<2^64): ∃t:Nat,ol (m:Int)=some (t:Int)∧(t+7)/8=cD m∧t≤64:=by
 have key: ∀x s:Nat,x<256→s≤7→cD m=s+(if x=0 then 0 else 1)→ ∃t:Nat,Ix (x:Int) ((8 *s:Nat):Int)=some (t:Int)∧(t+7)/8=cD m∧t≤64:=by
  intro x s hx hs hk
  obtain ⟨t,e,h1,h2⟩:=N3 hx (s:=8 *s) (by omega)
  exact ⟨8 *s+t,e,by rw [hk];omega,by omega⟩
 show∃t:Nat,bd (if (4294967296:Int)≤(m:Int) then if (0:Int)≤32 then some (Int.fdiv (m:Int) (2^min 32 (IntKind.bits .u64)),32) else none else some ((m:Int),0):Option (Int×Int)) (fun w=>bd (if (65536:Int)≤w.1 then if (0:Int)≤16 then some (Int.fdiv w.1 (2^min 16 (IntKind.bits .u64)),IntKind.wrap .i64 (w.2+16)) else none else some (w.1,w.2):Option (Int×Int)) fun w1=>bd (if (256:Int)≤w1.1 then if (0:Int)≤8 then some (Int.fdiv w1.1 (2^min 8 (IntKind.bits .u64)),IntKind.wrap .i64 (w1.2+8)) else none else some (w1.1,w1.2):Option (Int×Int)) fun w2=>Ix w2.1 w2.2)=some (t:Int)∧(t+7)/8=cD m∧t≤64
 have ik: ∀x s:Nat,x<65536→s≤6→cD m=s+cD x→ ∃t:Nat,bd (if (256:Int)≤(x:Int) then if (0:Int)≤8 then some (Int.fdiv (x:Int) (2^min 8 (IntKind.bits .u64)),IntKind.wrap .i64 (((8 *s:Nat):Int)+8)) else none else some ((x:Int),((8 *s:Nat):Int)):Option (Int×Int)) (fun w2=>Ix w2.1 w2.2)=some (t:Int)∧(t+7)/8=cD m∧t≤64:=by
  intro x s hx hs hk
  have hkx:=yn x
  by_cases c:256≤x
  ·rw [if_pos (by omega),if_pos (by decide),tF x 8 (by decide),wrap64 (by omega) (by omega),aA,show (((8 *s:Nat):Int)+8)=((8 *(s+1):Nat):Int) by omega]
   exact key (x/2^8) (s+1) (by omega) (by omega) (by rw [hk,if_neg (by omega)];omega)
  ·rw [if_neg (by omega),aA]
   refine key x s (by omega) (by omega) ?_
   rw [hk];split<;>omega
 have ch: ∀x s:Nat,x<4294967296→s≤4→cD m=s+cD x→ ∃t:Nat,bd (if (65536:Int)≤(x:Int) then if (0:Int)≤16 then some (Int.fdiv (x:Int) (2^min 16 (IntKind.bits .u64)),IntKind.wrap .i64 (((8 *s:Nat):Int)+16)) else none else some ((x:Int),((8 *s:Nat):Int)):Option (Int×Int)) (fun w1=>bd (if (256:Int)≤w1.1 then if (0:Int)≤8 then some (Int.fdiv w1.1 (2^min 8 (IntKind.bits .u64)),IntKind.wrap .i64 (w1.2+8)) else none else some (w1.1,w1.2):Option (Int×Int)) fun w2=>Ix w2.1 w2.2)=some (t:Int)∧(t+7)/8=cD m∧t≤64:=by
  intro x s hx hs hk
  by_cases c:65536≤x
  ·rw [if_pos (by omega),if_pos (by decide),tF x 16 (by decide),wrap64 (by omega) (by omega),aA,show (((8 *s:Nat):Int)+16)=((8 *(s+2):Nat):Int) by omega]
   refine ik (x/2^16) (s+2) (by omega) (by omega) ?_
   rw [hk,fI (n:=x) (by omega) (by omega),fI (n:=x/256) (by omega) (by omega),show x/256/256=x/2^16 by omega]
   omega
  ·rw [if_neg (by omega),aA]
   exact ik x s (by omega) (by omega) hk
 by_cases c:4294967296≤m
 ·rw [if_pos (by omega),if_pos (by decide),tF m 32 (by decide),aA]
  refine ch (m/2^32) 4 (by omega) (by omega) ?_
  rw [fI (n:=m) (by omega) (by omega),fI (n:=m/256) (by omega) (by omega),fI (n:=m/256/256) (by omega) (by omega),fI (n:=m/256/256/256) (by omega) (by omega),show m/256/256/256/256=m/2^32 by omega]
  omega
 ·rw [if_neg (by omega),aA]
  exact ch m 0 (by omega) (by omega) (by omega)
theorem FN {m:Nat} (h:m<2^64):kZ (m:Int)=some ((1+cD m:Nat):Int):=by
 unfold kZ
 obtain ⟨t,e,h1,h2⟩:=N4 h
 rw [e,aA,if_pos (by decide),wrap64 (x:=(t:Int)+7) (by omega) (by omega),Int.tdiv_eq_ediv_of_nonneg (by omega),wrap64 (x:=((t:Int)+7)/8) (by omega) (by omega),wrap64 (by omega) (by omega),←h1]
 congr 1
theorem Q4 {n j:Nat} (hj:j≤7):IntKind.wrap .u8 (Int.fdiv (n:Int) (2^min (Int.toNat (IntKind.wrap .i64 (8 *(j:Int)))) (IntKind.bits .u64)))=((n/256^j%256:Nat):Int):=by
 rw [wrap64 (by omega) (by omega),show Int.toNat (8 *(j:Int))=8 *j by omega,tF n (8 *j) (by omega),w8,Nat.pow_mul]
 have e8:(2:Nat)^8=256:=by decide
 rw [e8]
 generalize n/256^j=x
 omega
theorem N5 {n:Nat}: ∀(j:Nat) (l:List Int),j≤8→l.length≤2^45+(8-j)→Loop (jJ (n:Int)) (l,(j:Int)-1)=some (l++mN j n):=by
 intro j
 induction j with
 |zero=>
  intro l _ _
  refine fA ?_
  unfold jJ
  simp only
  rw [if_neg (by omega)]
  simp [mN]
 |succ j ih=>
  intro l hj hl
  have hh:=ih (l++[((n/256^j%256:Nat):Int)]) (by omega) (by rw [List.length_append,List.length_singleton];omega)
  have e0:(((j+1:Nat):Int)-1)=(j:Int):=by omega
  rw [e0]
  refine dw (s':=(l++[((n/256^j%256:Nat):Int)],(j:Int)-1)) ?_ ?_
  ·unfold jJ
   simp only
   rw [if_pos (by omega),Q4 (by omega),if_pos (by rw [wrap64 (by omega) (by omega)];omega),if_pos (by rw [List.length_singleton];omega),wrap64 (by omega) (by omega)]
  ·rw [hh,mN,List.append_assoc];rfl
theorem AL {b:List Int} (hb:b.length≤2^44) {n:Nat} (h:n<2^64):kq b (n:Int)=some (b++yo n):=by
 unfold kq
 have hk:=jA n
 rw [FN h,aA]
 unfold gk
 rw [if_pos ⟨rfl,rfl⟩,aA,show IntKind.wrap .i64 (((1+cD n:Nat):Int)-1)=(cD n:Int) by rw [wrap64 (by omega) (by omega)];omega,show IntKind.wrap .u8 (cD n:Int)=(cD n:Int) by rw [w8];omega,
  if_pos ⟨by simp,by rw [List.length_singleton];omega⟩,wrap64 (by omega) (by omega),N5 (cD n) _ hk (by rw [List.length_append,List.length_singleton];omega),aA,List.append_assoc]
 rfl
theorem kz {b:List Int} (hb:b.length≤2^44) {n:Int} (h:i64 n):eK b n=some (b++pa n):=by
 unfold eK i64 at *
 rw [if_pos (by decide),if_pos (by decide)]
 have e:tN .u64 (IntKind.wrap .u64 ((IntKind.wrap .u64 n) *2^min (Int.toNat 1) (IntKind.bits .u64))) (IntKind.wrap .u64 (Int.fdiv n (2^min (Int.toNat 63) (IntKind.bits .i64))))=(zz n:Int):=by
  rw [show min (Int.toNat 1) (IntKind.bits .u64)=1 by decide,show min (Int.toNat 63) (IntKind.bits .i64)=63 by decide,Int.fdiv_eq_ediv_of_nonneg _ (by decide),kl,kl,kl]
  unfold zz
  by_cases c:n<0
  ·rw [if_pos c,show n/2^63%18446744073709551616=18446744073709551615 by omega,show n%18446744073709551616 *2^1%18446744073709551616=(((2 *n+18446744073709551616).toNat:Nat):Int) by omega,
    DR rfl (by omega) _ (by decide),kl]
   omega
  ·rw [if_neg c,show n/2^63%18446744073709551616=0 by omega,show n%18446744073709551616 *2^1%18446744073709551616=(((2 *n).toNat:Nat):Int) by omega,
    xor_zero rfl (by omega),kl]
   omega
 rw [e,AL hb (L6 h),aA]
 rfl
theorem yp {b:List Int} (hb:b.length≤2^44) {s:List UInt8} (h:s.length≤2^44):jg b s=some (b++qf s):=by
 unfold jg
 have:=jA s.length
 rw [kl,show ((s.length:Int)%18446744073709551616)=((s.length:Nat):Int) by omega,AL hb (by omega),aA,if_pos (by rw [List.length_append,tD,nG];omega),List.append_assoc]
 rfl
theorem L9: ∀(k n c:Nat),n<2^64→cD n=k→c+k≤9→Loop lc ((n:Int),(c:Int))=some ((c+k:Nat):Int):=by
 intro k
 induction k with
 |zero=>
  intro n c _ hk _
  have:=AG hk
  subst this
  exact fA (by unfold lc;simp)
 |succ k ih=>
  intro n c hn hk hc
  have h0:0<n:=by
   refine Nat.pos_of_ne_zero fun h0=> ?_
   subst h0;simp [cD] at hk
  have hs:=fI h0 hn
  have h8:=jA n
  refine dw (s':=(((n/256:Nat):Int),((c+1:Nat):Int))) ?_ ?_
  ·unfold lc
   simp only
   rw [if_pos (by omega),if_pos (by decide),Int.tdiv_eq_ediv_of_nonneg (by omega),kl,wrap64 (by omega) (by omega)]
   congr 3
   omega
  ·rw [ih (n/256) (c+1) (by omega) (by omega) (by omega)]
   congr 2
   omega
end Dn.S
