import Derived.Test.YtjblhgpbkfmkoaaDnC
import Derived.Test.YtjblhgpbkfmkoaaDnYV
/-
  Numbers and texts as bytes. Conditions: none.
-/
open Go Dn
set_option linter.unusedVariables false
set_option linter.unusedSimpArgs false
namespace Dn.S
theorem B0 {σ ρ:Type} {body:σ→Option (Sum σ ρ)} {s:σ} {r:ρ} (h:Loop body s=some r): ∃n,iter body n s=some r:=by
 unfold Loop at h
 split at h
 ·rename_i he
  obtain ⟨n,hn⟩:=Classical.choose_spec he
  injection h with h
  exact ⟨n,by rw [←h];exact hn⟩
 ·cases h
theorem fA {σ ρ:Type} {body:σ→Option (Sum σ ρ)} {s:σ} {r:ρ} (h:body s=some (.inr r)):Loop body s=some r:=er (n:=1) (by simp [iter,h])
theorem dw {σ ρ:Type} {body:σ→Option (Sum σ ρ)} {s s':σ} {r:ρ} (h:body s=some (.inl s')) (h2:Loop body s'=some r):Loop body s=some r:=by
 obtain ⟨n,hn⟩:=B0 h2
 exact er (n:=n+1) (by simp only [iter,h];exact hn)
theorem w8 (x:Int):IntKind.wrap .u8 x=x%256:=by simp [IntKind.wrap,IntKind.bits,IntKind.signed]
theorem kl (x:Int):IntKind.wrap .u64 x=x%18446744073709551616:=by simp [IntKind.wrap,IntKind.bits,IntKind.signed]
theorem W9 (x:Int):IntKind.wrap .i64 x=(x+9223372036854775808)%18446744073709551616-9223372036854775808:=by rw [IntKind.wrap_i64]
def cD (n:Nat):Nat:=if n=0 then 0 else if n<256 then 1 else if n<65536 then 2 else if n<16777216 then 3 else if n<4294967296 then 4 else if n<1099511627776 then 5 else if n<281474976710656 then 6 else if n<72057594037927936 then 7 else 8
def mN:Nat→Nat→List Int
 |0,_=>[]
 |k+1,n=>((n/256^k%256:Nat):Int)::mN k n
def oK:Nat→List Int→Nat
 |acc,[]=>acc
 |acc,c::l=>oK (acc *256+c.toNat) l
def iM (l:List Int):Prop:= ∀x∈l,0≤x∧x<256
theorem iM.cons {c:Int} {l:List Int} (h:iM (c::l)):(0≤c∧c<256)∧iM l:=⟨h c (by simp),fun x hx=>h x (by simp [hx])⟩
theorem iM.app {l m:List Int} (h:iM l) (h2:iM m):iM (l++m):=fun x hx=>by
 rcases List.mem_append.1 hx with hx|hx
 ·exact h x hx
 ·exact h2 x hx
theorem iM.drop {l:List Int} (n:Nat) (h:iM l):iM (l.drop n):=fun x hx=>h x (List.mem_of_mem_drop hx)
theorem iM.take {l:List Int} (n:Nat) (h:iM l):iM (l.take n):=fun x hx=>h x (List.mem_of_mem_take hx)
theorem tC (k n:Nat):(mN k n).length=k:=by
 induction k with
 |zero=>rfl
 |succ k ih=>simp [mN,ih]
theorem L2 (k n:Nat):iM (mN k n):=by
 induction k with
 |zero=>intro x hx;simp [mN] at hx
 |succ k ih=>
  intro x hx
  rcases List.mem_cons.1 hx with rfl|hx
  ·omega
  ·exact ih x hx
theorem jA (n:Nat):cD n≤8:=by
 unfold cD;repeat' split
 all_goals omega
theorem yn (m:Nat):(m=0∧cD m=0)∨(1≤m∧m<256∧cD m=1)∨(256≤m∧m<65536∧cD m=2)∨(65536≤m∧m<16777216∧cD m=3)∨(16777216≤m∧m<4294967296∧cD m=4)∨(4294967296≤m∧m<1099511627776∧cD m=5)∨(1099511627776≤m∧m<281474976710656∧cD m=6)∨(281474976710656≤m∧m<72057594037927936∧cD m=7)∨(72057594037927936≤m∧cD m=8):=by
 by_cases c0:m=0
 ·exact .inl ⟨c0,by unfold cD;rw [if_pos c0]⟩
 by_cases c1:m<256
 ·exact .inr (.inl ⟨by omega,c1,by unfold cD;rw [if_neg c0,if_pos c1]⟩)
 by_cases c2:m<65536
 ·exact .inr (.inr (.inl ⟨by omega,c2,by unfold cD;rw [if_neg c0,if_neg c1,if_pos c2]⟩))
 by_cases c3:m<16777216
 ·exact .inr (.inr (.inr (.inl ⟨by omega,c3,by unfold cD;rw [if_neg c0,if_neg c1,if_neg c2,if_pos c3]⟩)))
 by_cases c4:m<4294967296
 ·exact .inr (.inr (.inr (.inr (.inl ⟨by omega,c4,by unfold cD;rw [if_neg c0,if_neg c1,if_neg c2,if_neg c3,if_pos c4]⟩))))
 by_cases c5:m<1099511627776
 ·exact .inr (.inr (.inr (.inr (.inr (.inl ⟨by omega,c5,by unfold cD;rw [if_neg c0,if_neg c1,if_neg c2,if_neg c3,if_neg c4,if_pos c5]⟩)))))
 by_cases c6:m<281474976710656
 ·exact .inr (.inr (.inr (.inr (.inr (.inr (.inl ⟨by omega,c6,by unfold cD;rw [if_neg c0,if_neg c1,if_neg c2,if_neg c3,if_neg c4,if_neg c5,if_pos c6]⟩))))))
 by_cases c7:m<72057594037927936
 ·exact .inr (.inr (.inr (.inr (.inr (.inr (.inr (.inl ⟨by omega,c7,by unfold cD;rw [if_neg c0,if_neg c1,if_neg c2,if_neg c3,if_neg c4,if_neg c5,if_neg c6,if_pos c7]⟩)))))))
 exact .inr (.inr (.inr (.inr (.inr (.inr (.inr (.inr (⟨by omega,by unfold cD;rw [if_neg c0,if_neg c1,if_neg c2,if_neg c3,if_neg c4,if_neg c5,if_neg c6,if_neg c7]⟩))))))))
theorem fI {n:Nat} (h:0<n) (hb:n<2^64):cD n=cD (n/256)+1:=by
 rcases yn n with a|a|a|a|a|a|a|a|a<;>rcases yn (n/256) with b|b|b|b|b|b|b|b|b<;>omega
theorem AG {n:Nat} (h:cD n=0):n=0:=by
 unfold cD at h
 repeat' split at h
 all_goals first|assumption|omega
theorem L3: ∀(k n:Nat),n<2^64→cD n=k→n<256^k∧(0<k→256^(k-1)≤n):=by
 intro k
 induction k with
 |zero=>intro n hn h;have:=AG h;subst this;simp
 |succ k ih=>
  intro n hn h
  have h0:0<n:=by
   refine Nat.pos_of_ne_zero fun h0=> ?_
   subst h0;simp [cD] at h
  have hs:=fI h0 hn
  obtain ⟨h1,h2⟩:=ih (n/256) (by omega) (by omega)
  refine ⟨?_,fun _=> ?_⟩
  ·rw [Nat.pow_succ];omega
  ·by_cases hk:k=0
   ·subst hk;simp;omega
   ·have:=h2 (by omega)
    rw [show k+1-1=(k-1)+1 by omega,Nat.pow_succ]
    omega
theorem N1: ∀(k n:Nat),k≤8→n<256^k→(0<k→256^(k-1)≤n)→cD n=k:=by
 intro k
 induction k with
 |zero=>intro n _ h _;simp at h;subst h;rfl
 |succ k ih=>
  intro n hk h1 h2
  have h2:=h2 (by omega)
  have hp:0<n:=Nat.lt_of_lt_of_le (Nat.pow_pos (by decide)) h2
  have hb:n<2^64:=by
   refine Nat.lt_of_lt_of_le h1 ?_
   have:=Nat.pow_le_pow_right (n:=256) (by decide) hk
   simpa using this
  rw [fI hp hb,ih (n/256) (by omega) (by rw [Nat.pow_succ] at h1;omega) (fun ZD=> ?_)]
  rw [show k+1-1=(k-1)+1 by omega,Nat.pow_succ] at h2
  omega
theorem Iu: ∀(k acc n:Nat),oK acc (mN k n)=acc *256^k+n%256^k:=by
 intro k
 induction k with
 |zero=>intro acc n;simp [mN,oK,Nat.mod_one]
 |succ k ih=>
  intro acc n
  simp only [mN,oK,Int.toNat_natCast]
  rw [ih,Nat.pow_succ,Nat.mod_mul,Nat.add_mul,Nat.mul_assoc,Nat.mul_comm 256,Nat.mul_comm (n/256^k%256)]
  omega
theorem se: ∀(l:List Int) (acc:Nat),oK acc l=acc *256^l.length+oK 0 l:=by
 intro l
 induction l with
 |nil=>intro acc;simp [oK]
 |cons c l ih=>
  intro acc
  simp only [oK,List.length_cons]
  rw [ih (acc *256+c.toNat),ih (0 *256+c.toNat),Nat.pow_succ,Nat.zero_mul,Nat.zero_add,Nat.add_mul,Nat.mul_assoc,Nat.mul_comm 256]
  omega
theorem G5: ∀(l:List Int),iM l→oK 0 l<256^l.length:=by
 intro l
 induction l with
 |nil=>intro _;simp [oK]
 |cons c l ih=>
  intro h
  obtain ⟨hc,hl⟩:=h.cons
  have ih:=ih hl
  simp only [oK,List.length_cons]
  rw [se,Nat.zero_mul,Nat.zero_add,Nat.pow_succ]
  have h1:c.toNat≤255:=by omega
  have h2:=Nat.mul_le_mul_right (256^l.length) h1
  omega
theorem L4: ∀(k a n:Nat),mN k (a *256^k+n)=mN k n:=by
 intro k
 induction k with
 |zero=>intro a n;rfl
 |succ k ih=>
  intro a n
  simp only [mN]
  have e:a *256^(k+1)+n=a *256 *256^k+n:=by rw [Nat.pow_succ,Nat.mul_assoc,Nat.mul_comm 256]
  rw [e,ih (a *256) n,Nat.add_comm (a *256 *256^k),Nat.add_mul_div_right _ _ (Nat.pow_pos (by decide))]
  congr 2
  omega
theorem L5: ∀(l:List Int),iM l→mN l.length (oK 0 l)=l:=by
 intro l
 induction l with
 |nil=>intro _;rfl
 |cons c l ih=>
  intro h
  obtain ⟨hc,hl⟩:=h.cons
  have dE:=G5 l hl
  simp only [oK,List.length_cons,mN]
  rw [se,Nat.zero_mul,Nat.zero_add,L4,ih hl]
  congr 1
  rw [Nat.add_comm,Nat.add_mul_div_right _ _ (Nat.pow_pos (by decide)),Nat.div_eq_of_lt dE]
  omega
def yo (n:Nat):List Int:=(cD n:Int)::mN (cD n) n
theorem DQ (n:Nat):iM (yo n):=by
 intro x hx
 rcases List.mem_cons.1 hx with rfl|hx
 ·have:=jA n;omega
 ·exact L2 _ _ x hx
theorem tD (n:Nat):(yo n).length=cD n+1:=by simp [yo,tC]
def fB (b:List Int):Option (Nat×List Int):=match b with
 |[]=>none
 |y::r=>if 8<y.toNat∨(0<y.toNat∧r[0]? =some 0)∨r.length<y.toNat then none else some (oK 0 (r.take y.toNat),r.drop y.toNat)
theorem AH {n:Nat} (hn:n<2^64) (r:List Int):fB (yo n++r)=some (n,r):=by
 have hk:=jA n
 obtain ⟨h1,h2⟩:=L3 _ n hn rfl
 unfold fB yo
 simp only [List.cons_append,Int.toNat_natCast]
 rw [if_neg]
 ·rw [List.take_left' (tC _ _),List.drop_left' (tC _ _),Iu,Nat.zero_mul,Nat.zero_add,Nat.mod_eq_of_lt h1]
 ·rintro (h|⟨h,h3⟩|h)
  ·omega
  ·have h2:=h2 h
   obtain ⟨k,D8⟩: ∃k,cD n=k+1:=⟨cD n-1,by omega⟩
   rw [D8] at h1 h2 h3
   simp only [mN,List.cons_append,List.getElem?_cons_zero,Option.some.injEq,Nat.add_sub_cancel] at h3 h2
   rw [Nat.pow_succ] at h1
   have hd:n/256^k<256:=by rw [Nat.div_lt_iff_lt_mul (Nat.pow_pos (by decide))];rw [Nat.mul_comm];exact h1
   have K4:1≤n/256^k:=by rw [Nat.le_div_iff_mul_le (Nat.pow_pos (by decide))];omega
   omega
  ·rw [List.length_append,tC] at h;omega
theorem jo {b:List Int} (hb:iM b) {n:Nat} {r:List Int} (h:fB b=some (n,r)):b=yo n++r∧n<2^64∧iM r:=by
 unfold fB at h
 cases b with
 |nil=>cases h
 |cons y l=>
  simp only at h
  obtain ⟨hy,hl⟩:=hb.cons
  split at h
  ·cases h
  ·rename_i hc
   injection h with h
   injection h with h1 h2
   have hlen:(l.take y.toNat).length=y.toNat:=by rw [List.length_take];omega
   have dE:=G5 _ (hl.take y.toNat)
   rw [hlen] at dE
   have hk:cD n=y.toNat:=by
    refine N1 _ _ (by omega) (by rw [←h1];exact dE) (fun h0=> ?_)
    rw [←h1]
    cases l with
    |nil=>simp only [List.length_nil] at hc;omega
    |cons c l=>
     have Uh:c≠0:=fun h=>hc (.inr (.inl ⟨h0,by rw [h];rfl⟩))
     obtain ⟨k,hk⟩: ∃k,y.toNat=k+1:=⟨y.toNat-1,by omega⟩
     rw [hk] at hlen
     rw [hk,Nat.add_sub_cancel,List.take_succ_cons,oK,se]
     have RA:(l.take k).length=k:=by simpa using hlen
     rw [RA,Nat.zero_mul,Nat.zero_add]
     have:=Nat.mul_le_mul_right (256^k) (show 1≤c.toNat by have:=hl.cons.1;omega)
     omega
   refine ⟨?_,?_,?_⟩
   ·unfold yo
    rw [hk,List.cons_append,←h1,←h2]
    have:=L5 _ (hl.take y.toNat)
    rw [hlen] at this
    rw [this,List.take_append_drop]
    congr 1
    omega
   ·rw [←h1]
    refine Nat.lt_of_lt_of_le dE ?_
    have:=Nat.pow_le_pow_right (n:=256) (by decide) (show y.toNat≤8 by omega)
    simpa using this
   ·rw [←h2];exact hl.drop _
def zz (n:Int):Nat:=if n<0 then (2 *(-(n+1))+1).toNat else (2 *n).toNat
def uz (u:Nat):Int:=if u%2=1 then-((u/2:Nat):Int)-1 else ((u/2:Nat):Int)
def i64 (n:Int):Prop:= -9223372036854775808≤n∧n≤9223372036854775807
theorem L6 {n:Int} (h:i64 n):zz n<2^64:=by unfold zz;unfold i64 at h;split<;>omega
theorem T6 {n:Int}:uz (zz n)=n:=by
 unfold zz uz
 split<;>split<;>omega
theorem T7 {u:Nat}:zz (uz u)=u:=by
 unfold zz uz
 split<;>split<;>omega
theorem Q3 {u:Nat} (h:u<2^64):i64 (uz u):=by
 unfold uz i64
 split<;>omega
def pa (n:Int):List Int:=yo (zz n)
def qf (s:List UInt8):List Int:=yo s.length++pI s
theorem L7 (s:List UInt8):iM (pI s):=by
 intro x hx
 unfold pI at hx
 obtain ⟨b,_,rfl⟩:=List.mem_map.1 hx
 have:=UInt8.toNat_lt b
 omega
theorem nG (s:List UInt8):(pI s).length=s.length:=by simp [pI]
theorem nH (n:Int):iM (pa n):=DQ _
theorem AJ (s:List UInt8):iM (qf s):=(DQ _).app (L7 s)
def B1 (l:List Int):List UInt8:=l.map fun n=>UInt8.ofNat n.toNat
theorem Iv (s:List UInt8):B1 (pI s)=s:=by
 unfold B1 pI
 rw [List.map_map]
 conv=>rhs;rw [←List.map_id s]
 apply List.map_congr_left
 intro b _
 simp
theorem Iw {l:List Int} (h:iM l):pI (B1 l)=l:=by
 unfold B1 pI
 rw [List.map_map]
 conv=>rhs;rw [←List.map_id l]
 apply List.map_congr_left
 intro b hb
 have:=h b hb
 simp only [Function.comp,UInt8.toNat_ofNat',id]
 omega
theorem iM.all {l:List Int} (h:iM l):l.all isByte=true:=by
 rw [List.all_eq_true]
 intro x hx
 have:=h x hx
 unfold isByte
 refine decide_eq_true ?_
 rw [UInt8.toNat_ofNat']
 omega
theorem tE {R:Type} {l:List Int} (h:iM l) (K:List UInt8→Option R):uk l K=K (B1 l):=by
 unfold uk
 rw [if_pos h.all];rfl
def cu (b:List Int):Option (Int×List Int):=match fB b with|some (u,r)=>some (uz u,r)|none=>none
def jX (b:List Int) (most:Nat):Option (List UInt8×List Int):=match fB b with
 |some (n,r)=>if most<n∨r.length<n then none else some (B1 (r.take n),r.drop n)
 |none=>none
theorem kv {n:Int} (h:i64 n) (r:List Int):cu (pa n++r)=some (n,r):=by
 unfold cu pa
 rw [AH (L6 h)]
 simp only [T6]
theorem cj {b:List Int} (hb:iM b) {n:Int} {r:List Int} (h:cu b=some (n,r)):b=pa n++r∧i64 n∧iM r:=by
 unfold cu at h
 cases ht:fB b with
 |none=>rw [ht] at h;cases h
 |some p=>
  obtain ⟨u,r'⟩:=p
  rw [ht] at h
  injection h with h
  injection h with h1 h2
  subst h1;subst h2
  obtain ⟨e,hu,hr⟩:=jo hb ht
  exact ⟨by unfold pa;rw [T7];exact e,Q3 hu,hr⟩
theorem AK {s:List UInt8} {most:Nat} (h:s.length≤most) (hm:most<2^64) (r:List Int):jX (qf s++r) most=some (s,r):=by
 unfold jX qf
 rw [List.append_assoc,AH (by omega)]
 simp only
 rw [if_neg (by rw [List.length_append,nG];omega),List.take_left' (nG s),List.drop_left' (nG s),Iv]
theorem oL {b:List Int} (hb:iM b) {most:Nat} {s:List UInt8} {r:List Int} (h:jX b most=some (s,r)):b=qf s++r∧s.length≤most∧iM r:=by
 unfold jX at h
 cases ht:fB b with
 |none=>rw [ht] at h;cases h
 |some p=>
  obtain ⟨n,r'⟩:=p
  rw [ht] at h
  simp only at h
  split at h
  ·cases h
  ·rename_i hc
   injection h with h
   injection h with h1 h2
   obtain ⟨e,hu,hr⟩:=jo hb ht
   have hl:s.length=n:=by rw [←h1];unfold B1;rw [List.length_map,List.length_take];omega
   refine ⟨?_,by omega,by rw [←h2];exact hr.drop _⟩
   unfold qf
   rw [hl,e,List.append_assoc,←h1,←h2,Iw (hr.take _),List.take_append_drop]
end Dn.S
