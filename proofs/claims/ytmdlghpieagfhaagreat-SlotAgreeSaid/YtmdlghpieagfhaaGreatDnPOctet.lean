import Derived.Test.YtmdlghpieagfhaaGreatDnD
import Derived.Test.YtmdlghpieagfhaaGreatDnYT
/-
  Numbers and texts as bytes. Conditions: none.
-/
set_option linter.unusedVariables false
set_option linter.unusedSimpArgs false
open Nat renaming pow_succ→cM,mul_comm→AI,zero_mul→AT,zero_add→BY,lt_of_lt_of_le→IT,pow_pos→No,add_mul_div_right→aaT,pow_le_pow_right→aaW,mul_le_mul_right→aa1,add_comm→ace,add_mul→acg
open Go.IntKind renaming wrap→sh,signed→aca,bits→acd
open List renaming length_cons→OF,cons_append→aaf,take_append_drop→aaU,map_congr_left→abK,length_append→abX,append_assoc→ab6,length_take→ab7,take_left'→ab8,drop_left'→ab9,mem_cons→acb,map_map→acf,map_id→ach
open UInt8 renaming toNat_ofNat'→ab1
open Int renaming toNat_natCast→ab5
open Option.some renaming injEq→aci
open Go Dn
namespace Dn.S
theorem OR {σ ρ:Type}{body:σ->Option (Sum σ ρ)}{s:σ}{r:ρ}(h:Loop body s=some r): ∃n,iter body n s=some r:=by
 unfold Loop at h;split at h
 ·rename_i he;obtain ⟨n,hn⟩:=Classical.choose_spec he;injection h with h;exact ⟨n,by rw [<-h];exact hn⟩
 ·cases h
theorem AH {σ ρ:Type}{body:σ->Option (Sum σ ρ)}{s:σ}{r:ρ}(h:body s=some (.inr r)):Loop body s=some r:=mY (n:=1) (by simp [iter,h])
theorem qR {σ ρ:Type}{body:σ->Option (Sum σ ρ)} {s s':σ}{r:ρ}(h:body s=some (.inl s'))(h2:Loop body s'=some r):Loop body s=some r:=by obtain ⟨n,hn⟩:=OR h2;exact mY (n:=n+1) (by simp only [iter,h];exact hn)
theorem w8 (x:Int):sh .u8 x=x%256:=by simp [sh,acd,aca]
theorem Hc (x:Int):sh .u64 x=x%18446744073709551616:=by simp [sh,acd,aca]
theorem arI (x:Int):sh .i64 x=(x+9223372036854775808)%18446744073709551616-9223372036854775808:=by rw [IntKind.wrap_i64]
def iF (n:Nat):Nat:=if n=0 then 0 else if n<256 then 1 else if n<65536 then 2 else if n<16777216 then 3 else if n<4294967296 then 4 else if n<1099511627776 then 5 else if n<281474976710656 then 6 else if n<72057594037927936 then 7 else 8
def zg:Nat->Nat->List Int
 |0,_=>[]
 |k+1,n=>((n/256^k%256:Nat):Int)::zg k n
def AJ:Nat->List Int->Nat
 |acc,[]=>acc
 |acc,c::l=>AJ (acc *256+c.toNat) l
def tD (l:List Int):Prop:= ∀x∈l,0<=x/\x<256
theorem tD.cons {c:Int}{l:List Int}(h:tD (c::l)):(0<=c/\c<256)/\tD l:=⟨h c (by simp),λx hx=>h x (by simp [hx])⟩
theorem tD.app {l m:List Int}(h:tD l)(h2:tD m):tD (l++m):=λx hx=>by
 rcases List.mem_append.1 hx with hx|hx
 ·exact h x hx
 ·exact h2 x hx
theorem tD.drop {l:List Int}(n:Nat)(h:tD l):tD (l.drop n):=λx hx=>h x (List.mem_of_mem_drop hx)
theorem tD.take {l:List Int}(n:Nat)(h:tD l):tD (l.take n):=λx hx=>h x (List.mem_of_mem_take hx)
theorem En (k n:Nat):(zg k n).length=k:=by
 induction k with
 |zero=>rfl
 |succ k ih=>simp [zg,ih]
theorem abC (k n:Nat):tD (zg k n):=by
 induction k with
 |zero=>intro x hx;simp [zg] at hx
 |succ k ih=>
  intro x hx;rcases acb.1 hx with rfl|hx
  ·omega
  ·exact ih x hx
theorem Br (n:Nat):iF n<=8:=by
 unfold iF;repeat' split
 all_goals omega
theorem Kk (m:Nat):(m=0/\iF m=0)\/(1<=m/\m<256/\iF m=1)\/(256<=m/\m<65536/\iF m=2)\/(65536<=m/\m<16777216/\iF m=3)\/(16777216<=m/\m<4294967296/\iF m=4)\/(4294967296<=m/\m<1099511627776/\iF m=5)\/(1099511627776<=m/\m<281474976710656/\iF m=6)\/(281474976710656<=m/\m<72057594037927936/\iF m=7)\/(72057594037927936<=m/\iF m=8):=by
 by_cases c0:m=0
 ·exact .inl ⟨c0,by unfold iF;rw [if_pos c0]⟩
 by_cases c1:m<256
 ·exact .inr (.inl ⟨by omega,c1,by unfold iF;rw [if_neg c0,if_pos c1]⟩)
 by_cases c2:m<65536
 ·exact .inr (.inr (.inl ⟨by omega,c2,by unfold iF;rw [if_neg c0,if_neg c1,if_pos c2]⟩))
 by_cases c3:m<16777216
 ·exact .inr (.inr (.inr (.inl ⟨by omega,c3,by unfold iF;rw [if_neg c0,if_neg c1,if_neg c2,if_pos c3]⟩)))
 by_cases c4:m<4294967296
 ·exact .inr (.inr (.inr (.inr (.inl ⟨by omega,c4,by unfold iF;rw [if_neg c0,if_neg c1,if_neg c2,if_neg c3,if_pos c4]⟩))))
 by_cases c5:m<1099511627776
 ·exact .inr (.inr (.inr (.inr (.inr (.inl ⟨by omega,c5,by unfold iF;rw [if_neg c0,if_neg c1,if_neg c2,if_neg c3,if_neg c4,if_pos c5]⟩)))))
 by_cases c6:m<281474976710656
 ·exact .inr (.inr (.inr (.inr (.inr (.inr (.inl ⟨by omega,c6,by unfold iF;rw [if_neg c0,if_neg c1,if_neg c2,if_neg c3,if_neg c4,if_neg c5,if_pos c6]⟩))))))
 by_cases c7:m<72057594037927936
 ·exact .inr (.inr (.inr (.inr (.inr (.inr (.inr (.inl ⟨by omega,c7,by unfold iF;rw [if_neg c0,if_neg c1,if_neg c2,if_neg c3,if_neg c4,if_neg c5,if_neg c6,if_pos c7]⟩)))))))
 exact .inr (.inr (.inr (.inr (.inr (.inr (.inr (.inr (⟨by omega,by unfold iF;rw [if_neg c0,if_neg c1,if_neg c2,if_neg c3,if_neg c4,if_neg c5,if_neg c6,if_neg c7]⟩))))))))
theorem oX {n:Nat}(h:0<n)(hb:n<2^64):iF n=iF (n/256)+1:=by rcases Kk n with a|a|a|a|a|a|a|a|a<;>rcases Kk (n/256) with b|b|b|b|b|b|b|b|b<;>omega
theorem Xn {n:Nat}(h:iF n=0):n=0:=by
 unfold iF at h;repeat' split at h
 all_goals first|assumption|omega
theorem abD: ∀(k n:Nat),n<2^64->iF n=k->n<256^k/\(0<k->256^(k-1)<=n):=by
 intro k;induction k with
 |zero=>intro n hn h;have:=Xn h;subst this;simp
 |succ k ih=>
  intro n hn h;have h0:0<n:=by refine Nat.pos_of_ne_zero λh0=> ?_;subst h0;simp [iF] at h
  have hs:=oX h0 hn;obtain ⟨h1,h2⟩:=ih (n/256) (by omega) (by omega);refine ⟨?_,λ_=> ?_⟩
  ·rw [cM];omega
  ·by_cases hk:k=0
   ·subst hk;simp;omega
   ·have:=h2 (by omega);rw [show k+1-1=(k-1)+1 by omega,cM];omega
theorem aew: ∀(k n:Nat),k<=8->n<256^k->(0<k->256^(k-1)<=n)->iF n=k:=by
 intro k;induction k with
 |zero=>intro n _ h _;simp at h;subst h;rfl
 |succ k ih=>
  intro n hk h1 h2;have h2:=h2 (by omega);have hp:0<n:=IT (No (by decide)) h2;have hb:n<2^64:=by refine IT h1 ?_;have:=aaW (n:=256) (by decide) hk;simpa using this
  rw [oX hp hb,ih (n/256) (by omega) (by rw [cM] at h1;omega) (λhk0=> ?_)];rw [show k+1-1=(k-1)+1 by omega,cM] at h2;omega
theorem Xo: ∀(k acc n:Nat),AJ acc (zg k n)=acc *256^k+n%256^k:=by
 intro k;induction k with
 |zero=>intro acc n;simp [zg,AJ,Nat.mod_one]
 |succ k ih=>intro acc n;simp only [zg,AJ,ab5];rw [ih,cM,Nat.mod_mul,acg,Nat.mul_assoc,AI 256,AI (n/256^k%256)];omega
theorem CT: ∀(l:List Int) (acc:Nat),AJ acc l=acc *256^l.length+AJ 0 l:=by
 intro l;induction l with
 |nil=>intro acc;simp [AJ]
 |cons c l ih=>intro acc;simp only [AJ,OF];rw [ih (acc *256+c.toNat),ih (0 *256+c.toNat),cM,AT,BY,acg,Nat.mul_assoc,AI 256];omega
theorem Vm: ∀(l:List Int),tD l->AJ 0 l<256^l.length:=by
 intro l;induction l with
 |nil=>intro _;simp [AJ]
 |cons c l ih=>
  intro h;obtain ⟨hc,hl⟩:=h.cons;have ih:=ih hl;simp only [AJ,OF];rw [CT,AT,BY,cM];have h1:c.toNat<=255:=by omega
  have h2:=aa1 (256^l.length) h1;omega
theorem abE: ∀(k a n:Nat),zg k (a *256^k+n)=zg k n:=by
 intro k;induction k with
 |zero=>intro a n;rfl
 |succ k ih=>
  intro a n;simp only [zg];have e:a *256^(k+1)+n=a *256 *256^k+n:=by rw [cM,Nat.mul_assoc,AI 256]
  rw [e,ih (a *256) n,ace (a *256 *256^k),aaT _ _ (No (by decide))];congr 2;omega
theorem abF: ∀(l:List Int),tD l->zg l.length (AJ 0 l)=l:=by
 intro l;induction l with
 |nil=>intro _;rfl
 |cons c l ih=>intro h;obtain ⟨hc,hl⟩:=h.cons;have cT:=Vm l hl;simp only [AJ,OF,zg];rw [CT,AT,BY,abE,ih hl];congr 1;rw [ace,aaT _ _ (No (by decide)),Nat.div_eq_of_lt cT];omega
def Lx (n:Nat):List Int:=(iF n:Int)::zg (iF n) n
theorem Rq (n:Nat):tD (Lx n):=by
 intro x hx;rcases acb.1 hx with rfl|hx
 ·have:=Br n;omega
 ·exact abC _ _ x hx
theorem Kl (n:Nat):(Lx n).length=iF n+1:=by simp [Lx,En]
def qe (b:List Int):Option (Nat×List Int):=match b with
 |[]=>none
 |y::r=>if 8<y.toNat\/(0<y.toNat/\r[0]? =some 0)\/r.length<y.toNat then none else some (AJ 0 (r.take y.toNat),r.drop y.toNat)
theorem MX {n:Nat}(hn:n<2^64)(r:List Int):qe (Lx n++r)=some (n,r):=by
 have hk:=Br n;obtain ⟨h1,h2⟩:=abD _ n hn rfl;unfold qe Lx;simp only [aaf,ab5];rw [if_neg]
 ·rw [ab8 (En _ _),ab9 (En _ _),Xo,AT,BY,Nat.mod_eq_of_lt h1]
 ·rintro (h|⟨h,h3⟩|h)
  ·omega
  ·have h2:=h2 h;obtain ⟨k,Pb⟩: ∃k,iF n=k+1:=⟨iF n-1,by omega⟩
   rw [Pb] at h1 h2 h3;simp only [zg,aaf,List.getElem?_cons_zero,aci,Nat.add_sub_cancel] at h3 h2;rw [cM] at h1;have hd:n/256^k<256:=by rw [Nat.div_lt_iff_lt_mul (No (by decide))];rw [AI];exact h1
   have hd2:1<=n/256^k:=by rw [Nat.le_div_iff_mul_le (No (by decide))];omega
   omega
  ·rw [abX,En] at h;omega
theorem yz {b:List Int}(hb:tD b){n:Nat}{r:List Int}(h:qe b=some (n,r)):b=Lx n++r/\n<2^64/\tD r:=by
 unfold qe at h;cases b with
 |nil=>cases h
 |cons y l=>
  simp only at h;obtain ⟨hy,hl⟩:=hb.cons;split at h
  ·cases h
  ·rename_i hc;injection h with h;injection h with h1 h2;have hlen:(l.take y.toNat).length=y.toNat:=by rw [ab7];omega
   have cT:=Vm _ (hl.take y.toNat);rw [hlen] at cT;have hk:iF n=y.toNat:=by
    refine aew _ _ (by omega) (by rw [<-h1];exact cT) (λh0=> ?_);rw [<-h1];cases l with
    |nil=>simp only [List.length_nil] at hc;omega
    |cons c l=>
     have hc0:c≠0:=λh=>hc (.inr (.inl ⟨h0,by rw [h];rfl⟩));obtain ⟨k,hk⟩: ∃k,y.toNat=k+1:=⟨y.toNat-1,by omega⟩
     rw [hk] at hlen;rw [hk,Nat.add_sub_cancel,List.take_succ_cons,AJ,CT];have hll:(l.take k).length=k:=by simpa using hlen
     rw [hll,AT,BY];have:=aa1 (256^k) (show 1<=c.toNat by have:=hl.cons.1;omega);omega
   refine ⟨?_,?_,?_⟩
   ·unfold Lx;rw [hk,aaf,<-h1,<-h2];have:=abF _ (hl.take y.toNat);rw [hlen] at this;rw [this,aaU];congr 1;omega
   ·rw [<-h1];refine IT cT ?_;have:=aaW (n:=256) (by decide) (show y.toNat<=8 by omega);simpa using this
   ·rw [<-h2];exact hl.drop _
def zz (n:Int):Nat:=if n<0 then (2 *(-(n+1))+1).toNat else (2 *n).toNat
def uz (u:Nat):Int:=if u%2=1 then-((u/2:Nat):Int)-1 else ((u/2:Nat):Int)
def i64 (n:Int):Prop:= -9223372036854775808<=n/\n<=9223372036854775807
theorem af3 {n:Int}(h:i64 n):zz n<2^64:=by unfold zz;unfold i64 at h;split<;>omega
theorem am1 {n:Int}:uz (zz n)=n:=by unfold zz uz;split<;>split<;>omega
theorem am2 {u:Nat}:zz (uz u)=u:=by unfold zz uz;split<;>split<;>omega
theorem aix {u:Nat}(h:u<2^64):i64 (uz u):=by unfold uz i64;split<;>omega
def BI (n:Int):List Int:=Lx (zz n)
def Cb (s:List UInt8):List Int:=Lx s.length++DB s
theorem abG (s:List UInt8):tD (DB s):=by intro x hx;unfold DB at hx;obtain ⟨b,_,rfl⟩:=List.mem_map.1 hx;have:=UInt8.toNat_lt b;omega
theorem AK (s:List UInt8):(DB s).length=s.length:=by simp [DB]
theorem xj (n:Int):tD (BI n):=Rq _
theorem MY (s:List UInt8):tD (Cb s):=(Rq _).app (abG s)
def OS (l:List Int):List UInt8:=l.map λn=>UInt8.ofNat n.toNat
theorem Xp (s:List UInt8):OS (DB s)=s:=by
 unfold OS DB;rw [acf];conv=>rhs;rw [<-ach s]
 apply abK;intro b _;simp
theorem Xq {l:List Int}(h:tD l):DB (OS l)=l:=by
 unfold OS DB;rw [acf];conv=>rhs;rw [<-ach l]
 apply abK;intro b hb;have:=h b hb;simp only [Function.comp,ab1,id];omega
theorem tD.all {l:List Int}(h:tD l):l.all isByte=true:=by rw [List.all_eq_true];intro x hx;have:=h x hx;unfold isByte;refine decide_eq_true ?_;rw [ab1];omega
theorem abH {R:Type}{l:List Int}(h:tD l)(K:List UInt8->Option R):Qv l K=K (OS l):=by unfold Qv;rw [if_pos h.all];rfl
def ln (b:List Int):Option (Int×List Int):=match qe b with|some (u,r)=>some (uz u,r)|none=>none
def vM (b:List Int)(most:Nat):Option (List UInt8×List Int):=match qe b with
 |some (n,r)=>if most<n\/r.length<n then none else some (OS (r.take n),r.drop n)
 |none=>none
theorem tE {n:Int}(h:i64 n)(r:List Int):ln (BI n++r)=some (n,r):=by unfold ln BI;rw [MX (af3 h)];simp only [am1]
theorem kW {b:List Int}(hb:tD b){n:Int}{r:List Int}(h:ln b=some (n,r)):b=BI n++r/\i64 n/\tD r:=by
 unfold ln at h;cases ht:qe b with
 |none=>rw [ht] at h;cases h
 |some p=>obtain ⟨u,r'⟩:=p;rw [ht] at h;injection h with h;injection h with h1 h2;subst h1;subst h2;obtain ⟨e,hu,hr⟩:=yz hb ht;exact ⟨by unfold BI;rw [am2];exact e,aix hu,hr⟩
theorem MZ {s:List UInt8}{most:Nat}(h:s.length<=most)(hm:most<2^64)(r:List Int):vM (Cb s++r) most=some (s,r):=by unfold vM Cb;rw [ab6,MX (by omega)];simp only;rw [if_neg (by rw [abX,AK];omega),ab8 (AK s),ab9 (AK s),Xp]
theorem Km {b:List Int}(hb:tD b){most:Nat}{s:List UInt8}{r:List Int}(h:vM b most=some (s,r)):b=Cb s++r/\s.length<=most/\tD r:=by
 unfold vM at h;cases ht:qe b with
 |none=>rw [ht] at h;cases h
 |some p=>
  obtain ⟨n,r'⟩:=p;rw [ht] at h;simp only at h;split at h
  ·cases h
  ·rename_i hc;injection h with h;injection h with h1 h2;obtain ⟨e,hu,hr⟩:=yz hb ht;have hl:s.length=n:=by rw [<-h1];unfold OS;rw [List.length_map,ab7];omega
   refine ⟨?_,by omega,by rw [<-h2];exact hr.drop _⟩;unfold Cb;rw [hl,e,ab6,<-h1,<-h2,Xq (hr.take _),aaU]
end Dn.S
