import Derived.Test.YtmdlghpieagfhaaGreatDnC
import Derived.Test.YtmdlghpieagfhaaGreatDnYT
/-
  Numbers and texts as bytes. Conditions: none.
-/
set_option linter.unusedVariables false
set_option linter.unusedSimpArgs false
open Nat renaming pow_succ→eJ,mul_comm→AI,zero_mul→AT,zero_add→BY,lt_of_lt_of_le→IN,pow_pos→IS,add_mul_div_right→OF,pow_le_pow_right→aah,mul_le_mul_right→aai,add_comm→aa7,add_mul→aa9
open Go.IntKind renaming wrap→sh,signed→aaZ,bits→aa6
open List renaming length_cons→IT,cons_append→No,take_append_drop→aaa,map_congr_left→aas,length_append→aaD,append_assoc→aaR,length_take→aaS,take_left'→aaT,drop_left'→aaX,mem_cons→aa1,map_map→aa8,map_id→aba
open UInt8 renaming toNat_ofNat'→aaL
open Int renaming toNat_natCast→aaN
open Option.some renaming injEq→abb
open Go Dn
namespace Dn.S
theorem NY {σ ρ:Type}{body:σ->Option (Sum σ ρ)}{s:σ}{r:ρ}(h:Loop body s=some r): ∃n,iter body n s=some r:=by
 unfold Loop at h;split at h
 ·rename_i he;obtain ⟨n,hn⟩:=Classical.choose_spec he;injection h with h;exact ⟨n,by rw [<-h];exact hn⟩
 ·cases h
theorem np {σ ρ:Type}{body:σ->Option (Sum σ ρ)}{s:σ}{r:ρ}(h:body s=some (.inr r)):Loop body s=some r:=kY (n:=1) (by simp [iter,h])
theorem jz {σ ρ:Type}{body:σ->Option (Sum σ ρ)} {s s':σ}{r:ρ}(h:body s=some (.inl s'))(h2:Loop body s'=some r):Loop body s=some r:=by obtain ⟨n,hn⟩:=NY h2;exact kY (n:=n+1) (by simp only [iter,h];exact hn)
theorem w8 (x:Int):sh .u8 x=x%256:=by simp [sh,aa6,aaZ]
theorem tj (x:Int):sh .u64 x=x%18446744073709551616:=by simp [sh,aa6,aaZ]
theorem aok (x:Int):sh .i64 x=(x+9223372036854775808)%18446744073709551616-9223372036854775808:=by rw [IntKind.wrap_i64]
def fO (n:Nat):Nat:=if n=0 then 0 else if n<256 then 1 else if n<65536 then 2 else if n<16777216 then 3 else if n<4294967296 then 4 else if n<1099511627776 then 5 else if n<281474976710656 then 6 else if n<72057594037927936 then 7 else 8
def wF:Nat->Nat->List Int
 |0,_=>[]
 |k+1,n=>((n/256^k%256:Nat):Int)::wF k n
def yJ:Nat->List Int->Nat
 |acc,[]=>acc
 |acc,c::l=>yJ (acc *256+c.toNat) l
def qO (l:List Int):Prop:= ∀x∈l,0<=x/\x<256
theorem qO.cons {c:Int}{l:List Int}(h:qO (c::l)):(0<=c/\c<256)/\qO l:=⟨h c (by simp),λx hx=>h x (by simp [hx])⟩
theorem qO.app {l m:List Int}(h:qO l)(h2:qO m):qO (l++m):=λx hx=>by
 rcases List.mem_append.1 hx with hx|hx
 ·exact h x hx
 ·exact h2 x hx
theorem qO.drop {l:List Int}(n:Nat)(h:qO l):qO (l.drop n):=λx hx=>h x (List.mem_of_mem_drop hx)
theorem qO.take {l:List Int}(n:Nat)(h:qO l):qO (l.take n):=λx hx=>h x (List.mem_of_mem_take hx)
theorem EF (k n:Nat):(wF k n).length=k:=by
 induction k with
 |zero=>rfl
 |succ k ih=>simp [wF,ih]
theorem Zf (k n:Nat):qO (wF k n):=by
 induction k with
 |zero=>intro x hx;simp [wF] at hx
 |succ k ih=>
  intro x hx;rcases aa1.1 hx with rfl|hx
  ·omega
  ·exact ih x hx
theorem rO (n:Nat):fO n<=8:=by
 unfold fO;repeat' split
 all_goals omega
theorem JV (m:Nat):(m=0/\fO m=0)\/(1<=m/\m<256/\fO m=1)\/(256<=m/\m<65536/\fO m=2)\/(65536<=m/\m<16777216/\fO m=3)\/(16777216<=m/\m<4294967296/\fO m=4)\/(4294967296<=m/\m<1099511627776/\fO m=5)\/(1099511627776<=m/\m<281474976710656/\fO m=6)\/(281474976710656<=m/\m<72057594037927936/\fO m=7)\/(72057594037927936<=m/\fO m=8):=by
 by_cases c0:m=0
 ·exact .inl ⟨c0,by unfold fO;rw [if_pos c0]⟩
 by_cases c1:m<256
 ·exact .inr (.inl ⟨by omega,c1,by unfold fO;rw [if_neg c0,if_pos c1]⟩)
 by_cases c2:m<65536
 ·exact .inr (.inr (.inl ⟨by omega,c2,by unfold fO;rw [if_neg c0,if_neg c1,if_pos c2]⟩))
 by_cases c3:m<16777216
 ·exact .inr (.inr (.inr (.inl ⟨by omega,c3,by unfold fO;rw [if_neg c0,if_neg c1,if_neg c2,if_pos c3]⟩)))
 by_cases c4:m<4294967296
 ·exact .inr (.inr (.inr (.inr (.inl ⟨by omega,c4,by unfold fO;rw [if_neg c0,if_neg c1,if_neg c2,if_neg c3,if_pos c4]⟩))))
 by_cases c5:m<1099511627776
 ·exact .inr (.inr (.inr (.inr (.inr (.inl ⟨by omega,c5,by unfold fO;rw [if_neg c0,if_neg c1,if_neg c2,if_neg c3,if_neg c4,if_pos c5]⟩)))))
 by_cases c6:m<281474976710656
 ·exact .inr (.inr (.inr (.inr (.inr (.inr (.inl ⟨by omega,c6,by unfold fO;rw [if_neg c0,if_neg c1,if_neg c2,if_neg c3,if_neg c4,if_neg c5,if_pos c6]⟩))))))
 by_cases c7:m<72057594037927936
 ·exact .inr (.inr (.inr (.inr (.inr (.inr (.inr (.inl ⟨by omega,c7,by unfold fO;rw [if_neg c0,if_neg c1,if_neg c2,if_neg c3,if_neg c4,if_neg c5,if_neg c6,if_pos c7]⟩)))))))
 exact .inr (.inr (.inr (.inr (.inr (.inr (.inr (.inr (⟨by omega,by unfold fO;rw [if_neg c0,if_neg c1,if_neg c2,if_neg c3,if_neg c4,if_neg c5,if_neg c6,if_neg c7]⟩))))))))
theorem nO {n:Nat}(h:0<n)(hb:n<2^64):fO n=fO (n/256)+1:=by rcases JV n with a|a|a|a|a|a|a|a|a<;>rcases JV (n/256) with b|b|b|b|b|b|b|b|b<;>omega
theorem Mk {n:Nat}(h:fO n=0):n=0:=by
 unfold fO at h;repeat' split at h
 all_goals first|assumption|omega
theorem Zg: ∀(k n:Nat),n<2^64->fO n=k->n<256^k/\(0<k->256^(k-1)<=n):=by
 intro k;induction k with
 |zero=>intro n hn h;have:=Mk h;subst this;simp
 |succ k ih=>
  intro n hn h;have h0:0<n:=by refine Nat.pos_of_ne_zero λh0=> ?_;subst h0;simp [fO] at h
  have hs:=nO h0 hn;obtain ⟨h1,h2⟩:=ih (n/256) (by omega) (by omega);refine ⟨?_,λ_=> ?_⟩
  ·rw [eJ];omega
  ·by_cases hk:k=0
   ·subst hk;simp;omega
   ·have:=h2 (by omega);rw [show k+1-1=(k-1)+1 by omega,eJ];omega
theorem abF: ∀(k n:Nat),k<=8->n<256^k->(0<k->256^(k-1)<=n)->fO n=k:=by
 intro k;induction k with
 |zero=>intro n _ h _;simp at h;subst h;rfl
 |succ k ih=>
  intro n hk h1 h2;have h2:=h2 (by omega);have hp:0<n:=IN (IS (by decide)) h2;have hb:n<2^64:=by refine IN h1 ?_;have:=aah (n:=256) (by decide) hk;simpa using this
  rw [nO hp hb,ih (n/256) (by omega) (by rw [eJ] at h1;omega) (λhk0=> ?_)];rw [show k+1-1=(k-1)+1 by omega,eJ] at h2;omega
theorem Vm: ∀(k acc n:Nat),yJ acc (wF k n)=acc *256^k+n%256^k:=by
 intro k;induction k with
 |zero=>intro acc n;simp [wF,yJ,Nat.mod_one]
 |succ k ih=>intro acc n;simp only [wF,yJ,aaN];rw [ih,eJ,Nat.mod_mul,aa9,Nat.mul_assoc,AI 256,AI (n/256^k%256)];omega
theorem C5: ∀(l:List Int) (acc:Nat),yJ acc l=acc *256^l.length+yJ 0 l:=by
 intro l;induction l with
 |nil=>intro acc;simp [yJ]
 |cons c l ih=>intro acc;simp only [yJ,IT];rw [ih (acc *256+c.toNat),ih (0 *256+c.toNat),eJ,AT,BY,aa9,Nat.mul_assoc,AI 256];omega
theorem TU: ∀(l:List Int),qO l->yJ 0 l<256^l.length:=by
 intro l;induction l with
 |nil=>intro _;simp [yJ]
 |cons c l ih=>
  intro h;obtain ⟨hc,hl⟩:=h.cons;have ih:=ih hl;simp only [yJ,IT];rw [C5,AT,BY,eJ];have h1:c.toNat<=255:=by omega
  have h2:=aai (256^l.length) h1;omega
theorem Zh: ∀(k a n:Nat),wF k (a *256^k+n)=wF k n:=by
 intro k;induction k with
 |zero=>intro a n;rfl
 |succ k ih=>
  intro a n;simp only [wF];have e:a *256^(k+1)+n=a *256 *256^k+n:=by rw [eJ,Nat.mul_assoc,AI 256]
  rw [e,ih (a *256) n,aa7 (a *256 *256^k),OF _ _ (IS (by decide))];congr 2;omega
theorem Zj: ∀(l:List Int),qO l->wF l.length (yJ 0 l)=l:=by
 intro l;induction l with
 |nil=>intro _;rfl
 |cons c l ih=>intro h;obtain ⟨hc,hl⟩:=h.cons;have dO:=TU l hl;simp only [yJ,IT,wF];rw [C5,AT,BY,Zh,ih hl];congr 1;rw [aa7,OF _ _ (IS (by decide)),Nat.div_eq_of_lt dO];omega
def JW (n:Nat):List Int:=(fO n:Int)::wF (fO n) n
theorem Ql (n:Nat):qO (JW n):=by
 intro x hx;rcases aa1.1 hx with rfl|hx
 ·have:=rO n;omega
 ·exact Zf _ _ x hx
theorem EG (n:Nat):(JW n).length=fO n+1:=by simp [JW,EF]
def nq (b:List Int):Option (Nat×List Int):=match b with
 |[]=>none
 |y::r=>if 8<y.toNat\/(0<y.toNat/\r[0]? =some 0)\/r.length<y.toNat then none else some (yJ 0 (r.take y.toNat),r.drop y.toNat)
theorem Ml {n:Nat}(hn:n<2^64)(r:List Int):nq (JW n++r)=some (n,r):=by
 have hk:=rO n;obtain ⟨h1,h2⟩:=Zg _ n hn rfl;unfold nq JW;simp only [No,aaN];rw [if_neg]
 ·rw [aaT (EF _ _),aaX (EF _ _),Vm,AT,BY,Nat.mod_eq_of_lt h1]
 ·rintro (h|⟨h,h3⟩|h)
  ·omega
  ·have h2:=h2 h;obtain ⟨k,On⟩: ∃k,fO n=k+1:=⟨fO n-1,by omega⟩
   rw [On] at h1 h2 h3;simp only [wF,No,List.getElem?_cons_zero,abb,Nat.add_sub_cancel] at h3 h2;rw [eJ] at h1;have hd:n/256^k<256:=by rw [Nat.div_lt_iff_lt_mul (IS (by decide))];rw [AI];exact h1
   have hd2:1<=n/256^k:=by rw [Nat.le_div_iff_mul_le (IS (by decide))];omega
   omega
  ·rw [aaD,EF] at h;omega
theorem rl {b:List Int}(hb:qO b){n:Nat}{r:List Int}(h:nq b=some (n,r)):b=JW n++r/\n<2^64/\qO r:=by
 unfold nq at h;cases b with
 |nil=>cases h
 |cons y l=>
  simp only at h;obtain ⟨hy,hl⟩:=hb.cons;split at h
  ·cases h
  ·rename_i hc;injection h with h;injection h with h1 h2;have hlen:(l.take y.toNat).length=y.toNat:=by rw [aaS];omega
   have dO:=TU _ (hl.take y.toNat);rw [hlen] at dO;have hk:fO n=y.toNat:=by
    refine abF _ _ (by omega) (by rw [<-h1];exact dO) (λh0=> ?_);rw [<-h1];cases l with
    |nil=>simp only [List.length_nil] at hc;omega
    |cons c l=>
     have hc0:c≠0:=λh=>hc (.inr (.inl ⟨h0,by rw [h];rfl⟩));obtain ⟨k,hk⟩: ∃k,y.toNat=k+1:=⟨y.toNat-1,by omega⟩
     rw [hk] at hlen;rw [hk,Nat.add_sub_cancel,List.take_succ_cons,yJ,C5];have hll:(l.take k).length=k:=by simpa using hlen
     rw [hll,AT,BY];have:=aai (256^k) (show 1<=c.toNat by have:=hl.cons.1;omega);omega
   refine ⟨?_,?_,?_⟩
   ·unfold JW;rw [hk,No,<-h1,<-h2];have:=Zj _ (hl.take y.toNat);rw [hlen] at this;rw [this,aaa];congr 1;omega
   ·rw [<-h1];refine IN dO ?_;have:=aah (n:=256) (by decide) (show y.toNat<=8 by omega);simpa using this
   ·rw [<-h2];exact hl.drop _
def zz (n:Int):Nat:=if n<0 then (2 *(-(n+1))+1).toNat else (2 *n).toNat
def uz (u:Nat):Int:=if u%2=1 then-((u/2:Nat):Int)-1 else ((u/2:Nat):Int)
def i64 (n:Int):Prop:= -9223372036854775808<=n/\n<=9223372036854775807
theorem Zk {n:Int}(h:i64 n):zz n<2^64:=by unfold zz;unfold i64 at h;split<;>omega
theorem aju {n:Int}:uz (zz n)=n:=by unfold zz uz;split<;>split<;>omega
theorem ajv {u:Nat}:zz (uz u)=u:=by unfold zz uz;split<;>split<;>omega
theorem afw {u:Nat}(h:u<2^64):i64 (uz u):=by unfold uz i64;split<;>omega
def zt (n:Int):List Int:=JW (zz n)
def AA (s:List UInt8):List Int:=JW s.length++Bu s
theorem Zl (s:List UInt8):qO (Bu s):=by intro x hx;unfold Bu at hx;obtain ⟨b,_,rfl⟩:=List.mem_map.1 hx;have:=UInt8.toNat_lt b;omega
theorem xB (s:List UInt8):(Bu s).length=s.length:=by simp [Bu]
theorem xC (n:Int):qO (zt n):=Ql _
theorem Mm (s:List UInt8):qO (AA s):=(Ql _).app (Zl s)
def NZ (l:List Int):List UInt8:=l.map λn=>UInt8.ofNat n.toNat
theorem Vn (s:List UInt8):NZ (Bu s)=s:=by
 unfold NZ Bu;rw [aa8];conv=>rhs;rw [<-aba s]
 apply aas;intro b _;simp
theorem Vo {l:List Int}(h:qO l):Bu (NZ l)=l:=by
 unfold NZ Bu;rw [aa8];conv=>rhs;rw [<-aba l]
 apply aas;intro b hb;have:=h b hb;simp only [Function.comp,aaL,id];omega
theorem qO.all {l:List Int}(h:qO l):l.all isByte=true:=by rw [List.all_eq_true];intro x hx;have:=h x hx;unfold isByte;refine decide_eq_true ?_;rw [aaL];omega
theorem Zm {R:Type}{l:List Int}(h:qO l)(K:List UInt8->Option R):NB l K=K (NZ l):=by unfold NB;rw [if_pos h.all];rfl
def fS (b:List Int):Option (Int×List Int):=match nq b with|some (u,r)=>some (uz u,r)|none=>none
def uK (b:List Int)(most:Nat):Option (List UInt8×List Int):=match nq b with
 |some (n,r)=>if most<n\/r.length<n then none else some (NZ (r.take n),r.drop n)
 |none=>none
theorem tH {n:Int}(h:i64 n)(r:List Int):fS (zt n++r)=some (n,r):=by unfold fS zt;rw [Ml (Zk h)];simp only [aju]
theorem iA {b:List Int}(hb:qO b){n:Int}{r:List Int}(h:fS b=some (n,r)):b=zt n++r/\i64 n/\qO r:=by
 unfold fS at h;cases ht:nq b with
 |none=>rw [ht] at h;cases h
 |some p=>obtain ⟨u,r'⟩:=p;rw [ht] at h;injection h with h;injection h with h1 h2;subst h1;subst h2;obtain ⟨e,hu,hr⟩:=rl hb ht;exact ⟨by unfold zt;rw [ajv];exact e,afw hu,hr⟩
theorem Mn {s:List UInt8}{most:Nat}(h:s.length<=most)(hm:most<2^64)(r:List Int):uK (AA s++r) most=some (s,r):=by unfold uK AA;rw [aaR,Ml (by omega)];simp only;rw [if_neg (by rw [aaD,xB];omega),aaT (xB s),aaX (xB s),Vn]
theorem C6 {b:List Int}(hb:qO b){most:Nat}{s:List UInt8}{r:List Int}(h:uK b most=some (s,r)):b=AA s++r/\s.length<=most/\qO r:=by
 unfold uK at h;cases ht:nq b with
 |none=>rw [ht] at h;cases h
 |some p=>
  obtain ⟨n,r'⟩:=p;rw [ht] at h;simp only at h;split at h
  ·cases h
  ·rename_i hc;injection h with h;injection h with h1 h2;obtain ⟨e,hu,hr⟩:=rl hb ht;have hl:s.length=n:=by rw [<-h1];unfold NZ;rw [List.length_map,aaS];omega
   refine ⟨?_,by omega,by rw [<-h2];exact hr.drop _⟩;unfold AA;rw [hl,e,aaR,<-h1,<-h2,Vo (hr.take _),aaa]
end Dn.S
