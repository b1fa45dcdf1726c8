import Derived.Test.YtbkodohojpchjaaGreatDoorDnD
import Derived.Test.YtbkodohojpchjaaGreatDoorDnYT
/-
  Numbers and texts as bytes. Conditions: none.
-/
set_option linter.unusedVariables false
set_option linter.unusedSimpArgs false
open Go.IntKind renaming wrap→aQ,signed→aac,bits→aae
open Nat renaming pow_succ→sh,lt_of_lt_of_le→AI,zero_mul→AT,zero_add→By,add_mul_div_right→BY,pow_le_pow_right→IT,mul_le_mul_right→No,mul_comm→aaf,add_comm→aag
open List renaming length_cons→AS,take_append_drop→IN,map_congr_left→OF,length_take→aab,mem_cons→aad,map_map→aah
open UInt8 renaming toNat_ofNat'→aaa
open Go Dn
namespace Dn.S
theorem Hp {σ ρ:Type}{body:σ->Option (Sum σ ρ)}{s:σ}{r:ρ}(h:Loop body s=some r): ∃n,iter body n s=some r:=by
 unfold Loop lm at h;split at h
 ·rename_i r' hr;exact ⟨0,by rw [hr];exact h⟩
 ·split at h
  ·rename_i he;obtain ⟨n,hn⟩:=Classical.choose_spec he;injection h with h;exact ⟨n,by rw [<-h];exact hn⟩
  ·cases h
theorem cW {σ ρ:Type}{body:σ->Option (Sum σ ρ)}{s:σ}{r:ρ}(h:body s=some (.inr r)):Loop body s=some r:=ct (n:=1) (by simp [iter,h])
theorem eQ {σ ρ:Type}{body:σ->Option (Sum σ ρ)} {s s':σ}{r:ρ}(h:body s=some (.inl s'))(h2:Loop body s'=some r):Loop body s=some r:=by obtain ⟨n,hn⟩:=Hp h2;exact ct (n:=n+1) (by simp only [iter,h];exact hn)
theorem w8 (x:Int):aQ .u8 x=x%256:=by simp [aQ,aae,aac]
theorem kw (x:Int):aQ .u64 x=x%18446744073709551616:=by simp [aQ,aae,aac]
theorem agU (x:Int):aQ .i64 x=(x+9223372036854775808)%18446744073709551616-9223372036854775808:=by rw [IntKind.wrap_i64]
def cZ (n:Nat):Nat:=if n=0 then 0 else if n<256 then 1 else if n<65536 then 2 else if n<16777216 then 3 else if n<4294967296 then 4 else if n<1099511627776 then 5 else if n<281474976710656 then 6 else if n<72057594037927936 then 7 else 8
def ta:Nat->Nat->List Int
 |0,_=>[]
 |k+1,n=>((n/256^k%256:Nat):Int)::ta k n
def uA:Nat->List Int->Nat
 |acc,[]=>acc
 |acc,c::l=>uA (acc *256+c.toNat) l
def ju (l:List Int):Prop:= ∀x∈l,0<=x/\x<256
theorem ju.cons {c:Int}{l:List Int}(h:ju (c::l)):(0<=c/\c<256)/\ju l:=⟨h c (by simp),λx hx=>h x (by simp [hx])⟩
theorem ju.app {l m:List Int}(h:ju l)(h2:ju m):ju (l++m):=λx hx=>by
 rcases List.mem_append.1 hx with hx|hx
 ·exact h x hx
 ·exact h2 x hx
theorem ju.drop {l:List Int}(n:Nat)(h:ju l):ju (l.drop n):=λx hx=>h x (List.mem_of_mem_drop hx)
theorem ju.take {l:List Int}(n:Nat)(h:ju l):ju (l.take n):=λx hx=>h x (List.mem_of_mem_take hx)
theorem SE (k n:Nat):(ta k n).length=k:=by
 induction k with
 |zero=>rfl
 |succ k ih=>simp [ta,ih]
theorem SF (k n:Nat):ju (ta k n):=by
 induction k with
 |zero=>intro x hx;simp [ta] at hx
 |succ k ih=>
  intro x hx;rcases aad.1 hx with rfl|hx
  ·omega
  ·exact ih x hx
theorem jQ (n:Nat):cZ n<=8:=by
 unfold cZ;repeat' split
 all_goals omega
theorem C6 (m:Nat):(m=0/\cZ m=0)\/(1<=m/\m<256/\cZ m=1)\/(256<=m/\m<65536/\cZ m=2)\/(65536<=m/\m<16777216/\cZ m=3)\/(16777216<=m/\m<4294967296/\cZ m=4)\/(4294967296<=m/\m<1099511627776/\cZ m=5)\/(1099511627776<=m/\m<281474976710656/\cZ m=6)\/(281474976710656<=m/\m<72057594037927936/\cZ m=7)\/(72057594037927936<=m/\cZ m=8):=by
 by_cases c0:m=0
 ·exact .inl ⟨c0,by unfold cZ;rw [if_pos c0]⟩
 by_cases c1:m<256
 ·exact .inr (.inl ⟨by omega,c1,by unfold cZ;rw [if_neg c0,if_pos c1]⟩)
 by_cases c2:m<65536
 ·exact .inr (.inr (.inl ⟨by omega,c2,by unfold cZ;rw [if_neg c0,if_neg c1,if_pos c2]⟩))
 by_cases c3:m<16777216
 ·exact .inr (.inr (.inr (.inl ⟨by omega,c3,by unfold cZ;rw [if_neg c0,if_neg c1,if_neg c2,if_pos c3]⟩)))
 by_cases c4:m<4294967296
 ·exact .inr (.inr (.inr (.inr (.inl ⟨by omega,c4,by unfold cZ;rw [if_neg c0,if_neg c1,if_neg c2,if_neg c3,if_pos c4]⟩))))
 by_cases c5:m<1099511627776
 ·exact .inr (.inr (.inr (.inr (.inr (.inl ⟨by omega,c5,by unfold cZ;rw [if_neg c0,if_neg c1,if_neg c2,if_neg c3,if_neg c4,if_pos c5]⟩)))))
 by_cases c6:m<281474976710656
 ·exact .inr (.inr (.inr (.inr (.inr (.inr (.inl ⟨by omega,c6,by unfold cZ;rw [if_neg c0,if_neg c1,if_neg c2,if_neg c3,if_neg c4,if_neg c5,if_pos c6]⟩))))))
 by_cases c7:m<72057594037927936
 ·exact .inr (.inr (.inr (.inr (.inr (.inr (.inr (.inl ⟨by omega,c7,by unfold cZ;rw [if_neg c0,if_neg c1,if_neg c2,if_neg c3,if_neg c4,if_neg c5,if_neg c6,if_pos c7]⟩)))))))
 exact .inr (.inr (.inr (.inr (.inr (.inr (.inr (.inr (⟨by omega,by unfold cZ;rw [if_neg c0,if_neg c1,if_neg c2,if_neg c3,if_neg c4,if_neg c5,if_neg c6,if_neg c7]⟩))))))))
theorem jq {n:Nat}(h:0<n)(hb:n<2^64):cZ n=cZ (n/256)+1:=by rcases C6 n with a|a|a|a|a|a|a|a|a<;>rcases C6 (n/256) with b|b|b|b|b|b|b|b|b<;>omega
theorem OM {n:Nat}(h:cZ n=0):n=0:=by
 unfold cZ at h;repeat' split at h
 all_goals first|assumption|omega
theorem VR: ∀(k n:Nat),k<=8->n<256^k->(0<k->256^(k-1)<=n)->cZ n=k:=by
 intro k;induction k with
 |zero=>intro n _ h _;simp at h;subst h;rfl
 |succ k ih=>
  intro n hk h1 h2;have h2:=h2 (by omega);have hp:0<n:=AI (Nat.pow_pos (by decide)) h2;have hb:n<2^64:=by refine AI h1 ?_;have:=IT (n:=256) (by decide) hk;simpa using this
  rw [jq hp hb,ih (n/256) (by omega) (by rw [sh] at h1;omega) (λhk0=> ?_)];rw [show k+1-1=(k-1)+1 by omega,sh] at h2;omega
theorem vD: ∀(l:List Int) (acc:Nat),uA acc l=acc *256^l.length+uA 0 l:=by
 intro l;induction l with
 |nil=>intro acc;simp [uA]
 |cons c l ih=>intro acc;simp only [uA,AS];rw [ih (acc *256+c.toNat),ih (0 *256+c.toNat),sh,AT,By,Nat.add_mul,Nat.mul_assoc,aaf 256];omega
theorem M2: ∀(l:List Int),ju l->uA 0 l<256^l.length:=by
 intro l;induction l with
 |nil=>intro _;simp [uA]
 |cons c l ih=>
  intro h;obtain ⟨hc,hl⟩:=h.cons;have ih:=ih hl;simp only [uA,AS];rw [vD,AT,By,sh];have h1:c.toNat<=255:=by omega
  have h2:=No (256^l.length) h1;omega
theorem SH: ∀(k a n:Nat),ta k (a *256^k+n)=ta k n:=by
 intro k;induction k with
 |zero=>intro a n;rfl
 |succ k ih=>
  intro a n;simp only [ta];have e:a *256^(k+1)+n=a *256 *256^k+n:=by rw [sh,Nat.mul_assoc,aaf 256]
  rw [e,ih (a *256) n,aag (a *256 *256^k),BY _ _ (Nat.pow_pos (by decide))];congr 2;omega
theorem SI: ∀(l:List Int),ju l->ta l.length (uA 0 l)=l:=by
 intro l;induction l with
 |nil=>intro _;rfl
 |cons c l ih=>intro h;obtain ⟨hc,hl⟩:=h.cons;have cz:=M2 l hl;simp only [uA,AS,ta];rw [vD,AT,By,SH,ih hl];congr 1;rw [aag,BY _ _ (Nat.pow_pos (by decide)),Nat.div_eq_of_lt cz];omega
def zW (n:Nat):List Int:=(cZ n:Int)::ta (cZ n) n
theorem xm (n:Nat):ju (zW n):=by
 intro x hx;rcases aad.1 hx with rfl|hx
 ·have:=jQ n;omega
 ·exact SF _ _ x hx
theorem pB (n:Nat):(zW n).length=cZ n+1:=by simp [zW,SE]
def fY (b:List Int):Option (Nat×List Int):=match b with
 |[]=>none
 |y::r=>if 8<y.toNat\/(0<y.toNat/\r[0]? =some 0)\/r.length<y.toNat then none else some (uA 0 (r.take y.toNat),r.drop y.toNat)
theorem fp {b:List Int}(hb:ju b){n:Nat}{r:List Int}(h:fY b=some (n,r)):b=zW n++r/\n<2^64/\ju r:=by
 unfold fY at h;cases b with
 |nil=>cases h
 |cons y l=>
  simp only at h;obtain ⟨hy,hl⟩:=hb.cons;split at h
  ·cases h
  ·rename_i hc;injection h with h;injection h with h1 h2;have hlen:(l.take y.toNat).length=y.toNat:=by rw [aab];omega
   have cz:=M2 _ (hl.take y.toNat);rw [hlen] at cz;have hk:cZ n=y.toNat:=by
    refine VR _ _ (by omega) (by rw [<-h1];exact cz) (λh0=> ?_);rw [<-h1];cases l with
    |nil=>simp only [List.length_nil] at hc;omega
    |cons c l=>
     have Uc:c≠0:=λh=>hc (.inr (.inl ⟨h0,by rw [h];rfl⟩));obtain ⟨k,hk⟩: ∃k,y.toNat=k+1:=⟨y.toNat-1,by omega⟩
     rw [hk] at hlen;rw [hk,Nat.add_sub_cancel,List.take_succ_cons,uA,vD];have hll:(l.take k).length=k:=by simpa using hlen
     rw [hll,AT,By];have:=No (256^k) (show 1<=c.toNat by have:=hl.cons.1;omega);omega
   refine ⟨?_,?_,?_⟩
   ·unfold zW;rw [hk,List.cons_append,<-h1,<-h2];have:=SI _ (hl.take y.toNat);rw [hlen] at this;rw [this,IN];congr 1;omega
   ·rw [<-h1];refine AI cz ?_;have:=IT (n:=256) (by decide) (show y.toNat<=8 by omega);simpa using this
   ·rw [<-h2];exact hl.drop _
def zz (n:Int):Nat:=if n<0 then (2 *(-(n+1))+1).toNat else (2 *n).toNat
def uz (u:Nat):Int:=if u%2=1 then-((u/2:Nat):Int)-1 else ((u/2:Nat):Int)
def i64 (n:Int):Prop:= -9223372036854775808<=n/\n<=9223372036854775807
theorem Xn {n:Int}(h:i64 n):zz n<2^64:=by unfold zz;unfold i64 at h;split<;>omega
theorem adi {u:Nat}:zz (uz u)=u:=by unfold zz uz;split<;>split<;>omega
theorem Zp {u:Nat}(h:u<2^64):i64 (uz u):=by unfold uz i64;split<;>omega
def Eh (n:Int):List Int:=zW (zz n)
def xn (s:List UInt8):List Int:=zW s.length++gj s
theorem xp (s:List UInt8):ju (gj s):=by intro x hx;unfold gj at hx;obtain ⟨b,_,rfl⟩:=List.mem_map.1 hx;have:=UInt8.toNat_lt b;omega
theorem pC (s:List UInt8):(gj s).length=s.length:=by simp [gj]
theorem SJ (n:Int):ju (Eh n):=xm _
theorem FM (s:List UInt8):ju (xn s):=(xm _).app (xp s)
def C7 (l:List Int):List UInt8:=l.map λn=>UInt8.ofNat n.toNat
theorem ON (s:List UInt8):C7 (gj s)=s:=by
 unfold C7 gj;rw [aah];conv=>rhs;rw [<-List.map_id s]
 apply OF;intro b _;simp
theorem OO {l:List Int}(h:ju l):gj (C7 l)=l:=by
 unfold C7 gj;rw [aah];conv=>rhs;rw [<-List.map_id l]
 apply OF;intro b hb;have:=h b hb;simp only [Function.comp,aaa,id];omega
theorem ju.all {l:List Int}(h:ju l):l.all isByte=true:=by rw [List.all_eq_true];intro x hx;have:=h x hx;unfold isByte;refine decide_eq_true ?_;rw [aaa];omega
theorem C8 {R:Type}{l:List Int}(h:ju l)(K:List UInt8->Option R):BM l K=K (C7 l):=by unfold BM;rw [if_pos h.all];rfl
def lg (b:List Int):Option (Int×List Int):=match fY b with|some (u,r)=>some (uz u,r)|none=>none
def qX (b:List Int)(most:Nat):Option (List UInt8×List Int):=match fY b with
 |some (n,r)=>if most<n\/r.length<n then none else some (C7 (r.take n),r.drop n)
 |none=>none
theorem vE {b:List Int}(hb:ju b){n:Int}{r:List Int}(h:lg b=some (n,r)):b=Eh n++r/\i64 n/\ju r:=by
 unfold lg at h;cases ht:fY b with
 |none=>rw [ht] at h;cases h
 |some p=>obtain ⟨u,r'⟩:=p;rw [ht] at h;injection h with h;injection h with h1 h2;subst h1;subst h2;obtain ⟨e,hu,hr⟩:=fp hb ht;exact ⟨by unfold Eh;rw [adi];exact e,Zp hu,hr⟩
theorem qF {b:List Int}(hb:ju b){most:Nat}{s:List UInt8}{r:List Int}(h:qX b most=some (s,r)):b=xn s++r/\s.length<=most/\ju r:=by
 unfold qX at h;cases ht:fY b with
 |none=>rw [ht] at h;cases h
 |some p=>
  obtain ⟨n,r'⟩:=p;rw [ht] at h;simp only at h;split at h
  ·cases h
  ·rename_i hc;injection h with h;injection h with h1 h2;obtain ⟨e,hu,hr⟩:=fp hb ht;have hl:s.length=n:=by rw [<-h1];unfold C7;rw [List.length_map,aab];omega
   refine ⟨?_,by omega,by rw [<-h2];exact hr.drop _⟩;unfold xn;rw [hl,e,List.append_assoc,<-h1,<-h2,OO (hr.take _),IN]
end Dn.S
